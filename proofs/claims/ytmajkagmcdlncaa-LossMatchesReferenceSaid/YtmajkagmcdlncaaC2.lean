/- package loss: Sent; package nadirref18: sent, Sent. -/
import Derived.Test.YtmajkagmcdlncaaC1
namespace Go.Proofs.Ytmajkagmcdlncaa
open Go.RowKit
open L18 (Pass Slot noPass noSlot validB properB setB sentV limB)

theorem idx_sent (o : List Slot) (lost : List Int) : idxI (fun s : Slot => !lost.contains s.pass) o = sentV o lost := by
  rcases L18.sentV_spec o lost with ⟨h, h2⟩ | ⟨j, h1, h2, h3, h4⟩
  · rw [h]
    refine idxI_none fun j y hj => ?_
    have := h2 y (List.mem_of_getElem? hj)
    simpa using this
  · rw [h2]
    refine idxI_hit (getD_some noSlot h1) (by simpa using h3) fun m y hm hy => ?_
    have hy2 : o.getD m noSlot = y := by rw [List.getD_eq_getElem?_getD, hy]; rfl
    have := h4 m hm
    rw [hy2] at this
    simpa using this
set_option maxRecDepth 100000 in
theorem sent50 (s : Slot) (B : Nat) (vl : Value) (lost : List Int) (w : World) (hc : w.cell? ⟨B, 0, none⟩ = some vl) (hl : IntsAt w vl lost) :
    Calls Try.prog 50 #[.agg #[.int .i64 s.pass, .int .i64 s.fr, .int .i64 s.to], .pointer (some ⟨B, 0, none⟩)] w fun e w' => e = .returned (.bool (!lost.contains s.pass)) ∧ Below w.heap.size w w' := by
  have lB : B < w.heap.size := World.block_lt_of_cell? _ _ hc
  have hB0 : Below w.heap.size w (w.alloc (.cells #[.int .i64 s.pass, .int .i64 s.fr, .int .i64 s.to] 63)) := (Below.refl _ _).alloc (Nat.le_refl _) _
  have hx := contains47 vl lost s.pass _ (hl.below hB0)
  have hc2 := (hB0.cell (p := ⟨B, 0, none⟩) lB).trans hc
  obtain ⟨a, cap, rfl, -, -⟩ := hl.len
  clear hl hc
  generalize lost.contains s.pass = y at hx ⊢
  go_enter Try.func50, Try.ntmps50
  go_wp2_with fail
  refine hx.mono ?_
  rintro e w' ⟨rfl, rfl⟩
  go_wp2
  go_ret
  exact ⟨rfl, hB0⟩
theorem sent50_ans (w : World) (o : List Slot) (B : Nat) (vl : Value) (lost : List Int) (hc : w.cell? ⟨B, 0, none⟩ = some vl) (hl : IntsAt w vl lost) : Ans SlotV w (.func (.func 50) #[] #[.pointer (some ⟨B, 0, none⟩)]) o (fun s => !lost.contains s.pass) :=
  ⟨50, _, rfl, Try.call50, fun _ x _ W hW v hv => by
    cases hv
    exact sent50 x B vl lost W ((hW.cell (p := ⟨B, 0, none⟩) (World.block_lt_of_cell? _ _ hc)).trans hc) (hl.below hW)⟩
/-- What Sent answers. -/
def sentOK (l : List Pass) (o : List Slot) (lost : List Int) : Bool := validB l o && setB l lost
def sentN (l : List Pass) (o : List Slot) (lost : List Int) : Int := if sentOK l o lost = true then sentV o lost else 0
def sentE (l : List Pass) (o : List Slot) (lost : List Int) : Int := if sentOK l o lost = true then 0 else 180
set_option maxRecDepth 100000 in
set_option maxHeartbeats 1000000 in
theorem sent26 (v vp vl : Value) (od : OptD) (l : List Pass) (lost : List Int) (w : World) (ho : OptV w v od) (hp : PassesAt w vp l) (hl : IntsAt w vl lost) :
    Calls Try.prog 26 #[v, vp, vl] w fun e w' => e = .returned (.tuple #[.int .i64 (sentN l od.slots lost), .int .i64 (sentE l od.slots lost)]) ∧ Below w.heap.size w w' := by
  have hB0 : ∀ cs, Below w.heap.size w ((w.alloc (.cells cs 28)).alloc (.cells #[vl] 23)) := fun cs => ((Below.refl _ _).alloc (Nat.le_refl _) _).alloc (by simp) _
  have hov := fun cs => valid17 v vp od l _ (ho.below (hB0 cs)) (hp.later (hB0 cs))
  have HO := Lib.hid ho
  obtain ⟨vs, rfl, hs⟩ := ho
  obtain ⟨⟨i0, i1, i2, i3, i4, i5, i6, i7⟩, o⟩ := od
  dsimp only at hs hov ⊢
  have hB1 := hB0 #[.int .i64 i0, .int .i64 i1, .int .i64 i2, .int .i64 i3, .int .i64 i4, .int .i64 i5, .int .i64 i6, .int .i64 i7, vs]
  have hx := hov #[.int .i64 i0, .int .i64 i1, .int .i64 i2, .int .i64 i3, .int .i64 i4, .int .i64 i5, .int .i64 i6, .int .i64 i7, vs]
  have ka : Blk ((w.alloc (.cells #[.int .i64 i0, .int .i64 i1, .int .i64 i2, .int .i64 i3, .int .i64 i4, .int .i64 i5, .int .i64 i6, .int .i64 i7, vs] 28)).alloc (.cells #[vl] 23)) w.heap.size #[.int .i64 i0, .int .i64 i1, .int .i64 i2, .int .i64 i3, .int .i64 i4, .int .i64 i5, .int .i64 i6, .int .i64 i7, vs] 28 := (Blk.new _ _ _).alloc _
  have kl : Blk ((w.alloc (.cells #[.int .i64 i0, .int .i64 i1, .int .i64 i2, .int .i64 i3, .int .i64 i4, .int .i64 i5, .int .i64 i6, .int .i64 i7, vs] 28)).alloc (.cells #[vl] 23)) (w.heap.size + 1) #[vl] 23 := Blk.newAt _ _ _ (by simp)
  have HKA := Lib.hid ka
  have HKL := Lib.hid kl
  have HS := Lib.hid hs
  have HP := Lib.hid hp
  have HL := Lib.hid hl
  obtain ⟨a, cap, rfl, -, -⟩ := hs.len
  obtain ⟨la, lc, rfl, -, -⟩ := hl.len
  clear hov hB0 hs hp hl ka kl HO
  unfold sentN sentE sentOK
  cases hv : validB l o with
  | false =>
    rw [hv] at hx
    clear hv
    go_enter Try.func26, Try.ntmps26
    go_wp2_with fail
    refine hx.mono ?_
    rintro e w1 ⟨rfl, hB2⟩
    go_wp2
    go_ret2
    exact ⟨rfl, hB1.trans (hB2.mono (by simp <;> omega))⟩
  | true =>
    rw [hv] at hx
    clear hv
    have HSE := Lib.hid (fun W (hW : Below w.heap.size w W) => isSet48 vp _ l lost W (HP.out.later hW) (HL.out.below hW))
    generalize setB l lost = y at HSE ⊢
    go_enter Try.func26, Try.ntmps26
    go_wp2_with fail
    refine hx.mono ?_
    rintro e w1 ⟨rfl, hB2⟩
    have k1 := HKL.out.below hB2 (by simp <;> omega)
    have c1 := k1.cell 0
    simp at c1
    have hBw : Below w.heap.size w w1 := hB1.trans (hB2.mono (by simp <;> omega))
    go_wp2_with fail
    refine (HSE.out _ hBw).mono ?_
    cases y with
    | false =>
      rintro e w2 ⟨rfl, hB3⟩
      go_wp2
      go_ret2
      exact ⟨rfl, hBw.trans (hB3.mono hBw.size)⟩
    | true =>
      rintro e w2 ⟨rfl, hB3⟩
      have hB03 := hBw.trans (hB3.mono hBw.size)
      have k2 := k1.below hB3 k1.lt
      have k3 := (HKA.out.below hB2 (by simp <;> omega)).below hB3 (by have := k1.lt; omega)
      have c2 := k2.cell 0
      have c3 := k3.cell 8
      simp at c2 c3
      have hix := index49 _ _ o _ w2 (HS.out.later hB03) (sent50_ans w2 o _ _ lost c2 (HL.out.below hB03))
      rw [idx_sent] at hix
      clear k1 c1 k2 k3 hB2 hB3 hx
      go_wp2_with fail
      refine hix.mono ?_
      rintro e w3 ⟨rfl, hB4⟩
      go_wp2
      go_ret2
      exact ⟨by simp, hB03.trans (hB4.mono hB03.size)⟩
theorem sent_hit {o : List Slot} {lost : List Int} {k : Nat} {s : Slot} (hk : k < o.length) (hs : o.getD k noSlot = s) (h : lost.contains s.pass = false) (hb : ∀ m, m < k → lost.contains (o.getD m noSlot).pass = true) : sentV o lost = k :=
  L18.sentV_at hk (by rw [hs]; intro hc; have : lost.contains s.pass = true := by simpa using hc
                      rw [h] at this; cases this) (fun m hm => by simpa using hb m hm)
theorem sent_none {o : List Slot} {lost : List Int} (hb : ∀ m, m < o.length → lost.contains (o.getD m noSlot).pass = true) : sentV o lost = -1 :=
  L18.sentV_none fun s hs => by
    obtain ⟨j, hj, rfl⟩ := L18.mem_getD noSlot hs
    simpa using hb j hj
set_option maxRecDepth 100000 in
set_option maxHeartbeats 1000000 in
theorem sent52 (v vl : Value) (od : OptD) (lost : List Int) (w : World) (ho : OptV w v od) (hl : IntsAt w vl lost) :
    Calls Try.prog 52 #[v, vl] w fun e w' => e = .returned (.int .i64 (sentV od.slots lost)) ∧ Below w.heap.size w w' := by
  obtain ⟨vs, rfl, hs⟩ := ho
  obtain ⟨⟨i0, i1, i2, i3, i4, i5, i6, i7⟩, o⟩ := od
  dsimp only at hs ⊢
  obtain ⟨V, hV⟩ : ∃ V, V = w.alloc (.cells #[.int .i64 i0, .int .i64 i1, .int .i64 i2, .int .i64 i3, .int .i64 i4, .int .i64 i5, .int .i64 i6, .int .i64 i7, vs] 28) := ⟨_, rfl⟩
  have hB0 : Below w.heap.size w V := by rw [hV]; exact (Below.refl _ _).alloc (Nat.le_refl _) _
  have k8 := (show Blk V w.heap.size #[.int .i64 i0, .int .i64 i1, .int .i64 i2, .int .i64 i3, .int .i64 i4, .int .i64 i5, .int .i64 i6, .int .i64 i7, vs] 28 by rw [hV]; exact Blk.new w _ _).cell 8
  simp at k8
  have HS := Lib.hid (hs.later hB0)
  have HL := Lib.hid (hl.below hB0)
  obtain ⟨a, cap, rfl, hle, hcm⟩ := hs.len
  unfold maxLen at hcm
  clear hs hl
  go_enter Try.func52, Try.ntmps52
  go_upto_region 1 with (fail)
  rw [← hV]
  clear hV
  go_wp2
  go_loop [5] (fun u5 => ∃ k : Nat, k ≤ o.length ∧ u5 = .int .i64 k ∧ (∀ m, m < k → lost.contains (o.getD m noSlot).pass = true)) (fun u5 => (o.length - intOf u5).toNat)
  case atStart => exact ⟨0, by omega, rfl, fun j hj => absurd hj (Nat.not_lt_zero _)⟩
  case round =>
    obtain ⟨k, hk, rfl, hpre⟩ := hrel
    have HP := Lib.hid hpre
    clear hpre
    by_cases hkl : k < o.length
    · obtain ⟨b, off, rfl, c0, -, -⟩ := HS.out.get (getD_some noSlot hkl)
      have HH := Lib.hid (fun s hs h => sent_hit (s := s) hkl hs h HP.out)
      generalize hsd : o.getD k noSlot = s at c0
      have HSE := Lib.hid hsd
      clear hsd
      have hx := has35 vl lost s.pass V HL.out
      cases hy : lost.contains s.pass with
      | false =>
        rw [hy] at hx
        have HR := Lib.hid (HH.out s HSE.out hy)
        clear hy
        go_wp2_with fail
        refine hx.mono ?_
        rintro e w' ⟨rfl, rfl⟩
        go_wp2
        go_ret
        exact ⟨by rw [HR.out]; rfl, hB0⟩
      | true =>
        rw [hy] at hx
        have HY := Lib.hid hy
        clear hy
        go_wp2_with fail
        refine hx.mono ?_
        rintro e w' ⟨rfl, rfl⟩
        go_wp2
        go_round
        case rel => exact ⟨k + 1, by omega, by go_num, fun j hj => by
          by_cases hjk : j < k
          · have := HP.out j hjk; simpa using this
          · obtain rfl : j = k := by omega
            rw [HSE.out]; have := HY.out; simpa using this⟩
        case measure => simp [intOf]; omega
    · have HR := Lib.hid (sent_none (o := o) (lost := lost) fun j hj => by have := HP.out j (by omega); simpa using this)
      go_wp2
      go_ret
      exact ⟨by rw [HR.out]; rfl, hB0⟩
set_option maxRecDepth 100000 in
set_option maxHeartbeats 1000000 in
theorem sent27 (v vp vl : Value) (od : OptD) (l : List Pass) (lost : List Int) (w : World) (ho : OptV w v od) (hp : PassesAt w vp l) (hl : IntsAt w vl lost) :
    Calls Try.prog 27 #[v, vp, vl] w fun e w' => e = .returned (.tuple #[.int .i64 (sentN l od.slots lost), .int .i64 (sentE l od.slots lost)]) ∧ Below w.heap.size w w' := by
  have HO := Lib.hid ho
  obtain ⟨vs, rfl, hs⟩ := ho
  obtain ⟨⟨i0, i1, i2, i3, i4, i5, i6, i7⟩, o⟩ := od
  dsimp only at hs ⊢
  have hB1 : Below w.heap.size w (w.alloc (.cells #[.int .i64 i0, .int .i64 i1, .int .i64 i2, .int .i64 i3, .int .i64 i4, .int .i64 i5, .int .i64 i6, .int .i64 i7, vs] 28)) := (Below.refl _ _).alloc (Nat.le_refl _) _
  have ka := Blk.new w #[.int .i64 i0, .int .i64 i1, .int .i64 i2, .int .i64 i3, .int .i64 i4, .int .i64 i5, .int .i64 i6, .int .i64 i7, vs] 28
  have hx := valid18 _ vp _ l _ (HO.out.below hB1) (hp.later hB1)
  dsimp only at hx
  have HKA := Lib.hid ka
  have HP := Lib.hid hp
  have HL := Lib.hid hl
  obtain ⟨a, cap, rfl, -, -⟩ := hs.len
  obtain ⟨la, lc, rfl, -, -⟩ := hl.len
  clear hs hp hl ka
  unfold sentN sentE sentOK
  cases hv : validB l o with
  | false =>
    rw [hv] at hx
    clear hv
    go_enter Try.func27, Try.ntmps27
    go_wp2_with fail
    refine hx.mono ?_
    rintro e w1 ⟨rfl, hB2⟩
    go_wp2
    go_ret2
    exact ⟨rfl, hB1.trans (hB2.mono (by simp))⟩
  | true =>
    rw [hv] at hx
    clear hv
    have HSE := Lib.hid (fun W (hW : Below w.heap.size w W) => set51 vp _ l lost W (HP.out.later hW) (HL.out.below hW))
    generalize setB l lost = y at HSE ⊢
    go_enter Try.func27, Try.ntmps27
    go_wp2_with fail
    refine hx.mono ?_
    rintro e w1 ⟨rfl, hB2⟩
    have k1 := HKA.out.below hB2 (by simp)
    have hBw : Below w.heap.size w w1 := hB1.trans (hB2.mono (by simp))
    go_wp2_with fail
    refine (HSE.out _ hBw).mono ?_
    cases y with
    | false =>
      rintro e w2 ⟨rfl, hB3⟩
      go_wp2
      go_ret2
      exact ⟨rfl, hBw.trans (hB3.mono hBw.size)⟩
    | true =>
      rintro e w2 ⟨rfl, hB3⟩
      have hB03 := hBw.trans (hB3.mono hBw.size)
      have k3 := k1.below hB3 k1.lt
      have c0 := k3.cell 0
      have c1 := k3.cell 1
      have c2 := k3.cell 2
      have c3 := k3.cell 3
      have c4 := k3.cell 4
      have c5 := k3.cell 5
      have c6 := k3.cell 6
      have c7 := k3.cell 7
      have c8 := k3.cell 8
      simp at c0 c1 c2 c3 c4 c5 c6 c7 c8
      have hix := sent52 _ _ _ lost w2 (HO.out.below hB03) (HL.out.below hB03)
      dsimp only at hix
      clear k1 k3 hB2 hB3 hx
      go_wp2_with fail
      refine hix.mono ?_
      rintro e w3 ⟨rfl, hB4⟩
      go_wp2
      go_ret2
      exact ⟨by simp, hB03.trans (hB4.mono hB03.size)⟩
end Go.Proofs.Ytmajkagmcdlncaa
