/- package loss: Valid. -/
import Derived.Test.YtmajkagmcdlncaaA5
namespace Go.Proofs.Ytmajkagmcdlncaa
open Go.RowKit
open L18 (Pass Slot noPass noSlot slotOK slotsB validB properB endAt passAt)

theorem valid_len {l : List Pass} {o : List Slot} (h : ¬ (1 ≤ o.length ∧ o.length ≤ 6)) : validB l o = false := by
  unfold validB
  rw [Bool.eq_false_iff]
  intro hc
  simp only [Bool.and_eq_true, decide_eq_true_eq] at hc
  exact h ⟨hc.1, hc.2.1⟩
theorem valid_proper {l : List Pass} {o : List Slot} (h : properB l = false) : validB l o = false := by
  unfold validB; rw [h]; simp
theorem valid_no {l : List Pass} {o : List Slot} {k : Nat} (hk : k < o.length) (h : ¬ slotOK l o k) : validB l o = false := by
  unfold validB slotsB
  rw [Bool.eq_false_iff]
  intro hc
  simp only [Bool.and_eq_true, decide_eq_true_eq] at hc
  exact h (hc.2.2.2 k hk)
theorem valid_yes {l : List Pass} {o : List Slot} (h1 : 1 ≤ o.length) (h2 : o.length ≤ 6) (h3 : properB l = true) (h : ∀ k, k < o.length → slotOK l o k) : validB l o = true := by
  unfold validB slotsB
  simp only [Bool.and_eq_true, decide_eq_true_eq]
  exact ⟨h1, h2, h3, h⟩
theorem slotOK_of {l : List Pass} {o : List Slot} {k n : Nat} {s : Slot} {p : Pass} {e : Int} (hs : o.getD k noSlot = s) (hn : s.pass = n) (hp : l.getD n noPass = p) (he : endAt o k = e) : slotOK l o k ↔ (n < l.length ∧ max e p.sf ≤ s.fr ∧ s.fr < s.to ∧ s.to ≤ p.su) := by
  have hpa : passAt l s.pass = p := by unfold passAt; rw [hn]; exact hp
  unfold slotOK
  simp only [hs, hpa, he]
  rw [hn]
  constructor
  · rintro ⟨⟨h1, h2⟩, h3⟩; exact ⟨by omega, h3⟩
  · rintro ⟨h1, h2⟩; exact ⟨⟨by omega, by omega⟩, h2⟩
theorem slotOK_out {l : List Pass} {o : List Slot} {k : Nat} {s : Slot} (hs : o.getD k noSlot = s) (h : s.pass < 0 ∨ (l.length : Int) ≤ s.pass) : ¬ slotOK l o k := by
  unfold slotOK
  simp only [hs]
  omega
theorem end_succ {o : List Slot} {k : Nat} {s : Slot} (hs : o.getD k noSlot = s) : endAt o (k + 1) = s.to := by
  unfold endAt; rw [if_neg (by omega), Nat.add_sub_cancel, hs]
set_option maxRecDepth 100000 in
set_option maxHeartbeats 4000000 in
theorem valid17 (v vp : Value) (od : OptD) (l : List Pass) (w : World) (ho : OptV w v od) (hl : PassesAt w vp l) : Calls Try.prog 17 #[v, vp] w fun e w' => e = .returned (.bool (validB l od.slots)) ∧ Below w.heap.size w w' := by
  obtain ⟨vs, rfl, hs⟩ := ho
  obtain ⟨⟨i0, i1, i2, i3, i4, i5, i6, i7⟩, o⟩ := od
  dsimp only at hs ⊢
  have hB0 : Below w.heap.size w (w.alloc (.cells #[.int .i64 i0, .int .i64 i1, .int .i64 i2, .int .i64 i3, .int .i64 i4, .int .i64 i5, .int .i64 i6, .int .i64 i7, vs] 28)) := (Below.refl _ _).alloc (Nat.le_refl _) _
  have kb := Blk.new w #[.int .i64 i0, .int .i64 i1, .int .i64 i2, .int .i64 i3, .int .i64 i4, .int .i64 i5, .int .i64 i6, .int .i64 i7, vs] 28
  have HB := Lib.hid kb
  have HS := Lib.hid hs
  have HL := Lib.hid hl
  have hx := proper43 vp l _ (hl.later hB0)
  obtain ⟨a, cap, rfl, hle, hcm⟩ := hs.len
  obtain ⟨pa, pc, rfl, ple, pcm⟩ := hl.len
  unfold maxLen at hcm pcm
  clear hs hl kb
  by_cases h1 : 1 ≤ o.length
  · by_cases h6 : o.length ≤ 6
    · have d1 : decide ((o.length : Int) < 1) = false := decide_eq_false (by omega)
      have d6 : decide ((6 : Int) < (o.length : Int)) = false := decide_eq_false (by omega)
      cases hpr : properB l with
      | false =>
        rw [valid_proper hpr]
        rw [hpr] at hx
        clear hpr
        go_enter Try.func17, Try.ntmps17
        go_wp2_with fail
        refine hx.mono ?_
        rintro e w1 ⟨rfl, hB1⟩
        go_wp2
        go_ret
        exact ⟨rfl, hB0.trans (hB1.mono (by simp))⟩
      | true =>
        have HY := Lib.hid (valid_yes (l := l) (o := o) h1 h6 hpr)
        rw [hpr] at hx
        clear hpr
        go_enter Try.func17, Try.ntmps17
        go_wp2_with fail
        refine hx.mono ?_
        rintro e w1 ⟨rfl, hB1⟩
        have kb1 := HB.out.below hB1 (by simp)
        have k8 := kb1.cell 8
        simp at k8
        have hBw : Below w.heap.size w w1 := hB0.trans (hB1.mono (by simp))
        clear hB0 hx kb1 hB1 HB
        go_wp2
        go_loopw [5, 7, 8, 27] (fun u5 _ _ u27 wr => ∃ k : Nat, k ≤ o.length ∧ u27 = .int .i64 k ∧ u5 = .int .i64 (endAt o k) ∧ (∀ j, j < k → slotOK l o j) ∧ Below w.heap.size w wr) (fun _ _ _ u27 _ => (o.length - intOf u27).toNat)
        case atStart => exact ⟨0, by omega, rfl, rfl, fun j hj => absurd hj (Nat.not_lt_zero _), hBw⟩
        case round =>
          obtain ⟨k, hk, rfl, rfl, hpre, hBr⟩ := hrel
          have HP := Lib.hid hpre
          clear hpre hBw k8 d1 d6
          by_cases hkl : k < o.length
          · have HN := Lib.hid (fun h => valid_no (l := l) hkl h)
            obtain ⟨b, off, rfl, c0, c1, c2⟩ := (SlotsAt.later HS.out hBr).get (getD_some noSlot hkl)
            generalize hsd : o.getD k noSlot = s at c0 c1 c2
            have HSE := Lib.hid hsd
            have HES := Lib.hid (end_succ hsd)
            have HOUT := Lib.hid (fun h => slotOK_out (l := l) hsd h)
            generalize he : endAt o k = e
            have HEE := Lib.hid he
            clear hsd he
            by_cases hp0 : s.pass < 0
            · have HR := Lib.hid (HN.out (HOUT.out (.inl hp0)))
              have t0 : decide (s.pass < 0) = true := decide_eq_true hp0
              clear hp0
              go_wp2
              go_ret
              exact ⟨by rw [HR.out]; rfl, hBr.alloc hBr.size _⟩
            · by_cases hp1 : (l.length : Int) ≤ s.pass
              · have HR := Lib.hid (HN.out (HOUT.out (.inr hp1)))
                have t0 : decide (s.pass < 0) = false := decide_eq_false hp0
                have t1 : decide ((l.length : Int) ≤ s.pass) = true := decide_eq_true hp1
                clear hp0 hp1
                go_wp2
                go_ret
                exact ⟨by rw [HR.out]; rfl, hBr.alloc hBr.size _⟩
              · obtain ⟨n, hn⟩ : ∃ n : Nat, s.pass = n := ⟨s.pass.toNat, by omega⟩
                rw [hn] at hp0 hp1 c0
                have hnl : n < l.length := by omega
                have t0 : decide ((n : Int) < 0) = false := decide_eq_false hp0
                have t1 : decide ((l.length : Int) ≤ (n : Int)) = false := decide_eq_false hp1
                have t1' : decide (l.length ≤ n) = false := decide_eq_false (by omega)
                obtain ⟨b', off', rfl, p0, p1, p2, p3, p4, p5⟩ := (PassesAt.later HL.out hBr).get (getD_some noPass hnl)
                generalize hpd : l.getD n noPass = p at p2 p3
                have HI := Lib.hid (slotOK_of HSE.out hn hpd HEE.out)
                have HSN := Lib.hid hn
                clear hpd p0 p1 p4 p5 hp0 hp1 hn
                have hlb : b < wr.heap.size := World.block_lt_of_cell? _ _ c0
                have hlb' : b' < wr.heap.size := World.block_lt_of_cell? _ _ p2
                obtain ⟨mx, hmx⟩ : ∃ m, max e p.sf = m := ⟨_, rfl⟩
                have hmx2 : (if e < p.sf then p.sf else e) = mx := by rw [← hmx, Int.max_def]; split <;> (try split) <;> omega
                rw [hmx] at HI
                by_cases g3 : s.fr < mx
                · have t3 : decide (s.fr < mx) = true := decide_eq_true g3
                  have HR := Lib.hid (HN.out fun h => by have := (HI.out.1 h).2.1; omega)
                  clear g3
                  go_wp2
                  go_ret
                  exact ⟨by rw [HR.out]; rfl, (hBr.alloc hBr.size _).alloc (by have := hBr.size; simp; omega) _⟩
                · by_cases g4 : s.to ≤ s.fr
                  · have t3 : decide (s.fr < mx) = false := decide_eq_false g3
                    have t4 : decide (s.to ≤ s.fr) = true := decide_eq_true g4
                    have HR := Lib.hid (HN.out fun h => by have := (HI.out.1 h).2.2.1; omega)
                    clear g3 g4
                    go_wp2
                    go_ret
                    exact ⟨by rw [HR.out]; rfl, (hBr.alloc hBr.size _).alloc (by have := hBr.size; simp; omega) _⟩
                  · by_cases g5 : p.su < s.to
                    · have t3 : decide (s.fr < mx) = false := decide_eq_false g3
                      have t4 : decide (s.to ≤ s.fr) = false := decide_eq_false g4
                      have t5 : decide (p.su < s.to) = true := decide_eq_true g5
                      have HR := Lib.hid (HN.out fun h => by have := (HI.out.1 h).2.2.2; omega)
                      clear g3 g4 g5
                      go_wp2
                      go_ret
                      exact ⟨by rw [HR.out]; rfl, (hBr.alloc hBr.size _).alloc (by have := hBr.size; simp; omega) _⟩
                    · have t3 : decide (s.fr < mx) = false := decide_eq_false g3
                      have t4 : decide (s.to ≤ s.fr) = false := decide_eq_false g4
                      have t5 : decide (p.su < s.to) = false := decide_eq_false g5
                      have HR := Lib.hid (HI.out.2 ⟨hnl, by omega, by omega, by omega⟩)
                      clear g3 g4 g5
                      go_wp2
                      go_roundw
                      case rel => exact ⟨k + 1, by omega, by go_num, by rw [HES.out], fun j hj => by
                        by_cases hjk : j < k
                        · exact HP.out j hjk
                        · obtain rfl : j = k := by omega
                          exact HR.out, (hBr.alloc hBr.size _).alloc (by have := hBr.size; simp; omega) _⟩
                      case measure => simp [intOf]; omega
          · have HR := Lib.hid (HY.out fun j hj => HP.out j (by omega))
            go_wp2
            go_ret
            exact ⟨by rw [HR.out]; rfl, hBr⟩
    · rw [valid_len (by omega)]
      have d1 : decide ((o.length : Int) < 1) = false := decide_eq_false (by omega)
      have d6 : decide ((6 : Int) < (o.length : Int)) = true := decide_eq_true (by omega)
      go_enter Try.func17, Try.ntmps17
      go_wp2
      go_ret
      exact ⟨rfl, hB0⟩
  · rw [valid_len (by omega)]
    have d1 : decide ((o.length : Int) < 1) = true := decide_eq_true (by omega)
    go_enter Try.func17, Try.ntmps17
    go_wp2
    go_ret
    exact ⟨rfl, hB0⟩
end Go.Proofs.Ytmajkagmcdlncaa
