/- nadirref23.SameProof: about a proof and itself. -/
import Derived.Test.YtblmpmapcdpaiaaB8
import Derived.Test.YtblmpmapcdpaiaaB9
namespace Go.Proofs.Ytblmpmapcdpaiaa
open Go.RowKit Lib

set_option maxRecDepth 100000 in
set_option maxHeartbeats 8000000 in
theorem sameproof_same (v1 v2 : Value) (l : List StepD) (w : World) (h1 : StepsAt w v1 l) (h2 : StepsAt w v2 l) :
    Calls Try.prog 24 #[v1, v2] w fun e w' => e = .returned (.bool true) ∧ Below w.heap.size w w' := by
  have H1 := Lib.hid h1
  have H2 := Lib.hid h2
  obtain ⟨a, c, rfl, ha, hc⟩ := (show SlicesLen v1 l.length from h1.len)
  obtain ⟨b, d, rfl, hb, hd⟩ := (show SlicesLen v2 l.length from h2.len)
  unfold maxLen at hc hd
  clear h1 h2
  go_enter Try.func24, Try.ntmps24
  go_wp2
  go_loopw [5] (fun u5 wr => ∃ k : Nat, k ≤ l.length ∧ u5 = .int .i64 k ∧ Below w.heap.size w wr) (fun u5 _ => (l.length - intOf u5).toNat)
  case atStart => exact ⟨0, by omega, rfl, Below.refl _ _⟩
  case round =>
    obtain ⟨k, hk, rfl, hB⟩ := hrel
    rename World => Wk
    by_cases hkl : k < l.length
    · have hs := List.getElem?_eq_getElem hkl
      generalize l[k] = s at hs
      obtain ⟨p1, o1, w1, e1, x0, x1, x2, x3, hw1⟩ := (H1.out.below hB).get hs
      obtain ⟨p2, o2, w2, e2, y0, y1, y2, y3, hw2⟩ := (H2.out.below hB).get hs
      cases e1
      cases e2
      obtain ⟨wa1, wc1, rfl, hq1, hq2⟩ := (show SlicesLen w1 s.wts.length from hw1.len)
      obtain ⟨wa2, wc2, rfl, hq3, hq4⟩ := (show SlicesLen w2 s.wts.length from hw2.len)
      unfold maxLen at hq2 hq4
      have HS := Lib.hid hs
      have HW1 := Lib.hid hw1
      have HW2 := Lib.hid hw2
      obtain ⟨sv, sn, sy, sw⟩ := s
      simp only at *
      have l1 := World.block_lt_of_cell? _ _ x0
      have l2 := World.block_lt_of_cell? _ _ y0
      simp only at l1 l2
      clear hs hw1 hw2
      have hk2 : (0 : Int) ≤ (k : Int) ∧ (k : Int) < (l.length : Int) := by omega
      go_wp2_with fail
      go_quiet (fail)
      generalize hq : World.drewN _ _ = W5
      have hB5 : Below w.heap.size w W5 := hq ▸ below_drewN hB _
      have hk5 : Below Wk.heap.size Wk W5 := hq ▸ below_drewN (Below.refl _ _) _
      clear hq x0 x1 x2 y0 y1 y2
      go_wp2_with fail
      go_loopw [6] (fun u6 wr => ∃ j : Nat, j ≤ sw.length ∧ u6 = .int .i64 j ∧ Below Wk.heap.size Wk wr) (fun u6 _ => (sw.length - intOf u6).toNat)
      case atStart => exact ⟨0, by omega, rfl, hk5⟩
      case round =>
        obtain ⟨j, hj, rfl, hBj⟩ := hrel
        rename World => Wj
        have z1 := (hBj.cell (p := ⟨p1, o1 + k * 4 + 3, none⟩) l1).trans x3
        have z2 := (hBj.cell (p := ⟨p2, o2 + k * 4 + 3, none⟩) l2).trans y3
        by_cases hjl : j < sw.length
        · have ht := List.getElem?_eq_getElem hjl
          generalize sw[j] = t at ht
          obtain ⟨b1, f1, e1, m0, m1⟩ := (HW1.out.below hBj).get ht
          obtain ⟨b2, f2, e2, n0, n1⟩ := (HW2.out.below hBj).get ht
          subst e1
          subst e2
          obtain ⟨tr, tt⟩ := t
          simp only at m0 m1 n0 n1
          have hj2 : (0 : Int) ≤ (j : Int) ∧ (j : Int) < (sw.length : Int) := by omega
          clear ht
          go_wp2_with fail
          go_quiet (fail)
          generalize hq : World.drewN _ _ = W7
          have hB7 : Below Wk.heap.size Wk W7 := hq ▸ below_drewN hBj _
          clear hq
          go_wp2
          go_roundw
          case rel => exact ⟨j + 1, by omega, by go_num, hB7⟩
          case measure => simp [intOf]; omega
        · obtain rfl : j = sw.length := by omega
          go_wp2
          go_roundw
          case rel => exact ⟨k + 1, by omega, by go_num, hB.trans (hBj.mono hB.size)⟩
          case measure => simp [intOf]; omega
    · obtain rfl : k = l.length := by omega
      go_wp2
      go_ret
      exact ⟨rfl, hB⟩
end Go.Proofs.Ytblmpmapcdpaiaa
