import Derived.Test.YtgjihgdomicijaaDoorT10
import Derived.Deep.CutRange
import Derived.Deep.DeepCutAuto
namespace Go.Proofs.YtgjihgdomicijaaDoor
open Go.RowKit

/-- The first bytes of a string, at most so many. -/
def few (s : ByteArray) (n : Nat) : ByteArray := s.extract 0 (min s.size n)
theorem few_size (s : ByteArray) (n : Nat) : (few s n).size = min s.size n := by simp [few, ByteArray.size_extract]
def pairI (a b : Int) (j : Nat) : Int := if j = 0 then a else b
theorem cells_pair (w : World) (a b : Int) (t : TypeId) : ∀ j, j < 2 → (w.alloc (.cells #[.int .i64 a, .int .i64 b] t)).cell? ⟨w.heap.size, j, none⟩ = some (.int .i64 (pairI a b j)) := by
  intro j hj
  rw [World.cell?_alloc_at _ _ _ _ rfl]
  match j, hj with
  | 0, _ => rfl
  | 1, _ => rfl

set_option maxRecDepth 100000 in
set_option maxHeartbeats 1000000 in
theorem law1 (n : Int) (s : ByteArray) (a : Int) (w : World) (hs : s.size ≤ maxLen) (hN : Nib w) (hn0 : -9223372036854775808 ≤ n) (hn1 : n ≤ 9223372036854775807) (ha0 : -9223372036854775808 ≤ a) (ha1 : a ≤ 9223372036854775807) :
    Calls Tryd.prog 3 #[.int .i64 n, .string s, .int .i64 a] w fun e w' => e = .returned (.bool true) ∧ Below w.heap.size w w' := by
  have hsane := sane_any w hN
  have HN := Lib.hid hN
  unfold maxLen at hs
  clear hN
  go_enter Tryd.func3, Tryd.ntmps3
  go_wp2_with fail
  refine hsane.mono ?_
  clear hsane
  rintro e w1 ⟨rfl, hB1⟩
  go_upto_region 2 with fail
  go_cut [8] from 34 (fun u8 wc => ∃ t : ByteArray, u8 = .string t ∧ t.size ≤ 300 ∧ wc = w1)
  case first =>
    go_wp2_with fail
    all_goals go_meet
    · exact ⟨_, rfl, by simp [ByteArray.size_extract]; omega, rfl⟩
    · exact ⟨_, rfl, by omega, rfl⟩
  case rest =>
    obtain ⟨t, rfl, ht, rfl⟩ := hcut
    go_wp2_with fail
    refine (number_any n _ hn0 hn1).mono ?_
    rintro e w2 ⟨rfl, hB2⟩
    have hnb := numberS_bd n
    have hc0 := cells_pair w2 n (numberS n) 3
    have hB3 : Below w.heap.size w (w2.alloc (.cells #[.int .i64 n, .int .i64 (numberS n)] 3)) := ((hB1.trans (hB2.mono hB1.size))).alloc (Nat.le_trans hB1.size hB2.size) _
    go_wp2_with fail
    obtain ⟨W0, hW0⟩ : ∃ W0, w2.alloc (.cells #[.int .i64 n, .int .i64 (numberS n)] 3) = W0 := ⟨_, rfl⟩
    have hlt0 : w2.heap.size < W0.heap.size := by rw [← hW0]; simp
    rw [hW0] at hc0 hB3 ⊢
    clear hW0
    have Hc0 := Lib.hid hc0
    clear hc0
    go_loopw [10, 11, 12, 13, 14, 44] (fun _ _ _ _ _ u44 wr => ∃ k : Nat, k ≤ 2 ∧ u44 = .int .i64 k ∧ Below W0.heap.size W0 wr) (fun _ _ _ _ _ u44 _ => (2 - intOf u44).toNat)
    case atStart => exact ⟨0, by omega, rfl, Below.refl _ _⟩
    case round =>
      obtain ⟨k, hk, rfl, hBr⟩ := hrel
      by_cases hk2 : k < 2
      · have hcell := (hBr.cell (p := ⟨w2.heap.size, k, none⟩) hlt0).trans (Hc0.out k hk2)
        go_wp2_with fail
        refine (putU _ _).mono ?_
        rintro e w3 ⟨rfl, hB4⟩
        go_wp2_with fail
        refine (rputU _ _).mono ?_
        rintro e w4 ⟨rfl, hB5⟩
        go_wp2_with fail
        go_roundw
        case rel => exact ⟨k + 1, by omega, by go_num, (hBr.trans (hB4.mono hBr.size)).trans (hB5.mono (Nat.le_trans hBr.size hB4.size))⟩
        case measure => simp [intOf]; omega
      · have hbt := pickS_bd a (t.size + 2) (by omega)
        go_wp2_with fail
        refine (pick_any a _ _ ha0 ha1 (by omega) (by omega)).mono ?_
        rintro e w3 ⟨rfl, rfl⟩
        obtain ⟨wo, rfl⟩ : ∃ wo : World, wo = wr := ⟨_, rfl⟩
        have hB6 : Below w.heap.size w wo := hB3.trans (hBr.mono hB3.size)
        have hc1 := cells_pair wo a (pickS a (t.size + 2)) 3
        have hB7 : Below w.heap.size w (wo.alloc (.cells #[.int .i64 a, .int .i64 (pickS a (t.size + 2))] 3)) := hB6.alloc hB6.size _
        have hm : (t.size : Int) + 2 ≤ 302 := by omega
        go_wp2_with fail
        obtain ⟨W1, hW1⟩ : ∃ W1, wo.alloc (.cells #[.int .i64 a, .int .i64 (pickS a (t.size + 2))] 3) = W1 := ⟨_, rfl⟩
        have hlt1 : wo.heap.size < W1.heap.size := by rw [← hW1]; simp
        rw [hW1] at hc1 hB7 ⊢
        clear hW1
        have Hc1 := Lib.hid hc1
        clear hc1 Hc0 hlt0 hB3 hB2 hB6 hBr
        have hpb : ∀ j, -9223372036854775808 ≤ pairI a (pickS a (t.size + 2)) j ∧ pairI a (pickS a (t.size + 2)) j ≤ 9223372036854775807 := by
          intro j; unfold pairI; split <;> omega
        have htm : t.size ≤ maxLen := by unfold maxLen; omega
        go_loopw [16, 17, 18, 19, 20, 21, 22, 23, 24, 25, 26, 27, 28, 75] (fun _ _ _ _ _ _ _ _ _ _ _ _ _ u75 wr => ∃ k : Nat, k ≤ 2 ∧ u75 = .int .i64 k ∧ Below W1.heap.size W1 wr) (fun _ _ _ _ _ _ _ _ _ _ _ _ _ u75 _ => (2 - intOf u75).toNat)
        case atStart => exact ⟨0, by omega, rfl, Below.refl _ _⟩
        case round =>
          obtain ⟨k, hk, rfl, hBx⟩ := hrel
          by_cases hk2 : k < 2
          · have hcell := (hBx.cell (p := ⟨wo.heap.size, k, none⟩) hlt1).trans (Hc1.out k hk2)
            obtain ⟨hp0, hp1⟩ := hpb k
            clear hpb
            go_wp2_with fail
            refine (intU t _ _ htm hp0 hp1).mono ?_
            rintro e w3 ⟨rfl, rfl⟩
            go_wp2_with fail
            refine (rintU t _ _ htm hp0 hp1).mono ?_
            rintro e w4 ⟨rfl, hB4⟩
            go_wp2_with fail
            refine (strU t _ _ htm hp0 hp1).mono ?_
            rintro e w5 ⟨rfl, rfl⟩
            go_wp2_with fail
            refine (rstrU t _ _ htm hp0 hp1).mono ?_
            rintro e w6 ⟨rfl, hB6⟩
            go_wp2_with fail
            go_roundw
            case rel => exact ⟨k + 1, by omega, by go_num, (hBx.trans (hB4.mono hBx.size)).trans (hB6.mono (Nat.le_trans hBx.size hB4.size))⟩
            case measure => simp [intOf]; omega
          · have hB8 : Below w.heap.size w wr := hB7.trans (hBx.mono hB7.size)
            clear hpb
            go_wp2_with fail
            refine (putsU t _ htm).mono ?_
            rintro e w3 ⟨rfl, hB4⟩
            go_wp2_with fail
            refine (rputsU t _ htm).mono ?_
            rintro e w4 ⟨rfl, hB5⟩
            have hB9 : Below w.heap.size w w4 := (hB8.trans (hB4.mono hB8.size)).trans (hB5.mono (Nat.le_trans hB8.size hB4.size))
            go_wp2_with fail
            refine (sum_any t _ htm (HN.out.below hB9)).mono ?_
            rintro e w5 ⟨rfl, rfl⟩
            go_wp2_with fail
            refine (rsum_any t _ htm).mono ?_
            rintro e w6 ⟨rfl, rfl⟩
            go_wp2
            go_ret
            exact ⟨rfl, hB9⟩
end Go.Proofs.YtgjihgdomicijaaDoor
