/- package digest: the digest that words are. -/
import Derived.Test.YtnckpnbecmmcpaaGreatDoorS4
namespace Go.Proofs.YtnckpnbecmmcpaaGreatDoor
open Go.RowKit
def byteD (x : Int) (k : Nat) : Int := x / 2 ^ (24 - 8 * k) % 256
/-- The first bytes of a digest. -/
def digL (h : V8) (n : Nat) : List Int := (List.range n).map fun m => byteD (getV h (m / 4)) (m % 4)
theorem digL_len (h : V8) (n : Nat) : (digL h n).length = n := by simp [digL]
theorem digL_succ (h : V8) (i k : Nat) (hk : k < 4) : digL h (4 * i + k + 1) = digL h (4 * i + k) ++ [byteD (getV h i) k] := by
  unfold digL
  rw [List.range_succ, List.map_append, List.map_singleton, show (4 * i + k) / 4 = i by omega, show (4 * i + k) % 4 = k by omega]
def digS (h : V8) : ByteArray := strOfNums (digL h 32)
def c32 (bs : List Int) : List Value := bs.map (Value.int .u8) ++ List.replicate (32 - bs.length) (Value.int .u8 0)
theorem c32_snoc {bs : List Int} {x : Int} (h : bs.length < 32) : (c32 bs).toArray.setIfInBounds bs.length (.int .u8 x) = (c32 (bs ++ [x])).toArray := by
  apply Array.toList_inj.1
  rw [Array.toList_setIfInBounds]
  show List.set (bs.map (Value.int .u8) ++ List.replicate (32 - bs.length) (Value.int .u8 0)) bs.length (.int .u8 x) = (bs ++ [x]).map (Value.int .u8) ++ List.replicate (32 - (bs ++ [x]).length) (Value.int .u8 0)
  obtain ⟨n, hn⟩ : ∃ n, 32 - bs.length = n + 1 := ⟨31 - bs.length, by omega⟩
  rw [hn, List.length_append, List.length_singleton, show 32 - (bs.length + 1) = n by omega, List.replicate_succ]
  rw [List.set_append_right _ _ (by rw [List.length_map]; exact Nat.le_refl _), List.length_map, Nat.sub_self]
  simp
theorem c32_in {bs : List Int} {i : Nat} (h : bs.length ≤ 32) (hi : i < 32) : ∃ v, (c32 bs).toArray[i]? = some v := by
  have : i < (c32 bs).toArray.size := by unfold c32; simp; omega
  exact ⟨_, Array.getElem?_eq_getElem this⟩
theorem c32_at {bs : List Int} {i : Nat} (h : i < bs.length) : (c32 bs).toArray[i]? = some (.int .u8 (bs.getD i 0)) := by
  rw [List.getElem?_toArray]
  unfold c32
  rw [List.getElem?_append_left (by rw [List.length_map]; exact h), List.getElem?_map, getD_some 0 h]; rfl
theorem c32_nil : #[.int .u8 0, .int .u8 0, .int .u8 0, .int .u8 0, .int .u8 0, .int .u8 0, .int .u8 0, .int .u8 0, .int .u8 0, .int .u8 0, .int .u8 0, .int .u8 0, .int .u8 0, .int .u8 0, .int .u8 0, .int .u8 0, .int .u8 0, .int .u8 0, .int .u8 0, .int .u8 0, .int .u8 0, .int .u8 0, .int .u8 0, .int .u8 0, .int .u8 0, .int .u8 0, .int .u8 0, .int .u8 0, .int .u8 0, .int .u8 0, .int .u8 0, .int .u8 0] = (c32 []).toArray := rfl
theorem index193 (h : V8) : ∀ (i : Nat) (_ : i < 8) (W : World), (Instr.index 193 (.agg #[.int .u32 h.a, .int .u32 h.b, .int .u32 h.c, .int .u32 h.d, .int .u32 h.e, .int .u32 h.f, .int .u32 h.g, .int .u32 h.h]) (.int .i64 (i : Int))).run Tryz.prog W = .ok (.int .u32 (getV h i)) W
  | 0, _, W => by kernel_rfl
  | 1, _, W => by kernel_rfl
  | 2, _, W => by kernel_rfl
  | 3, _, W => by kernel_rfl
  | 4, _, W => by kernel_rfl
  | 5, _, W => by kernel_rfl
  | 6, _, W => by kernel_rfl
  | 7, _, W => by kernel_rfl
set_option maxRecDepth 100000 in
set_option maxHeartbeats 2000000 in
theorem digest130 (h : V8) (w : World) : Calls Tryz.prog 130 #[.agg (cellsV h)] w fun e w' => e = .returned (.string (digS h)) ∧ Below w.heap.size w w' := by
  unfold cellsV
  have HIX := Lib.hid (index193 h)
  go_enter Tryz.func130, Tryz.ntmps130
  go_upto_region 1 with (fail)
  have kH := Blk.new w (cellsV h) 193
  have hbH := (Below.refl w.heap.size w).alloc (Nat.le_refl _) (.cells (cellsV h) 193)
  obtain ⟨w1, hw1⟩ : ∃ w1, w1 = w.alloc (.cells (cellsV h) 193) := ⟨_, rfl⟩
  have hw1' := hw1
  unfold cellsV at hw1'
  rw [← hw1']
  rw [← hw1] at kH hbH
  clear hw1 hw1'
  obtain ⟨Hb, hHb⟩ : ∃ Hb, w.heap.size = Hb := ⟨_, rfl⟩
  rw [hHb] at kH ⊢
  have lH := kH.lt
  go_upto_region 2 with (fail)
  rw [c32_nil]
  have kD := Blk.new w1 (c32 []).toArray 217
  have hbD := (Below.refl w1.heap.size w1).alloc (Nat.le_refl _) (.cells (c32 []).toArray 217)
  have kH2 := kH.alloc (.cells (c32 []).toArray 217)
  have hwD : w.heap.size ≤ w1.heap.size := hbH.size
  have b2 := hbH.trans (hbD.mono hbH.size)
  generalize w1.alloc (.cells (c32 []).toArray 217) = w2 at kD hbD kH2 b2 ⊢
  generalize w1.heap.size = D at kD hwD hbD lH ⊢
  obtain ⟨u0, u1, u2, u3, u4, u5, u6, u7⟩ := cV kH2
  have KD := Lib.hid (show Blk w2 D (c32 (digL h (4 * 0))).toArray 217 from kD)
  clear kD hbD kH kH2 hbH
  go_wp2
  generalize (#[Value.int .u32 h.a, .int .u32 h.b, .int .u32 h.c, .int .u32 h.d, .int .u32 h.e, .int .u32 h.f, .int .u32 h.g, .int .u32 h.h] : Array Value) = ka at HIX ⊢
  clear u0 u1 u2 u3 u4 u5 u6 u7
  rw [hHb] at b2 hwD
  go_loopw [4, 5, 6, 8] (fun _ _ _ u8 wr => ∃ i : Nat, i ≤ 8 ∧ u8 = .int .i64 (i : Int) ∧ Blk wr D (c32 (digL h (4 * i))).toArray 217 ∧ Below D w2 wr) (fun _ _ _ u8 _ => (8 - intOf u8).toNat)
  case atStart => exact ⟨0, by omega, rfl, KD.out, Below.refl _ _⟩
  case round =>
    obtain ⟨w5, hren⟩ : ∃ z, z = wr := ⟨_, rfl⟩
    subst hren
    obtain ⟨i, hi, rfl, kd, hB⟩ := hrel
    by_cases hlt : i < 8
    · have d1 : decide ((i : Int) < 8) = true := decide_eq_true (by omega)
      have hix := HIX.out i hlt
      have KD2 := Lib.hid (show Blk w5 D (c32 (digL h (4 * i + 0))).toArray 217 from kd)
      have HS := Lib.hid (fun k hk => digL_succ h i k hk)
      generalize getV h i = x at hix HS
      have HB := Lib.hid hB
      clear kd hB
      go_wp2
      go_loopw [6, 12] (fun _ u12 wr => ∃ k : Nat, k ≤ 4 ∧ u12 = .int .i64 (k : Int) ∧ Blk wr D (c32 (digL h (4 * i + k))).toArray 217 ∧ Below D w2 wr) (fun _ u12 _ => (4 - intOf u12).toNat)
      case atStart => exact ⟨0, by omega, rfl, KD2.out, HB.out⟩
      case round =>
        obtain ⟨k, hk, rfl, kd, hB⟩ := hrel
        by_cases hk4 : k < 4
        · have e1 : decide ((k : Int) < 4) = true := decide_eq_true (by omega)
          obtain ⟨m, hm⟩ : ∃ m, 4 * i + k = m := ⟨_, rfl⟩
          obtain ⟨m4, hm4⟩ : ∃ m, 4 * i = m := ⟨_, rfl⟩
          obtain ⟨k8, hk8⟩ : ∃ m, 8 * k = m := ⟨_, rfl⟩
          obtain ⟨sh, hsh⟩ : ∃ m, 24 - 8 * k = m := ⟨_, rfl⟩
          have w1' : IntKind.i64.wrap (4 * (i : Int)) = (m4 : Int) := by rw [wrapS _ (by omega) (by omega)]; omega
          have w2' : IntKind.i64.wrap ((m4 : Int) + (k : Int)) = (m : Int) := by rw [wrapS _ (by omega) (by omega)]; omega
          have w3' : IntKind.i64.wrap (8 * (k : Int)) = (k8 : Int) := by rw [wrapS _ (by omega) (by omega)]; omega
          have w4' : IntKind.i64.wrap (24 - (k8 : Int)) = (sh : Int) := by rw [wrapS _ (by omega) (by omega)]; omega
          have s0 : (0 : Int) ≤ (sh : Int) := by omega
          have hmin : min sh 32 = sh := by omega
          have mm : (0 : Int) ≤ (m : Int) ∧ (m : Int) < 32 := by omega
          have hs := HS.out k hk4
          have hl := digL_len h (4 * i + k)
          have hby : byteD x k = x / 2 ^ sh % 256 := by unfold byteD; rw [hsh]
          rw [hby] at hs
          obtain ⟨vi, hvi⟩ := c32_in (bs := digL h (4 * i + k)) (i := 4 * i + k) (by rw [hl]; omega) (by omega)
          have hset := c32_snoc (bs := digL h (4 * i + k)) (x := x / 2 ^ sh % 256) (by rw [hl]; omega)
          rw [hl, ← hs] at hset
          have ci := (kd.cell (4 * i + k)).trans hvi
          have fi := kd.frozen (4 * i + k)
          have ks := kd.set (4 * i + k) (.int .u8 (x / 2 ^ sh % 256))
          rw [hset] at ks
          have hBs := hB.setCell (p := ⟨D, 4 * i + k, none⟩) (Nat.le_refl _) (.int .u8 (x / 2 ^ sh % 256))
          rw [hm] at ci fi ks hBs
          have KS := Lib.hid (show Blk (wr.setCell ⟨D, m, none⟩ (.int .u8 (x / 2 ^ sh % 256))) D (c32 (digL h (4 * i + (k + 1)))).toArray 217 from by rw [← hm] at ks ⊢; exact ks)
          have HBs := Lib.hid hBs
          clear hs hl hby hvi hset ks hBs hm hm4 hk8 hsh kd hB
          go_wp2
          go_roundw
          case rel => exact ⟨k + 1, by omega, by go_num, KS.out, HBs.out⟩
          case measure => simp [intOf]; omega
        · have he : k = 4 := by omega
          have kd4 : Blk wr D (c32 (digL h (4 * (i + 1)))).toArray 217 := by rw [he] at kd; exact kd
          have e1 : decide ((k : Int) < 4) = false := decide_eq_false (by omega)
          have e1b : decide (k < 4) = false := decide_eq_false (by omega)
          have KD4 := Lib.hid kd4
          clear he kd kd4
          go_wp2
          go_roundw
          case rel => exact ⟨i + 1, by omega, by go_num, KD4.out, hB⟩
          case measure => simp [intOf]; omega
    · have he : i = 8 := by omega
      have kd8 : Blk w5 D (c32 (digL h 32)).toArray 217 := by rw [he] at kd; exact kd
      have d1 : decide ((i : Int) < 8) = false := decide_eq_false (by omega)
      have d1b : decide (i < 8) = false := decide_eq_false (by omega)
      have hcv := run_convert_bytes_arg (P := Tryz.prog) w5 39 5 Tryz.underlying39 Tryz.underlying5 D 0 32 32 (digL h 32) (digL_len h 32) (fun j hj => by
        rw [Nat.zero_add, kd8.cell]
        exact c32_at (by rw [digL_len]; exact hj)) 9 Tryz.underlying9
      have hBE := b2.trans (hB.mono hwD)
      have HBE := Lib.hid hBE
      clear he kd kd8 hBE hB
      go_wp2
      go_ret
      exact ⟨rfl, hHb ▸ HBE.out⟩
end Go.Proofs.YtnckpnbecmmcpaaGreatDoor
