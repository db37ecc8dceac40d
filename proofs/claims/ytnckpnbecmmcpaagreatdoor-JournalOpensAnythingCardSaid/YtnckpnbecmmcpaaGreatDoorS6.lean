/- Plain: a string with the bytes that are added to it; package nadirref02: extended. -/
import Derived.Test.YtnckpnbecmmcpaaGreatDoorS5
namespace Go.Proofs.YtnckpnbecmmcpaaGreatDoor
open Go.RowKit
/-- An own row of bytes, as numbers. -/
def OwnBy (W : World) (B : Nat) (v : Value) (bs : List Int) : Prop := W.ownsRow B 5 1 v bs.length (bs.map (Value.int .u8))
def bytesI (s : ByteArray) : List Int := s.data.toList.map fun b : UInt8 => (b.toNat : Int)
theorem bytesI_len (s : ByteArray) : (bytesI s).length = s.size := by simp [bytesI]
theorem bytesI_take (s : ByteArray) (k : Nat) (h : k < s.size) : (bytesI s).take (k + 1) = (bytesI s).take k ++ [((s[k]).toNat : Int)] := by
  have hl : k < (bytesI s).length := by rw [bytesI_len]; exact h
  rw [List.take_succ_eq_append_getElem hl]
  congr 2
  simp only [bytesI, List.getElem_map]
  rfl
/-- How many zero bytes are added. -/
def padN (n : Nat) : Nat := (119 - n % 64) % 64
theorem padN_spec (n m : Nat) (hm : m ≤ padN n) : (n + 1 + m) % 64 = 56 ↔ m = padN n := by
  unfold padN at *
  omega
theorem padN_le (n : Nat) : padN n < 64 := Nat.mod_lt _ (by decide)
def lenB (n k : Nat) : Int := (8 * (n : Int)) / 2 ^ (8 * (7 - k)) % 256
def lenL (n k : Nat) : List Int := (List.range k).map (lenB n)
theorem lenL_succ (n k : Nat) : lenL n (k + 1) = lenL n k ++ [lenB n k] := by unfold lenL; rw [List.range_succ, List.map_append]; rfl
theorem lenL_len (n k : Nat) : (lenL n k).length = k := by simp [lenL]
/-- A string with what is added. -/
def padL (s : ByteArray) : List Int := bytesI s ++ [128] ++ List.replicate (padN s.size) 0 ++ lenL s.size 8
theorem padL_len (s : ByteArray) : (padL s).length = s.size + 1 + padN s.size + 8 := by
  unfold padL; simp only [List.length_append, List.length_replicate, List.length_singleton, bytesI_len, lenL_len]
theorem padL_mod (s : ByteArray) : (padL s).length % 64 = 0 := by
  rw [padL_len]
  have := (padN_spec s.size (padN s.size) (Nat.le_refl _)).2 rfl
  omega
theorem OwnBy.snoc {W : World} {B : Nat} {v : Value} {bs : List Int} {x : Int} (h : W.ownsRow B 5 1 v (bs.length + 1) (bs.map (Value.int .u8) ++ [.int .u8 x])) : OwnBy W B v (bs ++ [x]) := by
  unfold OwnBy
  rw [List.length_append, List.map_append]; exact h
theorem OwnBy.len {W : World} {B : Nat} {v : Value} {bs : List Int} (h : OwnBy W B v bs) : ∃ (a : Option Addr) (cap : Nat), v = .slice a bs.length cap ∧ bs.length ≤ cap ∧ cap ≤ maxLen := by
  rcases h.2 with ⟨rfl, hn⟩ | ⟨g, cap, cur, rfl, hb, hg, h1, h2, -⟩
  · exact ⟨none, 0, by rw [hn], by omega, by unfold maxLen; omega⟩
  · exact ⟨_, cap, rfl, h1, h2⟩
set_option maxRecDepth 100000 in
set_option maxHeartbeats 2000000 in
theorem ext58 (s : ByteArray) (w : World) (hs : s.size ≤ 100000) : Calls Tryz.prog 58 #[.string s] w fun e w' => ∃ v, e = .returned v ∧ OwnBy w' w.heap.size v (padL s) ∧ Below w.heap.size w w' := by
  have HP := Lib.hid (show padL s = bytesI s ++ [128] ++ List.replicate (padN s.size) 0 ++ lenL s.size 8 from rfl)
  have hbl := bytesI_len s
  have hpn := padN_le s.size
  have HSP := Lib.hid (padN_spec s.size)
  go_enter Tryz.func58, Tryz.ntmps58
  go_wp2
  go_loopw [3, 4] (fun u3 u4 wr => ∃ i : Nat, i ≤ s.size ∧ u4 = .int .i64 (i : Int) ∧ OwnBy wr w.heap.size u3 ((bytesI s).take i) ∧ Below w.heap.size w wr) (fun _ u4 _ => (s.size - intOf u4).toNat)
  case atStart => exact ⟨0, by omega, rfl, World.ownsRow_nil _ _ _ _, Below.refl _ _⟩
  case round =>
    obtain ⟨i, hi, rfl, ho, hB⟩ := hrel
    by_cases hlt : i < s.size
    · have ii : (0 : Int) ≤ (i : Int) ∧ (i : Int) < (s.size : Int) := by omega
      have HT := Lib.hid (bytesI_take s i hlt)
      have hlen : ((bytesI s).take i).length = i := by rw [List.length_take]; omega
      have ho' := ho
      unfold OwnBy at ho'
      rw [hlen] at ho'
      have HO := Lib.hid ho'
      clear ho'
      have hgi : s[i]? = some s[i] := getElem?_pos s i hlt
      clear ho
      go_wp2_with (at_builtin; refine wpList_push E40 rfl _ _ rfl w.heap.size HO.out rfl rfl rfl (by unfold maxLen; omega) (by omega) hB.size ?_; intro v' w9 hown' hgrow hb9)
      have HN := Lib.hid (show OwnBy w9 w.heap.size v' ((bytesI s).take (i + 1)) from by
        rw [HT.out]; exact OwnBy.snoc (hlen.symm ▸ hown'))
      clear hown' hgrow
      go_wp2
      go_roundw
      case rel => exact ⟨i + 1, by omega, by go_num, HN.out, hB.trans hb9⟩
      case measure => simp [intOf]; omega
    · have he : i = s.size := by omega
      have ho2 := ho
      rw [he, ← hbl, List.take_length] at ho2
      have ho' := ho2
      unfold OwnBy at ho'
      rw [hbl] at ho'
      have HO := Lib.hid ho'
      clear ho'
      have e1 : decide (i < s.size) = false := decide_eq_false hlt
      clear ho ho2 he hlt
      go_wp2_with (at_builtin; refine wpList_push E40 rfl _ _ rfl w.heap.size HO.out rfl rfl rfl (by unfold maxLen; omega) (by omega) hB.size ?_; intro v' w9 hown' hgrow hb9)
      have HN := Lib.hid (show OwnBy w9 w.heap.size v' (bytesI s ++ [128] ++ List.replicate 0 0) from by
        rw [List.replicate_zero, List.append_nil]; exact OwnBy.snoc (hbl.symm ▸ hown'))
      have hB9 := hB.trans hb9
      clear hown' hgrow HO hb9 hB
      go_wp2
      go_loopw [3] (fun u3 wr => ∃ m : Nat, m ≤ padN s.size ∧ OwnBy wr w.heap.size u3 (bytesI s ++ [128] ++ List.replicate m 0) ∧ Below w.heap.size w wr ∧ (∃ a cap, u3 = .slice a (s.size + 1 + m) cap)) (fun u3 _ => padN s.size + s.size + 1 - (match u3 with | .slice _ n _ => n | _ => 0))
      case atStart => exact ⟨0, by omega, HN.out, hB9, by obtain ⟨a, cap, e, -, -⟩ := HN.out.len; exact ⟨a, cap, by rw [e]; simp [hbl]⟩⟩
      case round =>
        obtain ⟨m, hm, ho, hB, a, cap, rfl⟩ := hrel
        have hsp := HSP.out m hm
        have hlen : (bytesI s ++ [128] ++ List.replicate m (0 : Int)).length = s.size + 1 + m := by simp [hbl]; omega
        have ho' := ho
        unfold OwnBy at ho'
        rw [hlen] at ho'
        have HO := Lib.hid ho'
        have HO2 := Lib.hid ho
        obtain ⟨n, hn⟩ : ∃ n, s.size + 1 + m = n := ⟨_, rfl⟩
        have hrem : ((n : Int).tmod 64) = ((n % 64 : Nat) : Int) := by rw [Int.tmod_eq_emod_of_nonneg (by omega)]; omega
        rw [hn] at hsp HO ⊢
        clear ho ho'
        by_cases h56 : n % 64 = 56
        · have hme := hsp.1 h56
          have q1 : ((n : Int) % 64 == 56) = true := beq_iff_eq.2 (by omega)
          have ho3 := HO2.out
          rw [hn, hme] at ho3
          have HB3 := Lib.hid (show OwnBy wr w.heap.size (.slice a n cap) (bytesI s ++ [128] ++ List.replicate (padN s.size) 0 ++ lenL s.size 0) from by
            rw [show lenL s.size 0 = [] from rfl, List.append_nil]
            exact ho3)
          have hbase : (bytesI s ++ [128] ++ List.replicate (padN s.size) (0 : Int)).length ≤ 100065 := by simp [hbl]; omega
          generalize bytesI s ++ [128] ++ List.replicate (padN s.size) (0 : Int) = bb at HB3 HP hbase
          clear hsp hrem ho3 hme HO HO2 h56 hlen
          obtain ⟨w5, hren⟩ : ∃ z, z = wr := ⟨_, rfl⟩
          subst hren
          go_wp2
          go_loopw [3, 5] (fun u3 u5 wr => ∃ k : Nat, k ≤ 8 ∧ u5 = .int .i64 (7 - (k : Int)) ∧ OwnBy wr w.heap.size u3 (bb ++ lenL s.size k) ∧ Below w.heap.size w wr) (fun _ u5 _ => (intOf u5 + 1).toNat)
          case atStart => exact ⟨0, by omega, rfl, HB3.out, hB⟩
          case round =>
            obtain ⟨k, hk, hu5, ho, hB⟩ := hrel
            by_cases hk8 : k < 8
            · obtain ⟨z, hz⟩ : ∃ z : Nat, (7 - (k : Int)) = (z : Int) := ⟨7 - k, by omega⟩
              rw [hz] at hu5
              subst hu5
              have z0 : (0 : Int) ≤ (z : Int) := by omega
              have d1 : decide ((0 : Int) ≤ (z : Int)) = true := decide_eq_true z0
              obtain ⟨z8, hz8⟩ : ∃ m, 8 * z = m := ⟨_, rfl⟩
              obtain ⟨n8, hn8⟩ : ∃ m, 8 * s.size = m := ⟨_, rfl⟩
              have w1 : IntKind.i64.wrap (8 * (s.size : Int)) = (n8 : Int) := by rw [wrapS _ (by omega) (by omega)]; omega
              have w2 : IntKind.i64.wrap (8 * (z : Int)) = (z8 : Int) := by rw [wrapS _ (by omega) (by omega)]; omega
              have hwz : IntKind.i64.wrap ((z : Int) - 1) = 7 - ((k + 1 : Nat) : Int) := by rw [wrapS _ (by omega) (by omega)]; omega
              have hmin : min z8 64 = z8 := by omega
              have zz0 : (0 : Int) ≤ (z8 : Int) := by omega
              have HS := Lib.hid (lenL_succ s.size k)
              have hby : lenB s.size k = (n8 : Int) / 2 ^ z8 % 256 := by
                unfold lenB
                rw [show 8 * (7 - k) = z8 by omega, show 8 * (s.size : Int) = (n8 : Int) by omega]
              have HBY := Lib.hid hby
              have hlen : (bb ++ lenL s.size k).length = bb.length + k := by rw [List.length_append, lenL_len]
              have ho' := ho
              unfold OwnBy at ho'
              rw [hlen] at ho'
              have HO := Lib.hid ho'
              obtain ⟨a2, cap2, rfl, -, -⟩ := ho.len
              have hzk : (z : Int) + (k : Int) = 7 := by omega
              clear ho ho' hby hz hz8 hn8
              go_wp2_with (at_builtin; refine wpList_push E40 rfl _ _ rfl w.heap.size HO.out (by rw [hlen]; rfl) rfl rfl (by unfold maxLen; omega) (by omega) hB.size ?_; intro v' w9 hown' hgrow hb9)
              have HN := OwnBy.snoc (W := w9) (B := w.heap.size) (v := v') (bs := bb ++ lenL s.size k) (x := (n8 : Int) / 2 ^ z8 % 256) (by rw [hlen]; exact hown')
              go_simp
              refine ⟨⟨k + 1, by omega, by omega, ?_, hB.trans hb9⟩, ?_⟩
              · rw [HS.out, HBY.out, ← List.append_assoc]; exact HN
              · simp [intOf]; omega
            · have he : k = 8 := by omega
              have hu6 : (7 - (k : Int)) = -1 := by omega
              rw [hu6] at hu5
              subst hu5
              rw [he] at ho
              have HO3 := Lib.hid ho
              clear ho he hu6
              go_wp2
              go_ret
              exact ⟨_, rfl, by rw [HP.out]; exact HO3.out, hB⟩
        · have q1 : ((n : Int) % 64 == 56) = false := beq_eq_false_iff_ne.2 (by omega)
          have hlt2 : m < padN s.size := by
            rcases Nat.lt_or_eq_of_le hm with h | h
            · exact h
            · exact absurd (hsp.2 h) h56
          clear hsp hrem
          go_wp2_with (at_builtin; refine wpList_push E40 rfl _ _ rfl w.heap.size HO.out rfl rfl rfl (by unfold maxLen; omega) (by omega) hB.size ?_; intro v' w9 hown' hgrow hb9)
          have HN := OwnBy.snoc (W := w9) (B := w.heap.size) (v := v') (bs := bytesI s ++ [128] ++ List.replicate m (0 : Int)) (x := 0) (by rw [hlen, hn]; exact hown')
          have hlist : bytesI s ++ [128] ++ List.replicate m (0 : Int) ++ [0] = bytesI s ++ [128] ++ List.replicate (m + 1) 0 := by rw [List.replicate_succ', ← List.append_assoc]
          rw [hlist] at HN
          obtain ⟨a', cap', rfl, -, -⟩ := HN.len
          have hl2 : (bytesI s ++ [128] ++ List.replicate (m + 1) (0 : Int)).length = s.size + 1 + (m + 1) := by simp [hbl]; omega
          refine ⟨⟨m + 1, by omega, HN, hB.trans hb9, a', cap', by rw [hl2]⟩, ?_⟩
          simp only [hl2]
          omega
end Go.Proofs.YtnckpnbecmmcpaaGreatDoor
