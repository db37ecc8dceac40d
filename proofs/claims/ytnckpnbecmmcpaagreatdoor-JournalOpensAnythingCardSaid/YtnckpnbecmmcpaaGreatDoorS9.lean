/- package nadirref02: Chain, Head; package nadirref34: Stored. -/
import Derived.Test.YtnckpnbecmmcpaaGreatDoorS8
namespace Go.Proofs.YtnckpnbecmmcpaaGreatDoor
open Go.RowKit
open W01 (putsT putsE)
abbrev StrsAt (w : World) (v : Value) (l : List ByteArray) : Prop := SliceOf Value.string w v l
set_option maxRecDepth 100000 in
theorem chain57 (h r : ByteArray) (w : World) (hh : h.size = 32) (hr : r.size ≤ 65536) : Calls Tryz.prog 57 #[.string h, .string r] w fun e w' => e = .returned (.string (chainS h r)) ∧ Below w.heap.size w w' := by
  have hm1 : m2.size = 1 := rfl
  have hm : (m2 ++ h).size = 1 + h.size := by rw [ByteArray.size_append]; rfl
  have hsz : (m2 ++ h ++ r).size ≤ 100000 := by rw [ByteArray.size_append, hm]; omega
  have c2 : ¬ 9223372036854775807 < (m2 ++ h).size + r.size := by omega
  have c1 : ¬ 9223372036854775807 < m2.size + h.size := by omega
  have HS := Lib.hid (show chainS h r = sumS (m2 ++ h ++ r) from rfl)
  have hm2 : (⟨#[2]⟩ : ByteArray) = m2 := rfl
  clear hh hr hm hm1
  go_enter Tryz.func57, Tryz.ntmps57
  rw [hm2]
  go_wp2_with (go_at_call 28; refine (sum28 (m2 ++ h ++ r) _ hsz).mono ?_; rintro e w1 ⟨rfl, hb⟩)
  go_ret
  exact ⟨by rw [HS.out]; rfl, hb⟩
theorem headS_take {l : List ByteArray} {i : Nat} (h : i < l.length) : headS (l.take (i + 1)) = chainS (headS (l.take i)) l[i] := by
  rw [List.take_succ_eq_append_getElem h, headS_snoc]
theorem strs_get {w : World} {a : Option Addr} {n c : Nat} {l : List ByteArray} (h : StrsAt w (.slice a n c) l) {i : Nat} (hi : i < l.length) : ∃ b o, a = some ⟨b, o, none⟩ ∧ w.cell? ⟨b, o + i, none⟩ = some (.string l[i]) := by
  obtain ⟨a', c', e, h1, h2, h3⟩ := h
  cases e
  obtain ⟨b, o, e, h4⟩ := h3 (by omega)
  exact ⟨b, o, e, h4 i _ (List.getElem?_eq_getElem hi)⟩
theorem strs_len {w : World} {v : Value} {l : List ByteArray} (h : StrsAt w v l) : ∃ a c, v = .slice a l.length c ∧ l.length ≤ c ∧ c ≤ maxLen := by
  obtain ⟨a', c', e, h1, h2, h3⟩ := h
  exact ⟨a', c', e, h1, h2⟩
theorem zero_made (n : Nat) : strOf (List.replicate n 0) = (⟨Array.replicate n 0⟩ : ByteArray) := by
  apply W01.str_ext; simp [strOf]
theorem z32_made : strOf (List.replicate 32 0) = z32 := zero_made 32
attribute [local irreducible] wpStill
set_option maxRecDepth 100000 in
set_option maxHeartbeats 4000000 in
theorem head43 (v : Value) (l : List ByteArray) (w : World) (hv : StrsAt w v l) (hl : ∀ t ∈ l, t.size ≤ 65536) : Calls Tryz.prog 43 #[v] w fun e w' => e = .returned (.string (headS l)) ∧ Below w.heap.size w w' := by
  obtain ⟨a, cap, rfl, hle, hcm⟩ := strs_len hv
  have HV := Lib.hid hv
  unfold maxLen at hcm
  have HL := Lib.hid hl
  clear hl hv
  have hmk : (Instr.makeSlice 39 (.int .i64 32) (.int .i64 32)).run Tryz.prog w = _ := mk40 32 (by decide) w
  have hbk := Blk.new w (bcs (List.replicate 32 0)).toArray 5
  have hcv := conv_all (n := 32) hbk (by rw [List.length_replicate])
  have hB0 := (Below.refl w.heap.size w).alloc (Nat.le_refl _) (.cells (bcs (List.replicate 32 0)).toArray 5)
  clear hbk
  generalize w.alloc (.cells (bcs (List.replicate 32 0)).toArray 5) = w1 at hmk hcv hB0
  rw [z32_made] at hcv
  have HZ0 := Lib.hid (show headS (l.take 0) = z32 from rfl)
  generalize z32 = zz at hcv HZ0
  go_enter Tryz.func43, Tryz.ntmps43
  go_wp2
  go_loopw [3, 4] (fun u3 u4 wr => ∃ i : Nat, i ≤ l.length ∧ u4 = .int .i64 (i : Int) ∧ u3 = .string (headS (l.take i)) ∧ Below w.heap.size w wr) (fun _ u4 _ => (l.length - intOf u4).toNat)
  case atStart => exact ⟨0, by omega, rfl, by rw [HZ0.out], hB0⟩
  case round =>
    obtain ⟨i, hi, rfl, rfl, hB⟩ := hrel
    by_cases hlt : i < l.length
    · have d1 : decide (i < l.length) = true := decide_eq_true hlt
      have i0 : (0 : Int) ≤ (i : Int) ∧ (i : Int) < (l.length : Int) := by omega
      obtain ⟨b, o, rfl, hc⟩ := strs_get (HV.out.below hB) hlt
      have HT := Lib.hid (headS_take hlt)
      have HZ := Lib.hid (And.intro (headS_size (l.take i)) (HL.out _ (List.getElem_mem hlt)))
      generalize l[i] = t at hc HT HZ
      generalize headS (l.take i) = hd at HT HZ ⊢
      go_wp2_with (go_at_call 57; refine (chain57 hd t _ HZ.out.1 HZ.out.2).mono ?_; rintro e w9 ⟨rfl, hb9⟩)
      go_roundw
      case rel => exact ⟨i + 1, by omega, by go_num, by rw [HT.out], hB.trans (hb9.mono hB.size)⟩
      case measure => simp [intOf]; omega
    · have he : i = l.length := by omega
      have d1 : decide (i < l.length) = false := decide_eq_false hlt
      have HE := Lib.hid (show headS (l.take i) = headS l by rw [he, List.take_length])
      clear he
      go_wp2
      go_ret
      exact ⟨by rw [← HE.out]; rfl, hB⟩
set_option maxRecDepth 100000 in
theorem stored44 (h r : ByteArray) (w : World) (hh : h.size = 32) (hr : r.size ≤ 65536) : Calls Tryz.prog 44 #[.string h, .string r] w fun e w' => e = .returned (.tuple #[.string (storedS h r), .string (chainS h r)]) ∧ Below w.heap.size w w' := by
  have hp := putsT_size r hr
  have hm1 : m1.size = 1 := rfl
  have hm : (m1 ++ putsT r).size = 1 + (putsT r).size := by rw [ByteArray.size_append]; rfl
  have hc := chainS_size h r
  have c1 : ¬ 9223372036854775807 < m1.size + (putsT r).size := by omega
  have c2 : ¬ 9223372036854775807 < (m1 ++ putsT r).size + (chainS h r).size := by omega
  have HS := Lib.hid (show storedS h r = m1 ++ putsT r ++ chainS h r from rfl)
  have hC := chain57 h r w hh hr
  have hP := fun W => W01.rputsU r W (by unfold maxLen; omega)
  have hm2 : (⟨#[1]⟩ : ByteArray) = m1 := rfl
  clear hh hr hp hm hc hm1
  generalize chainS h r = cc at *
  generalize putsT r = pp at *
  generalize putsE r = pe at *
  go_enter Tryz.func44, Tryz.ntmps44
  rw [hm2]
  go_wp2_with (first
    | (go_at_call 57; refine hC.mono ?_; rintro e w1 ⟨rfl, hb⟩)
    | (go_at_call 73; refine (hP _).mono ?_; rintro e w2 ⟨rfl, hb2⟩))
  go_ret2
  exact ⟨by rw [HS.out]; rfl, hb.trans (hb2.mono hb.size)⟩
end Go.Proofs.YtnckpnbecmmcpaaGreatDoor
