import Derived.Test.YtgjihgdomicijaaDoorL7
import Derived.Laws.IdiomStrings
namespace Go.Proofs.YtgjihgdomicijaaDoor
open Go.RowKit

theorem u32_bd {n : Int} (h : (Lit.int .u32 n).wf = true) : 0 ≤ n ∧ n ≤ 4294967295 := bounds_u32 h
/-- n cells from a block's start on, none of them frozen. -/
def RowAt (w : World) (B n : Nat) (f : Nat → Value) : Prop := ∀ j, j < n → w.cell? ⟨B, j, none⟩ = some (f j) ∧ w.frozen? ⟨B, j, none⟩ = false
theorem RowAt.set {w : World} {B n : Nat} {f g : Nat → Value} (h : RowAt w B n f) (i : Nat) (v : Value) (hg : ∀ j, j < n → g j = if j = i then v else f j) : RowAt (w.setCell ⟨B, i, none⟩ v) B n g := by
  intro j hj
  refine ⟨?_, (World.frozen?_setCell _ _ _ _).trans (h j hj).2⟩
  rw [hg j hj]
  by_cases e : j = i
  · subst e; rw [if_pos rfl]; exact World.cell?_setCell_same _ _ _ (h j hj).1
  · rw [if_neg e]; exact (World.cell?_setCell_other _ _ _ _ (by intro hc; exact e (congrArg Addr.off hc).symm)).trans (h j hj).1
theorem RowAt.drew {w : World} {B n : Nat} {f : Nat → Value} (h : RowAt w B n f) : RowAt w.drew B n f := h

def rowL (L : List Nat) (j : Nat) : Value := .int .u8 (L.getD j 0 : Int)
theorem row_bytes (W : World) (t : ByteArray) (cap : Nat) : RowAt (W.alloc (.cells (bytesRow t cap) 5 ((bytesRow t cap).size, (bytesRow t cap).size + 1))).drew W.heap.size t.size (rowL (bytesN t)) := by
  intro j hj
  have hz : t.size ≤ (bytesRow t cap).size := by simp [bytesRow]
  have hh : (W.alloc (.cells (bytesRow t cap) 5 ((bytesRow t cap).size, (bytesRow t cap).size + 1))).heap[W.heap.size]? = some (.cells (bytesRow t cap) 5 ((bytesRow t cap).size, (bytesRow t cap).size + 1)) := World.alloc_heap_new W _
  refine ⟨?_, ?_⟩
  · show World.cell? (W.alloc _) _ = _
    have hc : (bytesRow t cap)[j]? = some (rowL (bytesN t) j) := by
      unfold bytesRow rowL
      rw [Array.getElem?_append_left (by simpa using hj), bytesN_get t j hj]
      simp [hj]
      rfl
    simp only [World.cell?, hh]
    simpa using hc
  · show World.frozen? (W.alloc _) _ = _
    simp only [World.frozen?, hh]
    simp
    omega
theorem pow_div (m i : Nat) : ((m : Int) / 2 ^ i) = ((m / 2 ^ i : Nat) : Int) := by simp
theorem par_false (z : Nat) (h : z % 2 = 0) : ((z : Int).tmod 2 == 1) = false := by
  rw [Int.tmod_eq_emod_of_nonneg (by omega)]; exact beq_eq_false_iff_ne.2 (by omega)
theorem par_true (z : Nat) (h : z % 2 = 1) : ((z : Int).tmod 2 == 1) = true := by
  rw [Int.tmod_eq_emod_of_nonneg (by omega)]; exact beq_iff_eq.2 (by omega)
/-- What the loop keeps: the bytes, and what has become of the register. -/
structure Burst (t : ByteArray) (fr bits i : Nat) (L : List Nat) : Prop where
  len : L.length = t.size
  lt : ∀ x ∈ L, x < 256
  crc : crcL 4294967295 L = crcL 4294967295 (bytesN t) ^^^ bsN (8 * t.size - fr) (bits % 2 ^ i)
theorem Burst.start (t : ByteArray) (fr bits : Nat) : Burst t fr bits 0 (bytesN t) :=
  ⟨bytesN_len t, bytesN_lt t, by rw [Nat.pow_zero, Nat.mod_one, bsN_of_zero, Nat.xor_zero]⟩
theorem Burst.skip {t : ByteArray} {fr bits i : Nat} {L : List Nat} (h : Burst t fr bits i L) (hp : bits / 2 ^ i % 2 = 0) : Burst t fr bits (i + 1) L :=
  ⟨h.len, h.lt, by rw [mod_pow_same _ _ hp]; exact h.crc⟩
theorem pow2_lt8 (j : Nat) (h : j < 8) : 2 ^ j < 256 := by
  have := Nat.pow_lt_pow_right (a := 2) (by decide) h
  simpa using this
theorem Burst.flip {t : ByteArray} {fr bits i : Nat} {L : List Nat} (h : Burst t fr bits i L) (hp : bits / 2 ^ i % 2 = 1) (hi : fr + i < 8 * t.size) :
    Burst t fr bits (i + 1) (L.set ((fr + i) / 8) (L.getD ((fr + i) / 8) 0 ^^^ 2 ^ ((fr + i) % 8))) := by
  have hpl : (fr + i) / 8 < L.length := by rw [h.len]; omega
  refine ⟨by rw [List.length_set]; exact h.len, fun x hx => ?_, ?_⟩
  · rcases List.mem_or_eq_of_mem_set hx with hx | rfl
    · exact h.lt x hx
    · refine xor8 _ _ ?_ (pow2_lt8 _ (by omega))
      rw [List.getD_eq_getElem?_getD, List.getElem?_eq_getElem hpl]
      exact h.lt _ (List.getElem_mem _)
  · rw [crcL_flip _ _ _ _ hpl (by omega), h.crc, (mod_pow_succ bits i hp).1, bsN_xor, Nat.xor_assoc, h.len]
    congr 2
    rw [show 8 * t.size - (8 * ((fr + i) / 8) + (fr + i) % 8) = 8 * t.size - fr - i by omega]
    have := bsN_pow (8 * t.size - fr - i) i
    rw [show 8 * t.size - fr - i + i = 8 * t.size - fr by omega] at this
    exact this.symm
theorem Burst.sums {t : ByteArray} {fr bits i : Nat} {L : List Nat} (h : Burst t fr bits i L) (hb : bits < 4294967296) {X : ByteArray} (hX : bytesN X = L) (hs : X.size = t.size) :
    ((sumN X : Int) != (sumN t : Int)) = decide (bits % 2 ^ i ≠ 0) := by
  have e : ∀ s : ByteArray, crcK s s.size = crcL 4294967295 (bytesN s) := fun s => by
    unfold crcK; rw [List.take_of_length_le (by rw [bytesN_len]; exact Nat.le_refl _)]
  have hN : sumN X = sumN t ^^^ bsN (8 * t.size - fr) (bits % 2 ^ i) := by
    unfold sumN
    rw [e, e, hX, h.crc, Nat.xor_assoc, Nat.xor_assoc]
    congr 1
    exact Nat.xor_comm _ _
  have hm : bits % 2 ^ i ≤ bits := Nat.mod_le _ _
  by_cases hz : bits % 2 ^ i = 0
  · rw [hN, hz, bsN_of_zero]; simp
  · rw [decide_eq_true hz, bne_iff_ne]
    intro hc
    have hc2 : sumN X = sumN t := by omega
    rw [hN] at hc2
    have h0 : bsN (8 * t.size - fr) (bits % 2 ^ i) = 0 := by
      have := congrArg (fun x => sumN t ^^^ x) hc2
      simpa [← Nat.xor_assoc] using this
    exact hz (bsN_zero _ _ (by omega) h0)

set_option maxRecDepth 100000 in
set_option maxHeartbeats 2000000 in
theorem law6 (s : ByteArray) (a bt : Int) (w : World) (_hs : s.size ≤ maxLen) (hN : Nib w) (ha0 : -9223372036854775808 ≤ a) (ha1 : a ≤ 9223372036854775807) (hb0 : 0 ≤ bt) (hb1 : bt ≤ 4294967295) :
    Calls Tryd.prog 8 #[.string s, .int .i64 a, .int .u32 bt] w fun e w' => e = .returned (.bool true) ∧ Below w.heap.size w w' := by
  have hsane := sane_any w hN
  have HN := Lib.hid hN
  clear hN
  obtain ⟨m, rfl⟩ := Int.eq_ofNat_of_zero_le hb0
  go_enter Tryd.func8, Tryd.ntmps8
  go_wp2_with fail
  refine hsane.mono ?_
  clear hsane
  rintro e w1 ⟨rfl, hB1⟩
  go_upto_region 2 with fail
  go_cut [8] from 14 (fun u8 wc => ∃ (t : ByteArray) (cap : Nat), u8 = .slice (some ⟨w1.heap.size, 0, none⟩) t.size cap ∧ t.size ≤ 300 ∧ t.size ≤ s.size ∧ t = s.extract 0 t.size ∧ RowAt wc w1.heap.size t.size (rowL (bytesN t)) ∧ Below w.heap.size w wc)
  case first =>
    have hcv : ∀ (t : ByteArray) (W : World), (convert 9 38 (.string t)).run Tryd.prog W = .ok (.slice (some ⟨W.heap.size, 0, none⟩) t.size (grownCap W t.size 0 5)) (W.drew.alloc (.cells (bytesRow t (grownCap W t.size 0 5)) 5 ((bytesRow t (grownCap W t.size 0 5)).size, (bytesRow t (grownCap W t.size 0 5)).size + 1))) := fun t W =>
      run_bytes_of_string W 9 38 5 t Tryd.underlying9 Tryd.underlying38 Tryd.underlying5
    go_wp2_with fail
    all_goals go_meet
    · have hsz : (s.extract 0 300).size = 300 := by rw [ByteArray.size_extract]; omega
      have hmn : min 300 s.size = 300 := by omega
      refine ⟨s.extract 0 300, grownCap w1 300 0 5, by simp [hmn], by omega, by omega, by rw [hsz], row_bytes w1 (s.extract 0 300) _, (hB1.alloc hB1.size _).drew⟩
    · refine ⟨s, _, rfl, by omega, by omega, by simp, row_bytes w1 s _, (hB1.alloc hB1.size _).drew⟩
  case rest =>
    obtain ⟨t, cap, rfl, ht, hts, htx, hrow, hB2⟩ := hcut
    have HTX := Lib.hid htx
    clear htx
    by_cases hz : t.size = 0
    · have hz0 : ((t.size : Int) == 0) = true := beq_iff_eq.2 (by omega)
      clear hz
      go_wp2
      go_ret
      exact ⟨rfl, hB2⟩
    · have hz0 : ((t.size : Int) == 0) = false := beq_eq_false_iff_ne.2 (by omega)
      by_cases hm : m = 0
      · have hm0 : ((m : Int) == 0) = true := beq_iff_eq.2 (by omega)
        clear hz hm
        go_wp2
        go_ret
        exact ⟨rfl, hB2⟩
      · have hm0 : ((m : Int) == 0) = false := beq_eq_false_iff_ne.2 (by omega)
        have hpb := pickS_bd a (8 * t.size) (by omega)
        obtain ⟨fr, hfr⟩ := Int.eq_ofNat_of_zero_le hpb.1
        have Hp : ∀ W, Calls Tryd.prog 14 #[.int .i64 a, .int .i64 (8 * (t.size : Int))] W fun e w' => e = .returned (.int .i64 fr) ∧ W = w' := fun W => by
          have := pick_any a (8 * t.size) W ha0 ha1 (by omega) (by omega)
          rw [hfr] at this; exact this
        rw [hfr] at hpb
        have hf8 : fr < 8 * t.size := by omega
        clear hpb hfr hz hm
        go_wp2_with fail
        refine (Hp _).mono ?_
        rintro e w2 ⟨rfl, rfl⟩
        clear Hp
        go_wp2_with fail
        go_loopw [10, 11, 12] (fun u10 u11 _ wr => ∃ (i : Nat) (L : List Nat) (fl : Bool), i ≤ 32 ∧ fr + i ≤ 8 * t.size ∧ u11 = .int .i64 i ∧ u10 = .bool fl ∧ fl = decide (m % 2 ^ i ≠ 0) ∧ Burst t fr m i L ∧ RowAt wr w1.heap.size t.size (rowL L) ∧ Below w.heap.size w wr) (fun _ u11 _ _ => (32 - intOf u11).toNat)
        case atStart => exact ⟨0, bytesN t, false, by omega, by omega, rfl, rfl, by simp [Nat.mod_one], Burst.start t fr m, hrow, hB2⟩
        case round =>
          clear hrow hB2
          obtain ⟨i, L, fl, hi, hfi, rfl, rfl, hfl, hbu, hrow, hBr⟩ := hrel
          have HFL := Lib.hid hfl
          clear hfl
          have hgl : ∀ j, L.getD j 0 < 256 := fun j => by
            by_cases hj : j < L.length
            · rw [List.getD_eq_getElem?_getD, List.getElem?_eq_getElem hj]; exact hbu.lt _ (List.getElem_mem _)
            · rw [List.getD_eq_getElem?_getD, List.getElem?_eq_none (by omega)]; decide
          by_cases hgo : i < 32 ∧ fr + i < 8 * t.size
          · obtain ⟨hi32, hfi8⟩ := hgo
            have g1 : decide ((i : Int) < 32) = true := by simp; omega
            have g2 : decide ((fr : Int) + (i : Int) < 8 * (t.size : Int)) = true := by simp; omega
            rcases Nat.mod_two_eq_zero_or_one (m / 2 ^ i) with hp | hp
            · have hpar : (((m : Int) / 2 ^ i).tmod 2 == 1) = false := by rw [pow_div]; exact par_false _ hp
              have HB := Lib.hid (hbu.skip hp)
              have HM := Lib.hid (mod_pow_same m i hp)
              clear hp hbu hgl
              go_wp2
              go_roundw
              case rel => exact ⟨i + 1, L, fl, by omega, by omega, by go_num, rfl, by rw [HM.out]; exact HFL.out, HB.out, hrow, hBr⟩
              case measure => simp [intOf]; omega
            · have hpar : (((m : Int) / 2 ^ i).tmod 2 == 1) = true := by rw [pow_div]; exact par_true _ hp
              have HB := Lib.hid (hbu.flip hp hfi8)
              have HM := Lib.hid (mod_pow_succ m i hp).2
              have hlen := hbu.len
              have hp8 : (fr + i) / 8 < t.size := by omega
              have hcell := (hrow ((fr + i) / 8) hp8).1
              have hfz := (hrow ((fr + i) / 8) hp8).2
              unfold rowL at hcell
              have hx := hgl ((fr + i) / 8)
              have hj := pow2_lt8 ((fr + i) % 8) (by omega)
              have hxor := u8_xor (L.getD ((fr + i) / 8) 0) (2 ^ ((fr + i) % 8)) hx hj
              generalize hy : L.getD ((fr + i) / 8) 0 = y at hcell hxor hx HB
              generalize hq : 2 ^ ((fr + i) % 8) = q at hxor hj HB
              obtain ⟨r, er⟩ : ∃ r, r = y ^^^ q := ⟨_, rfl⟩
              rw [← er] at hxor HB
              have hxor2 : bits .xor .u8 (y : Int) ((2 : Int) ^ ((fr + i) % 8) % 256) = (r : Int) := by
                have h2 : ((2 : Int) ^ ((fr + i) % 8)) = ((2 ^ ((fr + i) % 8) : Nat) : Int) := by simp
                rw [h2, hq, show ((q : Nat) : Int) % 256 = (q : Int) by omega]; exact hxor
              clear hxor
              have HR := Lib.hid hrow
              have HL := Lib.hid hbu.len
              clear hp hbu hgl hlen hy hq er
              have hn8 : ((fr : Int) + (i : Int)) / 8 < (t.size : Int) := by omega
              have hn0 : 0 ≤ ((fr : Int) + (i : Int)) / 8 := by omega
              go_wp2_with fail
              go_region
              all_goals go_wp2
              all_goals go_roundw
              case rel =>
                refine ⟨i + 1, _, true, by omega, by omega, by go_num, rfl, ?_, HB.out, (HR.out.set ((fr + i) / 8) (.int .u8 r) (fun j hj => ?_)).drew, (hBr.setCell (p := ⟨w1.heap.size, (fr + i) / 8, none⟩) hB1.size _).drew⟩
                · simpa using HM.out
                · unfold rowL
                  rw [List.getD_eq_getElem?_getD, List.getElem?_set]
                  by_cases hjk : j = (fr + i) / 8
                  · rw [if_pos hjk, if_pos hjk.symm, if_pos (by rw [HL.out]; omega)]; rfl
                  · rw [if_neg hjk, if_neg (fun e => hjk e.symm), ← List.getD_eq_getElem?_getD]
              case measure => simp [intOf]; omega
          · have HSall : Hid (∀ (x : ByteArray), x.size = t.size → ∀ q, Calls Tryd.prog 21 #[.string x] (wr.drewN q) fun e w' => e = .returned (.int .i64 (sumN x)) ∧ w' = wr.drewN q) := fun x hx q =>
              (sum_any x (wr.drewN q) (by unfold maxLen; omega) (HN.out.below (below_drewN hBr q))).mono fun e w' ⟨he, hw⟩ => ⟨by rw [he, (sumN_eq x).1], hw.symm⟩
            have hX : (strOfNums (L.map fun x : Nat => (x : Int))).size = t.size := by rw [strOfNums_size, List.length_map]; exact hbu.len
            have hXb : bytesN (strOfNums (L.map fun x : Nat => (x : Int))) = L := by
              unfold bytesN
              rw [strOfNums_list, byteL, List.map_map, List.map_map]
              conv => rhs; rw [← List.map_id L]
              apply List.map_congr_left
              intro x hx
              have := hbu.lt x hx
              simp; omega
            have hcv : ∀ q, (convert 38 9 (.slice (some ⟨w1.heap.size, 0, none⟩) t.size cap)).run Tryd.prog (wr.drewN q) = .ok (.string (strOfNums (L.map fun x : Nat => (x : Int)))) (wr.drewN q) := fun q => by
              refine run_convert_bytes_arg (P := Tryd.prog) (wr.drewN q) 38 5 Tryd.underlying38 Tryd.underlying5 w1.heap.size 0 t.size cap _ (by rw [List.length_map]; exact hbu.len) (fun j hj => ?_) 9 Tryd.underlying9
              have := (hrow j hj).1
              rw [show (wr.drewN q).cell? ⟨w1.heap.size, 0 + j, none⟩ = wr.cell? ⟨w1.heap.size, 0 + j, none⟩ from by simp, Nat.zero_add, this]
              unfold rowL
              rw [List.getD_eq_getElem?_getD, List.getD_eq_getElem?_getD, List.getElem?_map, List.getElem?_eq_getElem (by rw [hbu.len]; exact hj)]
              rfl
            have hsums := hbu.sums (by omega) hXb hX
            rw [← HFL.out] at hsums
            generalize strOfNums (L.map fun x : Nat => (x : Int)) = X at hX hXb hcv hsums
            have hsl : ∀ W : World, (Instr.slice 9 (.string s) none (some (.int .i64 (t.size : Int))) none).run Tryd.prog W = .ok (.string t) W := fun W => by
              have := run_slice_string_h (P := Tryd.prog) W 9 s Tryd.underlying9 .i64 (t.size : Int) (by omega) (by omega)
              rw [this, show s.extract 0 ((t.size : Int)).toNat = t from by rw [Int.toNat_natCast]; exact HTX.out.symm]
            have HX := Lib.hid hX
            have HB := Lib.hid hBr
            have hbl : ∀ b : Bool, (b == b) = true := fun b => by cases b <;> rfl
            have hgo2 : ¬ (i < 32 ∧ fr + i < 8 * t.size) := hgo
            clear hX hXb hbu hgl hrow hBr hgo
            by_cases hi32 : i < 32
            · have g1 : decide ((i : Int) < 32) = true := by simp; omega
              have g2 : decide ((fr : Int) + (i : Int) < 8 * (t.size : Int)) = false := by simp; omega
              clear hgo2
              go_wp2_with fail
              go_quiet ((go_at_call 21; exact Calls.quiet_of_same (HSall.out _ (by first | exact HX.out | exact rfl) _)))
              go_wp2
              go_ret
              exact ⟨rfl, below_drewN HB.out _⟩
            · have g1 : decide ((i : Int) < 32) = false := by simp; omega
              clear hgo2
              go_wp2_with fail
              go_quiet ((go_at_call 21; exact Calls.quiet_of_same (HSall.out _ (by first | exact HX.out | exact rfl) _)))
              go_wp2
              go_ret
              exact ⟨rfl, below_drewN HB.out _⟩
end Go.Proofs.YtgjihgdomicijaaDoor
