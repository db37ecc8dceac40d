/- nadirlaw34: heads, sized. -/
import Derived.Test.YtnckpnbecmmcpaaGreatDoorJN
import Derived.Test.YtnckpnbecmmcpaaGreatDoorP3
namespace Go.Proofs.YtnckpnbecmmcpaaGreatDoor
open Go.RowKit Lib
theorem headsL_snoc (t : ByteArray) : ∀ (l : List ByteArray) (h : ByteArray), headsL h (l ++ [t]) = headsL h l ++ [m2 ++ l.foldl chainS h ++ t]
  | [], _ => rfl
  | x :: l, h => by
    show (m2 ++ h ++ x) :: headsL (chainS h x) (l ++ [t]) = _
    rw [headsL_snoc t l]; rfl
theorem headsL_take {l : List ByteArray} {i : Nat} (h : i < l.length) : headsL z32 (l.take (i + 1)) = headsL z32 (l.take i) ++ [m2 ++ headS (l.take i) ++ l[i]] := by
  rw [List.take_succ_eq_append_getElem h, headsL_snoc]; rfl
set_option maxRecDepth 100000 in
set_option maxHeartbeats 4000000 in
theorem heads27 (v : Value) (l : List ByteArray) (w : World) (hv : StrsAt w v l) (hl : ∀ t ∈ l, t.size ≤ 65536) (hll : l.length ≤ 100000) :
    Calls Tryz.prog 27 #[v] w fun e w' => ∃ v', e = .returned v' ∧ w'.ownsRow w.heap.size 9 1 v' (headsL z32 l).length ((headsL z32 l).map Value.string) ∧ Below w.heap.size w w' := by
  obtain ⟨a, cap, rfl, hle, hcm⟩ := strs_len hv
  have HV := Lib.hid hv
  unfold maxLen at hcm
  have HL := Lib.hid hl
  have h43 := head43 (.slice none 0 0) [] w (strs_nil w) (fun t h => by cases h)
  have HZ0 := Lib.hid (show headS (l.take 0) = headS [] from rfl)
  generalize headS [] = zz at h43 HZ0
  have hm2 : (⟨#[2]⟩ : ByteArray) = m2 := rfl
  have hms : m2.size = 1 := rfl
  clear hl hv
  go_enter Tryz.func27, Tryz.ntmps27
  go_wp2_with fail
  refine h43.mono ?_
  rintro e w1 ⟨rfl, b1⟩
  go_wp2
  go_loopw [3, 4, 5] (fun u3 u4 u5 wr => ∃ i : Nat, i ≤ l.length ∧ u5 = .int .i64 (i : Int) ∧ u4 = .string (headS (l.take i)) ∧ wr.ownsRow w.heap.size 9 1 u3 (headsL z32 (l.take i)).length ((headsL z32 (l.take i)).map Value.string) ∧ Below w.heap.size w wr) (fun _ _ u5 _ => (l.length - intOf u5).toNat)
  case atStart => exact ⟨0, by omega, rfl, by rw [HZ0.out], World.ownsRow_nil _ _ _ _, b1⟩
  case round =>
    obtain ⟨i, hi, rfl, rfl, ho, hB⟩ := hrel
    rename World => wr
    have hhl : (headsL z32 (l.take i)).length = i := by rw [headsL_len, List.length_take]; omega
    by_cases hlt : i < l.length
    · have d1 : decide (i < l.length) = true := decide_eq_true hlt
      have i0 : (0 : Int) ≤ (i : Int) ∧ (i : Int) < (l.length : Int) := by omega
      obtain ⟨b, o, rfl, hc0⟩ := strs_get HV.out hlt
      have hbl := World.block_lt_of_cell? _ _ hc0
      have hc := (hB.cell (p := ⟨b, o + i, none⟩) hbl).trans hc0
      clear hc0
      have HT := Lib.hid (headS_take hlt)
      have HH := Lib.hid (headsL_take hlt)
      have HZ := Lib.hid (And.intro (headS_size (l.take i)) (HL.out _ (List.getElem_mem hlt)))
      have hz1 := headS_size (l.take i)
      have hz2 := HL.out _ (List.getElem_mem hlt)
      generalize l[i] = t at hc HT HZ HH hz2
      generalize headS (l.take i) = hd at HT HZ HH hz1 ⊢
      generalize headsL z32 (l.take i) = hs at HH ho hhl
      rw [hhl] at ho
      have HO := Lib.hid ho
      have hsz1 : (m2 ++ hd).size = 33 := by rw [ByteArray.size_append, hms, hz1]
      have hsz2 : (m2 ++ hd ++ t).size ≤ 100000 := by rw [ByteArray.size_append, hsz1]; omega
      clear ho
      go_wp2_with (at_builtin; refine wpList_push E22 rfl _ _ rfl w.heap.size HO.out rfl rfl rfl (by unfold maxLen; omega) (by omega) hB.size ?_; intro v' w9 hown' hgrow hb9; have c9 := (hb9.cell (p := ⟨b, o + i, none⟩) hbl).trans hc)
      refine (chain57 hd t w9 HZ.out.1 HZ.out.2).mono ?_
      rintro e wT ⟨rfl, bT⟩
      have hB9 := hB.trans hb9
      have HN := Lib.hid (And.intro (owned_below hown' bT) (hB9.trans (bT.mono hB9.size)))
      clear hown' hgrow hb9 bT hB9 c9 hc
      go_wp2
      go_roundw
      case rel => exact ⟨i + 1, by omega, by go_num, by rw [HT.out], by rw [HH.out, List.length_append, hhl, List.map_append]; exact HN.out.1, HN.out.2⟩
      case measure => simp [intOf]; omega
    · have he : i = l.length := by omega
      have d1 : decide (i < l.length) = false := decide_eq_false hlt
      have HE := Lib.hid (show headsL z32 (l.take i) = headsL z32 l by rw [he, List.take_length])
      have HO := Lib.hid ho
      clear he ho
      go_wp2
      go_ret
      exact ⟨_, rfl, by rw [← HE.out]; exact HO.out, hB⟩
theorem sized_drop {l : List ByteArray} {i : Nat} (h : i < l.length) (z : Int) : sizedB (l.drop i) z = ((decide (1 ≤ z) && decide (z ≤ ((W01.encT (l[i]).size).size : Int))) || sizedB (l.drop (i + 1)) (z - (33 + ((W01.encT (l[i]).size).size : Int) + ((l[i]).size : Int)))) := by
  rw [List.drop_eq_getElem_cons h]; rfl
set_option maxRecDepth 100000 in
set_option maxHeartbeats 4000000 in
theorem sized26 (v : Value) (l : List ByteArray) (k : Int) (w : World) (hv : StrsAt w v l) (hl : ∀ t ∈ l, t.size ≤ 65536) (hll : l.length ≤ 100000) (hk : 0 ≤ k ∧ k ≤ 1000000) :
    Calls Tryz.prog 26 #[v, .int .i64 k] w fun e w' => e = .returned (.bool (sizedB l k)) ∧ Below w.heap.size w w' := by
  obtain ⟨a, cap, rfl, hle, hcm⟩ := strs_len hv
  have HV := Lib.hid hv
  unfold maxLen at hcm
  have HL := Lib.hid hl
  have HZ0 := Lib.hid (show sizedB l k = sizedB (l.drop 0) k from rfl)
  clear hl hv
  go_enter Tryz.func26, Tryz.ntmps26
  go_wp2
  go_loopw [1, 5] (fun u1 u5 wr => ∃ (i : Nat) (z : Int), i ≤ l.length ∧ u5 = .int .i64 (i : Int) ∧ u1 = .int .i64 z ∧ z ≤ k ∧ k - (i : Int) * 70000 ≤ z ∧ sizedB l k = sizedB (l.drop i) z ∧ Below w.heap.size w wr) (fun _ u5 _ => (l.length - intOf u5).toNat)
  case atStart => exact ⟨0, k, by omega, rfl, rfl, by omega, by omega, HZ0.out, Below.refl _ _⟩
  case round =>
    obtain ⟨i, z, hi, rfl, rfl, hz1, hz2, hzz, hB⟩ := hrel
    rename World => wr
    have HZZ := Lib.hid hzz
    clear hzz
    by_cases hlt : i < l.length
    · have d1 : decide (i < l.length) = true := decide_eq_true hlt
      have i0 : (0 : Int) ≤ (i : Int) ∧ (i : Int) < (l.length : Int) := by omega
      obtain ⟨b, o, rfl, hc0⟩ := strs_get HV.out hlt
      have hbl := World.block_lt_of_cell? _ _ hc0
      have hc := (hB.cell (p := ⟨b, o + i, none⟩) hbl).trans hc0
      have hx := HL.out _ (List.getElem_mem hlt)
      have HSD := Lib.hid (sized_drop hlt z)
      have hput := W01.rputU (((l[i]).size : Nat) : Int) wr
      generalize l[i] = t at hc hx HSD hput
      have he0 := W01.encT_size ((t.size : Nat) : Int)
      generalize W01.encT ((t.size : Nat) : Int) = es at HSD he0 hput
      generalize W01.encE ((t.size : Nat) : Int) = ee at hput
      clear hc0
      have wr1 : IntKind.i64.wrap (1 + (es.size : Int)) = 1 + (es.size : Int) := wrapS _ (by omega) (by omega)
      have wr2 : IntKind.i64.wrap (1 + (es.size : Int) + (t.size : Int)) = 1 + (es.size : Int) + (t.size : Int) := wrapS _ (by omega) (by omega)
      have wr3 : IntKind.i64.wrap (1 + (es.size : Int) + (t.size : Int) + 32) = 1 + (es.size : Int) + (t.size : Int) + 32 := wrapS _ (by omega) (by omega)
      have wr4 : IntKind.i64.wrap (z - (1 + (es.size : Int) + (t.size : Int) + 32)) = z - (1 + (es.size : Int) + (t.size : Int) + 32) := wrapS _ (by omega) (by omega)
      go_wp2_with fail
      refine hput.mono ?_
      rintro e w9 ⟨rfl, b9⟩
      have c9 := (b9.cell (World.block_lt_of_cell? _ _ hc)).trans hc
      have HB9 := Lib.hid (hB.trans (b9.mono hB.size))
      clear hB b9 hc
      by_cases hy : 1 ≤ z ∧ z ≤ (es.size : Int)
      · have HT := Lib.hid (show sizedB l k = true by rw [HZZ.out, HSD.out, decide_eq_true hy.1, decide_eq_true hy.2]; rfl)
        obtain ⟨hy1, hy2⟩ := hy
        go_wp2
        go_ret
        exact ⟨by rw [HT.out]; rfl, HB9.out⟩
      · have HT := Lib.hid (show sizedB l k = sizedB (l.drop (i + 1)) (z - (1 + (es.size : Int) + (t.size : Int) + 32)) by
          rw [HZZ.out, HSD.out]
          have : (decide (1 ≤ z) && decide (z ≤ (es.size : Int))) = false := by
            rw [Bool.and_eq_false_iff]
            by_cases h1 : 1 ≤ z
            · right; exact decide_eq_false (fun h2 => hy ⟨h1, h2⟩)
            · left; exact decide_eq_false h1
          rw [this, Bool.false_or]
          congr 1; omega)
        by_cases hy1 : 1 ≤ z
        · have hy2 : ¬ z ≤ (es.size : Int) := fun h => hy ⟨hy1, h⟩
          clear hy
          go_wp2
          go_roundw
          case rel => exact ⟨i + 1, _, by omega, by go_num, rfl, by omega, by omega, HT.out, HB9.out⟩
          case measure => simp [intOf]; omega
        · clear hy
          go_wp2
          go_roundw
          case rel => exact ⟨i + 1, _, by omega, by go_num, rfl, by omega, by omega, HT.out, HB9.out⟩
          case measure => simp [intOf]; omega
    · have he : i = l.length := by omega
      have d1 : decide (i < l.length) = false := decide_eq_false hlt
      have HE := Lib.hid (show sizedB l k = false by rw [HZZ.out, he, List.drop_length]; rfl)
      clear he
      go_wp2
      go_ret
      exact ⟨by rw [HE.out]; rfl, hB⟩
end Go.Proofs.YtnckpnbecmmcpaaGreatDoor
