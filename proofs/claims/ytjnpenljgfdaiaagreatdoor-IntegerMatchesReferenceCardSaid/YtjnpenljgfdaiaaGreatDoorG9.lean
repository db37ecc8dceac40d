/- package nadirref03: FromInt, ToInt. -/
import Derived.Test.YtjnpenljgfdaiaaGreatDoorG8
namespace Go.Proofs.YtjnpenljgfdaiaaGreatDoor
open Go.RowKit Go.Shelf Lib

theorem tmod_abs (m : Int) : Int.tmod m 10 = if m < 0 then -((m.natAbs % 10 : Nat) : Int) else ((m.natAbs % 10 : Nat) : Int) := by
  split
  · rename_i h
    have e : m = -((m.natAbs : Nat) : Int) := by omega
    rw [e, Int.neg_tmod, Int.natAbs_neg, Int.natAbs_natCast, Int.tmod_eq_emod_of_nonneg (by omega)]
    omega
  · rename_i h
    have e : m = ((m.natAbs : Nat) : Int) := by omega
    rw [e, Int.natAbs_natCast, Int.tmod_eq_emod_of_nonneg (by omega)]
    omega
theorem tdiv_bd (m : Int) : (Int.tdiv m 10).natAbs ≤ m.natAbs := by rw [D10.tdiv_abs]; omega
theorem tdiv_lt {m : Int} (h : m ≠ 0) : (Int.tdiv m 10).natAbs < m.natAbs := by rw [D10.tdiv_abs]; omega

set_option maxRecDepth 100000 in
set_option maxHeartbeats 4000000 in
theorem fromInt10_neg (n : Int) (w : World) (h0 : -9223372036854775808 ≤ n) (h1 : n ≤ 9223372036854775807) (hn : n < 0) :
    Calls Tryz.prog 44 #[.int .i64 n] w fun e w' => e = .returned (.string (N3.S n)) ∧ Below w.heap.size w w' := by
  have hlen : (D10.toG n.natAbs).length ≤ 20 := D10.toG_len_le (by rw [show (10 : Nat) ^ 20 = 100000000000000000000 from by decide]; omega)
  have HS := Lib.hid (show N3.S (N3.sgn true n.natAbs) = N3.S n from by unfold N3.sgn; first | (rw [if_pos rfl]; congr 1; omega) | (rw [if_neg (by decide)]; congr 1; omega))
  have HT := Lib.hid text10_any
  have hn2 : n < 0 := hn
  have hn3 : decide (n < 0) = true := decide_eq_true hn
  go_enter Tryz.func44, Tryz.ntmps44
  go_wp2_with fail
  go_loopw [3, 4, 5] (fun u3 u4 _ wr => ∃ (m : Int) (O : List Nat), u4 = .int .i64 m ∧ m.natAbs ≤ n.natAbs ∧ -9223372036854775808 ≤ m ∧ m ≤ 9223372036854775807 ∧ D10.toG n.natAbs = O ++ D10.toG m.natAbs ∧ wr.ownsRow w.heap.size 3 1 u3 O.length ((castL O).map (Value.int .i64)) ∧ Below w.heap.size w wr) (fun _ u4 _ _ => (Go.RowKit.intOf u4).natAbs)
  case atStart => exact ⟨n, [], rfl, Nat.le_refl _, h0, h1, rfl, ⟨rfl, .inl ⟨rfl, rfl⟩⟩, Below.refl _ _⟩
  case round =>
    obtain ⟨m, O, rfl, hmn, hm0, hm1, hinv, hown, hBr⟩ := hrel
    rename World => wr
    obtain ⟨ra, rc, rfl, hr1, hr2⟩ := owned_len hown
    unfold maxLen at hr2
    have hbk := hBr.size
    have hol : O.length + (D10.toG m.natAbs).length ≤ 20 := by rw [hinv, List.length_append] at hlen; exact hlen
    by_cases hz : m = 0
    · have HD : Hid (DigAt wr (.slice ra O.length rc) n.natAbs) := Lib.hid (by
        have e : D10.toG n.natAbs = O := by rw [hinv, hz]; show O ++ D10.toG 0 = O; rw [D10.toG_zero, List.append_nil]
        refine OwnD.dig (B := w.heap.size) ?_
        unfold OwnD; rw [e]; exact hown)
      have hq : (m != 0) = false := by rw [hz]; rfl
      clear hown hinv hm0 hm1 hmn hz
      go_wp2_with fail
      refine (HT.out true _ n.natAbs _ HD.out (by omega)).mono ?_
      rintro e w2 ⟨rfl, hB2⟩
      have hB := hBr.trans (hB2.mono hBr.size)
      rw [HS.out]
      go_wp2
      go_ret
      exact ⟨rfl, hB⟩
    · have hq : (m != 0) = true := bne_iff_ne.2 hz
      have HST := Lib.hid (D10.toG_step hz)
      have HLT := Lib.hid (tdiv_lt hz)
      have htm := tmod_abs m
      have htd : (Int.tdiv m 10).natAbs ≤ m.natAbs := tdiv_bd m
      have htd2 : Int.tdiv m 10 ≤ 9223372036854775807 ∧ -9223372036854775808 ≤ Int.tdiv m 10 := by
        have := HLT.out; omega
      have hwq : IntKind.i64.wrap (Int.tdiv m 10) = Int.tdiv m 10 := by rw [IntKind.wrap_i64]; omega
      have HMN := Lib.hid hmn
      have HIN := Lib.hid hinv
      have hd10 : m.natAbs % 10 < 10 := Nat.mod_lt _ (by decide)
      have hol2 : O.length ≤ 20 := by omega
      have HOWN := Lib.hid hown
      generalize hqe : Int.tdiv m 10 = q at *
      have hon := Lib.hid (casts_snoc O (m.natAbs % 10))
      generalize m.natAbs % 10 = d at *
      clear hown hinv hmn hol
      by_cases hneg : m < 0
      · rw [if_pos hneg] at htm
        have hwt : IntKind.i64.wrap (-(d : Int)) = -(d : Int) := by rw [IntKind.wrap_i64]; omega
        have hwt2 : IntKind.i64.wrap (d : Int) = (d : Int) := by rw [IntKind.wrap_i64]; omega
        by_cases hd0 : d = 0
        · subst hd0
          have hwt0 : IntKind.i64.wrap (-((0 : Nat) : Int)) = ((0 : Nat) : Int) := rfl
          rw [show -((0 : Nat) : Int) = ((0 : Nat) : Int) from rfl] at htm
          clear hneg hz hwt hwt0
          go_wp2_with (at_builtin; refine wpList_push E72 rfl _ _ rfl w.heap.size HOWN.out rfl rfl rfl (by unfold maxLen; omega) (by omega) (by omega) ?_; intro v' w3 ho3 hg3 hB3)
          go_roundw
          case rel => exact ⟨q, O ++ [0], rfl, Nat.le_trans htd HMN.out, htd2.2, htd2.1, by rw [HIN.out, HST.out, List.append_assoc]; rfl, by rw [hon.out, List.length_append]; exact ho3, hBr.trans hB3⟩
          case measure => have := HLT.out; simp [Go.RowKit.intOf]; omega
        · have hdn : -(d : Int) < 0 := by omega
          have hnn : -(-(d : Int)) = (d : Int) := by omega
          clear hneg hz
          go_wp2_with (at_builtin; refine wpList_push E72 rfl _ _ rfl w.heap.size HOWN.out rfl rfl rfl (by unfold maxLen; omega) (by omega) (by omega) ?_; intro v' w3 ho3 hg3 hB3)
          go_roundw
          case rel => exact ⟨q, O ++ [d], rfl, Nat.le_trans htd HMN.out, htd2.2, htd2.1, by rw [HIN.out, HST.out, List.append_assoc]; rfl, by rw [hon.out, List.length_append]; exact ho3, hBr.trans hB3⟩
          case measure => have := HLT.out; simp [Go.RowKit.intOf]; omega
      · rw [if_neg hneg] at htm
        have hwt2 : IntKind.i64.wrap (d : Int) = (d : Int) := by rw [IntKind.wrap_i64]; omega
        have hdn : ¬ (d : Int) < 0 := by omega
        clear hneg hz
        go_wp2_with (at_builtin; refine wpList_push E72 rfl _ _ rfl w.heap.size HOWN.out rfl rfl rfl (by unfold maxLen; omega) (by omega) (by omega) ?_; intro v' w3 ho3 hg3 hB3)
        go_roundw
        case rel => exact ⟨q, O ++ [d], rfl, Nat.le_trans htd HMN.out, htd2.2, htd2.1, by rw [HIN.out, HST.out, List.append_assoc]; rfl, by rw [hon.out, List.length_append]; exact ho3, hBr.trans hB3⟩
        case measure => have := HLT.out; simp [Go.RowKit.intOf]; omega

set_option maxRecDepth 100000 in
set_option maxHeartbeats 4000000 in
theorem fromInt10_pos (n : Int) (w : World) (h0 : -9223372036854775808 ≤ n) (h1 : n ≤ 9223372036854775807) (hn : ¬ n < 0) :
    Calls Tryz.prog 44 #[.int .i64 n] w fun e w' => e = .returned (.string (N3.S n)) ∧ Below w.heap.size w w' := by
  have hlen : (D10.toG n.natAbs).length ≤ 20 := D10.toG_len_le (by rw [show (10 : Nat) ^ 20 = 100000000000000000000 from by decide]; omega)
  have HS := Lib.hid (show N3.S (N3.sgn false n.natAbs) = N3.S n from by unfold N3.sgn; first | (rw [if_pos rfl]; congr 1; omega) | (rw [if_neg (by decide)]; congr 1; omega))
  have HT := Lib.hid text10_any
  have hn2 : 0 ≤ n := Int.not_lt.1 hn
  have hn3 : decide (n < 0) = false := decide_eq_false hn
  go_enter Tryz.func44, Tryz.ntmps44
  go_wp2_with fail
  go_loopw [3, 4, 5] (fun u3 u4 _ wr => ∃ (m : Int) (O : List Nat), u4 = .int .i64 m ∧ m.natAbs ≤ n.natAbs ∧ -9223372036854775808 ≤ m ∧ m ≤ 9223372036854775807 ∧ D10.toG n.natAbs = O ++ D10.toG m.natAbs ∧ wr.ownsRow w.heap.size 3 1 u3 O.length ((castL O).map (Value.int .i64)) ∧ Below w.heap.size w wr) (fun _ u4 _ _ => (Go.RowKit.intOf u4).natAbs)
  case atStart => exact ⟨n, [], rfl, Nat.le_refl _, h0, h1, rfl, ⟨rfl, .inl ⟨rfl, rfl⟩⟩, Below.refl _ _⟩
  case round =>
    obtain ⟨m, O, rfl, hmn, hm0, hm1, hinv, hown, hBr⟩ := hrel
    rename World => wr
    obtain ⟨ra, rc, rfl, hr1, hr2⟩ := owned_len hown
    unfold maxLen at hr2
    have hbk := hBr.size
    have hol : O.length + (D10.toG m.natAbs).length ≤ 20 := by rw [hinv, List.length_append] at hlen; exact hlen
    by_cases hz : m = 0
    · have HD : Hid (DigAt wr (.slice ra O.length rc) n.natAbs) := Lib.hid (by
        have e : D10.toG n.natAbs = O := by rw [hinv, hz]; show O ++ D10.toG 0 = O; rw [D10.toG_zero, List.append_nil]
        refine OwnD.dig (B := w.heap.size) ?_
        unfold OwnD; rw [e]; exact hown)
      have hq : (m != 0) = false := by rw [hz]; rfl
      clear hown hinv hm0 hm1 hmn hz
      go_wp2_with fail
      refine (HT.out false _ n.natAbs _ HD.out (by omega)).mono ?_
      rintro e w2 ⟨rfl, hB2⟩
      have hB := hBr.trans (hB2.mono hBr.size)
      rw [HS.out]
      go_wp2
      go_ret
      exact ⟨rfl, hB⟩
    · have hq : (m != 0) = true := bne_iff_ne.2 hz
      have HST := Lib.hid (D10.toG_step hz)
      have HLT := Lib.hid (tdiv_lt hz)
      have htm := tmod_abs m
      have htd : (Int.tdiv m 10).natAbs ≤ m.natAbs := tdiv_bd m
      have htd2 : Int.tdiv m 10 ≤ 9223372036854775807 ∧ -9223372036854775808 ≤ Int.tdiv m 10 := by
        have := HLT.out; omega
      have hwq : IntKind.i64.wrap (Int.tdiv m 10) = Int.tdiv m 10 := by rw [IntKind.wrap_i64]; omega
      have HMN := Lib.hid hmn
      have HIN := Lib.hid hinv
      have hd10 : m.natAbs % 10 < 10 := Nat.mod_lt _ (by decide)
      have hol2 : O.length ≤ 20 := by omega
      have HOWN := Lib.hid hown
      generalize hqe : Int.tdiv m 10 = q at *
      have hon := Lib.hid (casts_snoc O (m.natAbs % 10))
      generalize m.natAbs % 10 = d at *
      clear hown hinv hmn hol
      by_cases hneg : m < 0
      · rw [if_pos hneg] at htm
        have hwt : IntKind.i64.wrap (-(d : Int)) = -(d : Int) := by rw [IntKind.wrap_i64]; omega
        have hwt2 : IntKind.i64.wrap (d : Int) = (d : Int) := by rw [IntKind.wrap_i64]; omega
        by_cases hd0 : d = 0
        · subst hd0
          have hwt0 : IntKind.i64.wrap (-((0 : Nat) : Int)) = ((0 : Nat) : Int) := rfl
          rw [show -((0 : Nat) : Int) = ((0 : Nat) : Int) from rfl] at htm
          clear hneg hz hwt hwt0
          go_wp2_with (at_builtin; refine wpList_push E72 rfl _ _ rfl w.heap.size HOWN.out rfl rfl rfl (by unfold maxLen; omega) (by omega) (by omega) ?_; intro v' w3 ho3 hg3 hB3)
          go_roundw
          case rel => exact ⟨q, O ++ [0], rfl, Nat.le_trans htd HMN.out, htd2.2, htd2.1, by rw [HIN.out, HST.out, List.append_assoc]; rfl, by rw [hon.out, List.length_append]; exact ho3, hBr.trans hB3⟩
          case measure => have := HLT.out; simp [Go.RowKit.intOf]; omega
        · have hdn : -(d : Int) < 0 := by omega
          have hnn : -(-(d : Int)) = (d : Int) := by omega
          clear hneg hz
          go_wp2_with (at_builtin; refine wpList_push E72 rfl _ _ rfl w.heap.size HOWN.out rfl rfl rfl (by unfold maxLen; omega) (by omega) (by omega) ?_; intro v' w3 ho3 hg3 hB3)
          go_roundw
          case rel => exact ⟨q, O ++ [d], rfl, Nat.le_trans htd HMN.out, htd2.2, htd2.1, by rw [HIN.out, HST.out, List.append_assoc]; rfl, by rw [hon.out, List.length_append]; exact ho3, hBr.trans hB3⟩
          case measure => have := HLT.out; simp [Go.RowKit.intOf]; omega
      · rw [if_neg hneg] at htm
        have hwt2 : IntKind.i64.wrap (d : Int) = (d : Int) := by rw [IntKind.wrap_i64]; omega
        have hdn : ¬ (d : Int) < 0 := by omega
        clear hneg hz
        go_wp2_with (at_builtin; refine wpList_push E72 rfl _ _ rfl w.heap.size HOWN.out rfl rfl rfl (by unfold maxLen; omega) (by omega) (by omega) ?_; intro v' w3 ho3 hg3 hB3)
        go_roundw
        case rel => exact ⟨q, O ++ [d], rfl, Nat.le_trans htd HMN.out, htd2.2, htd2.1, by rw [HIN.out, HST.out, List.append_assoc]; rfl, by rw [hon.out, List.length_append]; exact ho3, hBr.trans hB3⟩
        case measure => have := HLT.out; simp [Go.RowKit.intOf]; omega

theorem fromInt10 (n : Int) (w : World) (h0 : -9223372036854775808 ≤ n) (h1 : n ≤ 9223372036854775807) :
    Calls Tryz.prog 44 #[.int .i64 n] w fun e w' => e = .returned (.string (N3.S n)) ∧ Below w.heap.size w w' := by
  by_cases h : n < 0
  · exact fromInt10_neg n w h0 h1 h
  · exact fromInt10_pos n w h0 h1 h
theorem decV_take_le (l : List UInt8) (k : Nat) : N3.decV (l.take k) ≤ N3.decV l := by
  conv => rhs; rw [← List.take_append_drop k l]
  rw [N3.decV_app]
  have : 1 ≤ 10 ^ (l.drop k).length := Nat.one_le_pow _ _ (by decide)
  have := Nat.le_mul_of_pos_right (N3.decV (l.take k)) this
  omega
theorem dec_step {t : ByteArray} {i : Nat} (h : i < t.size) : N3.decV (t.data.toList.take (i + 1)) = N3.decV (t.data.toList.take i) * 10 + (t[i].toNat - 48) := by
  have e : t.data.toList.take (i + 1) = t.data.toList.take i ++ [t[i]] := by
    rw [List.take_add_one]
    have : t.data.toList[i]? = some t[i] := by rw [List.getElem?_eq_getElem (by rw [← Lib.size_eq]; exact h)]; rfl
    rw [this]; rfl
  rw [e, N3.decV_snoc]
theorem dec_step1 {t : ByteArray} {i : Nat} (h : i < t.size) (h1 : 1 ≤ i) : N3.decV (t.data.toList.tail.take (i + 1 - 1)) = N3.decV (t.data.toList.tail.take (i - 1)) * 10 + (t[i].toNat - 48) := by
  obtain ⟨k, rfl⟩ : ∃ k, i = k + 1 := ⟨i - 1, by omega⟩
  rw [show k + 1 + 1 - 1 = k + 1 from rfl, show k + 1 - 1 = k from rfl]
  have e : t.data.toList.tail.take (k + 1) = t.data.toList.tail.take k ++ [t[k + 1]] := by
    rw [List.take_add_one]
    have : t.data.toList.tail[k]? = some t[k + 1] := by rw [List.getElem?_tail, List.getElem?_eq_getElem (by rw [← Lib.size_eq]; exact h)]; rfl
    rw [this]; rfl
  rw [e, N3.decV_snoc]
def loB : ByteArray := ⟨#[45, 57, 50, 50, 51, 51, 55, 50, 48, 51, 54, 56, 53, 52, 55, 55, 53, 56, 48, 56]⟩
def hiB : ByteArray := ⟨#[57, 50, 50, 51, 51, 55, 50, 48, 51, 54, 56, 53, 52, 55, 55, 53, 56, 48, 55]⟩
theorem cmp_lo {s : ByteArray} (h : N3.okS s = true) : N3.cmpS s ⟨#[45, 57, 50, 50, 51, 51, 55, 50, 48, 51, 54, 56, 53, 52, 55, 55, 53, 56, 48, 56]⟩ = N3.cmpI (N3.iV s) (-9223372036854775808) := by
  have e1 : N3.okS ⟨#[45, 57, 50, 50, 51, 51, 55, 50, 48, 51, 54, 56, 53, 52, 55, 55, 53, 56, 48, 56]⟩ = true := by decide +kernel
  have e2 : N3.iV ⟨#[45, 57, 50, 50, 51, 51, 55, 50, 48, 51, 54, 56, 53, 52, 55, 55, 53, 56, 48, 56]⟩ = -9223372036854775808 := by decide +kernel
  unfold N3.cmpS N3.ok2
  rw [h, e1, e2]; rfl
theorem cmp_hi {s : ByteArray} (h : N3.okS s = true) : N3.cmpS s ⟨#[57, 50, 50, 51, 51, 55, 50, 48, 51, 54, 56, 53, 52, 55, 55, 53, 56, 48, 55]⟩ = N3.cmpI (N3.iV s) 9223372036854775807 := by
  have e1 : N3.okS ⟨#[57, 50, 50, 51, 51, 55, 50, 48, 51, 54, 56, 53, 52, 55, 55, 53, 56, 48, 55]⟩ = true := by decide +kernel
  have e2 : N3.iV ⟨#[57, 50, 50, 51, 51, 55, 50, 48, 51, 54, 56, 53, 52, 55, 55, 53, 56, 48, 55]⟩ = 9223372036854775807 := by decide +kernel
  unfold N3.cmpS N3.ok2
  rw [h, e1, e2]; rfl

set_option maxRecDepth 100000 in
set_option maxHeartbeats 4000000 in
theorem toInt10_neg (s : ByteArray) (w : World) (hs : s.size ≤ 281474976710656) (hok : N3.okS s = true) (h0 : 0 < s.size) (h45 : s[0].toNat = 45) (b0 : -9223372036854775808 ≤ N3.iV s) (b1 : N3.iV s ≤ 9223372036854775807) :
    Calls Tryz.prog 52 #[.string s] w fun e w' => e = .returned (.tuple #[.int .i64 (N3.iV s), .int .i64 0]) ∧ Below w.heap.size w w' := by
  have HA := Lib.hid (fun V => valid10 s V (by omega))
  have HLO := Lib.hid (fun V => compare10 s ⟨#[45, 57, 50, 50, 51, 51, 55, 50, 48, 51, 54, 56, 53, 52, 55, 55, 53, 56, 48, 56]⟩ V (by omega) (by decide))
  have HHI := Lib.hid (fun V => compare10 s ⟨#[57, 50, 50, 51, 51, 55, 50, 48, 51, 54, 56, 53, 52, 55, 55, 53, 56, 48, 55]⟩ V (by omega) (by decide))
  have hb := (bare_neg h0 h45).1
  have hiv : N3.iV s = -((N3.decV s.data.toList.tail : Nat) : Int) := by unfold N3.iV N3.intV; rw [if_pos hb]
  have hbare : N3.bare s.data.toList = s.data.toList.tail := by unfold N3.bare; rw [if_pos hb]
  have hq45 : ((s[0].toNat : Int) == 45) = true := beq_iff_eq.2 (by omega)
  have hall : (N3.bare s.data.toList).all N3.isD = true := (N3.bare_facts hok).2
  rw [hbare] at hall
  rw [hok] at HA
  rw [cmp_lo hok] at HLO
  rw [cmp_hi hok] at HHI
  have z1 : ¬ N3.cmpI (N3.iV s) (-9223372036854775808) < 0 := by unfold N3.cmpI; (repeat' split) <;> omega
  have z1' : 0 ≤ N3.cmpI (N3.iV s) (-9223372036854775808) := by omega
  have z2 : ¬ 0 < N3.cmpI (N3.iV s) 9223372036854775807 := by unfold N3.cmpI; (repeat' split) <;> omega
  have z2' : N3.cmpI (N3.iV s) 9223372036854775807 ≤ 0 := by omega
  generalize N3.cmpI (N3.iV s) (-9223372036854775808) = c1 at *
  generalize N3.cmpI (N3.iV s) 9223372036854775807 = c2 at *
  have HIV := Lib.hid hiv
  have HALL := Lib.hid hall
  have hi0 : (0 : Int) ≤ 0 ∧ (0 : Int) < (s.size : Int) := by omega
  rw [hiv] at b0 b1
  rw [hiv]
  have HMX := Lib.hid (fun k => decV_take_le s.data.toList.tail k)
  clear hiv hall hbare hb hok
  go_enter Tryz.func52, Tryz.ntmps52
  go_wp2_with fail
  refine (HA.out _).mono ?_
  rintro e w' ⟨rfl, rfl⟩
  go_wp2_with fail
  refine (HLO.out _).mono ?_
  rintro e w1 ⟨rfl, hB1⟩
  go_wp2_with fail
  refine (HHI.out _).mono ?_
  rintro e w2 ⟨rfl, hB2⟩
  have hBa := hB1.trans (hB2.mono hB1.size)
  go_wp2_with fail
  go_loopw [4, 5, 6] (fun u4 u5 _ wr => ∃ i : Nat, i ≤ s.size ∧ u5 = .int .i64 (i : Nat) ∧ u4 = .int .i64 (-((N3.decV (s.data.toList.tail.take (i - 1)) : Nat) : Int)) ∧ w2 = wr) (fun _ u5 _ _ => ((s.size : Int) - Go.RowKit.intOf u5).toNat)
  case atStart => exact ⟨0, Nat.zero_le _, rfl, by simp [N3.decV], rfl⟩
  case round =>
    obtain ⟨i, hi, rfl, rfl, rfl⟩ := hrel
    by_cases hlt : i < s.size
    · have hki : (0 : Int) ≤ (i : Int) ∧ (i : Int) < (s.size : Int) := by omega
      have hwi : IntKind.i64.wrap ((i : Int) + 1) = ((i + 1 : Nat) : Int) := by rw [IntKind.wrap_i64]; omega
      by_cases hi00 : i = 0
      · subst hi00
        have hki0 : (0 : Int) ≤ ((0 : Nat) : Int) ∧ ((0 : Nat) : Int) < (s.size : Int) := by omega
        have hq : ((s[0].toNat : Int) == 45) = true := hq45
        go_wp2
        go_roundw
        case rel => exact ⟨1, by omega, by go_num, rfl, by first | rfl | trivial⟩
        case measure => simp [Go.RowKit.intOf]; omega
      · have hdig : 48 ≤ s[i].toNat ∧ s[i].toNat ≤ 57 := by
          have := List.all_eq_true.1 HALL.out s[i] (by
            have h2 : s.data.toList.tail[i - 1]? = some s[i] := by
              rw [List.getElem?_tail, show i - 1 + 1 = i by omega, List.getElem?_eq_getElem (by rw [← Lib.size_eq]; exact hlt)]; rfl
            exact List.mem_of_getElem? h2)
          unfold N3.isD at this
          simpa using this
        have hq : ((s[i].toNat : Int) == 45) = false := beq_eq_false_iff_ne.2 (by omega)
        have hw2 : IntKind.u8.wrap ((s[i].toNat : Int) - 48) = ((s[i].toNat - 48 : Nat) : Int) := by rw [IntKind.wrap_u8]; omega
        have hw3 : IntKind.i64.wrap ((s[i].toNat - 48 : Nat) : Int) = ((s[i].toNat - 48 : Nat) : Int) := by rw [IntKind.wrap_i64]; omega
        have hst := dec_step1 hlt (by omega)
        have hmx := HMX.out (i + 1 - 1)
        have HST := Lib.hid hst
        rw [hst] at hmx
        generalize N3.decV s.data.toList.tail = V at *
        generalize N3.decV (s.data.toList.tail.take (i - 1)) = v at *
        have hd9 : s[i].toNat - 48 ≤ 9 := by omega
        generalize hdd : s[i].toNat - 48 = d at *
        have hw4 : IntKind.i64.wrap (-(d : Int)) = -(d : Int) := by rw [IntKind.wrap_i64]; omega
        have hw5 : IntKind.i64.wrap (10 * -(v : Int)) = -(10 * (v : Int)) := by rw [IntKind.wrap_i64]; omega
        have hw6 : IntKind.i64.wrap (-(10 * (v : Int)) + -(d : Int)) = -((v * 10 + d : Nat) : Int) := by rw [IntKind.wrap_i64]; omega
        generalize v * 10 + d = v2 at *
        clear hst hmx hdd
        go_wp2
        go_roundw
        case rel => exact ⟨i + 1, by omega, by go_num, by rw [HST.out], by first | rfl | trivial⟩
        case measure => simp [Go.RowKit.intOf]; omega
    · obtain rfl : i = s.size := by omega
      have HE := Lib.hid (show N3.decV (s.data.toList.tail.take (s.size - 1)) = N3.decV s.data.toList.tail from (by rw [List.take_of_length_le (by rw [List.length_tail, ← Lib.size_eq]; exact Nat.le_refl _)]))
      have hq0 : ¬ (s.size : Int) < (s.size : Int) := by omega
      go_wp2
      go_ret2
      exact ⟨by first | (rw [HE.out]; done) | (rw [HE.out]; rfl), hBa⟩

set_option maxRecDepth 100000 in
set_option maxHeartbeats 4000000 in
theorem toInt10_pos (s : ByteArray) (w : World) (hs : s.size ≤ 281474976710656) (hok : N3.okS s = true) (h0 : 0 < s.size) (h45 : s[0].toNat ≠ 45) (b0 : -9223372036854775808 ≤ N3.iV s) (b1 : N3.iV s ≤ 9223372036854775807) :
    Calls Tryz.prog 52 #[.string s] w fun e w' => e = .returned (.tuple #[.int .i64 (N3.iV s), .int .i64 0]) ∧ Below w.heap.size w w' := by
  have HA := Lib.hid (fun V => valid10 s V (by omega))
  have HLO := Lib.hid (fun V => compare10 s ⟨#[45, 57, 50, 50, 51, 51, 55, 50, 48, 51, 54, 56, 53, 52, 55, 55, 53, 56, 48, 56]⟩ V (by omega) (by decide))
  have HHI := Lib.hid (fun V => compare10 s ⟨#[57, 50, 50, 51, 51, 55, 50, 48, 51, 54, 56, 53, 52, 55, 55, 53, 56, 48, 55]⟩ V (by omega) (by decide))
  have hb := (bare_pos (s := s) (fun _ => h45)).1
  have hiv : N3.iV s = ((N3.decV s.data.toList : Nat) : Int) := by unfold N3.iV N3.intV; rw [if_neg hb]
  have hbare : N3.bare s.data.toList = s.data.toList := by unfold N3.bare; rw [if_neg hb]
  have hq45 : ((s[0].toNat : Int) == 45) = false := beq_eq_false_iff_ne.2 (by omega)
  have hall : (N3.bare s.data.toList).all N3.isD = true := (N3.bare_facts hok).2
  rw [hbare] at hall
  rw [hok] at HA
  rw [cmp_lo hok] at HLO
  rw [cmp_hi hok] at HHI
  have z1 : ¬ N3.cmpI (N3.iV s) (-9223372036854775808) < 0 := by unfold N3.cmpI; (repeat' split) <;> omega
  have z1' : 0 ≤ N3.cmpI (N3.iV s) (-9223372036854775808) := by omega
  have z2 : ¬ 0 < N3.cmpI (N3.iV s) 9223372036854775807 := by unfold N3.cmpI; (repeat' split) <;> omega
  have z2' : N3.cmpI (N3.iV s) 9223372036854775807 ≤ 0 := by omega
  generalize N3.cmpI (N3.iV s) (-9223372036854775808) = c1 at *
  generalize N3.cmpI (N3.iV s) 9223372036854775807 = c2 at *
  have HIV := Lib.hid hiv
  have HALL := Lib.hid hall
  have hi0 : (0 : Int) ≤ 0 ∧ (0 : Int) < (s.size : Int) := by omega
  rw [hiv] at b0 b1
  rw [hiv]
  have HMX := Lib.hid (fun k => decV_take_le s.data.toList k)
  clear hiv hall hbare hb hok
  go_enter Tryz.func52, Tryz.ntmps52
  go_wp2_with fail
  refine (HA.out _).mono ?_
  rintro e w' ⟨rfl, rfl⟩
  go_wp2_with fail
  refine (HLO.out _).mono ?_
  rintro e w1 ⟨rfl, hB1⟩
  go_wp2_with fail
  refine (HHI.out _).mono ?_
  rintro e w2 ⟨rfl, hB2⟩
  have hBa := hB1.trans (hB2.mono hB1.size)
  go_wp2_with fail
  go_loopw [4, 5, 6] (fun u4 u5 _ wr => ∃ i : Nat, i ≤ s.size ∧ u5 = .int .i64 (i : Nat) ∧ u4 = .int .i64 (((N3.decV (s.data.toList.take i) : Nat) : Int)) ∧ w2 = wr) (fun _ u5 _ _ => ((s.size : Int) - Go.RowKit.intOf u5).toNat)
  case atStart => exact ⟨0, Nat.zero_le _, rfl, rfl, rfl⟩
  case round =>
    obtain ⟨i, hi, rfl, rfl, rfl⟩ := hrel
    by_cases hlt : i < s.size
    · have hki : (0 : Int) ≤ (i : Int) ∧ (i : Int) < (s.size : Int) := by omega
      have hwi : IntKind.i64.wrap ((i : Int) + 1) = ((i + 1 : Nat) : Int) := by rw [IntKind.wrap_i64]; omega
      have hdig := ok_at HALL.out hlt
      have hq : ((s[i].toNat : Int) == 45) = false := beq_eq_false_iff_ne.2 (by omega)
      have hw2 : IntKind.u8.wrap ((s[i].toNat : Int) - 48) = ((s[i].toNat - 48 : Nat) : Int) := by rw [IntKind.wrap_u8]; omega
      have hw3 : IntKind.i64.wrap ((s[i].toNat - 48 : Nat) : Int) = ((s[i].toNat - 48 : Nat) : Int) := by rw [IntKind.wrap_i64]; omega
      have hst := dec_step hlt
      have hmx := HMX.out (i + 1)
      have HST := Lib.hid hst
      rw [hst] at hmx
      generalize N3.decV s.data.toList = V at *
      generalize N3.decV (s.data.toList.take i) = v at *
      have hd9 : s[i].toNat - 48 ≤ 9 := by omega
      generalize hdd : s[i].toNat - 48 = d at *
      have hw5 : IntKind.i64.wrap (10 * (v : Int)) = 10 * (v : Int) := by rw [IntKind.wrap_i64]; omega
      have hw6 : IntKind.i64.wrap (10 * (v : Int) + (d : Int)) = ((v * 10 + d : Nat) : Int) := by rw [IntKind.wrap_i64]; omega
      generalize v * 10 + d = v2 at *
      clear hst hmx hdd
      go_wp2
      go_roundw
      case rel => exact ⟨i + 1, by omega, by go_num, by rw [HST.out], by first | rfl | trivial⟩
      case measure => simp [Go.RowKit.intOf]; omega
    · obtain rfl : i = s.size := by omega
      have HE := Lib.hid (show N3.decV (s.data.toList.take s.size) = N3.decV s.data.toList from (by rw [List.take_of_length_le (by rw [← Lib.size_eq]; exact Nat.le_refl _)]))
      have hq0 : ¬ (s.size : Int) < (s.size : Int) := by omega
      go_wp2
      go_ret2
      exact ⟨by first | (rw [HE.out]; done) | (rw [HE.out]; rfl), hBa⟩

set_option maxRecDepth 100000 in
set_option maxHeartbeats 4000000 in
theorem toInt10 (s : ByteArray) (w : World) (hs : s.size ≤ 281474976710656) :
    Calls Tryz.prog 52 #[.string s] w fun e w' => e = .returned (.tuple #[.int .i64 (N3.toM s), .int .i64 (N3.toE s)]) ∧ Below w.heap.size w w' := by
  have HA := Lib.hid (fun V => valid10 s V (by omega))
  have HLO := Lib.hid (fun V => compare10 s ⟨#[45, 57, 50, 50, 51, 51, 55, 50, 48, 51, 54, 56, 53, 52, 55, 55, 53, 56, 48, 56]⟩ V (by omega) (by decide))
  have HHI := Lib.hid (fun V => compare10 s ⟨#[57, 50, 50, 51, 51, 55, 50, 48, 51, 54, 56, 53, 52, 55, 55, 53, 56, 48, 55]⟩ V (by omega) (by decide))
  cases hok : N3.okS s with
  | false =>
    have e1 : N3.toM s = 0 := by unfold N3.toM; rw [hok]; rfl
    have e2 : N3.toE s = 30 := by unfold N3.toE; rw [hok]; rfl
    rw [e1, e2]
    rw [hok] at HA
    clear hok e1 e2
    go_enter Tryz.func52, Tryz.ntmps52
    go_wp2_with fail
    refine (HA.out _).mono ?_
    rintro e w' ⟨rfl, rfl⟩
    go_wp2
    go_ret2
    exact ⟨rfl, Below.refl _ _⟩
  | true =>
    rw [hok] at HA
    rw [cmp_lo hok] at HLO
    rw [cmp_hi hok] at HHI
    by_cases b0 : -9223372036854775808 ≤ N3.iV s
    · by_cases b1 : N3.iV s ≤ 9223372036854775807
      · have e1 : N3.toM s = N3.iV s := by unfold N3.toM N3.inM; rw [hok, decide_eq_true b0, decide_eq_true b1]; rfl
        have e2 : N3.toE s = 0 := by unfold N3.toE N3.inM; rw [hok, decide_eq_true b0, decide_eq_true b1]; rfl
        rw [e1, e2]
        have h0 : 0 < s.size := by
          refine Classical.byContradiction fun hc => ?_
          have : s.data.toList = [] := List.eq_nil_of_length_eq_zero (by rw [← Lib.size_eq]; omega)
          unfold N3.okS at hok
          rw [this] at hok
          cases hok
        by_cases h45 : s[0].toNat = 45
        · exact toInt10_neg s w hs hok h0 h45 b0 b1
        · exact toInt10_pos s w hs hok h0 h45 b0 b1
      · have e1 : N3.toM s = 0 := by unfold N3.toM N3.inM; rw [hok, decide_eq_true b0, decide_eq_false b1]; rfl
        have e2 : N3.toE s = 30 := by unfold N3.toE N3.inM; rw [hok, decide_eq_true b0, decide_eq_false b1]; rfl
        rw [e1, e2]
        have z1 : ¬ N3.cmpI (N3.iV s) (-9223372036854775808) < 0 := by unfold N3.cmpI; (repeat' split) <;> omega
        have z1' : 0 ≤ N3.cmpI (N3.iV s) (-9223372036854775808) := by omega
        have z2 : 0 < N3.cmpI (N3.iV s) 9223372036854775807 := by unfold N3.cmpI; (repeat' split) <;> omega
        clear hok e1 e2 b0 b1
        generalize N3.cmpI (N3.iV s) (-9223372036854775808) = c1 at *
        generalize N3.cmpI (N3.iV s) 9223372036854775807 = c2 at *
        go_enter Tryz.func52, Tryz.ntmps52
        go_wp2_with fail
        refine (HA.out _).mono ?_
        rintro e w' ⟨rfl, rfl⟩
        go_wp2_with fail
        refine (HLO.out _).mono ?_
        rintro e w1 ⟨rfl, hB1⟩
        go_wp2_with fail
        refine (HHI.out _).mono ?_
        rintro e w2 ⟨rfl, hB2⟩
        have hBa := hB1.trans (hB2.mono hB1.size)
        go_wp2
        go_ret2
        exact ⟨rfl, hBa⟩
    · have e1 : N3.toM s = 0 := by unfold N3.toM N3.inM; rw [hok, decide_eq_false b0]; rfl
      have e2 : N3.toE s = 30 := by unfold N3.toE N3.inM; rw [hok, decide_eq_false b0]; rfl
      rw [e1, e2]
      have z1 : N3.cmpI (N3.iV s) (-9223372036854775808) < 0 := by unfold N3.cmpI; (repeat' split) <;> omega
      clear hok e1 e2 b0
      generalize N3.cmpI (N3.iV s) (-9223372036854775808) = c1 at *
      go_enter Tryz.func52, Tryz.ntmps52
      go_wp2_with fail
      refine (HA.out _).mono ?_
      rintro e w' ⟨rfl, rfl⟩
      go_wp2_with fail
      refine (HLO.out _).mono ?_
      rintro e w1 ⟨rfl, hB1⟩
      go_wp2
      go_ret2
      exact ⟨rfl, hB1⟩
end Go.Proofs.YtjnpenljgfdaiaaGreatDoor
