/- package nadirref03: differences, and the order. -/
import Derived.BigQuiet
import Derived.Test.YtjnpenljgfdaiaaGreatDoorG1
namespace Go.Proofs.YtjnpenljgfdaiaaGreatDoor
open Go.RowKit Go.Shelf Lib

theorem cell_keep {w w' : World} (h : Below w.heap.size w w') {p : Addr} {v : Value} (hc : w.cell? p = some v) : w'.cell? p = some v := by
  refine (h.cell (Classical.byContradiction fun hn => ?_)).trans hc
  have : w.heap[p.block]? = none := Array.getElem?_eq_none (by omega)
  simp [World.cell?, this] at hc
theorem below_drewN {B : Nat} {w w' : World} (h : Below B w w') (n : Nat) : Below B w (w'.drewN n) := ⟨h.os, h.tape, h.output, h.size, h.block⟩
set_option maxRecDepth 100000 in
set_option maxHeartbeats 2000000 in
theorem minus10 (v1 v2 : Value) (n m : Nat) (w : World) (h1 : DigAt w v1 n) (h2 : DigAt w v2 m) (hmn : m ≤ n) (l1 : (D10.toG n).length ≤ 100000) (l2 : (D10.toG m).length ≤ 100000) :
    Calls Tryz.prog 100 #[v1, v2] w fun e w' => ∃ v', e = .returned v' ∧ OwnD w.heap.size w' v' (n - m) ∧ Below w.heap.size w w' := by
  obtain ⟨a, cp, rfl, g1, g2⟩ := (show IntsAt w v1 _ from h1).len
  obtain ⟨b, cq, rfl, k1, k2⟩ := (show IntsAt w v2 _ from h2).len
  unfold DigAt at h1 h2
  rw [castL_len] at g1 k1 h1 h2
  rw [castL_len, castL_len]
  have H1 := Lib.hid h1
  have H2 := Lib.hid h2
  have HT := Lib.hid trim10_own
  clear h1 h2
  go_enter Tryz.func100, Tryz.ntmps100
  go_wp2_with fail
  go_loopw [5, 6, 7, 8] (fun u5 u6 u7 _ wr => ∃ (i bo : Nat) (O : List Nat), u7 = .int .i64 (i : Nat) ∧ u6 = .int .i64 (bo : Nat) ∧ bo ≤ 1 ∧ i ≤ (D10.toG n).length ∧ O.length = i ∧ D10.OKl O ∧ D10.val O + m % 10 ^ i = n % 10 ^ i + bo * 10 ^ i ∧ wr.ownsRow w.heap.size 3 1 u5 O.length ((castL O).map (Value.int .i64)) ∧ Below w.heap.size w wr) (fun _ _ u7 _ _ => (((D10.toG n).length : Int) - Go.RowKit.intOf u7).toNat)
  case atStart => exact ⟨0, 0, [], rfl, rfl, by decide, Nat.zero_le _, rfl, (fun x hx => by cases hx), by simp [D10.val, Nat.mod_one], ⟨rfl, .inl ⟨rfl, rfl⟩⟩, Below.refl _ _⟩
  case round =>
    obtain ⟨i, bo, O, rfl, rfl, hb1, hil, hOi, hok, hinv, hown, hBr⟩ := hrel
    rename World => wr
    obtain ⟨ra, rc, rfl, hr1, hr2⟩ := owned_len hown
    unfold maxLen at hr2
    have hbk : w.heap.size ≤ wr.heap.size := hBr.size
    have HO := Lib.hid hOi
    have HK := Lib.hid hok
    have hdx := D10.get_lt n i
    have hdy := D10.get_lt m i
    have HS := Lib.hid (fun (bo' d : Nat) => D10.minus_step (bo' := bo') (d := d) hinv)
    by_cases hA : i < (D10.toG n).length
    · obtain ⟨b1, off1, rfl, hce1⟩ := (SliceOf.below H1.out hBr).get (castL_get hA)
      have hi1 : (0 : Int) ≤ (i : Int) ∧ (i : Int) < ((D10.toG n).length : Int) := by omega
      have hwi : IntKind.i64.wrap ((i : Int) + 1) = ((i + 1 : Nat) : Int) := by rw [IntKind.wrap_i64]; omega
      have HOWN := Lib.hid hown
      clear hown hOi
      generalize (D10.toG n).getD i 0 = x at *
      by_cases hB : i < (D10.toG m).length
      · obtain ⟨b2, off2, rfl, hce2⟩ := (SliceOf.below H2.out hBr).get (castL_get hB)
        have hi2 : (0 : Int) ≤ (i : Int) ∧ (i : Int) < ((D10.toG m).length : Int) := by omega
        generalize (D10.toG m).getD i 0 = y at *
        by_cases hn : x < bo + y
        · clear hinv hok
          have hneg : (x : Int) - (bo : Int) - (y : Int) < 0 := by omega
          have hwn : IntKind.i64.wrap ((x : Int) - (bo : Int) - (y : Int) + 10) = ((10 + x - bo - y : Nat) : Int) := by rw [IntKind.wrap_i64]; omega
          have hw2 : IntKind.i64.wrap ((x : Int) - (bo : Int)) = (x : Int) - (bo : Int) := by rw [IntKind.wrap_i64]; omega
          have hw3 : IntKind.i64.wrap ((x : Int) - (bo : Int) - (y : Int)) = (x : Int) - (bo : Int) - (y : Int) := by rw [IntKind.wrap_i64]; omega
          have hst := Lib.hid (HS.out 1 (10 + x - bo - y) (by omega))
          have hd : 10 + x - bo - y < 10 := by omega
          generalize 10 + x - bo - y = d at *
          have hon := Lib.hid (casts_snoc O d)
          have hval : Hid (D10.val (O ++ [d]) = D10.val O + 10 ^ i * d) := Lib.hid (by rw [D10.val_app, HO.out]; rfl)
          have hok2 : Hid (D10.OKl (O ++ [d])) := Lib.hid (fun z hz => (List.mem_append.1 hz).elim (HK.out z) (fun h => by rw [List.mem_singleton.1 h]; exact hd))
          go_wp2_with (at_builtin; refine wpList_push E72 rfl _ _ rfl w.heap.size HOWN.out rfl rfl rfl (by unfold maxLen; have := HO.out; omega) (by have := HO.out; omega) (by omega) ?_; intro v' w3 ho3 hg3 hB3)
          go_roundw
          case rel => exact ⟨i + 1, 1, O ++ [d], by go_num, rfl, by decide, by omega, by rw [List.length_append, HO.out]; rfl, hok2.out, by rw [hval.out]; exact hst.out, by rw [hon.out, List.length_append]; exact ho3, hBr.trans hB3⟩
          case measure => simp [Go.RowKit.intOf]; omega
        · clear hinv hok
          have hw2 : IntKind.i64.wrap ((x : Int) - (bo : Int)) = (x : Int) - (bo : Int) := by rw [IntKind.wrap_i64]; omega
          have hw3 : IntKind.i64.wrap ((x : Int) - (bo : Int) - (y : Int)) = ((x - bo - y : Nat) : Int) := by rw [IntKind.wrap_i64]; omega
          have hst := Lib.hid (HS.out 0 (x - bo - y) (by omega))
          have hd : x - bo - y < 10 := by omega
          generalize x - bo - y = d at *
          have hneg : ¬ (d : Int) < 0 := by omega
          have hon := Lib.hid (casts_snoc O d)
          have hval : Hid (D10.val (O ++ [d]) = D10.val O + 10 ^ i * d) := Lib.hid (by rw [D10.val_app, HO.out]; rfl)
          have hok2 : Hid (D10.OKl (O ++ [d])) := Lib.hid (fun z hz => (List.mem_append.1 hz).elim (HK.out z) (fun h => by rw [List.mem_singleton.1 h]; exact hd))
          go_wp2_with (at_builtin; refine wpList_push E72 rfl _ _ rfl w.heap.size HOWN.out rfl rfl rfl (by unfold maxLen; have := HO.out; omega) (by have := HO.out; omega) (by omega) ?_; intro v' w3 ho3 hg3 hB3)
          go_roundw
          case rel => exact ⟨i + 1, 0, O ++ [d], by go_num, rfl, by decide, by omega, by rw [List.length_append, HO.out]; rfl, hok2.out, by rw [hval.out]; exact hst.out, by rw [hon.out, List.length_append]; exact ho3, hBr.trans hB3⟩
          case measure => simp [Go.RowKit.intOf]; omega
      · have q2 : ¬ (i : Int) < ((D10.toG m).length : Int) := by omega
        rw [D10.toG_over hB] at HS hdy
        by_cases hn : x < bo
        · clear hinv hok
          have hneg : (x : Int) - (bo : Int) < 0 := by omega
          have hwn : IntKind.i64.wrap ((x : Int) - (bo : Int) + 10) = ((10 + x - bo : Nat) : Int) := by rw [IntKind.wrap_i64]; omega
          have hw2 : IntKind.i64.wrap ((x : Int) - (bo : Int)) = (x : Int) - (bo : Int) := by rw [IntKind.wrap_i64]; omega
          have hst := Lib.hid (HS.out 1 (10 + x - bo) (by omega))
          have hd : 10 + x - bo < 10 := by omega
          generalize 10 + x - bo = d at *
          have hon := Lib.hid (casts_snoc O d)
          have hval : Hid (D10.val (O ++ [d]) = D10.val O + 10 ^ i * d) := Lib.hid (by rw [D10.val_app, HO.out]; rfl)
          have hok2 : Hid (D10.OKl (O ++ [d])) := Lib.hid (fun z hz => (List.mem_append.1 hz).elim (HK.out z) (fun h => by rw [List.mem_singleton.1 h]; exact hd))
          go_wp2_with (at_builtin; refine wpList_push E72 rfl _ _ rfl w.heap.size HOWN.out rfl rfl rfl (by unfold maxLen; have := HO.out; omega) (by have := HO.out; omega) (by omega) ?_; intro v' w3 ho3 hg3 hB3)
          go_roundw
          case rel => exact ⟨i + 1, 1, O ++ [d], by go_num, rfl, by decide, by omega, by rw [List.length_append, HO.out]; rfl, hok2.out, by rw [hval.out]; exact hst.out, by rw [hon.out, List.length_append]; exact ho3, hBr.trans hB3⟩
          case measure => simp [Go.RowKit.intOf]; omega
        · clear hinv hok
          have hw2 : IntKind.i64.wrap ((x : Int) - (bo : Int)) = ((x - bo : Nat) : Int) := by rw [IntKind.wrap_i64]; omega
          have hst := Lib.hid (HS.out 0 (x - bo) (by omega))
          have hd : x - bo < 10 := by omega
          generalize x - bo = d at *
          have hneg : ¬ (d : Int) < 0 := by omega
          have hon := Lib.hid (casts_snoc O d)
          have hval : Hid (D10.val (O ++ [d]) = D10.val O + 10 ^ i * d) := Lib.hid (by rw [D10.val_app, HO.out]; rfl)
          have hok2 : Hid (D10.OKl (O ++ [d])) := Lib.hid (fun z hz => (List.mem_append.1 hz).elim (HK.out z) (fun h => by rw [List.mem_singleton.1 h]; exact hd))
          go_wp2_with (at_builtin; refine wpList_push E72 rfl _ _ rfl w.heap.size HOWN.out rfl rfl rfl (by unfold maxLen; have := HO.out; omega) (by have := HO.out; omega) (by omega) ?_; intro v' w3 ho3 hg3 hB3)
          go_roundw
          case rel => exact ⟨i + 1, 0, O ++ [d], by go_num, rfl, by decide, by omega, by rw [List.length_append, HO.out]; rfl, hok2.out, by rw [hval.out]; exact hst.out, by rw [hon.out, List.length_append]; exact ho3, hBr.trans hB3⟩
          case measure => simp [Go.RowKit.intOf]; omega
    · obtain rfl : i = (D10.toG n).length := by omega
      have q1 : ¬ ((D10.toG n).length : Int) < ((D10.toG n).length : Int) := by omega
      have hv : Hid (D10.val O = n - m) := Lib.hid (D10.minus_end (D10.lt_pow n) hmn hinv (by have := D10.val_lt hok; rw [hOi] at this; exact this) hb1)
      have HOWN := Lib.hid hown
      clear hown hinv HS hok hdx hdy hOi
      go_wp2_with fail
      refine (HT.out w.heap.size _ O _ HOWN.out HK.out).mono ?_
      rintro e w' ⟨v', rfl, hres, rfl⟩
      go_wp2
      go_ret
      exact ⟨_, rfl, by rw [hv.out] at hres; exact hres, hBr⟩
set_option maxRecDepth 100000 in
set_option maxHeartbeats 2000000 in
theorem order10 (v1 v2 : Value) (n m : Nat) (w : World) (h1 : DigAt w v1 n) (h2 : DigAt w v2 m) (l1 : (D10.toG n).length ≤ 100000) (l2 : (D10.toG m).length ≤ 100000) :
    Calls Tryz.prog 101 #[v1, v2] w fun e w' => e = .returned (.int .i64 (N3.cmpI (n : Nat) (m : Nat))) ∧ Below w.heap.size w w' := by
  obtain ⟨a, cp, rfl, g1, g2⟩ := (show IntsAt w v1 _ from h1).len
  obtain ⟨b, cq, rfl, k1, k2⟩ := (show IntsAt w v2 _ from h2).len
  unfold DigAt at h1 h2
  rw [castL_len] at g1 k1 h1 h2
  rw [castL_len, castL_len]
  have H1 := Lib.hid h1
  have H2 := Lib.hid h2
  clear h1 h2
  by_cases hne : (D10.toG n).length = (D10.toG m).length
  · have hq : (((D10.toG n).length : Int) != ((D10.toG m).length : Int)) = false := by rw [hne]; simp
    have HQ := Lib.hid (D10.ord_top hne)
    have HL := Lib.hid hne
    have hw0 : IntKind.i64.wrap (((D10.toG n).length : Int) - 1) = ((D10.toG n).length : Int) - 1 := by rw [IntKind.wrap_i64]; omega
    clear hne
    go_enter Tryz.func101, Tryz.ntmps101
    go_wp2_with fail
    go_loopw [5] (fun u5 wr => ∃ i : Nat, i ≤ (D10.toG n).length ∧ u5 = .int .i64 ((i : Nat) - 1 : Int) ∧ n / 10 ^ i = m / 10 ^ i ∧ Below w.heap.size w wr) (fun u5 _ => (Go.RowKit.intOf u5 + 1).toNat)
    case atStart => exact ⟨(D10.toG n).length, Nat.le_refl _, rfl, HQ.out, Below.refl _ _⟩
    case round =>
      obtain ⟨j, hj, rfl, hinv, hBr⟩ := hrel
      rename World => wr
      by_cases hj0 : j = 0
      · subst hj0
        have hnm : n = m := by rw [Nat.pow_zero, Nat.div_one, Nat.div_one] at hinv; exact hinv
        have e : N3.cmpI (n : Int) (m : Int) = 0 := by rw [hnm]; exact N3.cmpI_cast_self m
        have HE := Lib.hid e
        have hj1 : ((0 : Nat) : Int) - 1 = -1 := rfl
        rw [hj1]
        clear hinv hnm e HQ
        go_wp2
        go_ret
        exact ⟨by first | (rw [HE.out]; done) | (rw [HE.out]; rfl), hBr⟩
      · obtain ⟨i, rfl⟩ : ∃ i, j = i + 1 := ⟨j - 1, by omega⟩
        have hei : ((i + 1 : Nat) : Int) - 1 = (i : Int) := by omega
        rw [hei]
        have hil : i < (D10.toG n).length := by omega
        have him : i < (D10.toG m).length := by have := HL.out; omega
        obtain ⟨b1, off1, rfl, hce1⟩ := (SliceOf.below H1.out hBr).get (castL_get hil)
        obtain ⟨b2, off2, rfl, hce2⟩ := (SliceOf.below H2.out hBr).get (castL_get him)
        have hi1 : (0 : Int) ≤ (i : Int) ∧ (i : Int) < ((D10.toG n).length : Int) := by omega
        have hi2 : (0 : Int) ≤ (i : Int) ∧ (i : Int) < ((D10.toG m).length : Int) := by omega
        have hge : ¬ (i : Int) < 0 := by omega
        have hw1 : IntKind.i64.wrap ((i : Int) - 1) = (i : Int) - 1 := by rw [IntKind.wrap_i64]; omega
        by_cases hx : (D10.toG n).getD i 0 = (D10.toG m).getD i 0
        · have HE := Lib.hid (D10.ord_eq hinv hx)
          rw [← hx] at hce2
          clear hx hinv
          generalize (D10.toG n).getD i 0 = x at *
          go_wp2_with fail
          go_quiet (fail)
          generalize hq9 : World.drewN _ _ = W5
          have hB5 : Below w.heap.size w W5 := hq9 ▸ below_drewN hBr _
          clear hq9 hce1 hce2
          go_wp2_with fail
          go_roundw
          case rel => exact ⟨i, by omega, rfl, HE.out, hB5⟩
          case measure => simp [Go.RowKit.intOf]
        · rcases Nat.lt_or_gt_of_ne hx with hlt | hlt
          · have e : N3.cmpI (n : Int) (m : Int) = -1 := N3.cmpI_cast_lt (D10.ord_at hinv hlt)
            have HE := Lib.hid e
            have hq1 : (((D10.toG n).getD i 0 : Int) != ((D10.toG m).getD i 0 : Int)) = true := bne_iff_ne.2 (by omega)
            have hq2 : ((D10.toG n).getD i 0 : Int) < ((D10.toG m).getD i 0 : Int) := by omega
            clear hx hinv hlt e HQ
            generalize (D10.toG n).getD i 0 = x at *
            generalize (D10.toG m).getD i 0 = y at *
            go_wp2_with fail
            go_quiet (fail)
            generalize hq9 : World.drewN _ _ = W5
            have hB5 : Below w.heap.size w W5 := hq9 ▸ below_drewN hBr _
            have hb5 : Below wr.heap.size wr W5 := hq9 ▸ below_drewN (Below.refl _ _) _
            have hce1 := cell_keep hb5 hce1
            have hce2 := cell_keep hb5 hce2
            clear hq9
            go_wp2_with fail
            go_quiet (fail)
            generalize hq9 : World.drewN _ _ = W6
            have hB6 : Below w.heap.size w W6 := hq9 ▸ below_drewN hB5 _
            clear hq9
            go_wp2_with fail
            go_ret
            exact ⟨by first | (rw [HE.out]; done) | (rw [HE.out]; rfl), hB6⟩
          · have e : N3.cmpI (n : Int) (m : Int) = 1 := N3.cmpI_cast_gt (D10.ord_at hinv.symm hlt)
            have HE := Lib.hid e
            have hq1 : (((D10.toG n).getD i 0 : Int) != ((D10.toG m).getD i 0 : Int)) = true := bne_iff_ne.2 (by omega)
            have hq2 : ¬ ((D10.toG n).getD i 0 : Int) < ((D10.toG m).getD i 0 : Int) := by omega
            clear hx hinv hlt e HQ
            generalize (D10.toG n).getD i 0 = x at *
            generalize (D10.toG m).getD i 0 = y at *
            go_wp2_with fail
            go_quiet (fail)
            generalize hq9 : World.drewN _ _ = W5
            have hB5 : Below w.heap.size w W5 := hq9 ▸ below_drewN hBr _
            have hb5 : Below wr.heap.size wr W5 := hq9 ▸ below_drewN (Below.refl _ _) _
            have hce1 := cell_keep hb5 hce1
            have hce2 := cell_keep hb5 hce2
            clear hq9
            go_wp2_with fail
            go_quiet (fail)
            generalize hq9 : World.drewN _ _ = W6
            have hB6 : Below w.heap.size w W6 := hq9 ▸ below_drewN hB5 _
            clear hq9
            go_wp2_with fail
            go_ret
            exact ⟨by first | (rw [HE.out]; done) | (rw [HE.out]; rfl), hB6⟩
  · have hq : (((D10.toG n).length : Int) != ((D10.toG m).length : Int)) = true := bne_iff_ne.2 (by omega)
    rcases Nat.lt_or_gt_of_ne hne with hlt | hlt
    · have e : N3.cmpI (n : Int) (m : Int) = -1 := N3.cmpI_cast_lt (D10.ord_len hlt)
      rw [e]
      clear hne e
      generalize (D10.toG n).length = x at *
      generalize (D10.toG m).length = y at *
      go_enter Tryz.func101, Tryz.ntmps101
      go_wp2
      go_ret
      exact ⟨rfl, Below.refl _ _⟩
    · have e : N3.cmpI (n : Int) (m : Int) = 1 := N3.cmpI_cast_gt (D10.ord_len hlt)
      rw [e]
      have hq2 : ¬ ((D10.toG n).length : Int) < ((D10.toG m).length : Int) := by omega
      clear hne e
      generalize (D10.toG n).length = x at *
      generalize (D10.toG m).length = y at *
      go_enter Tryz.func101, Tryz.ntmps101
      go_wp2
      go_ret
      exact ⟨rfl, Below.refl _ _⟩
end Go.Proofs.YtjnpenljgfdaiaaGreatDoor
