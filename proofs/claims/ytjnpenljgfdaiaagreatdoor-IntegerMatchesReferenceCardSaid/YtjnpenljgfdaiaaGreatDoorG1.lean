/- package nadirref03: rows of digits of the call's own. -/
import Derived.Test.YtjnpenljgfdaiaaGreatDoorE2
import Derived.Test.YtjnpenljgfdaiaaGreatDoorPL
import Derived.Laws.AppendOwnNone
namespace Go.Proofs.YtjnpenljgfdaiaaGreatDoor
open Go.RowKit Go.Shelf Lib

/-- A number in digits, in a row of the call's own. -/
def OwnD (B : Nat) (w : World) (v : Value) (n : Nat) : Prop := w.ownsRow B 3 1 v (D10.toG n).length ((castL (D10.toG n)).map (Value.int .i64))
theorem own_ints {B : Nat} {w : World} {v : Value} {l : List Nat} (h : w.ownsRow B 3 1 v l.length ((castL l).map (Value.int .i64))) : IntsAt w v (castL l) := owned_slice (by rw [castL_len]; exact h)
theorem OwnD.dig {B : Nat} {w : World} {v : Value} {n : Nat} (h : OwnD B w v n) : DigAt w v n := own_ints h
theorem OwnD.below {B : Nat} {w w' : World} {v : Value} {n : Nat} (h : OwnD B w v n) (hb : Below w.heap.size w w') : OwnD B w' v n := owned_below h hb
theorem DigAt.below {w w' : World} {v : Value} {n : Nat} (h : DigAt w v n) (hb : Below w.heap.size w w') : DigAt w' v n := SliceOf.below h hb
theorem owned_short {B : Nat} {e : TypeId} {a : Option Addr} {n cap : Nat} {xs : List Value} {w : World} (h : w.ownsRow B e 1 (.slice a n cap) n xs) {m : Nat} (hm : m ≤ n) : w.ownsRow B e 1 (.slice a m cap) m (xs.take m) := by
  have h0 := h.1
  rcases h.2 with ⟨e1, hn⟩ | ⟨g, cap', cur, e1, hb, hg, h1, h2, h3, h4⟩
  · cases e1
    obtain rfl : m = 0 := by omega
    exact ⟨by simp, .inl ⟨rfl, rfl⟩⟩
  · cases e1
    refine ⟨by rw [List.length_take, h0]; omega, .inr ⟨g, cap, cur, rfl, hb, hg, by omega, h2, h3, ?_⟩⟩
    rw [← h4, List.take_take]; congr 1; omega
theorem own_nil (B : Nat) (w : World) : OwnD B w (.slice none 0 0) 0 := by
  unfold OwnD; rw [D10.toG_zero]; exact ⟨rfl, .inl ⟨rfl, rfl⟩⟩
theorem own_up {B B' : Nat} {w : World} {v : Value} {n : Nat} (h : OwnD B w v n) (hB : B' ≤ B) : OwnD B' w v n := by
  unfold OwnD at *
  exact ⟨h.1, h.2.imp id fun ⟨g, cap, cur, e, hb, r⟩ => ⟨g, cap, cur, e, Nat.le_trans hB hb, r⟩⟩
theorem casts_snoc (l : List Nat) (d : Nat) : (castL (l ++ [d])).map (Value.int .i64) = (castL l).map (Value.int .i64) ++ [.int .i64 (d : Nat)] := by
  unfold castL; rw [List.map_append, List.map_append]; rfl
theorem casts_set (l : List Nat) (i d : Nat) : (castL (l.set i d)).map (Value.int .i64) = ((castL l).map (Value.int .i64)).set i (.int .i64 (d : Nat)) := by
  unfold castL; rw [List.map_set, List.map_set]
theorem casts_len (l : List Nat) : ((castL l).map (Value.int .i64)).length = l.length := by simp [castL]
set_option maxRecDepth 100000 in
set_option maxHeartbeats 1000000 in
/-- Without zeros at the end: the same row. -/
theorem trim10_own (B : Nat) (v : Value) (l : List Nat) (w : World) (ho : w.ownsRow B 3 1 v l.length ((castL l).map (Value.int .i64))) (hok : D10.OKl l) :
    Calls Tryz.prog 83 #[v] w fun e w' => ∃ v', e = .returned v' ∧ OwnD B w v' (D10.val l) ∧ w = w' := by
  have hv := own_ints ho
  obtain ⟨a, cp, rfl, h1, h2⟩ := hv.len
  rw [castL_len] at h1 ho ⊢
  unfold maxLen at h2
  have HV := Lib.hid hv
  have HO := Lib.hid ho
  clear hv ho
  go_enter Tryz.func83, Tryz.ntmps83
  go_wp2
  go_loopw [0] (fun u0 wr => ∃ k : Nat, k ≤ l.length ∧ u0 = .slice a k cp ∧ (∀ j, k ≤ j → l.getD j 0 = 0) ∧ w = wr) (fun u0 _ => match u0 with | .slice _ k _ => k | _ => 0)
  case atStart => exact ⟨l.length, Nat.le_refl _, rfl, fun j hj => by rw [List.getD_eq_getElem?_getD, List.getElem?_eq_none hj]; rfl, rfl⟩
  case round =>
    obtain ⟨k, hk, rfl, hz, rfl⟩ := hrel
    have HZ := Lib.hid hz
    clear hz
    have hres : Hid (k = 0 ∨ l.getD (k - 1) 0 ≠ 0 → OwnD B w (.slice a k cp) (D10.val l)) := Lib.hid (fun hx => by
      unfold OwnD
      have e := D10.trim_eq hok hk HZ.out hx
      have e2 : (D10.toG (D10.val l)).length = k := by rw [← e, List.length_take]; omega
      rw [e2, ← e]
      have h3 := owned_short HO.out hk
      rw [← List.map_take, castL_take] at h3
      exact h3)
    by_cases h0 : 0 < k
    · obtain ⟨b, off, rfl, hc⟩ := HV.out.get (castL_get (show k - 1 < l.length by omega))
      have hw1 : IntKind.i64.wrap ((k : Int) - 1) = ((k - 1 : Nat) : Int) := by rw [IntKind.wrap_i64]; omega
      have hki : (0 : Int) ≤ ((k - 1 : Nat) : Int) ∧ ((k - 1 : Nat) : Int) < (k : Int) := by omega
      have hkc : (0 : Int) ≤ ((k - 1 : Nat) : Int) ∧ ((k - 1 : Nat) : Int) ≤ (cp : Int) := by omega
      by_cases hx : l.getD (k - 1) 0 = 0
      · rw [hx] at hc
        have HX := Lib.hid hx
        clear hx
        go_wp2
        go_roundw
        case rel =>
          refine ⟨k - 1, by omega, rfl, fun j hj => ?_, trivial⟩
          by_cases e : j = k - 1
          · rw [e]; exact HX.out
          · exact HZ.out j (by omega)
        case measure => simp; omega
      · have q : (((l.getD (k - 1) 0 : Nat) : Int) == 0) = false := beq_eq_false_iff_ne.2 (by omega)
        have HR := Lib.hid (hres.out (.inr hx))
        clear hx
        generalize l.getD (k - 1) 0 = y at hc q
        go_wp2
        go_ret
        exact ⟨_, rfl, HR.out, rfl⟩
    · obtain rfl : k = 0 := by omega
      have HR := Lib.hid (hres.out (.inl rfl))
      go_wp2
      go_ret
      exact ⟨_, rfl, HR.out, rfl⟩

set_option maxRecDepth 100000 in
set_option maxHeartbeats 2000000 in
theorem plus10 (v1 v2 : Value) (n m : Nat) (w : World) (h1 : DigAt w v1 n) (h2 : DigAt w v2 m) (l1 : (D10.toG n).length ≤ 100000) (l2 : (D10.toG m).length ≤ 100000) (l3 : (D10.toG (n + m)).length ≤ 100000) :
    Calls Tryz.prog 99 #[v1, v2] w fun e w' => ∃ v', e = .returned v' ∧ OwnD w.heap.size w' v' (n + m) ∧ Below w.heap.size w w' := by
  obtain ⟨a, cp, rfl, g1, g2⟩ := (show IntsAt w v1 _ from h1).len
  obtain ⟨b, cq, rfl, k1, k2⟩ := (show IntsAt w v2 _ from h2).len
  unfold DigAt at h1 h2
  rw [castL_len] at g1 k1 h1 h2
  rw [castL_len, castL_len]
  have H1 := Lib.hid h1
  have H2 := Lib.hid h2
  clear h1 h2
  go_enter Tryz.func99, Tryz.ntmps99
  go_wp2_with fail
  go_loopw [5, 6, 7, 8] (fun u5 u6 u7 _ wr => ∃ (i c : Nat) (O : List Nat), u7 = .int .i64 (i : Nat) ∧ u6 = .int .i64 (c : Nat) ∧ c ≤ 1 ∧ O.length = i ∧ D10.toG (n + m) = O ++ D10.toG (D10.restP n m c i) ∧ wr.ownsRow w.heap.size 3 1 u5 O.length ((castL O).map (Value.int .i64)) ∧ Below w.heap.size w wr) (fun _ _ u7 _ _ => (((D10.toG (n + m)).length : Int) - Go.RowKit.intOf u7).toNat)
  case atStart => exact ⟨0, 0, [], rfl, rfl, by decide, rfl, by rw [D10.restP_zero, List.nil_append], ⟨rfl, .inl ⟨rfl, rfl⟩⟩, Below.refl _ _⟩
  case round =>
    obtain ⟨i, c, O, rfl, rfl, hc1, hOi, hinv, hown, hBr⟩ := hrel
    rename World => wr
    obtain ⟨ra, rc, rfl, hr1, hr2⟩ := owned_len hown
    unfold maxLen at hr2
    have hbk : w.heap.size ≤ wr.heap.size := hBr.size
    have HO := Lib.hid hOi
    have HI := Lib.hid hinv
    have hlen : (D10.toG (D10.restP n m c i)).length + O.length = (D10.toG (n + m)).length := by rw [hinv, List.length_append]; omega
    have hdx := D10.get_lt n i
    have hdy := D10.get_lt m i
    have hstep := D10.plus_step (n := n) (m := m) (i := i) (c := c)
    by_cases hA : i < (D10.toG n).length
    · by_cases hB : i < (D10.toG m).length
      · have hnil : D10.toG (D10.restP n m c i) ≠ [] := by rw [hstep (by omega)]; exact List.cons_ne_nil _ _
        have hpos := List.length_pos_iff.2 hnil
        have HS := Lib.hid (hstep (by omega))
        obtain ⟨b1, off1, rfl, hce1⟩ := (SliceOf.below H1.out hBr).get (castL_get hA)
        have hi1 : (0 : Int) ≤ (i : Int) ∧ (i : Int) < ((D10.toG n).length : Int) := by omega
        obtain ⟨b2, off2, rfl, hce2⟩ := (SliceOf.below H2.out hBr).get (castL_get hB)
        have hi2 : (0 : Int) ≤ (i : Int) ∧ (i : Int) < ((D10.toG m).length : Int) := by omega
        clear hstep hnil hinv hOi
        generalize (D10.toG n).getD i 0 = x at *
        generalize (D10.toG m).getD i 0 = y at *
        have hwx : IntKind.i64.wrap ((c : Int) + (x : Int)) = ((c + x : Nat) : Int) := by rw [IntKind.wrap_i64]; omega
        have hcx10 : c + x ≤ 10 := by omega
        generalize c + x = cx at *
        have hwy : IntKind.i64.wrap (((cx : Nat) : Int) + (y : Int)) = ((cx + y : Nat) : Int) := by rw [IntKind.wrap_i64]; omega
        have hs : cx + y ≤ 19 := by omega
        rw [show cx + y = cx + y from rfl] at HS
        generalize cx + y = s at *
        have hq : Int.tdiv ((s : Nat) : Int) 10 = ((s / 10 : Nat) : Int) := by rw [Int.tdiv_eq_ediv_of_nonneg (by omega)]; omega
        have hr : Int.tmod ((s : Nat) : Int) 10 = ((s % 10 : Nat) : Int) := by rw [Int.tmod_eq_emod_of_nonneg (by omega)]; omega
        have hwq : IntKind.i64.wrap ((s / 10 : Nat) : Int) = ((s / 10 : Nat) : Int) := by rw [IntKind.wrap_i64]; omega
        have hwr : IntKind.i64.wrap ((s % 10 : Nat) : Int) = ((s % 10 : Nat) : Int) := by rw [IntKind.wrap_i64]; omega
        have hwi : IntKind.i64.wrap ((i : Int) + 1) = ((i + 1 : Nat) : Int) := by have := HO.out; rw [IntKind.wrap_i64]; omega
        have hon := Lib.hid (casts_snoc O (s % 10))
        have hcn : s / 10 ≤ 1 := by omega
        generalize hd1 : s / 10 = c2 at *
        generalize hd2 : s % 10 = d at *
        have HOWN := Lib.hid hown
        clear hown hd1 hd2
        go_wp2_with (at_builtin; refine wpList_push E72 rfl _ _ rfl w.heap.size HOWN.out rfl rfl rfl (by unfold maxLen; omega) (by omega) (by omega) ?_; intro v' w3 ho3 hg3 hB3)
        go_roundw
        case rel => exact ⟨i + 1, c2, O ++ [d], by go_num, rfl, hcn, by rw [List.length_append, HO.out]; rfl, by rw [HI.out, HS.out, List.append_assoc]; rfl, by rw [hon.out, List.length_append]; exact ho3, hBr.trans hB3⟩
        case measure => have := HO.out; simp [Go.RowKit.intOf]; omega
      · have hnil : D10.toG (D10.restP n m c i) ≠ [] := by rw [hstep (by omega)]; exact List.cons_ne_nil _ _
        have hpos := List.length_pos_iff.2 hnil
        have HS := Lib.hid (hstep (by omega))
        obtain ⟨b1, off1, rfl, hce1⟩ := (SliceOf.below H1.out hBr).get (castL_get hA)
        have hi1 : (0 : Int) ≤ (i : Int) ∧ (i : Int) < ((D10.toG n).length : Int) := by omega
        have q2 : ¬ (i : Int) < ((D10.toG m).length : Int) := by omega
        rw [D10.toG_over hB] at HS hdy
        clear hstep hnil hinv hOi
        generalize (D10.toG n).getD i 0 = x at *
        have hwx : IntKind.i64.wrap ((c : Int) + (x : Int)) = ((c + x : Nat) : Int) := by rw [IntKind.wrap_i64]; omega
        have hs : c + x ≤ 19 := by omega
        rw [show c + x + 0 = c + x from rfl] at HS
        generalize c + x = s at *
        have hq : Int.tdiv ((s : Nat) : Int) 10 = ((s / 10 : Nat) : Int) := by rw [Int.tdiv_eq_ediv_of_nonneg (by omega)]; omega
        have hr : Int.tmod ((s : Nat) : Int) 10 = ((s % 10 : Nat) : Int) := by rw [Int.tmod_eq_emod_of_nonneg (by omega)]; omega
        have hwq : IntKind.i64.wrap ((s / 10 : Nat) : Int) = ((s / 10 : Nat) : Int) := by rw [IntKind.wrap_i64]; omega
        have hwr : IntKind.i64.wrap ((s % 10 : Nat) : Int) = ((s % 10 : Nat) : Int) := by rw [IntKind.wrap_i64]; omega
        have hwi : IntKind.i64.wrap ((i : Int) + 1) = ((i + 1 : Nat) : Int) := by have := HO.out; rw [IntKind.wrap_i64]; omega
        have hon := Lib.hid (casts_snoc O (s % 10))
        have hcn : s / 10 ≤ 1 := by omega
        generalize hd1 : s / 10 = c2 at *
        generalize hd2 : s % 10 = d at *
        have HOWN := Lib.hid hown
        clear hown hd1 hd2
        go_wp2_with (at_builtin; refine wpList_push E72 rfl _ _ rfl w.heap.size HOWN.out rfl rfl rfl (by unfold maxLen; omega) (by omega) (by omega) ?_; intro v' w3 ho3 hg3 hB3)
        go_roundw
        case rel => exact ⟨i + 1, c2, O ++ [d], by go_num, rfl, hcn, by rw [List.length_append, HO.out]; rfl, by rw [HI.out, HS.out, List.append_assoc]; rfl, by rw [hon.out, List.length_append]; exact ho3, hBr.trans hB3⟩
        case measure => have := HO.out; simp [Go.RowKit.intOf]; omega
    · by_cases hB : i < (D10.toG m).length
      · have hnil : D10.toG (D10.restP n m c i) ≠ [] := by rw [hstep (by omega)]; exact List.cons_ne_nil _ _
        have hpos := List.length_pos_iff.2 hnil
        have HS := Lib.hid (hstep (by omega))
        have q1 : ¬ (i : Int) < ((D10.toG n).length : Int) := by omega
        rw [D10.toG_over hA] at HS hdx
        obtain ⟨b2, off2, rfl, hce2⟩ := (SliceOf.below H2.out hBr).get (castL_get hB)
        have hi2 : (0 : Int) ≤ (i : Int) ∧ (i : Int) < ((D10.toG m).length : Int) := by omega
        clear hstep hnil hinv hOi
        generalize (D10.toG m).getD i 0 = y at *
        have hwy : IntKind.i64.wrap (((c : Nat) : Int) + (y : Int)) = ((c + y : Nat) : Int) := by rw [IntKind.wrap_i64]; omega
        have hs : c + y ≤ 19 := by omega
        rw [show c + 0 + y = c + y from rfl] at HS
        generalize c + y = s at *
        have hq : Int.tdiv ((s : Nat) : Int) 10 = ((s / 10 : Nat) : Int) := by rw [Int.tdiv_eq_ediv_of_nonneg (by omega)]; omega
        have hr : Int.tmod ((s : Nat) : Int) 10 = ((s % 10 : Nat) : Int) := by rw [Int.tmod_eq_emod_of_nonneg (by omega)]; omega
        have hwq : IntKind.i64.wrap ((s / 10 : Nat) : Int) = ((s / 10 : Nat) : Int) := by rw [IntKind.wrap_i64]; omega
        have hwr : IntKind.i64.wrap ((s % 10 : Nat) : Int) = ((s % 10 : Nat) : Int) := by rw [IntKind.wrap_i64]; omega
        have hwi : IntKind.i64.wrap ((i : Int) + 1) = ((i + 1 : Nat) : Int) := by have := HO.out; rw [IntKind.wrap_i64]; omega
        have hon := Lib.hid (casts_snoc O (s % 10))
        have hcn : s / 10 ≤ 1 := by omega
        generalize hd1 : s / 10 = c2 at *
        generalize hd2 : s % 10 = d at *
        have HOWN := Lib.hid hown
        clear hown hd1 hd2
        go_wp2_with (at_builtin; refine wpList_push E72 rfl _ _ rfl w.heap.size HOWN.out rfl rfl rfl (by unfold maxLen; omega) (by omega) (by omega) ?_; intro v' w3 ho3 hg3 hB3)
        go_roundw
        case rel => exact ⟨i + 1, c2, O ++ [d], by go_num, rfl, hcn, by rw [List.length_append, HO.out]; rfl, by rw [HI.out, HS.out, List.append_assoc]; rfl, by rw [hon.out, List.length_append]; exact ho3, hBr.trans hB3⟩
        case measure => have := HO.out; simp [Go.RowKit.intOf]; omega
      · by_cases hcc : 0 < c
        · have hnil : D10.toG (D10.restP n m c i) ≠ [] := by rw [hstep (by omega)]; exact List.cons_ne_nil _ _
          have hpos := List.length_pos_iff.2 hnil
          have HS := Lib.hid (hstep (by omega))
          have q1 : ¬ (i : Int) < ((D10.toG n).length : Int) := by omega
          rw [D10.toG_over hA] at HS hdx
          have q2 : ¬ (i : Int) < ((D10.toG m).length : Int) := by omega
          rw [D10.toG_over hB] at HS hdy
          clear hstep hnil hinv hOi
          have hs : c ≤ 19 := by omega
          rw [show c + 0 + 0 = c from rfl] at HS
          have hq : Int.tdiv ((c : Nat) : Int) 10 = ((c / 10 : Nat) : Int) := by rw [Int.tdiv_eq_ediv_of_nonneg (by omega)]; omega
          have hr : Int.tmod ((c : Nat) : Int) 10 = ((c % 10 : Nat) : Int) := by rw [Int.tmod_eq_emod_of_nonneg (by omega)]; omega
          have hwq : IntKind.i64.wrap ((c / 10 : Nat) : Int) = ((c / 10 : Nat) : Int) := by rw [IntKind.wrap_i64]; omega
          have hwr : IntKind.i64.wrap ((c % 10 : Nat) : Int) = ((c % 10 : Nat) : Int) := by rw [IntKind.wrap_i64]; omega
          have hwi : IntKind.i64.wrap ((i : Int) + 1) = ((i + 1 : Nat) : Int) := by have := HO.out; rw [IntKind.wrap_i64]; omega
          have hon := Lib.hid (casts_snoc O (c % 10))
          have hcn : c / 10 ≤ 1 := by omega
          generalize hd1 : c / 10 = c2 at *
          generalize hd2 : c % 10 = d at *
          have HOWN := Lib.hid hown
          clear hown hd1 hd2
          go_wp2_with (at_builtin; refine wpList_push E72 rfl _ _ rfl w.heap.size HOWN.out rfl rfl rfl (by unfold maxLen; omega) (by omega) (by omega) ?_; intro v' w3 ho3 hg3 hB3)
          go_roundw
          case rel => exact ⟨i + 1, c2, O ++ [d], by go_num, rfl, hcn, by rw [List.length_append, HO.out]; rfl, by rw [HI.out, HS.out, List.append_assoc]; rfl, by rw [hon.out, List.length_append]; exact ho3, hBr.trans hB3⟩
          case measure => have := HO.out; simp [Go.RowKit.intOf]; omega
        · obtain rfl : c = 0 := by omega
          have q1 : ¬ (i : Int) < ((D10.toG n).length : Int) := by omega
          have q2 : ¬ (i : Int) < ((D10.toG m).length : Int) := by omega
          have hres : OwnD w.heap.size wr (.slice ra O.length rc) (n + m) := by
            have e : D10.toG (n + m) = O := by rw [hinv, D10.plus_end hA hB hcc, List.append_nil]
            unfold OwnD; rw [e]; exact hown
          clear hown hinv hstep hlen hdx hdy hOi
          go_wp2
          go_ret
          exact ⟨_, rfl, hres, hBr⟩
end Go.Proofs.YtjnpenljgfdaiaaGreatDoor
