/- package nadirref03, whole: plus, minus, order, times, divided, Valid, digits, Add .. Gcd, Root, FromInt, ToInt. -/
import Derived.Test.YtjnpenljgfdaiaaGreatDoorE2
import Derived.Test.YtjnpenljgfdaiaaGreatDoorPL
import Derived.Laws.AppendOwnNone
import Derived.BigQuiet
/- package nadirref03: rows of digits of the call's own. -/
namespace Go.Proofs.YtjnpenljgfdaiaaGreatDoor
open Go.RowKit Go.Shelf Lib

/-- A number in digits, in a row of the call's own. -/
def OwnD (B : Nat) (w : World) (v : Value) (n : Nat) : Prop := w.ownsRow B 3 1 v (D10.toG n).length ((castL (D10.toG n)).map (Value.int .i64))
theorem own_ints {B : Nat} {w : World} {v : Value} {l : List Nat} (h : w.ownsRow B 3 1 v l.length ((castL l).map (Value.int .i64))) : IntsAt w v (castL l) := owned_slice (by rw [castL_len]; exact h)
theorem OwnD.dig {B : Nat} {w : World} {v : Value} {n : Nat} (h : OwnD B w v n) : DigAt w v n := own_ints h
theorem OwnD.below {B : Nat} {w w' : World} {v : Value} {n : Nat} (h : OwnD B w v n) (hb : Below w.heap.size w w') : OwnD B w' v n := owned_below h hb
theorem DigAt.below {w w' : World} {v : Value} {n : Nat} (h : DigAt w v n) (hb : Below w.heap.size w w') : DigAt w' v n := SliceOf.below h hb
theorem owned_short {B : Nat} {e : TypeId} {a : Option Addr} {n cap : Nat} {xs : List Value} {w : World} (h : w.ownsRow B e 1 (.slice a n cap) n xs) {m : Nat} (hm : m ≤ n) : w.ownsRow B e 1 (.slice a m cap) m (xs.take m) := by
  have h0 := h.1
  rcases h.2 with ⟨e1, hn⟩ | ⟨g, cap', cur, e1, hb, hg, h1, h2, h3, h4⟩
  · cases e1
    obtain rfl : m = 0 := by omega
    exact ⟨by simp, .inl ⟨rfl, rfl⟩⟩
  · cases e1
    refine ⟨by rw [List.length_take, h0]; omega, .inr ⟨g, cap, cur, rfl, hb, hg, by omega, h2, h3, ?_⟩⟩
    rw [← h4, List.take_take]; congr 1; omega
theorem own_nil (B : Nat) (w : World) : OwnD B w (.slice none 0 0) 0 := by
  unfold OwnD; rw [D10.toG_zero]; exact ⟨rfl, .inl ⟨rfl, rfl⟩⟩
theorem own_up {B B' : Nat} {w : World} {v : Value} {n : Nat} (h : OwnD B w v n) (hB : B' ≤ B) : OwnD B' w v n := by
  unfold OwnD at *
  exact ⟨h.1, h.2.imp id fun ⟨g, cap, cur, e, hb, r⟩ => ⟨g, cap, cur, e, Nat.le_trans hB hb, r⟩⟩
theorem casts_snoc (l : List Nat) (d : Nat) : (castL (l ++ [d])).map (Value.int .i64) = (castL l).map (Value.int .i64) ++ [.int .i64 (d : Nat)] := by
  unfold castL; rw [List.map_append, List.map_append]; rfl
theorem casts_set (l : List Nat) (i d : Nat) : (castL (l.set i d)).map (Value.int .i64) = ((castL l).map (Value.int .i64)).set i (.int .i64 (d : Nat)) := by
  unfold castL; rw [List.map_set, List.map_set]
theorem casts_len (l : List Nat) : ((castL l).map (Value.int .i64)).length = l.length := by simp [castL]
set_option maxRecDepth 100000 in
set_option maxHeartbeats 1000000 in
/-- Without zeros at the end: the same row. -/
theorem trim10_own (B : Nat) (v : Value) (l : List Nat) (w : World) (ho : w.ownsRow B 3 1 v l.length ((castL l).map (Value.int .i64))) (hok : D10.OKl l) :
    Calls Tryz.prog 83 #[v] w fun e w' => ∃ v', e = .returned v' ∧ OwnD B w v' (D10.val l) ∧ w = w' := by
  have hv := own_ints ho
  obtain ⟨a, cp, rfl, h1, h2⟩ := hv.len
  rw [castL_len] at h1 ho ⊢
  unfold maxLen at h2
  have HV := Lib.hid hv
  have HO := Lib.hid ho
  clear hv ho
  go_enter Tryz.func83, Tryz.ntmps83
  go_wp2
  go_loopw [0] (fun u0 wr => ∃ k : Nat, k ≤ l.length ∧ u0 = .slice a k cp ∧ (∀ j, k ≤ j → l.getD j 0 = 0) ∧ w = wr) (fun u0 _ => match u0 with | .slice _ k _ => k | _ => 0)
  case atStart => exact ⟨l.length, Nat.le_refl _, rfl, fun j hj => by rw [List.getD_eq_getElem?_getD, List.getElem?_eq_none hj]; rfl, rfl⟩
  case round =>
    obtain ⟨k, hk, rfl, hz, rfl⟩ := hrel
    have HZ := Lib.hid hz
    clear hz
    have hres : Hid (k = 0 ∨ l.getD (k - 1) 0 ≠ 0 → OwnD B w (.slice a k cp) (D10.val l)) := Lib.hid (fun hx => by
      unfold OwnD
      have e := D10.trim_eq hok hk HZ.out hx
      have e2 : (D10.toG (D10.val l)).length = k := by rw [← e, List.length_take]; omega
      rw [e2, ← e]
      have h3 := owned_short HO.out hk
      rw [← List.map_take, castL_take] at h3
      exact h3)
    by_cases h0 : 0 < k
    · obtain ⟨b, off, rfl, hc⟩ := HV.out.get (castL_get (show k - 1 < l.length by omega))
      have hw1 : IntKind.i64.wrap ((k : Int) - 1) = ((k - 1 : Nat) : Int) := by rw [IntKind.wrap_i64]; omega
      have hki : (0 : Int) ≤ ((k - 1 : Nat) : Int) ∧ ((k - 1 : Nat) : Int) < (k : Int) := by omega
      have hkc : (0 : Int) ≤ ((k - 1 : Nat) : Int) ∧ ((k - 1 : Nat) : Int) ≤ (cp : Int) := by omega
      by_cases hx : l.getD (k - 1) 0 = 0
      · rw [hx] at hc
        have HX := Lib.hid hx
        clear hx
        go_wp2
        go_roundw
        case rel =>
          refine ⟨k - 1, by omega, rfl, fun j hj => ?_, trivial⟩
          by_cases e : j = k - 1
          · rw [e]; exact HX.out
          · exact HZ.out j (by omega)
        case measure => simp; omega
      · have q : (((l.getD (k - 1) 0 : Nat) : Int) == 0) = false := beq_eq_false_iff_ne.2 (by omega)
        have HR := Lib.hid (hres.out (.inr hx))
        clear hx
        generalize l.getD (k - 1) 0 = y at hc q
        go_wp2
        go_ret
        exact ⟨_, rfl, HR.out, rfl⟩
    · obtain rfl : k = 0 := by omega
      have HR := Lib.hid (hres.out (.inl rfl))
      go_wp2
      go_ret
      exact ⟨_, rfl, HR.out, rfl⟩

set_option maxRecDepth 100000 in
set_option maxHeartbeats 2000000 in
theorem plus10 (v1 v2 : Value) (n m : Nat) (w : World) (h1 : DigAt w v1 n) (h2 : DigAt w v2 m) (l1 : (D10.toG n).length ≤ 100000) (l2 : (D10.toG m).length ≤ 100000) (l3 : (D10.toG (n + m)).length ≤ 100000) :
    Calls Tryz.prog 99 #[v1, v2] w fun e w' => ∃ v', e = .returned v' ∧ OwnD w.heap.size w' v' (n + m) ∧ Below w.heap.size w w' := by
  obtain ⟨a, cp, rfl, g1, g2⟩ := (show IntsAt w v1 _ from h1).len
  obtain ⟨b, cq, rfl, k1, k2⟩ := (show IntsAt w v2 _ from h2).len
  unfold DigAt at h1 h2
  rw [castL_len] at g1 k1 h1 h2
  rw [castL_len, castL_len]
  have H1 := Lib.hid h1
  have H2 := Lib.hid h2
  clear h1 h2
  go_enter Tryz.func99, Tryz.ntmps99
  go_wp2_with fail
  go_loopw [5, 6, 7, 8] (fun u5 u6 u7 _ wr => ∃ (i c : Nat) (O : List Nat), u7 = .int .i64 (i : Nat) ∧ u6 = .int .i64 (c : Nat) ∧ c ≤ 1 ∧ O.length = i ∧ D10.toG (n + m) = O ++ D10.toG (D10.restP n m c i) ∧ wr.ownsRow w.heap.size 3 1 u5 O.length ((castL O).map (Value.int .i64)) ∧ Below w.heap.size w wr) (fun _ _ u7 _ _ => (((D10.toG (n + m)).length : Int) - Go.RowKit.intOf u7).toNat)
  case atStart => exact ⟨0, 0, [], rfl, rfl, by decide, rfl, by rw [D10.restP_zero, List.nil_append], ⟨rfl, .inl ⟨rfl, rfl⟩⟩, Below.refl _ _⟩
  case round =>
    obtain ⟨i, c, O, rfl, rfl, hc1, hOi, hinv, hown, hBr⟩ := hrel
    rename World => wr
    obtain ⟨ra, rc, rfl, hr1, hr2⟩ := owned_len hown
    unfold maxLen at hr2
    have hbk : w.heap.size ≤ wr.heap.size := hBr.size
    have HO := Lib.hid hOi
    have HI := Lib.hid hinv
    have hlen : (D10.toG (D10.restP n m c i)).length + O.length = (D10.toG (n + m)).length := by rw [hinv, List.length_append]; omega
    have hdx := D10.get_lt n i
    have hdy := D10.get_lt m i
    have hstep := D10.plus_step (n := n) (m := m) (i := i) (c := c)
    by_cases hA : i < (D10.toG n).length
    · by_cases hB : i < (D10.toG m).length
      · have hnil : D10.toG (D10.restP n m c i) ≠ [] := by rw [hstep (by omega)]; exact List.cons_ne_nil _ _
        have hpos := List.length_pos_iff.2 hnil
        have HS := Lib.hid (hstep (by omega))
        obtain ⟨b1, off1, rfl, hce1⟩ := (SliceOf.below H1.out hBr).get (castL_get hA)
        have hi1 : (0 : Int) ≤ (i : Int) ∧ (i : Int) < ((D10.toG n).length : Int) := by omega
        obtain ⟨b2, off2, rfl, hce2⟩ := (SliceOf.below H2.out hBr).get (castL_get hB)
        have hi2 : (0 : Int) ≤ (i : Int) ∧ (i : Int) < ((D10.toG m).length : Int) := by omega
        clear hstep hnil hinv hOi
        generalize (D10.toG n).getD i 0 = x at *
        generalize (D10.toG m).getD i 0 = y at *
        have hwx : IntKind.i64.wrap ((c : Int) + (x : Int)) = ((c + x : Nat) : Int) := by rw [IntKind.wrap_i64]; omega
        have hcx10 : c + x ≤ 10 := by omega
        generalize c + x = cx at *
        have hwy : IntKind.i64.wrap (((cx : Nat) : Int) + (y : Int)) = ((cx + y : Nat) : Int) := by rw [IntKind.wrap_i64]; omega
        have hs : cx + y ≤ 19 := by omega
        rw [show cx + y = cx + y from rfl] at HS
        generalize cx + y = s at *
        have hq : Int.tdiv ((s : Nat) : Int) 10 = ((s / 10 : Nat) : Int) := by rw [Int.tdiv_eq_ediv_of_nonneg (by omega)]; omega
        have hr : Int.tmod ((s : Nat) : Int) 10 = ((s % 10 : Nat) : Int) := by rw [Int.tmod_eq_emod_of_nonneg (by omega)]; omega
        have hwq : IntKind.i64.wrap ((s / 10 : Nat) : Int) = ((s / 10 : Nat) : Int) := by rw [IntKind.wrap_i64]; omega
        have hwr : IntKind.i64.wrap ((s % 10 : Nat) : Int) = ((s % 10 : Nat) : Int) := by rw [IntKind.wrap_i64]; omega
        have hwi : IntKind.i64.wrap ((i : Int) + 1) = ((i + 1 : Nat) : Int) := by have := HO.out; rw [IntKind.wrap_i64]; omega
        have hon := Lib.hid (casts_snoc O (s % 10))
        have hcn : s / 10 ≤ 1 := by omega
        generalize hd1 : s / 10 = c2 at *
        generalize hd2 : s % 10 = d at *
        have HOWN := Lib.hid hown
        clear hown hd1 hd2
        go_wp2_with (at_builtin; refine wpList_push E72 rfl _ _ rfl w.heap.size HOWN.out rfl rfl rfl (by unfold maxLen; omega) (by omega) (by omega) ?_; intro v' w3 ho3 hg3 hB3)
        go_roundw
        case rel => exact ⟨i + 1, c2, O ++ [d], by go_num, rfl, hcn, by rw [List.length_append, HO.out]; rfl, by rw [HI.out, HS.out, List.append_assoc]; rfl, by rw [hon.out, List.length_append]; exact ho3, hBr.trans hB3⟩
        case measure => have := HO.out; simp [Go.RowKit.intOf]; omega
      · have hnil : D10.toG (D10.restP n m c i) ≠ [] := by rw [hstep (by omega)]; exact List.cons_ne_nil _ _
        have hpos := List.length_pos_iff.2 hnil
        have HS := Lib.hid (hstep (by omega))
        obtain ⟨b1, off1, rfl, hce1⟩ := (SliceOf.below H1.out hBr).get (castL_get hA)
        have hi1 : (0 : Int) ≤ (i : Int) ∧ (i : Int) < ((D10.toG n).length : Int) := by omega
        have q2 : ¬ (i : Int) < ((D10.toG m).length : Int) := by omega
        rw [D10.toG_over hB] at HS hdy
        clear hstep hnil hinv hOi
        generalize (D10.toG n).getD i 0 = x at *
        have hwx : IntKind.i64.wrap ((c : Int) + (x : Int)) = ((c + x : Nat) : Int) := by rw [IntKind.wrap_i64]; omega
        have hs : c + x ≤ 19 := by omega
        rw [show c + x + 0 = c + x from rfl] at HS
        generalize c + x = s at *
        have hq : Int.tdiv ((s : Nat) : Int) 10 = ((s / 10 : Nat) : Int) := by rw [Int.tdiv_eq_ediv_of_nonneg (by omega)]; omega
        have hr : Int.tmod ((s : Nat) : Int) 10 = ((s % 10 : Nat) : Int) := by rw [Int.tmod_eq_emod_of_nonneg (by omega)]; omega
        have hwq : IntKind.i64.wrap ((s / 10 : Nat) : Int) = ((s / 10 : Nat) : Int) := by rw [IntKind.wrap_i64]; omega
        have hwr : IntKind.i64.wrap ((s % 10 : Nat) : Int) = ((s % 10 : Nat) : Int) := by rw [IntKind.wrap_i64]; omega
        have hwi : IntKind.i64.wrap ((i : Int) + 1) = ((i + 1 : Nat) : Int) := by have := HO.out; rw [IntKind.wrap_i64]; omega
        have hon := Lib.hid (casts_snoc O (s % 10))
        have hcn : s / 10 ≤ 1 := by omega
        generalize hd1 : s / 10 = c2 at *
        generalize hd2 : s % 10 = d at *
        have HOWN := Lib.hid hown
        clear hown hd1 hd2
        go_wp2_with (at_builtin; refine wpList_push E72 rfl _ _ rfl w.heap.size HOWN.out rfl rfl rfl (by unfold maxLen; omega) (by omega) (by omega) ?_; intro v' w3 ho3 hg3 hB3)
        go_roundw
        case rel => exact ⟨i + 1, c2, O ++ [d], by go_num, rfl, hcn, by rw [List.length_append, HO.out]; rfl, by rw [HI.out, HS.out, List.append_assoc]; rfl, by rw [hon.out, List.length_append]; exact ho3, hBr.trans hB3⟩
        case measure => have := HO.out; simp [Go.RowKit.intOf]; omega
    · by_cases hB : i < (D10.toG m).length
      · have hnil : D10.toG (D10.restP n m c i) ≠ [] := by rw [hstep (by omega)]; exact List.cons_ne_nil _ _
        have hpos := List.length_pos_iff.2 hnil
        have HS := Lib.hid (hstep (by omega))
        have q1 : ¬ (i : Int) < ((D10.toG n).length : Int) := by omega
        rw [D10.toG_over hA] at HS hdx
        obtain ⟨b2, off2, rfl, hce2⟩ := (SliceOf.below H2.out hBr).get (castL_get hB)
        have hi2 : (0 : Int) ≤ (i : Int) ∧ (i : Int) < ((D10.toG m).length : Int) := by omega
        clear hstep hnil hinv hOi
        generalize (D10.toG m).getD i 0 = y at *
        have hwy : IntKind.i64.wrap (((c : Nat) : Int) + (y : Int)) = ((c + y : Nat) : Int) := by rw [IntKind.wrap_i64]; omega
        have hs : c + y ≤ 19 := by omega
        rw [show c + 0 + y = c + y from rfl] at HS
        generalize c + y = s at *
        have hq : Int.tdiv ((s : Nat) : Int) 10 = ((s / 10 : Nat) : Int) := by rw [Int.tdiv_eq_ediv_of_nonneg (by omega)]; omega
        have hr : Int.tmod ((s : Nat) : Int) 10 = ((s % 10 : Nat) : Int) := by rw [Int.tmod_eq_emod_of_nonneg (by omega)]; omega
        have hwq : IntKind.i64.wrap ((s / 10 : Nat) : Int) = ((s / 10 : Nat) : Int) := by rw [IntKind.wrap_i64]; omega
        have hwr : IntKind.i64.wrap ((s % 10 : Nat) : Int) = ((s % 10 : Nat) : Int) := by rw [IntKind.wrap_i64]; omega
        have hwi : IntKind.i64.wrap ((i : Int) + 1) = ((i + 1 : Nat) : Int) := by have := HO.out; rw [IntKind.wrap_i64]; omega
        have hon := Lib.hid (casts_snoc O (s % 10))
        have hcn : s / 10 ≤ 1 := by omega
        generalize hd1 : s / 10 = c2 at *
        generalize hd2 : s % 10 = d at *
        have HOWN := Lib.hid hown
        clear hown hd1 hd2
        go_wp2_with (at_builtin; refine wpList_push E72 rfl _ _ rfl w.heap.size HOWN.out rfl rfl rfl (by unfold maxLen; omega) (by omega) (by omega) ?_; intro v' w3 ho3 hg3 hB3)
        go_roundw
        case rel => exact ⟨i + 1, c2, O ++ [d], by go_num, rfl, hcn, by rw [List.length_append, HO.out]; rfl, by rw [HI.out, HS.out, List.append_assoc]; rfl, by rw [hon.out, List.length_append]; exact ho3, hBr.trans hB3⟩
        case measure => have := HO.out; simp [Go.RowKit.intOf]; omega
      · by_cases hcc : 0 < c
        · have hnil : D10.toG (D10.restP n m c i) ≠ [] := by rw [hstep (by omega)]; exact List.cons_ne_nil _ _
          have hpos := List.length_pos_iff.2 hnil
          have HS := Lib.hid (hstep (by omega))
          have q1 : ¬ (i : Int) < ((D10.toG n).length : Int) := by omega
          rw [D10.toG_over hA] at HS hdx
          have q2 : ¬ (i : Int) < ((D10.toG m).length : Int) := by omega
          rw [D10.toG_over hB] at HS hdy
          clear hstep hnil hinv hOi
          have hs : c ≤ 19 := by omega
          rw [show c + 0 + 0 = c from rfl] at HS
          have hq : Int.tdiv ((c : Nat) : Int) 10 = ((c / 10 : Nat) : Int) := by rw [Int.tdiv_eq_ediv_of_nonneg (by omega)]; omega
          have hr : Int.tmod ((c : Nat) : Int) 10 = ((c % 10 : Nat) : Int) := by rw [Int.tmod_eq_emod_of_nonneg (by omega)]; omega
          have hwq : IntKind.i64.wrap ((c / 10 : Nat) : Int) = ((c / 10 : Nat) : Int) := by rw [IntKind.wrap_i64]; omega
          have hwr : IntKind.i64.wrap ((c % 10 : Nat) : Int) = ((c % 10 : Nat) : Int) := by rw [IntKind.wrap_i64]; omega
          have hwi : IntKind.i64.wrap ((i : Int) + 1) = ((i + 1 : Nat) : Int) := by have := HO.out; rw [IntKind.wrap_i64]; omega
          have hon := Lib.hid (casts_snoc O (c % 10))
          have hcn : c / 10 ≤ 1 := by omega
          generalize hd1 : c / 10 = c2 at *
          generalize hd2 : c % 10 = d at *
          have HOWN := Lib.hid hown
          clear hown hd1 hd2
          go_wp2_with (at_builtin; refine wpList_push E72 rfl _ _ rfl w.heap.size HOWN.out rfl rfl rfl (by unfold maxLen; omega) (by omega) (by omega) ?_; intro v' w3 ho3 hg3 hB3)
          go_roundw
          case rel => exact ⟨i + 1, c2, O ++ [d], by go_num, rfl, hcn, by rw [List.length_append, HO.out]; rfl, by rw [HI.out, HS.out, List.append_assoc]; rfl, by rw [hon.out, List.length_append]; exact ho3, hBr.trans hB3⟩
          case measure => have := HO.out; simp [Go.RowKit.intOf]; omega
        · obtain rfl : c = 0 := by omega
          have q1 : ¬ (i : Int) < ((D10.toG n).length : Int) := by omega
          have q2 : ¬ (i : Int) < ((D10.toG m).length : Int) := by omega
          have hres : OwnD w.heap.size wr (.slice ra O.length rc) (n + m) := by
            have e : D10.toG (n + m) = O := by rw [hinv, D10.plus_end hA hB hcc, List.append_nil]
            unfold OwnD; rw [e]; exact hown
          clear hown hinv hstep hlen hdx hdy hOi
          go_wp2
          go_ret
          exact ⟨_, rfl, hres, hBr⟩
end Go.Proofs.YtjnpenljgfdaiaaGreatDoor

/- package nadirref03: differences, and the order. -/
namespace Go.Proofs.YtjnpenljgfdaiaaGreatDoor
open Go.RowKit Go.Shelf Lib

theorem cell_keep {w w' : World} (h : Below w.heap.size w w') {p : Addr} {v : Value} (hc : w.cell? p = some v) : w'.cell? p = some v := by
  refine (h.cell (Classical.byContradiction fun hn => ?_)).trans hc
  have : w.heap[p.block]? = none := Array.getElem?_eq_none (by omega)
  simp [World.cell?, this] at hc
theorem below_drewN {B : Nat} {w w' : World} (h : Below B w w') (n : Nat) : Below B w (w'.drewN n) := ⟨h.os, h.tape, h.output, h.size, h.block⟩
set_option maxRecDepth 100000 in
set_option maxHeartbeats 2000000 in
theorem minus10 (v1 v2 : Value) (n m : Nat) (w : World) (h1 : DigAt w v1 n) (h2 : DigAt w v2 m) (hmn : m ≤ n) (l1 : (D10.toG n).length ≤ 100000) (_l2 : (D10.toG m).length ≤ 100000) :
    Calls Tryz.prog 100 #[v1, v2] w fun e w' => ∃ v', e = .returned v' ∧ OwnD w.heap.size w' v' (n - m) ∧ Below w.heap.size w w' := by
  obtain ⟨a, cp, rfl, g1, g2⟩ := (show IntsAt w v1 _ from h1).len
  obtain ⟨b, cq, rfl, k1, k2⟩ := (show IntsAt w v2 _ from h2).len
  unfold DigAt at h1 h2
  rw [castL_len] at g1 k1 h1 h2
  rw [castL_len, castL_len]
  have H1 := Lib.hid h1
  have H2 := Lib.hid h2
  have HT := Lib.hid trim10_own
  clear h1 h2
  go_enter Tryz.func100, Tryz.ntmps100
  go_wp2_with fail
  go_loopw [5, 6, 7, 8] (fun u5 u6 u7 _ wr => ∃ (i bo : Nat) (O : List Nat), u7 = .int .i64 (i : Nat) ∧ u6 = .int .i64 (bo : Nat) ∧ bo ≤ 1 ∧ i ≤ (D10.toG n).length ∧ O.length = i ∧ D10.OKl O ∧ D10.val O + m % 10 ^ i = n % 10 ^ i + bo * 10 ^ i ∧ wr.ownsRow w.heap.size 3 1 u5 O.length ((castL O).map (Value.int .i64)) ∧ Below w.heap.size w wr) (fun _ _ u7 _ _ => (((D10.toG n).length : Int) - Go.RowKit.intOf u7).toNat)
  case atStart => exact ⟨0, 0, [], rfl, rfl, by decide, Nat.zero_le _, rfl, (fun x hx => by cases hx), by simp [D10.val, Nat.mod_one], ⟨rfl, .inl ⟨rfl, rfl⟩⟩, Below.refl _ _⟩
  case round =>
    obtain ⟨i, bo, O, rfl, rfl, hb1, hil, hOi, hok, hinv, hown, hBr⟩ := hrel
    rename World => wr
    obtain ⟨ra, rc, rfl, hr1, hr2⟩ := owned_len hown
    unfold maxLen at hr2
    have hbk : w.heap.size ≤ wr.heap.size := hBr.size
    have HO := Lib.hid hOi
    have HK := Lib.hid hok
    have hdx := D10.get_lt n i
    have hdy := D10.get_lt m i
    have HS := Lib.hid (fun (bo' d : Nat) => D10.minus_step (bo' := bo') (d := d) hinv)
    by_cases hA : i < (D10.toG n).length
    · obtain ⟨b1, off1, rfl, hce1⟩ := (SliceOf.below H1.out hBr).get (castL_get hA)
      have hi1 : (0 : Int) ≤ (i : Int) ∧ (i : Int) < ((D10.toG n).length : Int) := by omega
      have hwi : IntKind.i64.wrap ((i : Int) + 1) = ((i + 1 : Nat) : Int) := by rw [IntKind.wrap_i64]; omega
      have HOWN := Lib.hid hown
      clear hown hOi
      generalize (D10.toG n).getD i 0 = x at *
      by_cases hB : i < (D10.toG m).length
      · obtain ⟨b2, off2, rfl, hce2⟩ := (SliceOf.below H2.out hBr).get (castL_get hB)
        have hi2 : (0 : Int) ≤ (i : Int) ∧ (i : Int) < ((D10.toG m).length : Int) := by omega
        generalize (D10.toG m).getD i 0 = y at *
        by_cases hn : x < bo + y
        · clear hinv hok
          have hneg : (x : Int) - (bo : Int) - (y : Int) < 0 := by omega
          have hwn : IntKind.i64.wrap ((x : Int) - (bo : Int) - (y : Int) + 10) = ((10 + x - bo - y : Nat) : Int) := by rw [IntKind.wrap_i64]; omega
          have hw2 : IntKind.i64.wrap ((x : Int) - (bo : Int)) = (x : Int) - (bo : Int) := by rw [IntKind.wrap_i64]; omega
          have hw3 : IntKind.i64.wrap ((x : Int) - (bo : Int) - (y : Int)) = (x : Int) - (bo : Int) - (y : Int) := by rw [IntKind.wrap_i64]; omega
          have hst := Lib.hid (HS.out 1 (10 + x - bo - y) (by omega))
          have hd : 10 + x - bo - y < 10 := by omega
          generalize 10 + x - bo - y = d at *
          have hon := Lib.hid (casts_snoc O d)
          have hval : Hid (D10.val (O ++ [d]) = D10.val O + 10 ^ i * d) := Lib.hid (by rw [D10.val_app, HO.out]; rfl)
          have hok2 : Hid (D10.OKl (O ++ [d])) := Lib.hid (fun z hz => (List.mem_append.1 hz).elim (HK.out z) (fun h => by rw [List.mem_singleton.1 h]; exact hd))
          go_wp2_with (at_builtin; refine wpList_push E72 rfl _ _ rfl w.heap.size HOWN.out rfl rfl rfl (by unfold maxLen; have := HO.out; omega) (by have := HO.out; omega) (by omega) ?_; intro v' w3 ho3 hg3 hB3)
          go_roundw
          case rel => exact ⟨i + 1, 1, O ++ [d], by go_num, rfl, by decide, by omega, by rw [List.length_append, HO.out]; rfl, hok2.out, by rw [hval.out]; exact hst.out, by rw [hon.out, List.length_append]; exact ho3, hBr.trans hB3⟩
          case measure => simp [Go.RowKit.intOf]; omega
        · clear hinv hok
          have hw2 : IntKind.i64.wrap ((x : Int) - (bo : Int)) = (x : Int) - (bo : Int) := by rw [IntKind.wrap_i64]; omega
          have hw3 : IntKind.i64.wrap ((x : Int) - (bo : Int) - (y : Int)) = ((x - bo - y : Nat) : Int) := by rw [IntKind.wrap_i64]; omega
          have hst := Lib.hid (HS.out 0 (x - bo - y) (by omega))
          have hd : x - bo - y < 10 := by omega
          generalize x - bo - y = d at *
          have hneg : ¬ (d : Int) < 0 := by omega
          have hon := Lib.hid (casts_snoc O d)
          have hval : Hid (D10.val (O ++ [d]) = D10.val O + 10 ^ i * d) := Lib.hid (by rw [D10.val_app, HO.out]; rfl)
          have hok2 : Hid (D10.OKl (O ++ [d])) := Lib.hid (fun z hz => (List.mem_append.1 hz).elim (HK.out z) (fun h => by rw [List.mem_singleton.1 h]; exact hd))
          go_wp2_with (at_builtin; refine wpList_push E72 rfl _ _ rfl w.heap.size HOWN.out rfl rfl rfl (by unfold maxLen; have := HO.out; omega) (by have := HO.out; omega) (by omega) ?_; intro v' w3 ho3 hg3 hB3)
          go_roundw
          case rel => exact ⟨i + 1, 0, O ++ [d], by go_num, rfl, by decide, by omega, by rw [List.length_append, HO.out]; rfl, hok2.out, by rw [hval.out]; exact hst.out, by rw [hon.out, List.length_append]; exact ho3, hBr.trans hB3⟩
          case measure => simp [Go.RowKit.intOf]; omega
      · have q2 : ¬ (i : Int) < ((D10.toG m).length : Int) := by omega
        rw [D10.toG_over hB] at HS hdy
        by_cases hn : x < bo
        · clear hinv hok
          have hneg : (x : Int) - (bo : Int) < 0 := by omega
          have hwn : IntKind.i64.wrap ((x : Int) - (bo : Int) + 10) = ((10 + x - bo : Nat) : Int) := by rw [IntKind.wrap_i64]; omega
          have hw2 : IntKind.i64.wrap ((x : Int) - (bo : Int)) = (x : Int) - (bo : Int) := by rw [IntKind.wrap_i64]; omega
          have hst := Lib.hid (HS.out 1 (10 + x - bo) (by omega))
          have hd : 10 + x - bo < 10 := by omega
          generalize 10 + x - bo = d at *
          have hon := Lib.hid (casts_snoc O d)
          have hval : Hid (D10.val (O ++ [d]) = D10.val O + 10 ^ i * d) := Lib.hid (by rw [D10.val_app, HO.out]; rfl)
          have hok2 : Hid (D10.OKl (O ++ [d])) := Lib.hid (fun z hz => (List.mem_append.1 hz).elim (HK.out z) (fun h => by rw [List.mem_singleton.1 h]; exact hd))
          go_wp2_with (at_builtin; refine wpList_push E72 rfl _ _ rfl w.heap.size HOWN.out rfl rfl rfl (by unfold maxLen; have := HO.out; omega) (by have := HO.out; omega) (by omega) ?_; intro v' w3 ho3 hg3 hB3)
          go_roundw
          case rel => exact ⟨i + 1, 1, O ++ [d], by go_num, rfl, by decide, by omega, by rw [List.length_append, HO.out]; rfl, hok2.out, by rw [hval.out]; exact hst.out, by rw [hon.out, List.length_append]; exact ho3, hBr.trans hB3⟩
          case measure => simp [Go.RowKit.intOf]; omega
        · clear hinv hok
          have hw2 : IntKind.i64.wrap ((x : Int) - (bo : Int)) = ((x - bo : Nat) : Int) := by rw [IntKind.wrap_i64]; omega
          have hst := Lib.hid (HS.out 0 (x - bo) (by omega))
          have hd : x - bo < 10 := by omega
          generalize x - bo = d at *
          have hneg : ¬ (d : Int) < 0 := by omega
          have hon := Lib.hid (casts_snoc O d)
          have hval : Hid (D10.val (O ++ [d]) = D10.val O + 10 ^ i * d) := Lib.hid (by rw [D10.val_app, HO.out]; rfl)
          have hok2 : Hid (D10.OKl (O ++ [d])) := Lib.hid (fun z hz => (List.mem_append.1 hz).elim (HK.out z) (fun h => by rw [List.mem_singleton.1 h]; exact hd))
          go_wp2_with (at_builtin; refine wpList_push E72 rfl _ _ rfl w.heap.size HOWN.out rfl rfl rfl (by unfold maxLen; have := HO.out; omega) (by have := HO.out; omega) (by omega) ?_; intro v' w3 ho3 hg3 hB3)
          go_roundw
          case rel => exact ⟨i + 1, 0, O ++ [d], by go_num, rfl, by decide, by omega, by rw [List.length_append, HO.out]; rfl, hok2.out, by rw [hval.out]; exact hst.out, by rw [hon.out, List.length_append]; exact ho3, hBr.trans hB3⟩
          case measure => simp [Go.RowKit.intOf]; omega
    · obtain rfl : i = (D10.toG n).length := by omega
      have q1 : ¬ ((D10.toG n).length : Int) < ((D10.toG n).length : Int) := by omega
      have hv : Hid (D10.val O = n - m) := Lib.hid (D10.minus_end (D10.lt_pow n) hmn hinv (by have := D10.val_lt hok; rw [hOi] at this; exact this) hb1)
      have HOWN := Lib.hid hown
      clear hown hinv HS hok hdx hdy hOi
      go_wp2_with fail
      refine (HT.out w.heap.size _ O _ HOWN.out HK.out).mono ?_
      rintro e w' ⟨v', rfl, hres, rfl⟩
      go_wp2
      go_ret
      exact ⟨_, rfl, by rw [hv.out] at hres; exact hres, hBr⟩
set_option maxRecDepth 100000 in
set_option maxHeartbeats 2000000 in
theorem order10 (v1 v2 : Value) (n m : Nat) (w : World) (h1 : DigAt w v1 n) (h2 : DigAt w v2 m) (l1 : (D10.toG n).length ≤ 100000) (l2 : (D10.toG m).length ≤ 100000) :
    Calls Tryz.prog 101 #[v1, v2] w fun e w' => e = .returned (.int .i64 (N3.cmpI (n : Nat) (m : Nat))) ∧ Below w.heap.size w w' := by
  obtain ⟨a, cp, rfl, g1, g2⟩ := (show IntsAt w v1 _ from h1).len
  obtain ⟨b, cq, rfl, k1, k2⟩ := (show IntsAt w v2 _ from h2).len
  unfold DigAt at h1 h2
  rw [castL_len] at g1 k1 h1 h2
  rw [castL_len, castL_len]
  have H1 := Lib.hid h1
  have H2 := Lib.hid h2
  clear h1 h2
  by_cases hne : (D10.toG n).length = (D10.toG m).length
  · have hq : (((D10.toG n).length : Int) != ((D10.toG m).length : Int)) = false := by rw [hne]; simp
    have HQ := Lib.hid (D10.ord_top hne)
    have HL := Lib.hid hne
    have hw0 : IntKind.i64.wrap (((D10.toG n).length : Int) - 1) = ((D10.toG n).length : Int) - 1 := by rw [IntKind.wrap_i64]; omega
    clear hne
    go_enter Tryz.func101, Tryz.ntmps101
    go_wp2_with fail
    go_loopw [5] (fun u5 wr => ∃ i : Nat, i ≤ (D10.toG n).length ∧ u5 = .int .i64 ((i : Nat) - 1 : Int) ∧ n / 10 ^ i = m / 10 ^ i ∧ Below w.heap.size w wr) (fun u5 _ => (Go.RowKit.intOf u5 + 1).toNat)
    case atStart => exact ⟨(D10.toG n).length, Nat.le_refl _, rfl, HQ.out, Below.refl _ _⟩
    case round =>
      obtain ⟨j, hj, rfl, hinv, hBr⟩ := hrel
      rename World => wr
      by_cases hj0 : j = 0
      · subst hj0
        have hnm : n = m := by rw [Nat.pow_zero, Nat.div_one, Nat.div_one] at hinv; exact hinv
        have e : N3.cmpI (n : Int) (m : Int) = 0 := by rw [hnm]; exact N3.cmpI_cast_self m
        have HE := Lib.hid e
        have hj1 : ((0 : Nat) : Int) - 1 = -1 := rfl
        rw [hj1]
        clear hinv hnm e HQ
        go_wp2
        go_ret
        exact ⟨by first | (rw [HE.out]; done) | (rw [HE.out]; rfl), hBr⟩
      · obtain ⟨i, rfl⟩ : ∃ i, j = i + 1 := ⟨j - 1, by omega⟩
        have hei : ((i + 1 : Nat) : Int) - 1 = (i : Int) := by omega
        rw [hei]
        have hil : i < (D10.toG n).length := by omega
        have him : i < (D10.toG m).length := by have := HL.out; omega
        obtain ⟨b1, off1, rfl, hce1⟩ := (SliceOf.below H1.out hBr).get (castL_get hil)
        obtain ⟨b2, off2, rfl, hce2⟩ := (SliceOf.below H2.out hBr).get (castL_get him)
        have hi1 : (0 : Int) ≤ (i : Int) ∧ (i : Int) < ((D10.toG n).length : Int) := by omega
        have hi2 : (0 : Int) ≤ (i : Int) ∧ (i : Int) < ((D10.toG m).length : Int) := by omega
        have hge : ¬ (i : Int) < 0 := by omega
        have hw1 : IntKind.i64.wrap ((i : Int) - 1) = (i : Int) - 1 := by rw [IntKind.wrap_i64]; omega
        by_cases hx : (D10.toG n).getD i 0 = (D10.toG m).getD i 0
        · have HE := Lib.hid (D10.ord_eq hinv hx)
          rw [← hx] at hce2
          clear hx hinv
          generalize (D10.toG n).getD i 0 = x at *
          go_wp2_with fail
          go_quiet (fail)
          generalize hq9 : World.drewN _ _ = W5
          have hB5 : Below w.heap.size w W5 := hq9 ▸ below_drewN hBr _
          clear hq9 hce1 hce2
          go_wp2_with fail
          go_roundw
          case rel => exact ⟨i, by omega, rfl, HE.out, hB5⟩
          case measure => simp [Go.RowKit.intOf]
        · rcases Nat.lt_or_gt_of_ne hx with hlt | hlt
          · have e : N3.cmpI (n : Int) (m : Int) = -1 := N3.cmpI_cast_lt (D10.ord_at hinv hlt)
            have HE := Lib.hid e
            have hq1 : (((D10.toG n).getD i 0 : Int) != ((D10.toG m).getD i 0 : Int)) = true := bne_iff_ne.2 (by omega)
            have hq2 : ((D10.toG n).getD i 0 : Int) < ((D10.toG m).getD i 0 : Int) := by omega
            clear hx hinv hlt e HQ
            generalize (D10.toG n).getD i 0 = x at *
            generalize (D10.toG m).getD i 0 = y at *
            go_wp2_with fail
            go_quiet (fail)
            generalize hq9 : World.drewN _ _ = W5
            have hB5 : Below w.heap.size w W5 := hq9 ▸ below_drewN hBr _
            have hb5 : Below wr.heap.size wr W5 := hq9 ▸ below_drewN (Below.refl _ _) _
            have hce1 := cell_keep hb5 hce1
            have hce2 := cell_keep hb5 hce2
            clear hq9
            go_wp2_with fail
            go_quiet (fail)
            generalize hq9 : World.drewN _ _ = W6
            have hB6 : Below w.heap.size w W6 := hq9 ▸ below_drewN hB5 _
            clear hq9
            go_wp2_with fail
            go_ret
            exact ⟨by first | (rw [HE.out]; done) | (rw [HE.out]; rfl), hB6⟩
          · have e : N3.cmpI (n : Int) (m : Int) = 1 := N3.cmpI_cast_gt (D10.ord_at hinv.symm hlt)
            have HE := Lib.hid e
            have hq1 : (((D10.toG n).getD i 0 : Int) != ((D10.toG m).getD i 0 : Int)) = true := bne_iff_ne.2 (by omega)
            have hq2 : ¬ ((D10.toG n).getD i 0 : Int) < ((D10.toG m).getD i 0 : Int) := by omega
            clear hx hinv hlt e HQ
            generalize (D10.toG n).getD i 0 = x at *
            generalize (D10.toG m).getD i 0 = y at *
            go_wp2_with fail
            go_quiet (fail)
            generalize hq9 : World.drewN _ _ = W5
            have hB5 : Below w.heap.size w W5 := hq9 ▸ below_drewN hBr _
            have hb5 : Below wr.heap.size wr W5 := hq9 ▸ below_drewN (Below.refl _ _) _
            have hce1 := cell_keep hb5 hce1
            have hce2 := cell_keep hb5 hce2
            clear hq9
            go_wp2_with fail
            go_quiet (fail)
            generalize hq9 : World.drewN _ _ = W6
            have hB6 : Below w.heap.size w W6 := hq9 ▸ below_drewN hB5 _
            clear hq9
            go_wp2_with fail
            go_ret
            exact ⟨by first | (rw [HE.out]; done) | (rw [HE.out]; rfl), hB6⟩
  · have hq : (((D10.toG n).length : Int) != ((D10.toG m).length : Int)) = true := bne_iff_ne.2 (by omega)
    rcases Nat.lt_or_gt_of_ne hne with hlt | hlt
    · have e : N3.cmpI (n : Int) (m : Int) = -1 := N3.cmpI_cast_lt (D10.ord_len hlt)
      rw [e]
      clear hne e
      generalize (D10.toG n).length = x at *
      generalize (D10.toG m).length = y at *
      go_enter Tryz.func101, Tryz.ntmps101
      go_wp2
      go_ret
      exact ⟨rfl, Below.refl _ _⟩
    · have e : N3.cmpI (n : Int) (m : Int) = 1 := N3.cmpI_cast_gt (D10.ord_len hlt)
      rw [e]
      have hq2 : ¬ ((D10.toG n).length : Int) < ((D10.toG m).length : Int) := by omega
      clear hne e
      generalize (D10.toG n).length = x at *
      generalize (D10.toG m).length = y at *
      go_enter Tryz.func101, Tryz.ntmps101
      go_wp2
      go_ret
      exact ⟨rfl, Below.refl _ _⟩
end Go.Proofs.YtjnpenljgfdaiaaGreatDoor

/- package nadirref03: products. -/
namespace Go.Proofs.YtjnpenljgfdaiaaGreatDoor
open Go.RowKit Go.Shelf Lib

theorem mk72n (n : Nat) (hn : n ≤ 1000000) (w : World) : (Instr.makeSlice 72 (.int .i64 n) (.int .i64 n)).run Tryz.prog w = .ok (.slice (some ⟨w.heap.size, 0, none⟩) n n) (w.alloc (.cells (madeCells #[.int .i64 0] n) 3)) := by
  obtain ⟨i, hi, hz0, hz1, hz2⟩ := info_parts E72.info
  have h := run_make (P := Tryz.prog) w 72 3 i _ E72.und hi hz0 .i64 .i64 n n (by omega) (Int.le_refl _) (by rw [hz2]; omega) (by omega)
  rw [Int.toNat_natCast, hz1, Nat.mul_one] at h
  exact h
theorem own_cell {B g cap : Nat} {w : World} {O : List Nat} (h : w.ownsRow B 3 1 (.slice (some ⟨g, 0, none⟩) O.length cap) O.length ((castL O).map (Value.int .i64))) {j : Nat} (hj : j < O.length) : w.cell? ⟨g, j, none⟩ = some (.int .i64 ((O.getD j 0 : Nat) : Int)) := by
  have := h.cells rfl j (.int .i64 ((O.getD j 0 : Nat) : Int)) (by rw [List.getElem?_map, castL_get hj]; rfl)
  rw [add_zero_off] at this
  exact this
theorem set_lens {O : List Nat} {N j d : Nat} (h : O.length = N) : (O.set j d).length = N := by rw [List.length_set]; exact h
set_option maxRecDepth 100000 in
set_option maxHeartbeats 4000000 in
theorem times10 (v1 v2 : Value) (n m : Nat) (w : World) (h1 : DigAt w v1 n) (h2 : DigAt w v2 m) (l1 : (D10.toG n).length ≤ 1000) (l2 : (D10.toG m).length ≤ 1000) :
    Calls Tryz.prog 97 #[v1, v2] w fun e w' => ∃ v', e = .returned v' ∧ OwnD w.heap.size w' v' (n * m) ∧ Below w.heap.size w w' := by
  obtain ⟨a, cp, rfl, g1, g2⟩ := (show IntsAt w v1 _ from h1).len
  obtain ⟨b, cq, rfl, k1, k2⟩ := (show IntsAt w v2 _ from h2).len
  unfold DigAt at h1 h2
  rw [castL_len] at g1 k1 h1 h2
  rw [castL_len, castL_len]
  have H1 := Lib.hid h1
  have H2 := Lib.hid h2
  have HT := Lib.hid trim10_own
  have hw0 : IntKind.i64.wrap (((D10.toG n).length : Int) + ((D10.toG m).length : Int)) = (((D10.toG n).length + (D10.toG m).length : Nat) : Int) := by rw [IntKind.wrap_i64]; omega
  have hmk := mk72n ((D10.toG n).length + (D10.toG m).length) (by omega) w
  have HO := Lib.hid (own_zeros ((D10.toG n).length + (D10.toG m).length) (by omega) w)
  have hB0 : Below w.heap.size w (w.alloc (.cells (madeCells #[.int .i64 0] ((D10.toG n).length + (D10.toG m).length)) 3)) := (Below.refl _ _).alloc (Nat.le_refl _) _
  generalize hN : (D10.toG n).length + (D10.toG m).length = N at *
  clear h1 h2
  go_enter Tryz.func97, Tryz.ntmps97
  go_wp2_with fail
  go_loopw [6, 7, 8, 9] (fun u6 _ _ _ wr => ∃ (i : Nat) (O : List Nat), u6 = .int .i64 (i : Nat) ∧ i ≤ (D10.toG n).length ∧ O.length = N ∧ D10.OKl O ∧ D10.val O = n % 10 ^ i * m ∧ wr.ownsRow w.heap.size 3 1 (.slice (some ⟨w.heap.size, 0, none⟩) O.length N) O.length ((castL O).map (Value.int .i64)) ∧ Below w.heap.size w wr) (fun u6 _ _ _ _ => (((D10.toG n).length : Int) - Go.RowKit.intOf u6).toNat)
  case atStart =>
    refine ⟨0, List.replicate N 0, rfl, Nat.zero_le _, List.length_replicate, D10.zeros_ok _, by rw [D10.val_zeros, Nat.pow_zero, Nat.mod_one, Nat.zero_mul], ?_, hB0⟩
    rw [List.length_replicate]; exact HO.out
  case round =>
    obtain ⟨i, O, rfl, hil, hON, hok, hinv, hown, hBr⟩ := hrel
    rename World => wr
    by_cases hA : i < (D10.toG n).length
    · have hi1 : (0 : Int) ≤ (i : Int) ∧ (i : Int) < ((D10.toG n).length : Int) := by omega
      have hwi : IntKind.i64.wrap ((i : Int) + 1) = ((i + 1 : Nat) : Int) := by rw [IntKind.wrap_i64]; omega
      have hdx := D10.get_lt n i
      have HOWN := Lib.hid hown
      have HOK := Lib.hid hok
      have HON := Lib.hid hON
      have HIN := Lib.hid hinv
      clear hown hok hinv hON hB0 hmk
      go_wp2_with fail
      go_loopw [7, 8, 9] (fun u7 u8 _ wq => ∃ (k c : Nat) (O : List Nat), u8 = .int .i64 (k : Nat) ∧ u7 = .int .i64 (c : Nat) ∧ c ≤ 9 ∧ k ≤ N ∧ O.length = N ∧ D10.OKl O ∧ D10.val O + c * 10 ^ (i + k) = D10.partT (n % 10 ^ i * m) ((D10.toG n).getD i 0) m i k ∧ wq.ownsRow w.heap.size 3 1 (.slice (some ⟨w.heap.size, 0, none⟩) O.length N) O.length ((castL O).map (Value.int .i64)) ∧ Below w.heap.size w wq) (fun _ u8 _ _ => ((N : Int) - Go.RowKit.intOf u8).toNat)
      case atStart => exact ⟨0, 0, O, rfl, rfl, by decide, Nat.zero_le _, HON.out, HOK.out, by rw [D10.part_zero, Nat.zero_mul, Nat.add_zero]; exact HIN.out, HOWN.out, hBr⟩
      case round =>
        clear HOWN HOK HON HIN O
        obtain ⟨k, c, O, rfl, rfl, hc9, hkN, hON, hok, hinv, hown, hBq⟩ := hrel
        rename World => wq
        have hbk : w.heap.size ≤ wq.heap.size := hBq.size
        by_cases hgo : k < (D10.toG m).length ∨ 0 < c
        · have hjN : i + k < N := by have := D10.part_lt hinv hA hgo; omega
          have HST := Lib.hid (D10.times_step hinv (by omega))
          have hce0 := own_cell hown (show i + k < O.length by omega)
          have hfz0 := hown.frozenAt (i + k)
          have hdo : O.getD (i + k) 0 < 10 := hok _ (by rw [List.getD_eq_getElem?_getD, List.getElem?_eq_getElem (by omega)]; exact List.getElem_mem _)
          have hdy := D10.get_lt m k
          have hwj : IntKind.i64.wrap ((i : Int) + (k : Int)) = ((i + k : Nat) : Int) := by rw [IntKind.wrap_i64]; omega
          have hji : (0 : Int) ≤ ((i + k : Nat) : Int) ∧ ((i + k : Nat) : Int) < (O.length : Int) := by omega
          have hwk : IntKind.i64.wrap ((k : Int) + 1) = ((k + 1 : Nat) : Int) := by rw [IntKind.wrap_i64]; omega
          have HOK := Lib.hid hok
          have HON := Lib.hid hON
          have HOWN := Lib.hid hown
          have hpl := Lib.hid (show i + k + 1 = i + (k + 1) from rfl)
          have HJN := Lib.hid hjN
          clear hok hinv hown
          by_cases hB : k < (D10.toG m).length
          · have hmul := D10.digit_mul hdx hdy
            obtain ⟨b1, off1, rfl, hce1⟩ := (SliceOf.below H1.out hBq).get (castL_get hA)
            obtain ⟨b2, off2, rfl, hce2⟩ := (SliceOf.below H2.out hBq).get (castL_get hB)
            have hi2 : (0 : Int) ≤ (k : Int) ∧ (k : Int) < ((D10.toG m).length : Int) := by omega
            generalize (D10.toG n).getD i 0 = x at *
            generalize (D10.toG m).getD k 0 = y at *
            generalize O.getD (i + k) 0 = od at *
            have hwm : IntKind.i64.wrap ((x : Int) * (y : Int)) = ((x * y : Nat) : Int) := by rw [IntKind.wrap_i64, ← Int.natCast_mul]; omega
            have hw9 : IntKind.i64.wrap ((od : Int) + (c : Int)) = ((od + c : Nat) : Int) := by rw [IntKind.wrap_i64]; omega
            generalize x * y = xy at *
            have hwa : IntKind.i64.wrap (((od + c : Nat) : Int) + (xy : Int)) = ((od + c + xy : Nat) : Int) := by rw [IntKind.wrap_i64]; omega
            have hs99 : od + c + xy ≤ 99 := by omega
            generalize hoc : od + c = oc at *
            generalize oc + xy = s at *
            have hq : Int.tdiv ((s : Nat) : Int) 10 = ((s / 10 : Nat) : Int) := by rw [Int.tdiv_eq_ediv_of_nonneg (by omega)]; omega
            have hr : Int.tmod ((s : Nat) : Int) 10 = ((s % 10 : Nat) : Int) := by rw [Int.tmod_eq_emod_of_nonneg (by omega)]; omega
            have hwq : IntKind.i64.wrap ((s / 10 : Nat) : Int) = ((s / 10 : Nat) : Int) := by rw [IntKind.wrap_i64]; omega
            have hwr : IntKind.i64.wrap ((s % 10 : Nat) : Int) = ((s % 10 : Nat) : Int) := by rw [IntKind.wrap_i64]; omega
            have hcn : s / 10 ≤ 9 := by omega
            have hdn : s % 10 < 10 := by omega
            generalize s / 10 = c2 at *
            generalize s % 10 = d at *
            go_wp2_with fail
            go_quiet (fail)
            generalize hq9 : World.drewN _ _ = W5
            have hB5 : Below w.heap.size w W5 := hq9 ▸ below_drewN hBq _
            have hb5 : Below wq.heap.size wq W5 := hq9 ▸ below_drewN (Below.refl _ _) _
            have HOWN5 := Lib.hid (owned_below HOWN.out hb5)
            have hce5 := cell_keep hb5 hce0
            have hfz5 := HOWN5.out.frozenAt (i + k)
            clear hq9 hce0 hfz0 hce1 hce2
            go_wp2_with fail
            go_roundw
            case rel =>
              refine ⟨k + 1, c2, O.set (i + k) d, by go_num, rfl, hcn, by have := HJN.out; omega, set_lens HON.out, D10.ok_set HOK.out hdn, HST.out, ?_, hB5.setCell (by simp) _⟩
              rw [casts_set, set_lens rfl]
              exact (HOWN5.out.stored (i + k) (.int .i64 (d : Nat))).1
            case measure => have := HJN.out; simp [Go.RowKit.intOf]; omega
          · have hc0 : 0 < c := hgo.resolve_left hB
            have q2 : ¬ (k : Int) < ((D10.toG m).length : Int) := by omega
            rw [D10.toG_over hB, Nat.mul_zero, Nat.add_zero] at HST
            generalize O.getD (i + k) 0 = od at *
            have hw9 : IntKind.i64.wrap ((od : Int) + (c : Int)) = ((od + c : Nat) : Int) := by rw [IntKind.wrap_i64]; omega
            have hs99 : od + c ≤ 99 := by omega
            generalize od + c = s at *
            have hq : Int.tdiv ((s : Nat) : Int) 10 = ((s / 10 : Nat) : Int) := by rw [Int.tdiv_eq_ediv_of_nonneg (by omega)]; omega
            have hr : Int.tmod ((s : Nat) : Int) 10 = ((s % 10 : Nat) : Int) := by rw [Int.tmod_eq_emod_of_nonneg (by omega)]; omega
            have hwq : IntKind.i64.wrap ((s / 10 : Nat) : Int) = ((s / 10 : Nat) : Int) := by rw [IntKind.wrap_i64]; omega
            have hwr : IntKind.i64.wrap ((s % 10 : Nat) : Int) = ((s % 10 : Nat) : Int) := by rw [IntKind.wrap_i64]; omega
            have hcn : s / 10 ≤ 9 := by omega
            have hdn : s % 10 < 10 := by omega
            generalize s / 10 = c2 at *
            generalize s % 10 = d at *
            go_wp2_with fail
            go_roundw
            case rel =>
              refine ⟨k + 1, c2, O.set (i + k) d, by go_num, rfl, hcn, by have := HJN.out; omega, set_lens HON.out, D10.ok_set HOK.out hdn, HST.out, ?_, hBq.setCell (by simp) _⟩
              rw [casts_set, set_lens rfl]
              exact (HOWN.out.stored (i + k) (.int .i64 (d : Nat))).1
            case measure => have := HJN.out; simp [Go.RowKit.intOf]; omega
        · have hc0 : c = 0 := by omega
          have hB : ¬ k < (D10.toG m).length := by omega
          subst hc0
          have HV := Lib.hid (show D10.val O = n % 10 ^ (i + 1) * m from by rw [D10.part_end hB, Nat.zero_mul, Nat.add_zero] at hinv; exact hinv)
          have q2 : ¬ (k : Int) < ((D10.toG m).length : Int) := by omega
          have HOWN := Lib.hid hown
          have HOK := Lib.hid hok
          have HON := Lib.hid hON
          clear hown hok hinv hON
          go_wp2_with fail
          go_roundw
          case rel => exact ⟨i + 1, O, by go_num, by omega, HON.out, HOK.out, HV.out, HOWN.out, hBq⟩
          case measure => simp [Go.RowKit.intOf]; omega
    · obtain rfl : i = (D10.toG n).length := by omega
      have q1 : ¬ ((D10.toG n).length : Int) < ((D10.toG n).length : Int) := by omega
      have hv : Hid (D10.val O = n * m) := Lib.hid (by rw [Nat.mod_eq_of_lt (D10.lt_pow n)] at hinv; exact hinv)
      have HOWN := Lib.hid hown
      have HOK := Lib.hid hok
      have HON := Lib.hid hON
      rw [hON] at HOWN
      clear hown hinv hok hON hmk hB0
      go_wp2_with fail
      refine (HT.out w.heap.size _ O _ (by rw [HON.out]; exact HOWN.out) HOK.out).mono ?_
      rintro e w' ⟨v', rfl, hres, rfl⟩
      go_wp2
      go_ret
      exact ⟨_, rfl, by rw [hv.out] at hres; exact hres, hBr⟩
end Go.Proofs.YtjnpenljgfdaiaaGreatDoor

/- package nadirref03: quotient and remainder. -/
namespace Go.Proofs.YtjnpenljgfdaiaaGreatDoor
open Go.RowKit Go.Shelf Lib

theorem castL_one (l : List Nat) : ∀ u ∈ (castL l).map (Value.int .i64), u.oneCell' = true := by
  intro u hu
  obtain ⟨x, -, rfl⟩ := List.mem_map.1 hu
  rfl
/-- 'append([]int{k}, r...)'. -/
theorem wpList_prep {ops : Array Oper} {rest : List Oper} {o : Oper} {a : Act} {Q : Exit → Act → World → Prop} {w0 : World} (hgd : o.guard = none) (s x : Operand)
    (ho : o.op = .call { callee := .builtin .append, args := #[s, x], argTypes := #[72, 72] })
    (base : Nat) {v : Value} {m : Nat} {xs : List Value} {k : Int} (hown : w0.ownsRow base 3 1 v m xs) (hs : a.eval s = .slice (some ⟨w0.heap.size, 0, none⟩) 1 1) (hx : a.eval x = v)
    (hxs : ∀ u ∈ xs, u.oneCell' = true) (hm : m ≤ 100000) (hbase : base ≤ w0.heap.size)
    (h : ∀ v' w', w'.ownsRow base 3 1 v' (m + 1) (.int .i64 k :: xs) → Below w0.heap.size w0 w' → wpList Tryz.prog ops Q rest (a.put o.dst v') w') :
    wpList Tryz.prog ops Q (o :: rest) a (w0.alloc (.cells #[.int .i64 k] 3)) := by
  obtain ⟨i, hi, hz0, hz1, hz2⟩ := info_parts E72.info
  have hA : Below w0.heap.size w0 (w0.alloc (.cells #[.int .i64 k] 3)) := (Below.refl _ _).alloc (Nat.le_refl _) _
  have hb : (w0.alloc (.cells #[.int .i64 k] 3)).heap[w0.heap.size]? = some (.cells #[.int .i64 k] 3 (0, 0)) := heap_alloc_new w0 _
  have up : ∀ {B B' : Nat} {w : World} {v : Value} {n : Nat} {xs : List Value}, w.ownsRow B 3 1 v n xs → B' ≤ B → w.ownsRow B' 3 1 v n xs := fun h hB => ⟨h.1, h.2.imp id fun ⟨g, cap, cur, e, hb, r⟩ => ⟨g, cap, cur, e, Nat.le_trans hB hb, r⟩⟩
  have hf : (w0.alloc (.cells #[.int .i64 k] 3)).ownsRow w0.heap.size 3 1 (.slice (some ⟨w0.heap.size, 0, none⟩) 1 1) 1 [.int .i64 k] :=
    ⟨rfl, .inr ⟨w0.heap.size, 1, #[.int .i64 k], rfl, Nat.le_refl _, hb, Nat.le_refl _, by decide, rfl, rfl⟩⟩
  rcases hown.2 with ⟨rfl, hn⟩ | ⟨g, cap, cur, rfl, hg, hgb, h1, h2, -⟩
  · refine wpList_append_own_none hgd s x 72 ho w0.heap.size 3 i 1 E72.und hi _ 1 _ hs hf hx ?_
    have hl : xs = [] := by have := hown.1; rw [hn, Nat.zero_mul] at this; exact List.length_eq_zero_iff.1 this
    subst hn hl
    exact h _ _ (up hf hbase) hA
  · have hgl : g < w0.heap.size := (Array.getElem?_eq_some_iff.1 hgb).1
    refine wpList_append_own _ hgd s x 72 ho w0.heap.size 3 i _ 1 8 E72.und hi hz0 hz1 hz2 E72.zs E72.pos _ 1 _ hs hf ⟨g, 0, none⟩ m cap xs hx (by rw [hown.1]) ?_ hxs (by unfold maxLen; omega) (by omega) (by simp) ?_
    · intro j u hj
      have := hown.cells rfl j u hj
      rw [World.cell?_alloc_some _ _ _ (by rw [this]; rfl)]
      exact this
    · intro v' w' h3 h4 _
      rw [Nat.add_comm 1 m] at h3
      exact h v' w' (up h3 hbase) (hA.grown h4 (by simp) (fun k hk => by cases hk; exact Nat.le_refl _))
theorem owned_other {B : Nat} {e : TypeId} {k : Nat} {v : Value} {n : Nat} {xs : List Value} {w : World} (h : w.ownsRow B e k v n xs) {p : Addr} (hp : p.block < B) (u : Value) : (w.setCell p u).ownsRow B e k v n xs :=
  ⟨h.1, h.2.imp id fun ⟨g, cap, cur, e1, hb, hg, r⟩ => ⟨g, cap, cur, e1, hb, (heap_setCell_other w p g u (by omega)).trans hg, r⟩⟩
theorem DigAt.unique {w : World} {v : Value} {n m : Nat} (h1 : DigAt w v n) (h2 : DigAt w v m) : n = m := by
  have hl : (castL (D10.toG n)).length = (castL (D10.toG m)).length := by
    obtain ⟨a, cp, e1, -, -⟩ := (show IntsAt w v _ from h1).len
    obtain ⟨b, cq, e2, -, -⟩ := (show IntsAt w v _ from h2).len
    rw [e1] at e2; injection e2
  rw [castL_len, castL_len] at hl
  have hg : D10.toG n = D10.toG m := by
    refine List.ext_getElem? fun i => ?_
    by_cases hi : i < (D10.toG n).length
    · obtain ⟨a, cp, rfl, -, -⟩ := (show IntsAt w v _ from h1).len
      obtain ⟨b, off, e1, c1⟩ := SliceOf.get (show IntsAt w _ _ from h1) (castL_get hi)
      obtain ⟨b', off', e2, c2⟩ := SliceOf.get (show IntsAt w _ _ from h2) (castL_get (show i < (D10.toG m).length by omega))
      rw [e1] at e2
      cases e2
      rw [c1] at c2
      injection c2 with c3
      injection c3 with _ c4
      have c5 : (D10.toG n).getD i 0 = (D10.toG m).getD i 0 := by omega
      rw [List.getD_eq_getElem?_getD, List.getD_eq_getElem?_getD, List.getElem?_eq_getElem hi, List.getElem?_eq_getElem (show i < (D10.toG m).length by omega)] at c5
      rw [List.getElem?_eq_getElem hi, List.getElem?_eq_getElem (show i < (D10.toG m).length by omega)]
      exact congrArg some c5
    · rw [List.getElem?_eq_none (by omega), List.getElem?_eq_none (by omega)]
  rw [← D10.val_toG n, hg, D10.val_toG]
noncomputable def digOf (w : World) (v : Value) : Nat := by classical exact if h : ∃ n, DigAt w v n then Classical.choose h else 0
theorem digOf_eq {w : World} {v : Value} {n : Nat} (h : DigAt w v n) : digOf w v = n := by
  unfold digOf
  rw [dif_pos ⟨n, h⟩]
  exact DigAt.unique (Classical.choose_spec (p := fun n => DigAt w v n) ⟨n, h⟩) h
theorem digs_cons {x r : Nat} (hx : x < 10) : D10.OKl (x :: D10.toG r) ∧ D10.val (x :: D10.toG r) = x + 10 * r := by
  refine ⟨fun y hy => ?_, by rw [D10.val, D10.val_toG]⟩
  rcases List.mem_cons.1 hy with rfl | h
  · exact hx
  · exact D10.toG_lt r y h
theorem casts_cons (x : Nat) (l : List Nat) : (castL (x :: l)).map (Value.int .i64) = .int .i64 (x : Nat) :: (castL l).map (Value.int .i64) := rfl
theorem set_get0 {Q : List Nat} {i : Nat} (h : Q.getD i 0 = 0) (hi : i < Q.length) : Q.set i 0 = Q := by
  refine List.ext_getElem? fun j => ?_
  rw [List.getElem?_set]
  split
  · rename_i e
    subst e
    rw [List.getD_eq_getElem?_getD, List.getElem?_eq_getElem hi] at h
    rw [List.getElem?_eq_getElem hi]
    exact congrArg some h.symm
  · rfl
theorem set_set' (Q : List Nat) (i a b : Nat) : (Q.set i a).set i b = Q.set i b := List.set_set ..
theorem getD_set_self {Q : List Nat} {i a : Nat} (hi : i < Q.length) : (Q.set i a).getD i 0 = a := by
  rw [List.getD_eq_getElem?_getD, List.getElem?_set, if_pos rfl, if_pos hi]; rfl
theorem getD_set_other {Q : List Nat} {i j a : Nat} (h : i ≠ j) : (Q.set i a).getD j 0 = Q.getD j 0 := by
  rw [List.getD_eq_getElem?_getD, List.getElem?_set, if_neg h, ← List.getD_eq_getElem?_getD]
set_option maxRecDepth 100000 in
set_option maxHeartbeats 4000000 in
theorem divided10 (v1 v2 : Value) (n m : Nat) (w : World) (h1 : DigAt w v1 n) (h2 : DigAt w v2 m) (hm : 0 < m) (l1 : (D10.toG n).length ≤ 1000) (l2 : (D10.toG m).length ≤ 1000) :
    Calls Tryz.prog 98 #[v1, v2] w fun e w' => ∃ v3 v4, e = .returned (.tuple #[v3, v4]) ∧ OwnD w.heap.size w' v3 (n / m) ∧ OwnD w.heap.size w' v4 (n % m) ∧ Below w.heap.size w w' := by
  obtain ⟨a, cp, rfl, g1, g2⟩ := (show IntsAt w v1 _ from h1).len
  obtain ⟨b, cq, rfl, k1, k2⟩ := (show IntsAt w v2 _ from h2).len
  have H2 := Lib.hid h2
  unfold DigAt at h1
  rw [castL_len] at g1 k1 h1
  rw [castL_len] at H2
  rw [castL_len, castL_len]
  have H1 := Lib.hid h1
  have HT := Lib.hid trim10_own
  have HOR := Lib.hid order10
  have HMI := Lib.hid minus10
  have HM := Lib.hid hm
  have hw0 : IntKind.i64.wrap (((D10.toG n).length : Int) - 1) = ((D10.toG n).length : Int) - 1 := by rw [IntKind.wrap_i64]; omega
  have hmk := mk72n (D10.toG n).length (by omega) w
  have HO := Lib.hid (own_zeros (D10.toG n).length (by omega) w)
  have hB0 : Below w.heap.size w (w.alloc (.cells (madeCells #[.int .i64 0] (D10.toG n).length) 3)) := (Below.refl _ _).alloc (Nat.le_refl _) _
  have hs0 : (w.alloc (.cells (madeCells #[.int .i64 0] (D10.toG n).length) 3)).heap.size = w.heap.size + 1 := by simp
  clear h1 h2
  go_enter Tryz.func98, Tryz.ntmps98
  go_wp2_with fail
  go_loopw [7, 8] (fun u7 u8 wr => ∃ (j : Nat) (Q : List Nat), j ≤ (D10.toG n).length ∧ u8 = .int .i64 ((j : Nat) - 1 : Int) ∧ OwnD (w.heap.size + 1) wr u7 (n / 10 ^ j % m) ∧ Q.length = (D10.toG n).length ∧ D10.OKl Q ∧ (∀ t, t < j → Q.getD t 0 = 0) ∧ D10.val Q = n / 10 ^ j / m * 10 ^ j ∧ wr.ownsRow w.heap.size 3 1 (.slice (some ⟨w.heap.size, 0, none⟩) Q.length (D10.toG n).length) Q.length ((castL Q).map (Value.int .i64)) ∧ Below w.heap.size w wr ∧ w.heap.size + 1 ≤ wr.heap.size) (fun _ u8 _ => (Go.RowKit.intOf u8 + 1).toNat)
  case atStart =>
    refine ⟨(D10.toG n).length, List.replicate (D10.toG n).length 0, Nat.le_refl _, rfl, ?_, List.length_replicate, D10.zeros_ok _, ?_, ?_, ?_, hB0, by rw [hs0]; exact Nat.le_refl _⟩
    · rw [D10.toG_top, Nat.zero_mod]; exact own_nil _ _
    · intro t ht; rw [List.getD_eq_getElem?_getD, List.getElem?_replicate, if_pos ht]; rfl
    · rw [D10.val_zeros, D10.toG_top, Nat.zero_div, Nat.zero_mul]
    · rw [List.length_replicate]; exact HO.out
  case round =>
    obtain ⟨j, Q, hj, rfl, hr, hQl, hQok, hQ0, hQv, hQown, hBr, hsr⟩ := hrel
    rename World => wr
    by_cases hj0 : j = 0
    · subst hj0
      have hj1 : ((0 : Nat) : Int) - 1 = -1 := rfl
      rw [hj1]
      have HV := Lib.hid (show D10.val Q = n / m from by rw [Nat.pow_zero, Nat.div_one, Nat.mul_one] at hQv; exact hQv)
      have HR := Lib.hid (show OwnD w.heap.size wr _ (n % m) from by rw [Nat.pow_zero, Nat.div_one] at hr; exact own_up hr (Nat.le_succ _))
      have HOWN := Lib.hid hQown
      have HOK := Lib.hid hQok
      rw [hQl] at HOWN
      have HQL := Lib.hid hQl
      clear hr hQown hQok hQ0 hQv hQl hmk hB0 hs0
      go_wp2_with fail
      refine (HT.out w.heap.size _ Q _ (by rw [HQL.out]; exact HOWN.out) HOK.out).mono ?_
      rintro e w' ⟨v', rfl, hres, rfl⟩
      rw [HV.out] at hres
      go_wp2
      go_ret2
      exact ⟨_, _, rfl, hres, HR.out, hBr⟩
    · obtain ⟨i, rfl⟩ : ∃ i, j = i + 1 := ⟨j - 1, by omega⟩
      have hei : ((i + 1 : Nat) : Int) - 1 = (i : Int) := by omega
      rw [hei]
      have hil : i < (D10.toG n).length := by omega
      obtain ⟨b1, off1, rfl, hce1⟩ := (SliceOf.below H1.out hBr).get (castL_get hil)
      have hi1 : (0 : Int) ≤ (i : Int) ∧ (i : Int) < ((D10.toG n).length : Int) := by omega
      have hge : ¬ (i : Int) < 0 := by omega
      have hw1 : IntKind.i64.wrap ((i : Int) - 1) = (i : Int) - 1 := by rw [IntKind.wrap_i64]; omega
      have hdx := D10.get_lt n i
      have HQS := Lib.hid (D10.quo_step hQv (by omega) (hQ0 i (Nat.lt_succ_self i)) hm)
      have HND := Lib.hid (show n / 10 ^ i % m = (10 * (n / 10 ^ (i + 1) % m) + (D10.toG n).getD i 0) % m from by rw [← (D10.div_digit hm).2, ← D10.high_digit n i])
      have hrm := Nat.mod_lt (n / 10 ^ (i + 1)) hm
      have hset0 := set_get0 (hQ0 i (Nat.lt_succ_self i)) (by omega : i < Q.length)
      have HQ0 := Lib.hid hQ0
      have HQL := Lib.hid hQl
      have HQK := Lib.hid hQok
      have HQO := Lib.hid hQown
      generalize n / 10 ^ (i + 1) % m = r at *
      generalize (D10.toG n).getD i 0 = x at *
      have hX : 10 * r + x < 10 * m := by omega
      have hrl : (D10.toG r).length ≤ 1000 := by
        have : (D10.toG r).length ≤ (D10.toG m).length := Classical.byContradiction fun hc => by
          have := D10.ord_len (n := m) (m := r) (by omega); omega
        omega
      obtain ⟨hcok, hcv⟩ := digs_cons (r := r) hdx
      obtain ⟨ra, rc, rfl, hra1, hra2⟩ := owned_len hr
      have HR := Lib.hid hr
      clear hr hQown hQok hQ0 hQv hQl hmk hB0 hs0
      go_wp2_with (at_builtin; refine wpList_prep rfl _ _ rfl (w.heap.size + 1) (show World.ownsRow _ _ _ _ _ _ _ from HR.out) rfl rfl (castL_one _) (by omega) (by omega) ?_; intro v' w3 ho3 hB3)
      rw [← casts_cons] at ho3
      refine (HT.out (w.heap.size + 1) _ (x :: D10.toG r) _ (by rw [List.length_cons]; exact ho3) hcok).mono ?_
      rintro e w4 ⟨v4, rfl, hv4, rfl⟩
      rw [hcv, show x + 10 * r = 10 * r + x by omega] at hv4
      have HV4 := Lib.hid hv4
      have HB4 := Lib.hid (hBr.trans (hB3.mono hBr.size))
      have hs4 : w.heap.size + 1 ≤ w3.heap.size := by have := hB3.size; omega
      have HQ4 := Lib.hid (owned_below HQO.out hB3)
      clear hv4 ho3 hB3 hcok hcv hce1
      go_wp2_with fail
      go_loopw [7] (fun u7 wq => ∃ (R t : Nat), OwnD (w.heap.size + 1) wq u7 R ∧ R + t * m = 10 * r + x ∧ t ≤ 9 ∧ wq.ownsRow w.heap.size 3 1 (.slice (some ⟨w.heap.size, 0, none⟩) (Q.set i t).length (D10.toG n).length) (Q.set i t).length ((castL (Q.set i t)).map (Value.int .i64)) ∧ Below w.heap.size w wq ∧ w.heap.size + 1 ≤ wq.heap.size) (fun u7 wq => digOf wq u7)
      case atStart => exact ⟨10 * r + x, 0, HV4.out, by omega, by decide, by rw [hset0]; exact HQ4.out, HB4.out, hs4⟩
      case round =>
        obtain ⟨R, t, hR, hRt, ht9, hown, hBq, hsq⟩ := hrel
        rename World => wq
        have hRl : (D10.toG R).length ≤ (D10.toG m).length + 1 := D10.toG_len_le (by
          have h1 := D10.lt_pow m
          rw [Nat.pow_succ]
          generalize (10 : Nat) ^ (D10.toG m).length = A at *
          have : R ≤ 10 * r + x := by rw [← hRt]; exact Nat.le_add_right _ _
          omega)
        obtain ⟨ua, uc, rfl, -, -⟩ := owned_len hR
        have hce := own_cell hown (show i < (Q.set i t).length by rw [List.length_set, HQL.out]; exact hil)
        rw [getD_set_self (by rw [HQL.out]; exact hil)] at hce
        have hfz := hown.frozenAt i
        have hji : (0 : Int) ≤ (i : Int) ∧ (i : Int) < ((Q.set i t).length : Int) := by rw [List.length_set, HQL.out]; omega
        have HOWN := Lib.hid hown
        have HRR := Lib.hid hR
        have HRT := Lib.hid hRt
        have HM0 := Lib.hid (digOf_eq hR.dig)
        have H2q := Lib.hid (H2.out.below hBq)
        have hwt : IntKind.i64.wrap ((t : Int) + 1) = ((t + 1 : Nat) : Int) := by rw [IntKind.wrap_i64]; omega
        clear hown hR hRt
        by_cases hRm : m ≤ R
        · have hz : 0 ≤ N3.cmpI (R : Int) (m : Int) := by unfold N3.cmpI; (repeat' split) <;> omega
          have HT9 := Lib.hid (D10.div_small hrm hdx HRT.out hRm)
          go_wp2_with fail
          refine (HOR.out _ _ R m _ HRR.out.dig H2q.out (by omega) (by omega)).mono ?_
          rintro e w5 ⟨rfl, hB5⟩
          generalize N3.cmpI (R : Int) (m : Int) = z at *
          have H25 := Lib.hid (H2q.out.below hB5)
          have HR5 := Lib.hid (HRR.out.below hB5)
          have HO5 := Lib.hid (owned_below HOWN.out hB5)
          have hs5 := hB5.size
          have hBw5 := hBq.trans (hB5.mono hBq.size)
          go_wp2_with fail
          refine (HMI.out _ _ R m _ HR5.out.dig H25.out hRm (by omega) (by omega)).mono ?_
          rintro e w6 ⟨v6, rfl, hv6, hB6⟩
          have HV6 := Lib.hid (own_up hv6 (show w.heap.size + 1 ≤ w5.heap.size by omega))
          have HO6 := Lib.hid (owned_below HO5.out hB6)
          have hs6 := hB6.size
          have hBw6 := hBw5.trans (hB6.mono hBw5.size)
          replace hce := cell_keep hB6 (cell_keep hB5 hce)
          replace hfz := HO6.out.frozenAt i
          clear hv6
          go_wp2_with fail
          go_roundw
          case rel =>
            refine ⟨R - m, t + 1, owned_other HV6.out (by simp) _, ?_, by have := HT9.out; omega, ?_, hBw6.setCell (by simp) _, by simp; omega⟩
            · have := HRT.out; rw [Nat.succ_mul]; omega
            · have h7 := (HO6.out.stored i (.int .i64 ((t + 1 : Nat) : Int))).1
              rw [← casts_set, set_set'] at h7
              rw [List.length_set] at h7 ⊢
              exact h7
          case measure =>
            have h8 := fun u => digOf_eq (OwnD.dig (owned_other HV6.out (p := ⟨w.heap.size, i, none⟩) (by simp) u))
            have h9 := HM0.out
            first
              | (rw [h8 _, h9]; omega)
              | (show digOf _ _ < digOf _ _; rw [h8 _, h9]; omega)
        · have hz : ¬ 0 ≤ N3.cmpI (R : Int) (m : Int) := by unfold N3.cmpI; (repeat' split) <;> omega
          have hz2 : N3.cmpI (R : Int) (m : Int) < 0 := by omega
          obtain ⟨e1, e2⟩ := D10.div_end HRT.out (show R < m by omega)
          have HE1 := Lib.hid e1
          have HE2 := Lib.hid e2
          clear e1 e2
          go_wp2_with fail
          refine (HOR.out _ _ R m _ HRR.out.dig H2q.out (by omega) (by omega)).mono ?_
          rintro e w5 ⟨rfl, hB5⟩
          generalize N3.cmpI (R : Int) (m : Int) = z at *
          have HR5 := Lib.hid (HRR.out.below hB5)
          have HO5 := Lib.hid (owned_below HOWN.out hB5)
          have hs5 := hB5.size
          have hBw5 := hBq.trans (hB5.mono hBq.size)
          go_wp2_with fail
          go_roundw
          case rel =>
            refine ⟨i, Q.set i t, by omega, rfl, ?_, set_lens HQL.out, D10.ok_set HQK.out (by omega), ?_, ?_, ?_, hBw5, by omega⟩
            · rw [HND.out, ← HE1.out]; exact HR5.out
            · intro t' ht'
              rw [getD_set_other (by omega)]
              exact HQ0.out t' (by omega)
            · rw [HE2.out]; exact HQS.out
            · exact HO5.out
          case measure => simp [Go.RowKit.intOf]
end Go.Proofs.YtjnpenljgfdaiaaGreatDoor

/- package nadirref03: which strings are integers; their digits. -/
namespace Go.Proofs.YtjnpenljgfdaiaaGreatDoor
open Go.RowKit Go.Shelf Lib

/-- What is left of the text behind a sign. -/
def okT (t : List UInt8) : Bool := decide (0 < t.length) && (decide (t.length ≤ 200) && (t.all N3.isD && (decide (t = [48]) || decide (t.head? ≠ some 48))))
theorem okT_bare {s : List UInt8} (h : s.head? = some 45 → N3.bare s ≠ [48]) : N3.isI s = okT (N3.bare s) := by
  rw [N3.isI_bare]
  unfold okT
  have e1 : (!(N3.bare s).isEmpty) = decide (0 < (N3.bare s).length) := by cases N3.bare s <;> simp
  rw [e1]
  by_cases hm : s.head? = some 45
  · have h1 : decide (s = [48]) = false := decide_eq_false (fun e => by rw [e] at hm; cases hm)
    have h2 : decide (N3.bare s = [48]) = false := decide_eq_false (h hm)
    rw [h1, h2]
  · have : N3.bare s = s := by unfold N3.bare; rw [if_neg hm]
    rw [this]
theorem okT_bad {s : List UInt8} (h1 : s.head? = some 45) (h : N3.bare s = [48]) : N3.isI s = false := by
  rw [N3.isI_bare, h]
  have h1 : decide (s = [48]) = false := decide_eq_false (fun e => by rw [e] at h1; cases h1)
  rw [h1]; rfl
theorem okT_nd {t : List UInt8} (h : t.all N3.isD = false) : okT t = false := by unfold okT; rw [h]; simp
theorem nd_at {t : ByteArray} {i : Nat} (hi : i < t.size) (h : N3.isD t[i] = false) : t.data.toList.all N3.isD = false := by
  refine Bool.eq_false_iff.2 fun hc => ?_
  have := List.all_eq_true.1 hc t[i] (by
    have : t[i] = t.data.toList[i]'(by rw [← Lib.size_eq]; exact hi) := rfl
    rw [this]; exact List.getElem_mem _)
  rw [h] at this; cases this
theorem take_all {t : ByteArray} {i : Nat} (hi : i < t.size) (h : (t.data.toList.take i).all N3.isD = true) (hc : N3.isD t[i] = true) : (t.data.toList.take (i + 1)).all N3.isD = true := by
  have e : t.data.toList.take (i + 1) = t.data.toList.take i ++ [t[i]] := by
    rw [List.take_add_one]
    have : t.data.toList[i]? = some t[i] := by rw [List.getElem?_eq_getElem (by rw [← Lib.size_eq]; exact hi)]; rfl
    rw [this]; rfl
  rw [e, List.all_append, h]; simp [hc]
theorem str_eq48 {t : ByteArray} (h : t.data.toList = [48]) : (t.toList == [48]) = true := by rw [← ByteArray.toList_eq] at h; rw [h]; rfl
theorem str_ne48 {t : ByteArray} (h : t.data.toList ≠ [48]) : (t.toList == [48]) = false := by rw [← ByteArray.toList_eq] at h; exact beq_eq_false_iff_ne.2 h
theorem head_at {t : ByteArray} (h : 0 < t.size) : t.data.toList.head? = some t[0] := by
  rw [List.head?_eq_getElem?, List.getElem?_eq_getElem (by rw [← Lib.size_eq]; exact h)]; rfl
theorem bare_neg {s : ByteArray} (h : 0 < s.size) (h0 : s[0].toNat = 45) : s.data.toList.head? = some 45 ∧ (s.extract 1 s.size).data.toList = N3.bare s.data.toList := by
  have e : s[0] = 45 := UInt8.toNat_inj.1 h0
  have h1 : s.data.toList.head? = some 45 := by rw [head_at h, e]
  refine ⟨h1, ?_⟩
  rw [extr_end]
  unfold N3.bare
  rw [if_pos h1, List.drop_one]
theorem bare_pos {s : ByteArray} (h : ∀ h0 : 0 < s.size, s[0].toNat ≠ 45) : s.data.toList.head? ≠ some 45 ∧ s.data.toList = N3.bare s.data.toList := by
  have h1 : s.data.toList.head? ≠ some 45 := by
    by_cases h0 : 0 < s.size
    · rw [head_at h0]; intro e; injection e with e; have k := h h0; rw [e] at k; exact k rfl
    · have : s.data.toList = [] := List.eq_nil_of_length_eq_zero (by rw [← Lib.size_eq]; omega)
      rw [this]; simp
  refine ⟨h1, ?_⟩
  unfold N3.bare
  rw [if_neg h1]
theorem all_full {t : ByteArray} {i : Nat} (hi : i = t.size) (h : (t.data.toList.take i).all N3.isD = true) : t.data.toList.all N3.isD = true := by
  rw [hi, List.take_of_length_le (by rw [← Lib.size_eq]; exact Nat.le_refl _)] at h; exact h
theorem okT_end {t : ByteArray} (h : t.data.toList.all N3.isD = true) (h0 : 0 < t.size) : okT t.data.toList = (decide (t.size ≤ 200) && (decide (t.data.toList = [48]) || decide (t[0].toNat ≠ 48))) := by
  unfold okT
  rw [h, ← Lib.size_eq, decide_eq_true h0, Bool.true_and, Bool.true_and]
  have e : decide (t.data.toList.head? ≠ some 48) = decide (t[0].toNat ≠ 48) := by
    rw [head_at h0, decide_eq_decide]
    constructor
    · intro k e; exact k (congrArg some (UInt8.toNat_inj.1 e))
    · intro k e; injection e with e; rw [e] at k; exact k rfl
  rw [e]
theorem okT_end0 {t : ByteArray} (h0 : ¬ 0 < t.size) : okT t.data.toList = false := by
  unfold okT; rw [← Lib.size_eq, decide_eq_false h0]; rfl

set_option maxRecDepth 100000 in
set_option maxHeartbeats 2000000 in
theorem valid10_neg (s t : ByteArray) (w : World) (hs : s.size ≤ 9223372036854775807) (h0 : 0 < s.size) (h45 : s[0].toNat = 45) (ht : s.extract 1 s.size = t) :
    Calls Tryz.prog 53 #[.string s] w fun e w' => e = .returned (.bool (N3.okS s)) ∧ w = w' := by
  obtain ⟨b1, b2⟩ := bare_neg h0 h45
  rw [ht] at b2
  have hts : t.size ≤ 9223372036854775806 := by rw [← ht, ByteArray.size_extract]; omega
  have hq1 : (0 : Int) < (s.size : Int) := by omega
  have hi0' : (0 : Int) ≤ 0 ∧ (0 : Int) < (s.size : Int) := by omega
  have hi1' : (0 : Int) ≤ 1 ∧ (1 : Int) ≤ (s.size : Int) := by omega
  have hq2 : ((s[0].toNat : Int) == 45) = true := beq_iff_eq.2 (by omega)
  by_cases hb : N3.bare s.data.toList = [48]
  · have HR := Lib.hid (show N3.okS s = false from okT_bad b1 hb)
    have hst := str_eq48 (b2.trans hb)
    clear b1 b2 hb
    go_enter Tryz.func53, Tryz.ntmps53
    go_wp2_with (simp only [ht])
    go_ret
    exact ⟨by first | (rw [HR.out]; done) | (rw [HR.out]; rfl), rfl⟩
  · have HOK := Lib.hid (show N3.okS s = okT t.data.toList from by rw [b2]; exact okT_bare (fun _ => hb))
    have hst := str_ne48 (fun e => hb (b2.symm.trans e))
    clear b1 b2 hb
    go_enter Tryz.func53, Tryz.ntmps53
    go_wp2_with (simp only [ht])
    go_loopw [3] (fun u3 wr => ∃ i : Nat, i ≤ t.size ∧ u3 = .int .i64 (i : Nat) ∧ (t.data.toList.take i).all N3.isD = true ∧ w = wr) (fun u3 _ => ((t.size : Int) - Go.RowKit.intOf u3).toNat)
    case atStart => exact ⟨0, Nat.zero_le _, rfl, rfl, rfl⟩
    case round =>
      obtain ⟨i, hi, rfl, hall, rfl⟩ := hrel
      have HALL := Lib.hid hall
      clear hall
      by_cases hlt : i < t.size
      · have hki : (0 : Int) ≤ (i : Int) ∧ (i : Int) < (t.size : Int) := by omega
        have hwi : IntKind.i64.wrap ((i : Int) + 1) = ((i + 1 : Nat) : Int) := by rw [IntKind.wrap_i64]; omega
        have HX := Lib.hid (fun h => nd_at hlt h)
        have HY := Lib.hid (fun h => take_all hlt HALL.out h)
        have hgen : Hid (∀ c : UInt8, N3.isD c = (decide (48 ≤ c.toNat) && decide (c.toNat ≤ 57))) := Lib.hid (fun c => rfl)
        by_cases h48 : t[i].toNat < 48
        · have hq : (t[i].toNat : Int) < 48 := by omega
          have HR := Lib.hid (show okT t.data.toList = false from okT_nd (HX.out (by rw [hgen.out, decide_eq_false (show ¬ 48 ≤ t[i].toNat by omega)]; rfl)))
          clear HX HY
          go_wp2
          go_ret
          exact ⟨by first | (rw [HOK.out, HR.out]; done) | (rw [HOK.out, HR.out]; rfl), rfl⟩
        · have hq : ¬ (t[i].toNat : Int) < 48 := by omega
          by_cases h57 : 57 < t[i].toNat
          · have hq2 : (57 : Int) < (t[i].toNat : Int) := by omega
            have HR := Lib.hid (show okT t.data.toList = false from okT_nd (HX.out (by rw [hgen.out, decide_eq_false (show ¬ t[i].toNat ≤ 57 by omega), Bool.and_false])))
            clear HX HY
            go_wp2
            go_ret
            exact ⟨by first | (rw [HOK.out, HR.out]; done) | (rw [HOK.out, HR.out]; rfl), rfl⟩
          · have hq2 : ¬ (57 : Int) < (t[i].toNat : Int) := by omega
            have HR := Lib.hid (HY.out (by rw [hgen.out, decide_eq_true (show 48 ≤ t[i].toNat by omega), decide_eq_true (show t[i].toNat ≤ 57 by omega)]; rfl))
            clear HX HY
            go_wp2
            go_roundw
            case rel => exact ⟨i + 1, by omega, by go_num, HR.out, by first | rfl | trivial⟩
            case measure => simp [Go.RowKit.intOf]; omega
      · obtain rfl : i = t.size := by omega
        have HF := Lib.hid (all_full rfl HALL.out)
        have hq0 : ¬ (t.size : Int) < (t.size : Int) := by omega
        by_cases h0 : 0 < t.size
        · have HE := Lib.hid (okT_end HF.out h0)
          have hi0 : (0 : Int) ≤ 0 ∧ (0 : Int) < (t.size : Int) := by omega
          by_cases h200 : t.size ≤ 200
          · by_cases h48 : t.data.toList = [48]
            · exact absurd hst (by rw [str_eq48 h48]; decide)
            · have hs := str_ne48 h48
              by_cases hz : t[0].toNat = 48
              · have HR := Lib.hid (show okT t.data.toList = false by rw [HE.out, decide_eq_true h200, decide_eq_false h48, decide_eq_false (fun k => k hz)]; rfl)
                clear h48 HE
                go_wp2
                go_ret
                exact ⟨by first | (rw [HOK.out, HR.out]; done) | (rw [HOK.out, HR.out]; rfl), rfl⟩
              · have HR := Lib.hid (show okT t.data.toList = true by rw [HE.out, decide_eq_true h200, decide_eq_false h48, decide_eq_true hz]; rfl)
                have hz2 : ((t[0].toNat : Int) != 48) = true := bne_iff_ne.2 (by omega)
                have hz3 : ((t[0].toNat : Int) == 48) = false := beq_eq_false_iff_ne.2 (by omega)
                clear h48 HE
                go_wp2
                go_ret
                exact ⟨by first | (rw [HOK.out, HR.out]; done) | (rw [HOK.out, HR.out]; rfl), rfl⟩
          · have HR := Lib.hid (show okT t.data.toList = false by rw [HE.out, decide_eq_false h200]; rfl)
            clear HE
            go_wp2
            go_ret
            exact ⟨by first | (rw [HOK.out, HR.out]; done) | (rw [HOK.out, HR.out]; rfl), rfl⟩
        · have HR := Lib.hid (okT_end0 h0)
          go_wp2
          go_ret
          exact ⟨by first | (rw [HOK.out, HR.out]; done) | (rw [HOK.out, HR.out]; rfl), rfl⟩

set_option maxRecDepth 100000 in
set_option maxHeartbeats 2000000 in
theorem valid10_pos (t : ByteArray) (w : World) (hts : t.size ≤ 9223372036854775806) (h45 : ∀ h0 : 0 < t.size, t[0].toNat ≠ 45) :
    Calls Tryz.prog 53 #[.string t] w fun e w' => e = .returned (.bool (N3.okS t)) ∧ w = w' := by
  obtain ⟨b1, b2⟩ := bare_pos h45
  have HOK := Lib.hid (show N3.okS t = okT t.data.toList from by rw [b2]; unfold N3.okS; rw [okT_bare (fun h => absurd h b1), ← b2])
  clear b1 b2
  by_cases hz0 : 0 < t.size
  · have hq2 : ((t[0].toNat : Int) == 45) = false := beq_eq_false_iff_ne.2 (by have := h45 hz0; omega)
    have hi0' : (0 : Int) ≤ 0 ∧ (0 : Int) < (t.size : Int) := by omega
    clear h45
    go_enter Tryz.func53, Tryz.ntmps53
    go_wp2_with fail
    go_loopw [3] (fun u3 wr => ∃ i : Nat, i ≤ t.size ∧ u3 = .int .i64 (i : Nat) ∧ (t.data.toList.take i).all N3.isD = true ∧ w = wr) (fun u3 _ => ((t.size : Int) - Go.RowKit.intOf u3).toNat)
    case atStart => exact ⟨0, Nat.zero_le _, rfl, rfl, rfl⟩
    case round =>
      obtain ⟨i, hi, rfl, hall, rfl⟩ := hrel
      have HALL := Lib.hid hall
      clear hall
      by_cases hlt : i < t.size
      · have hki : (0 : Int) ≤ (i : Int) ∧ (i : Int) < (t.size : Int) := by omega
        have hwi : IntKind.i64.wrap ((i : Int) + 1) = ((i + 1 : Nat) : Int) := by rw [IntKind.wrap_i64]; omega
        have HX := Lib.hid (fun h => nd_at hlt h)
        have HY := Lib.hid (fun h => take_all hlt HALL.out h)
        have hgen : Hid (∀ c : UInt8, N3.isD c = (decide (48 ≤ c.toNat) && decide (c.toNat ≤ 57))) := Lib.hid (fun c => rfl)
        by_cases h48 : t[i].toNat < 48
        · have hq : (t[i].toNat : Int) < 48 := by omega
          have HR := Lib.hid (show okT t.data.toList = false from okT_nd (HX.out (by rw [hgen.out, decide_eq_false (show ¬ 48 ≤ t[i].toNat by omega)]; rfl)))
          clear HX HY
          go_wp2
          go_ret
          exact ⟨by first | (rw [HOK.out, HR.out]; done) | (rw [HOK.out, HR.out]; rfl), rfl⟩
        · have hq : ¬ (t[i].toNat : Int) < 48 := by omega
          by_cases h57 : 57 < t[i].toNat
          · have hq2 : (57 : Int) < (t[i].toNat : Int) := by omega
            have HR := Lib.hid (show okT t.data.toList = false from okT_nd (HX.out (by rw [hgen.out, decide_eq_false (show ¬ t[i].toNat ≤ 57 by omega), Bool.and_false])))
            clear HX HY
            go_wp2
            go_ret
            exact ⟨by first | (rw [HOK.out, HR.out]; done) | (rw [HOK.out, HR.out]; rfl), rfl⟩
          · have hq2 : ¬ (57 : Int) < (t[i].toNat : Int) := by omega
            have HR := Lib.hid (HY.out (by rw [hgen.out, decide_eq_true (show 48 ≤ t[i].toNat by omega), decide_eq_true (show t[i].toNat ≤ 57 by omega)]; rfl))
            clear HX HY
            go_wp2
            go_roundw
            case rel => exact ⟨i + 1, by omega, by go_num, HR.out, by first | rfl | trivial⟩
            case measure => simp [Go.RowKit.intOf]; omega
      · obtain rfl : i = t.size := by omega
        have HF := Lib.hid (all_full rfl HALL.out)
        have hq0 : ¬ (t.size : Int) < (t.size : Int) := by omega
        by_cases h0 : 0 < t.size
        · have HE := Lib.hid (okT_end HF.out h0)
          have hi0 : (0 : Int) ≤ 0 ∧ (0 : Int) < (t.size : Int) := by omega
          by_cases h200 : t.size ≤ 200
          · by_cases h48 : t.data.toList = [48]
            · have hs := str_eq48 h48
              have HR := Lib.hid (show okT t.data.toList = true by rw [HE.out, decide_eq_true h200, decide_eq_true h48]; rfl)
              clear h48 HE
              go_wp2
              go_ret
              exact ⟨by first | (rw [HOK.out, HR.out]; done) | (rw [HOK.out, HR.out]; rfl), rfl⟩
            · have hs := str_ne48 h48
              by_cases hz : t[0].toNat = 48
              · have HR := Lib.hid (show okT t.data.toList = false by rw [HE.out, decide_eq_true h200, decide_eq_false h48, decide_eq_false (fun k => k hz)]; rfl)
                clear h48 HE
                go_wp2
                go_ret
                exact ⟨by first | (rw [HOK.out, HR.out]; done) | (rw [HOK.out, HR.out]; rfl), rfl⟩
              · have HR := Lib.hid (show okT t.data.toList = true by rw [HE.out, decide_eq_true h200, decide_eq_false h48, decide_eq_true hz]; rfl)
                have hz2 : ((t[0].toNat : Int) != 48) = true := bne_iff_ne.2 (by omega)
                have hz3 : ((t[0].toNat : Int) == 48) = false := beq_eq_false_iff_ne.2 (by omega)
                clear h48 HE
                go_wp2
                go_ret
                exact ⟨by first | (rw [HOK.out, HR.out]; done) | (rw [HOK.out, HR.out]; rfl), rfl⟩
          · have HR := Lib.hid (show okT t.data.toList = false by rw [HE.out, decide_eq_false h200]; rfl)
            clear HE
            go_wp2
            go_ret
            exact ⟨by first | (rw [HOK.out, HR.out]; done) | (rw [HOK.out, HR.out]; rfl), rfl⟩
        · exact absurd hz0 h0
  · clear h45
    go_enter Tryz.func53, Tryz.ntmps53
    go_wp2_with fail
    go_loopw [3] (fun u3 wr => ∃ i : Nat, i ≤ t.size ∧ u3 = .int .i64 (i : Nat) ∧ (t.data.toList.take i).all N3.isD = true ∧ w = wr) (fun u3 _ => ((t.size : Int) - Go.RowKit.intOf u3).toNat)
    case atStart => exact ⟨0, Nat.zero_le _, rfl, rfl, rfl⟩
    case round =>
      obtain ⟨i, hi, rfl, hall, rfl⟩ := hrel
      obtain rfl : i = 0 := by omega
      have HR := Lib.hid (okT_end0 hz0)
      have hq0 : ¬ (0 : Int) < (t.size : Int) := by omega
      clear hall
      go_wp2
      go_ret
      exact ⟨by first | (rw [HOK.out, HR.out]; done) | (rw [HOK.out, HR.out]; rfl), rfl⟩
theorem valid10 (s : ByteArray) (w : World) (hs : s.size ≤ 9223372036854775806) :
    Calls Tryz.prog 53 #[.string s] w fun e w' => e = .returned (.bool (N3.okS s)) ∧ w = w' := by
  by_cases h0 : 0 < s.size
  · by_cases h45 : s[0].toNat = 45
    · exact valid10_neg s _ w (by omega) h0 h45 rfl
    · exact valid10_pos s w hs (fun _ => h45)
  · exact valid10_pos s w hs (fun h => absurd h h0)
/-- Whether there is a sign in front. -/
def negS (s : ByteArray) : Bool := decide (s.data.toList.head? = some 45)
def magS (s : ByteArray) : Nat := (N3.iV s).natAbs
theorem neg_mag {s : ByteArray} : N3.iV s = N3.sgn (negS s) (magS s) ∧ magS s = N3.decV (N3.bare s.data.toList) := by
  have hm : magS s = N3.decV (N3.bare s.data.toList) := by
    unfold magS N3.iV N3.intV N3.bare
    split <;> omega
  refine ⟨?_, hm⟩
  rw [hm]
  unfold negS N3.sgn N3.iV N3.intV N3.bare
  by_cases h : s.data.toList.head? = some 45
  · rw [if_pos h, if_pos h, if_pos (decide_eq_true h)]
  · rw [if_neg h, if_neg h, if_neg (by rw [decide_eq_false h]; decide)]
theorem digs_take {t : ByteArray} {k : Nat} (h : k < t.size) : (N3.digs t.data.toList).take (k + 1) = (N3.digs t.data.toList).take k ++ [(t[t.size - 1 - k]).toNat - 48] := by
  have hl : k < t.data.toList.length := by rw [← Lib.size_eq]; exact h
  have e : (N3.digs t.data.toList)[k]? = some ((t[t.size - 1 - k]).toNat - 48) := by
    unfold N3.digs
    rw [List.getElem?_map, List.getElem?_reverse hl, ← Lib.size_eq, List.getElem?_eq_getElem (by rw [← Lib.size_eq]; omega)]
    rfl
  rw [List.take_add_one, e]; rfl
theorem digs_len (t : ByteArray) : (N3.digs t.data.toList).length = t.size := by unfold N3.digs; rw [List.length_map, List.length_reverse, ← Lib.size_eq]
theorem okT_facts {t : ByteArray} (h : okT t.data.toList = true) : 0 < t.size ∧ t.size ≤ 200 ∧ t.data.toList.all N3.isD = true ∧ (t.data.toList = [48] ∨ t.data.toList.head? ≠ some 48) := by
  unfold okT at h
  simp only [Bool.and_eq_true, Bool.or_eq_true, decide_eq_true_eq, ← Lib.size_eq] at h
  exact ⟨h.1, h.2.1, h.2.2.1, h.2.2.2⟩
theorem ok_at {t : ByteArray} (h : t.data.toList.all N3.isD = true) {i : Nat} (hi : i < t.size) : 48 ≤ t[i].toNat ∧ t[i].toNat ≤ 57 := by
  have := List.all_eq_true.1 h t[i] (by
    have : t[i] = t.data.toList[i]'(by rw [← Lib.size_eq]; exact hi) := rfl
    rw [this]; exact List.getElem_mem _)
  unfold N3.isD at this
  simpa using this

set_option maxRecDepth 100000 in
set_option maxHeartbeats 2000000 in
theorem digits10_neg (s t : ByteArray) (w : World) (h0 : 0 < s.size) (h45 : s[0].toNat = 45) (ht : s.extract 1 s.size = t) (hok : N3.okS s = true) :
    Calls Tryz.prog 94 #[.string s] w fun e w' => ∃ v', e = .returned (.tuple #[.bool (negS s), v']) ∧ OwnD w.heap.size w' v' (magS s) ∧ Below w.heap.size w w' := by
  obtain ⟨b1, b2⟩ := bare_neg h0 h45
  rw [ht] at b2
  have hb : N3.bare s.data.toList ≠ [48] := fun hb => by have := okT_bad b1 hb; unfold N3.okS at hok; rw [this] at hok; cases hok
  have hT : okT t.data.toList = true := by rw [b2, ← okT_bare (fun _ => hb)]; exact hok
  obtain ⟨ht0, ht200, hall, hhd⟩ := okT_facts hT
  have HALL := Lib.hid hall
  have HHD := Lib.hid hhd
  have HMAG := Lib.hid (show magS s = N3.decV t.data.toList by rw [neg_mag.2, b2])
  have HNEG := Lib.hid (show negS s = true by unfold negS; rw [decide_eq_true b1])
  have hq1 : (0 : Int) < (s.size : Int) := by omega
  have hi0' : (0 : Int) ≤ 0 ∧ (0 : Int) < (s.size : Int) := by omega
  have hi1' : (0 : Int) ≤ 1 ∧ (1 : Int) ≤ (s.size : Int) := by omega
  have hq2 : ((s[0].toNat : Int) == 45) = true := beq_iff_eq.2 (by omega)
  have hw0 : IntKind.i64.wrap ((t.size : Int) - 1) = (t.size : Int) - 1 := by rw [IntKind.wrap_i64]; omega
  clear b1 b2 hb hT hall hhd hok
  go_enter Tryz.func94, Tryz.ntmps94
  go_wp2_with (simp only [ht])
  go_loopw [5, 6] (fun u5 u6 wr => ∃ k : Nat, k ≤ t.size ∧ u6 = .int .i64 ((t.size : Int) - 1 - k) ∧ (t.data.toList = [48] → k = 0) ∧ wr.ownsRow w.heap.size 3 1 u5 ((N3.digs t.data.toList).take k).length ((castL ((N3.digs t.data.toList).take k)).map (Value.int .i64)) ∧ Below w.heap.size w wr) (fun _ u6 _ => (Go.RowKit.intOf u6 + 1).toNat)
  case atStart => exact ⟨0, Nat.zero_le _, by simp, fun _ => rfl, ⟨rfl, .inl ⟨rfl, rfl⟩⟩, Below.refl _ _⟩
  case round =>
    obtain ⟨k, hk, rfl, hz, hown, hBr⟩ := hrel
    rename World => wr
    have hbk := hBr.size
    obtain ⟨ra, rc, rfl, hr1, hr2⟩ := owned_len hown
    unfold maxLen at hr2
    have hlk : ((N3.digs t.data.toList).take k).length = k := by rw [List.length_take, digs_len]; omega
    by_cases h48 : t.data.toList = [48]
    · have hs := str_eq48 h48
      have hs2 : (t.toList != [48]) = false := by rw [bne, hs]; rfl
      obtain rfl := hz h48
      have hsz : t.size = 1 := by rw [Lib.size_eq, h48]; rfl
      have hres : OwnD w.heap.size wr (.slice ra ((N3.digs t.data.toList).take 0).length rc) (magS s) := by
        have h9 := hown
        have e0 : D10.toG (N3.decV [48]) = [] := by rw [show N3.decV [48] = 0 from rfl, D10.toG_zero]
        rw [List.take_zero] at h9 ⊢
        rw [HMAG.out, h48]
        unfold OwnD
        rw [e0]
        exact h9
      have hm1 : ((t.size : Int) - 1 - ((0 : Nat) : Int)) = 0 := by rw [hsz]; rfl
      rw [hm1]
      clear h48 hown hz
      go_wp2
      go_ret2
      exact ⟨_, by first | (rw [HNEG.out]; done) | (rw [HNEG.out]; rfl), hres, hBr⟩
    · have hs := str_ne48 h48
      have hs2 : (t.toList != [48]) = true := by rw [bne, hs]; rfl
      by_cases hkl : k < t.size
      · have hdt := Lib.hid (digs_take hkl)
        have hil : t.size - 1 - k < t.size := by omega
        obtain ⟨hlo, hhi⟩ := ok_at HALL.out hil
        have hei : (t.size : Int) - 1 - (k : Int) = ((t.size - 1 - k : Nat) : Int) := by omega
        have hidx := Lib.hid hei
        rw [hei]
        have hge : ¬ ((t.size - 1 - k : Nat) : Int) < 0 := by omega
        have hki : (0 : Int) ≤ ((t.size - 1 - k : Nat) : Int) ∧ ((t.size - 1 - k : Nat) : Int) < (t.size : Int) := by omega
        have hw1 : IntKind.i64.wrap (((t.size - 1 - k : Nat) : Int) - 1) = ((t.size - 1 - k : Nat) : Int) - 1 := by rw [IntKind.wrap_i64]; omega
        have hw2 : IntKind.u8.wrap ((t[t.size - 1 - k].toNat : Int) - 48) = ((t[t.size - 1 - k].toNat - 48 : Nat) : Int) := by rw [IntKind.wrap_u8]; omega
        have hw3 : IntKind.i64.wrap ((t[t.size - 1 - k].toNat - 48 : Nat) : Int) = ((t[t.size - 1 - k].toNat - 48 : Nat) : Int) := by rw [IntKind.wrap_i64]; omega
        have hon := Lib.hid (casts_snoc ((N3.digs t.data.toList).take k) (t[t.size - 1 - k].toNat - 48))
        have HOWN := Lib.hid hown
        have HLK := Lib.hid hlk
        clear h48 hown hz hei hlk
        go_wp2_with (at_builtin; refine wpList_push E72 rfl _ _ rfl w.heap.size HOWN.out rfl rfl rfl (by unfold maxLen; have := HLK.out; omega) (by have := HLK.out; omega) (by omega) ?_; intro v' w3 ho3 hg3 hB3)
        go_roundw
        case rel =>
          refine ⟨k + 1, by omega, congrArg (Value.int .i64) (by have := hidx.out; omega), fun h => absurd (str_eq48 h) (by rw [hs]; decide), ?_, hBr.trans hB3⟩
          rw [hdt.out, hon.out, List.length_append]
          exact ho3
        case measure => simp [Go.RowKit.intOf]
      · obtain rfl : k = t.size := by omega
        have hei : (t.size : Int) - 1 - (t.size : Int) = -1 := by omega
        rw [hei]
        have hres : OwnD w.heap.size wr (.slice ra ((N3.digs t.data.toList).take t.size).length rc) (magS s) := by
          have e : (N3.digs t.data.toList).take t.size = D10.toG (magS s) := by
            rw [List.take_of_length_le (by rw [digs_len]; exact Nat.le_refl _), HMAG.out]
            exact N3.digs_toG HALL.out (HHD.out.resolve_left h48)
          unfold OwnD
          rw [← e]; exact hown
        clear h48 hown hz hei hlk
        go_wp2
        go_ret2
        exact ⟨_, by first | (rw [HNEG.out]; done) | (rw [HNEG.out]; rfl), hres, hBr⟩
set_option maxRecDepth 100000 in
set_option maxHeartbeats 2000000 in
theorem digits10_pos (t : ByteArray) (w : World) (h0 : 0 < t.size) (h45 : t[0].toNat ≠ 45) (hok : N3.okS t = true) :
    Calls Tryz.prog 94 #[.string t] w fun e w' => ∃ v', e = .returned (.tuple #[.bool (negS t), v']) ∧ OwnD w.heap.size w' v' (magS t) ∧ Below w.heap.size w w' := by
  obtain ⟨s, hs⟩ : ∃ s, s = t := ⟨_, rfl⟩
  obtain ⟨b1, b2⟩ := bare_pos (fun _ => h45)
  have hT : okT t.data.toList = true := by rw [b2, ← okT_bare (fun h => absurd h b1)]; exact hok
  obtain ⟨ht0, ht200, hall, hhd⟩ := okT_facts hT
  have HALL := Lib.hid hall
  have HHD := Lib.hid hhd
  have HMAG := Lib.hid (show magS s = N3.decV t.data.toList by rw [neg_mag.2, hs, ← b2])
  have HNEG := Lib.hid (show negS s = false by unfold negS; rw [hs, decide_eq_false b1])
  have hi0' : (0 : Int) ≤ 0 ∧ (0 : Int) < (t.size : Int) := by omega
  have hq2 : ((t[0].toNat : Int) == 45) = false := beq_eq_false_iff_ne.2 (by omega)
  have hw0 : IntKind.i64.wrap ((t.size : Int) - 1) = (t.size : Int) - 1 := by rw [IntKind.wrap_i64]; omega
  rw [show negS t = negS s by rw [hs], show magS t = magS s by rw [hs]]
  clear b1 b2 hT hall hhd hok hs
  go_enter Tryz.func94, Tryz.ntmps94
  go_wp2_with fail
  go_loopw [5, 6] (fun u5 u6 wr => ∃ k : Nat, k ≤ t.size ∧ u6 = .int .i64 ((t.size : Int) - 1 - k) ∧ (t.data.toList = [48] → k = 0) ∧ wr.ownsRow w.heap.size 3 1 u5 ((N3.digs t.data.toList).take k).length ((castL ((N3.digs t.data.toList).take k)).map (Value.int .i64)) ∧ Below w.heap.size w wr) (fun _ u6 _ => (Go.RowKit.intOf u6 + 1).toNat)
  case atStart => exact ⟨0, Nat.zero_le _, by simp, fun _ => rfl, ⟨rfl, .inl ⟨rfl, rfl⟩⟩, Below.refl _ _⟩
  case round =>
    obtain ⟨k, hk, rfl, hz, hown, hBr⟩ := hrel
    rename World => wr
    have hbk := hBr.size
    obtain ⟨ra, rc, rfl, hr1, hr2⟩ := owned_len hown
    unfold maxLen at hr2
    have hlk : ((N3.digs t.data.toList).take k).length = k := by rw [List.length_take, digs_len]; omega
    by_cases h48 : t.data.toList = [48]
    · have hs := str_eq48 h48
      have hs2 : (t.toList != [48]) = false := by rw [bne, hs]; rfl
      obtain rfl := hz h48
      have hsz : t.size = 1 := by rw [Lib.size_eq, h48]; rfl
      have hres : OwnD w.heap.size wr (.slice ra ((N3.digs t.data.toList).take 0).length rc) (magS s) := by
        have h9 := hown
        have e0 : D10.toG (N3.decV [48]) = [] := by rw [show N3.decV [48] = 0 from rfl, D10.toG_zero]
        rw [List.take_zero] at h9 ⊢
        rw [HMAG.out, h48]
        unfold OwnD
        rw [e0]
        exact h9
      have hm1 : ((t.size : Int) - 1 - ((0 : Nat) : Int)) = 0 := by rw [hsz]; rfl
      rw [hm1]
      clear h48 hown hz
      go_wp2
      go_ret2
      exact ⟨_, by first | (rw [HNEG.out]; done) | (rw [HNEG.out]; rfl), hres, hBr⟩
    · have hs := str_ne48 h48
      have hs2 : (t.toList != [48]) = true := by rw [bne, hs]; rfl
      by_cases hkl : k < t.size
      · have hdt := Lib.hid (digs_take hkl)
        have hil : t.size - 1 - k < t.size := by omega
        obtain ⟨hlo, hhi⟩ := ok_at HALL.out hil
        have hei : (t.size : Int) - 1 - (k : Int) = ((t.size - 1 - k : Nat) : Int) := by omega
        have hidx := Lib.hid hei
        rw [hei]
        have hge : ¬ ((t.size - 1 - k : Nat) : Int) < 0 := by omega
        have hki : (0 : Int) ≤ ((t.size - 1 - k : Nat) : Int) ∧ ((t.size - 1 - k : Nat) : Int) < (t.size : Int) := by omega
        have hw1 : IntKind.i64.wrap (((t.size - 1 - k : Nat) : Int) - 1) = ((t.size - 1 - k : Nat) : Int) - 1 := by rw [IntKind.wrap_i64]; omega
        have hw2 : IntKind.u8.wrap ((t[t.size - 1 - k].toNat : Int) - 48) = ((t[t.size - 1 - k].toNat - 48 : Nat) : Int) := by rw [IntKind.wrap_u8]; omega
        have hw3 : IntKind.i64.wrap ((t[t.size - 1 - k].toNat - 48 : Nat) : Int) = ((t[t.size - 1 - k].toNat - 48 : Nat) : Int) := by rw [IntKind.wrap_i64]; omega
        have hon := Lib.hid (casts_snoc ((N3.digs t.data.toList).take k) (t[t.size - 1 - k].toNat - 48))
        have HOWN := Lib.hid hown
        have HLK := Lib.hid hlk
        clear h48 hown hz hei hlk
        go_wp2_with (at_builtin; refine wpList_push E72 rfl _ _ rfl w.heap.size HOWN.out rfl rfl rfl (by unfold maxLen; have := HLK.out; omega) (by have := HLK.out; omega) (by omega) ?_; intro v' w3 ho3 hg3 hB3)
        go_roundw
        case rel =>
          refine ⟨k + 1, by omega, congrArg (Value.int .i64) (by have := hidx.out; omega), fun h => absurd (str_eq48 h) (by rw [hs]; decide), ?_, hBr.trans hB3⟩
          rw [hdt.out, hon.out, List.length_append]
          exact ho3
        case measure => simp [Go.RowKit.intOf]
      · obtain rfl : k = t.size := by omega
        have hei : (t.size : Int) - 1 - (t.size : Int) = -1 := by omega
        rw [hei]
        have hres : OwnD w.heap.size wr (.slice ra ((N3.digs t.data.toList).take t.size).length rc) (magS s) := by
          have e : (N3.digs t.data.toList).take t.size = D10.toG (magS s) := by
            rw [List.take_of_length_le (by rw [digs_len]; exact Nat.le_refl _), HMAG.out]
            exact N3.digs_toG HALL.out (HHD.out.resolve_left h48)
          unfold OwnD
          rw [← e]; exact hown
        clear h48 hown hz hei hlk
        go_wp2
        go_ret2
        exact ⟨_, by first | (rw [HNEG.out]; done) | (rw [HNEG.out]; rfl), hres, hBr⟩
theorem digits10 (s : ByteArray) (w : World) (hok : N3.okS s = true) :
    Calls Tryz.prog 94 #[.string s] w fun e w' => ∃ v', e = .returned (.tuple #[.bool (negS s), v']) ∧ OwnD w.heap.size w' v' (magS s) ∧ Below w.heap.size w w' := by
  have h0 : 0 < s.size := by
    refine Classical.byContradiction fun hc => ?_
    have : s.data.toList = [] := List.eq_nil_of_length_eq_zero (by rw [← Lib.size_eq]; omega)
    unfold N3.okS at hok
    rw [this] at hok
    cases hok
  by_cases h45 : s[0].toNat = 45
  · exact digits10_neg s _ w h0 h45 rfl hok
  · exact digits10_pos s w h0 h45 hok
end Go.Proofs.YtjnpenljgfdaiaaGreatDoor

/- package nadirref03: sums, differences, products, the order. -/
namespace Go.Proofs.YtjnpenljgfdaiaaGreatDoor
open Go.RowKit Go.Shelf Lib

theorem lim10 : N3.lim = 10 ^ 200 := rfl
theorem len_of_lim {n : Nat} (h : n < N3.lim) : (D10.toG n).length ≤ 200 := D10.toG_len_le h
theorem len_add {n m : Nat} (h : n < N3.lim) (k : m < N3.lim) : (D10.toG (n + m)).length ≤ 201 := D10.toG_len_le (by
  rw [lim10] at h k
  rw [show (201 : Nat) = 200 + 1 from rfl, Nat.pow_succ]
  omega)
theorem len_times10 (n m : Nat) : (D10.toG (n * m)).length ≤ (D10.toG n).length + (D10.toG m).length := D10.toG_len_le (by
  rw [Nat.pow_add]
  exact Nat.mul_lt_mul'' (D10.lt_pow n) (D10.lt_pow m))
theorem mag_lim {s : ByteArray} (h : N3.okS s = true) : magS s < N3.lim := N3.iV_lim h
set_option maxRecDepth 100000 in
set_option maxHeartbeats 2000000 in
theorem checked10 (b : Bool) (v : Value) (n : Nat) (w : World) (h1 : DigAt w v n) (l1 : (D10.toG n).length ≤ 100000) :
    Calls Tryz.prog 96 #[.bool b, v] w fun e w' => e = .returned (.tuple #[.string (N3.outS (some (N3.sgn b n))), .int .i64 (N3.outE (some (N3.sgn b n)))]) ∧ Below w.heap.size w w' := by
  have ht := text10_any b v n w h1 l1
  clear h1
  by_cases h : n < N3.lim
  · have h2 : (N3.sgn b n).natAbs < N3.lim := by rw [N3.sgn_abs]; exact h
    rw [N3.outS_some h2, N3.outE_some h2]
    rw [decide_eq_true h] at ht
    have HT := Lib.hid ht
    clear ht h2 h
    generalize N3.S (N3.sgn b n) = s at *
    go_enter Tryz.func96, Tryz.ntmps96
    go_wp2_with fail
    refine HT.out.mono ?_
    rintro e w' ⟨rfl, hB⟩
    go_wp2
    go_ret2
    exact ⟨rfl, hB⟩
  · have h2 : ¬ (N3.sgn b n).natAbs < N3.lim := by rw [N3.sgn_abs]; exact h
    rw [N3.outS_big h2, N3.outE_big h2]
    rw [decide_eq_false h] at ht
    have HT := Lib.hid ht
    clear ht h2 h
    generalize N3.S (N3.sgn b n) = s at *
    go_enter Tryz.func96, Tryz.ntmps96
    go_wp2_with fail
    refine HT.out.mono ?_
    rintro e w' ⟨rfl, hB⟩
    go_wp2
    go_ret2
    exact ⟨rfl, hB⟩

set_option maxRecDepth 100000 in
set_option maxHeartbeats 2000000 in
theorem sum10 (x y : Bool) (v1 v2 : Value) (k l : Nat) (w : World) (h1 : DigAt w v1 k) (h2 : DigAt w v2 l) (b1 : k < N3.lim) (b2 : l < N3.lim) :
    Calls Tryz.prog 95 #[.bool x, v1, .bool y, v2] w fun e w' => e = .returned (.tuple #[.string (N3.outS (some (N3.sgn x k + N3.sgn y l))), .int .i64 (N3.outE (some (N3.sgn x k + N3.sgn y l)))]) ∧ Below w.heap.size w w' := by
  have H1 := Lib.hid h1
  have H2 := Lib.hid h2
  have q1 := len_of_lim b1
  have q2 := len_of_lim b2
  have q3 := len_add b1 b2
  have HC := Lib.hid checked10
  have HP := Lib.hid plus10
  have HM := Lib.hid minus10
  have HO := Lib.hid order10
  clear h1 h2
  by_cases hxy : x = y
  · subst hxy
    rw [N3.sgn_add_same]
    have hq : (x == x) = true := by cases x <;> rfl
    clear b1 b2
    go_enter Tryz.func95, Tryz.ntmps95
    go_wp2_with fail
    refine (HP.out _ _ k l _ H1.out H2.out (by omega) (by omega) (by omega)).mono ?_
    rintro e w2 ⟨v2, rfl, hv2, hB2⟩
    have HV := Lib.hid hv2.dig
    clear hv2
    go_wp2_with fail
    refine (HC.out x _ (k + l) _ HV.out (by omega)).mono ?_
    rintro e w3 ⟨rfl, hB3⟩
    have hB := hB2.trans (hB3.mono hB2.size)
    go_wp2
    go_ret2
    exact ⟨rfl, hB⟩
  · have hq : (x == y) = false := beq_eq_false_iff_ne.2 hxy
    by_cases hkl : l ≤ k
    · rw [N3.sgn_add_ge hxy hkl]
      have hz : 0 ≤ N3.cmpI (k : Int) (l : Int) := by unfold N3.cmpI; (repeat' split) <;> omega
      have q4 : (D10.toG (k - l)).length ≤ 200 := len_of_lim (by omega)
      clear b1 b2 hxy
      go_enter Tryz.func95, Tryz.ntmps95
      go_wp2_with fail
      refine (HO.out _ _ k l _ H1.out H2.out (by omega) (by omega)).mono ?_
      rintro e w1 ⟨rfl, hB1⟩
      generalize N3.cmpI (k : Int) (l : Int) = z at *
      go_wp2_with fail
      refine (HM.out _ _ k l _ (H1.out.below hB1) (H2.out.below hB1) hkl (by omega) (by omega)).mono ?_
      rintro e w2 ⟨v2, rfl, hv2, hB2⟩
      have HV := Lib.hid hv2.dig
      clear hv2
      go_wp2_with fail
      refine (HC.out x _ (k - l) _ HV.out (by omega)).mono ?_
      rintro e w3 ⟨rfl, hB3⟩
      have hB := hB1.trans ((hB2.trans (hB3.mono hB2.size)).mono hB1.size)
      go_wp2
      go_ret2
      exact ⟨rfl, hB⟩
    · rw [N3.sgn_add_lt hxy (by omega)]
      have hz : ¬ 0 ≤ N3.cmpI (k : Int) (l : Int) := by unfold N3.cmpI; (repeat' split) <;> omega
      have hz2 : N3.cmpI (k : Int) (l : Int) < 0 := by omega
      have q4 : (D10.toG (l - k)).length ≤ 200 := len_of_lim (by omega)
      clear b1 b2 hxy
      go_enter Tryz.func95, Tryz.ntmps95
      go_wp2_with fail
      refine (HO.out _ _ k l _ H1.out H2.out (by omega) (by omega)).mono ?_
      rintro e w1 ⟨rfl, hB1⟩
      generalize N3.cmpI (k : Int) (l : Int) = z at *
      go_wp2_with fail
      refine (HM.out _ _ l k _ (H2.out.below hB1) (H1.out.below hB1) (by omega) (by omega) (by omega)).mono ?_
      rintro e w2 ⟨v2, rfl, hv2, hB2⟩
      have HV := Lib.hid hv2.dig
      clear hv2
      go_wp2_with fail
      refine (HC.out y _ (l - k) _ HV.out (by omega)).mono ?_
      rintro e w3 ⟨rfl, hB3⟩
      have hB := hB1.trans ((hB2.trans (hB3.mono hB2.size)).mono hB1.size)
      go_wp2
      go_ret2
      exact ⟨rfl, hB⟩

theorem out_none' : N3.outS none = ⟨#[]⟩ ∧ N3.outE none = 30 := ⟨rfl, rfl⟩

set_option maxRecDepth 100000 in
set_option maxHeartbeats 2000000 in
theorem add10 (a b : ByteArray) (w : World) (ha : a.size ≤ 9223372036854775806) (hb : b.size ≤ 9223372036854775806) :
    Calls Tryz.prog 45 #[.string a, .string b] w fun e w' => e = .returned (.tuple #[.string (N3.outS (N3.addO a b)), .int .i64 (N3.outE (N3.addO a b))]) ∧ Below w.heap.size w w' := by
  have HA := Lib.hid (fun V => valid10 a V ha)
  have HB := Lib.hid (fun V => valid10 b V hb)
  clear ha hb
  cases hoa : N3.okS a with
  | false =>
    have e1 : N3.addO a b = none := by unfold N3.addO N3.ok2; rw [hoa]; rfl
    rw [e1, out_none'.1, out_none'.2]
    rw [hoa] at HA
    clear hoa e1
    go_enter Tryz.func45, Tryz.ntmps45
    go_wp2_with fail
    refine (HA.out _).mono ?_
    rintro e w' ⟨rfl, rfl⟩
    go_wp2
    go_ret2
    exact ⟨rfl, Below.refl _ _⟩
  | true =>
    cases hob : N3.okS b with
    | false =>
      have e1 : N3.addO a b = none := by unfold N3.addO N3.ok2; rw [hoa, hob]; rfl
      rw [e1, out_none'.1, out_none'.2]
      rw [hoa] at HA
      rw [hob] at HB
      clear hoa hob e1
      go_enter Tryz.func45, Tryz.ntmps45
      go_wp2_with fail
      refine (HA.out _).mono ?_
      rintro e w' ⟨rfl, rfl⟩
      go_wp2_with fail
      refine (HB.out _).mono ?_
      rintro e w' ⟨rfl, rfl⟩
      go_wp2
      go_ret2
      exact ⟨rfl, Below.refl _ _⟩
    | true =>
      have e1 : N3.addO a b = some (N3.iV a + N3.iV b) := by unfold N3.addO N3.ok2; rw [hoa, hob]; rfl
      rw [e1, (neg_mag (s := a)).1, (neg_mag (s := b)).1]
      have m1 := mag_lim hoa
      have m2 := mag_lim hob
      have HD1 := Lib.hid (fun V => digits10 a V hoa)
      have HD2 := Lib.hid (fun V => digits10 b V hob)
      rw [hoa] at HA
      rw [hob] at HB
      clear hoa hob e1
      generalize negS a = x at *
      generalize negS b = y at *
      generalize magS a = k at *
      generalize magS b = l at *
      have HS := Lib.hid sum10
      go_enter Tryz.func45, Tryz.ntmps45
      go_wp2_with fail
      refine (HA.out _).mono ?_
      rintro e w' ⟨rfl, rfl⟩
      go_wp2_with fail
      refine (HB.out _).mono ?_
      rintro e w' ⟨rfl, rfl⟩
      go_wp2_with fail
      refine (HD1.out _).mono ?_
      rintro e w1 ⟨v1, rfl, hv1, hB1⟩
      have HV1 := Lib.hid hv1
      clear hv1
      go_wp2_with fail
      refine (HD2.out _).mono ?_
      rintro e w2 ⟨v2, rfl, hv2, hB2⟩
      have HW1 := Lib.hid (HV1.out.below hB2)
      have HW2 := Lib.hid hv2
      have hBa := hB1.trans (hB2.mono hB1.size)
      clear hv2
      go_wp2_with fail
      refine (HS.out x y _ _ k l _ HW1.out.dig HW2.out.dig m1 m2).mono ?_
      rintro e w3 ⟨rfl, hB3⟩
      have hB := hBa.trans (hB3.mono hBa.size)
      go_wp2
      go_ret2
      exact ⟨rfl, hB⟩

set_option maxRecDepth 100000 in
set_option maxHeartbeats 2000000 in
theorem sub10 (a b : ByteArray) (w : World) (ha : a.size ≤ 9223372036854775806) (hb : b.size ≤ 9223372036854775806) :
    Calls Tryz.prog 46 #[.string a, .string b] w fun e w' => e = .returned (.tuple #[.string (N3.outS (N3.subO a b)), .int .i64 (N3.outE (N3.subO a b))]) ∧ Below w.heap.size w w' := by
  have HA := Lib.hid (fun V => valid10 a V ha)
  have HB := Lib.hid (fun V => valid10 b V hb)
  clear ha hb
  cases hoa : N3.okS a with
  | false =>
    have e1 : N3.subO a b = none := by unfold N3.subO N3.ok2; rw [hoa]; rfl
    rw [e1, out_none'.1, out_none'.2]
    rw [hoa] at HA
    clear hoa e1
    go_enter Tryz.func46, Tryz.ntmps46
    go_wp2_with fail
    refine (HA.out _).mono ?_
    rintro e w' ⟨rfl, rfl⟩
    go_wp2
    go_ret2
    exact ⟨rfl, Below.refl _ _⟩
  | true =>
    cases hob : N3.okS b with
    | false =>
      have e1 : N3.subO a b = none := by unfold N3.subO N3.ok2; rw [hoa, hob]; rfl
      rw [e1, out_none'.1, out_none'.2]
      rw [hoa] at HA
      rw [hob] at HB
      clear hoa hob e1
      go_enter Tryz.func46, Tryz.ntmps46
      go_wp2_with fail
      refine (HA.out _).mono ?_
      rintro e w' ⟨rfl, rfl⟩
      go_wp2_with fail
      refine (HB.out _).mono ?_
      rintro e w' ⟨rfl, rfl⟩
      go_wp2
      go_ret2
      exact ⟨rfl, Below.refl _ _⟩
    | true =>
      have e1 : N3.subO a b = some (N3.iV a - N3.iV b) := by unfold N3.subO N3.ok2; rw [hoa, hob]; rfl
      rw [e1, (neg_mag (s := a)).1, (neg_mag (s := b)).1]
      have m1 := mag_lim hoa
      have m2 := mag_lim hob
      have HD1 := Lib.hid (fun V => digits10 a V hoa)
      have HD2 := Lib.hid (fun V => digits10 b V hob)
      rw [hoa] at HA
      rw [hob] at HB
      clear hoa hob e1
      generalize negS a = x at *
      generalize negS b = y at *
      generalize magS a = k at *
      generalize magS b = l at *
      rw [Int.sub_eq_add_neg, N3.sgn_neg]
      have HS := Lib.hid sum10
      go_enter Tryz.func46, Tryz.ntmps46
      go_wp2_with fail
      refine (HA.out _).mono ?_
      rintro e w' ⟨rfl, rfl⟩
      go_wp2_with fail
      refine (HB.out _).mono ?_
      rintro e w' ⟨rfl, rfl⟩
      go_wp2_with fail
      refine (HD1.out _).mono ?_
      rintro e w1 ⟨v1, rfl, hv1, hB1⟩
      have HV1 := Lib.hid hv1
      clear hv1
      go_wp2_with fail
      refine (HD2.out _).mono ?_
      rintro e w2 ⟨v2, rfl, hv2, hB2⟩
      have HW1 := Lib.hid (HV1.out.below hB2)
      have HW2 := Lib.hid hv2
      have hBa := hB1.trans (hB2.mono hB1.size)
      clear hv2
      go_wp2_with fail
      refine (HS.out x (!y) _ _ k l _ HW1.out.dig HW2.out.dig m1 m2).mono ?_
      rintro e w3 ⟨rfl, hB3⟩
      have hB := hBa.trans (hB3.mono hBa.size)
      go_wp2
      go_ret2
      exact ⟨rfl, hB⟩

set_option maxRecDepth 100000 in
set_option maxHeartbeats 2000000 in
theorem mul10 (a b : ByteArray) (w : World) (ha : a.size ≤ 9223372036854775806) (hb : b.size ≤ 9223372036854775806) :
    Calls Tryz.prog 47 #[.string a, .string b] w fun e w' => e = .returned (.tuple #[.string (N3.outS (N3.mulO a b)), .int .i64 (N3.outE (N3.mulO a b))]) ∧ Below w.heap.size w w' := by
  have HA := Lib.hid (fun V => valid10 a V ha)
  have HB := Lib.hid (fun V => valid10 b V hb)
  clear ha hb
  cases hoa : N3.okS a with
  | false =>
    have e1 : N3.mulO a b = none := by unfold N3.mulO N3.ok2; rw [hoa]; rfl
    rw [e1, out_none'.1, out_none'.2]
    rw [hoa] at HA
    clear hoa e1
    go_enter Tryz.func47, Tryz.ntmps47
    go_wp2_with fail
    refine (HA.out _).mono ?_
    rintro e w' ⟨rfl, rfl⟩
    go_wp2
    go_ret2
    exact ⟨rfl, Below.refl _ _⟩
  | true =>
    cases hob : N3.okS b with
    | false =>
      have e1 : N3.mulO a b = none := by unfold N3.mulO N3.ok2; rw [hoa, hob]; rfl
      rw [e1, out_none'.1, out_none'.2]
      rw [hoa] at HA
      rw [hob] at HB
      clear hoa hob e1
      go_enter Tryz.func47, Tryz.ntmps47
      go_wp2_with fail
      refine (HA.out _).mono ?_
      rintro e w' ⟨rfl, rfl⟩
      go_wp2_with fail
      refine (HB.out _).mono ?_
      rintro e w' ⟨rfl, rfl⟩
      go_wp2
      go_ret2
      exact ⟨rfl, Below.refl _ _⟩
    | true =>
      have e1 : N3.mulO a b = some (N3.iV a * N3.iV b) := by unfold N3.mulO N3.ok2; rw [hoa, hob]; rfl
      rw [e1, (neg_mag (s := a)).1, (neg_mag (s := b)).1]
      have m1 := mag_lim hoa
      have m2 := mag_lim hob
      have HD1 := Lib.hid (fun V => digits10 a V hoa)
      have HD2 := Lib.hid (fun V => digits10 b V hob)
      rw [hoa] at HA
      rw [hob] at HB
      clear hoa hob e1
      generalize negS a = x at *
      generalize negS b = y at *
      generalize magS a = k at *
      generalize magS b = l at *
      rw [N3.sgn_mul]
      have HP := Lib.hid times10
      have HC := Lib.hid checked10
      have q1 := len_of_lim m1
      have q2 := len_of_lim m2
      have q3 := len_times10 k l
      go_enter Tryz.func47, Tryz.ntmps47
      go_wp2_with fail
      refine (HA.out _).mono ?_
      rintro e w' ⟨rfl, rfl⟩
      go_wp2_with fail
      refine (HB.out _).mono ?_
      rintro e w' ⟨rfl, rfl⟩
      go_wp2_with fail
      refine (HD1.out _).mono ?_
      rintro e w1 ⟨v1, rfl, hv1, hB1⟩
      have HV1 := Lib.hid hv1
      clear hv1
      go_wp2_with fail
      refine (HD2.out _).mono ?_
      rintro e w2 ⟨v2, rfl, hv2, hB2⟩
      have HW1 := Lib.hid (HV1.out.below hB2)
      have HW2 := Lib.hid hv2
      have hBa := hB1.trans (hB2.mono hB1.size)
      clear hv2
      go_wp2_with fail
      refine (HP.out _ _ k l _ HW1.out.dig HW2.out.dig (by omega) (by omega)).mono ?_
      rintro e w4 ⟨v4, rfl, hv4, hB4⟩
      have HV4 := Lib.hid hv4.dig
      have hBb := hBa.trans (hB4.mono hBa.size)
      clear hv4
      go_wp2_with fail
      refine (HC.out (x != y) _ (k * l) _ HV4.out (by omega)).mono ?_
      rintro e w3 ⟨rfl, hB3⟩
      have hB := hBb.trans (hB3.mono hBb.size)
      go_wp2
      go_ret2
      exact ⟨rfl, hB⟩

theorem neg_pos10 {s : ByteArray} (h : N3.okS s = true) : negS s = true → 0 < magS s := by
  intro hn
  have h1 : s.data.toList.head? = some 45 := by unfold negS at hn; exact of_decide_eq_true hn
  have hb : N3.bare s.data.toList ≠ [48] := fun hb => by have := okT_bad h1 hb; unfold N3.okS at h; rw [this] at h; cases h
  have hT : okT (N3.bare s.data.toList) = true := by rw [← okT_bare (fun _ => hb)]; exact h
  unfold okT at hT
  simp only [Bool.and_eq_true, Bool.or_eq_true, decide_eq_true_eq] at hT
  have hh := hT.2.2.2.resolve_left hb
  refine Nat.pos_of_ne_zero fun e => ?_
  rw [neg_mag.2] at e
  have e2 := N3.digs_toG hT.2.2.1 hh
  rw [e, D10.toG_zero] at e2
  have e3 := congrArg List.length e2
  unfold N3.digs at e3
  rw [List.length_map, List.length_reverse] at e3
  have := hT.1
  simp at e3
  rw [e3] at this
  exact absurd this (by decide)

set_option maxRecDepth 100000 in
set_option maxHeartbeats 2000000 in
theorem compare10 (a b : ByteArray) (w : World) (ha : a.size ≤ 9223372036854775806) (hb : b.size ≤ 9223372036854775806) :
    Calls Tryz.prog 54 #[.string a, .string b] w fun e w' => e = .returned (.int .i64 (N3.cmpS a b)) ∧ Below w.heap.size w w' := by
  have HA := Lib.hid (fun V => valid10 a V ha)
  have HB := Lib.hid (fun V => valid10 b V hb)
  clear ha hb
  cases hoa : N3.okS a with
  | false =>
    have e1 : N3.cmpS a b = 0 := by unfold N3.cmpS N3.ok2; rw [hoa]; rfl
    rw [e1]
    rw [hoa] at HA
    clear hoa e1
    go_enter Tryz.func54, Tryz.ntmps54
    go_wp2_with fail
    refine (HA.out _).mono ?_
    rintro e w' ⟨rfl, rfl⟩
    go_wp2
    go_ret
    exact ⟨rfl, Below.refl _ _⟩
  | true =>
    cases hob : N3.okS b with
    | false =>
      have e1 : N3.cmpS a b = 0 := by unfold N3.cmpS N3.ok2; rw [hoa, hob]; rfl
      rw [e1]
      rw [hoa] at HA
      rw [hob] at HB
      clear hoa hob e1
      go_enter Tryz.func54, Tryz.ntmps54
      go_wp2_with fail
      refine (HA.out _).mono ?_
      rintro e w' ⟨rfl, rfl⟩
      go_wp2_with fail
      refine (HB.out _).mono ?_
      rintro e w' ⟨rfl, rfl⟩
      go_wp2
      go_ret
      exact ⟨rfl, Below.refl _ _⟩
    | true =>
      have e1 : N3.cmpS a b = N3.cmpI (N3.iV a) (N3.iV b) := by unfold N3.cmpS N3.ok2; rw [hoa, hob]; rfl
      rw [e1, (neg_mag (s := a)).1, (neg_mag (s := b)).1]
      have m1 := mag_lim hoa
      have m2 := mag_lim hob
      have p1 := neg_pos10 hoa
      have p2 := neg_pos10 hob
      have HD1 := Lib.hid (fun V => digits10 a V hoa)
      have HD2 := Lib.hid (fun V => digits10 b V hob)
      rw [hoa] at HA
      rw [hob] at HB
      clear hoa hob e1
      generalize negS a = x at *
      generalize negS b = y at *
      generalize magS a = k at *
      generalize magS b = l at *
      have HO := Lib.hid order10
      have q1 := len_of_lim m1
      have q2 := len_of_lim m2
      cases x <;> cases y
      · have e2 : N3.cmpI (N3.sgn false k) (N3.sgn false l) = N3.cmpI (k : Int) (l : Int) := rfl
        rw [e2]
        clear e2 m1 m2 p1 p2
        go_enter Tryz.func54, Tryz.ntmps54
        go_wp2_with fail
        refine (HA.out _).mono ?_
        rintro e w' ⟨rfl, rfl⟩
        go_wp2_with fail
        refine (HB.out _).mono ?_
        rintro e w' ⟨rfl, rfl⟩
        go_wp2_with fail
        refine (HD1.out _).mono ?_
        rintro e w1 ⟨v1, rfl, hv1, hB1⟩
        have HV1 := Lib.hid hv1
        clear hv1
        go_wp2_with fail
        refine (HD2.out _).mono ?_
        rintro e w2 ⟨v2, rfl, hv2, hB2⟩
        have HW1 := Lib.hid (HV1.out.below hB2)
        have HW2 := Lib.hid hv2
        have hBa := hB1.trans (hB2.mono hB1.size)
        clear hv2
        go_wp2_with fail
        refine (HO.out _ _ k l _ HW1.out.dig HW2.out.dig (by omega) (by omega)).mono ?_
        rintro e w3 ⟨rfl, hB3⟩
        have hB := hBa.trans (hB3.mono hBa.size)
        go_wp2
        go_ret
        exact ⟨rfl, hB⟩
      · have e2 : N3.cmpI (N3.sgn false k) (N3.sgn true l) = 1 := by have := p2 rfl; unfold N3.cmpI N3.sgn; simp; omega
        rw [e2]
        clear e2 m1 m2 p1 p2
        go_enter Tryz.func54, Tryz.ntmps54
        go_wp2_with fail
        refine (HA.out _).mono ?_
        rintro e w' ⟨rfl, rfl⟩
        go_wp2_with fail
        refine (HB.out _).mono ?_
        rintro e w' ⟨rfl, rfl⟩
        go_wp2_with fail
        refine (HD1.out _).mono ?_
        rintro e w1 ⟨v1, rfl, hv1, hB1⟩
        have HV1 := Lib.hid hv1
        clear hv1
        go_wp2_with fail
        refine (HD2.out _).mono ?_
        rintro e w2 ⟨v2, rfl, hv2, hB2⟩
        have HW1 := Lib.hid (HV1.out.below hB2)
        have HW2 := Lib.hid hv2
        have hBa := hB1.trans (hB2.mono hB1.size)
        clear hv2
        go_wp2_with fail
        go_ret
        exact ⟨rfl, hBa⟩
      · have e2 : N3.cmpI (N3.sgn true k) (N3.sgn false l) = -1 := by have := p1 rfl; unfold N3.cmpI N3.sgn; simp; omega
        rw [e2]
        clear e2 m1 m2 p1 p2
        go_enter Tryz.func54, Tryz.ntmps54
        go_wp2_with fail
        refine (HA.out _).mono ?_
        rintro e w' ⟨rfl, rfl⟩
        go_wp2_with fail
        refine (HB.out _).mono ?_
        rintro e w' ⟨rfl, rfl⟩
        go_wp2_with fail
        refine (HD1.out _).mono ?_
        rintro e w1 ⟨v1, rfl, hv1, hB1⟩
        have HV1 := Lib.hid hv1
        clear hv1
        go_wp2_with fail
        refine (HD2.out _).mono ?_
        rintro e w2 ⟨v2, rfl, hv2, hB2⟩
        have HW1 := Lib.hid (HV1.out.below hB2)
        have HW2 := Lib.hid hv2
        have hBa := hB1.trans (hB2.mono hB1.size)
        clear hv2
        go_wp2_with fail
        go_ret
        exact ⟨rfl, hBa⟩
      · have e2 : N3.cmpI (N3.sgn true k) (N3.sgn true l) = N3.cmpI (l : Int) (k : Int) := by unfold N3.cmpI N3.sgn; simp
        rw [e2]
        clear e2 m1 m2 p1 p2
        go_enter Tryz.func54, Tryz.ntmps54
        go_wp2_with fail
        refine (HA.out _).mono ?_
        rintro e w' ⟨rfl, rfl⟩
        go_wp2_with fail
        refine (HB.out _).mono ?_
        rintro e w' ⟨rfl, rfl⟩
        go_wp2_with fail
        refine (HD1.out _).mono ?_
        rintro e w1 ⟨v1, rfl, hv1, hB1⟩
        have HV1 := Lib.hid hv1
        clear hv1
        go_wp2_with fail
        refine (HD2.out _).mono ?_
        rintro e w2 ⟨v2, rfl, hv2, hB2⟩
        have HW1 := Lib.hid (HV1.out.below hB2)
        have HW2 := Lib.hid hv2
        have hBa := hB1.trans (hB2.mono hB1.size)
        clear hv2
        go_wp2_with fail
        refine (HO.out _ _ l k _ HW2.out.dig HW1.out.dig (by omega) (by omega)).mono ?_
        rintro e w3 ⟨rfl, hB3⟩
        have hB := hBa.trans (hB3.mono hBa.size)
        go_wp2
        go_ret
        exact ⟨rfl, hB⟩

end Go.Proofs.YtjnpenljgfdaiaaGreatDoor

/- package nadirref03: Div, Gcd. -/
namespace Go.Proofs.YtjnpenljgfdaiaaGreatDoor
open Go.RowKit Go.Shelf Lib

theorem dig_one (w : World) : DigAt (w.alloc (.cells #[.int .i64 1] 3)) (.slice (some ⟨w.heap.size, 0, none⟩) 1 1) 1 := by
  have e : D10.toG 1 = [1] := by rw [D10.toG_pos (by decide), show 1 / 10 = 0 from rfl, D10.toG_zero]
  have hb : (w.alloc (.cells #[.int .i64 1] 3)).heap[w.heap.size]? = some (.cells #[.int .i64 1] 3 (0, 0)) := heap_alloc_new w _
  refine own_ints (B := w.heap.size) (l := D10.toG 1) ?_
  rw [e]
  exact ⟨rfl, .inr ⟨w.heap.size, 1, #[.int .i64 1], rfl, Nat.le_refl _, hb, Nat.le_refl _, by decide, rfl, rfl⟩⟩
theorem ok_zero {b : ByteArray} (h : N3.okS b = true) : N3.iV b = 0 ↔ b.data.toList = [48] := by
  constructor
  · intro e
    have := N3.S_iV h
    rw [e] at this
    rw [← this]
    unfold N3.S; rw [N3.itoa_zero]
  · intro e
    have : b = ⟨#[48]⟩ := bytes_ext e
    rw [this]; decide
theorem len_zero10 {r : Nat} : (D10.toG r).length = 0 ↔ r = 0 := by rw [List.length_eq_zero_iff, D10.toG_nil]

set_option maxRecDepth 100000 in
set_option maxHeartbeats 6000000 in
theorem div10 (a b : ByteArray) (w : World) (ha : a.size ≤ 9223372036854775806) (hb : b.size ≤ 9223372036854775806) :
    Calls Tryz.prog 48 #[.string a, .string b] w fun e w' => e = .returned (.tuple #[.string (N3.outS (N3.quoO a b)), .string (N3.outS (N3.remO a b)), .int .i64 (N3.outE (N3.quoO a b))]) ∧ Below w.heap.size w w' := by
  have HA := Lib.hid (fun V => valid10 a V ha)
  have HB := Lib.hid (fun V => valid10 b V hb)
  clear ha hb
  cases hoa : N3.okS a with
  | false =>
    have e1 : N3.okDiv a b = false := by unfold N3.okDiv N3.ok2; rw [hoa]; rfl
    have e2 : N3.quoO a b = none := by unfold N3.quoO; rw [e1]; rfl
    have e3 : N3.remO a b = none := by unfold N3.remO; rw [e1]; rfl
    rw [e2, e3, out_none'.1, out_none'.2]
    rw [hoa] at HA
    clear hoa e1 e2 e3
    go_enter Tryz.func48, Tryz.ntmps48
    go_wp2_with fail
    refine (HA.out _).mono ?_
    rintro e w' ⟨rfl, rfl⟩
    go_wp2
    refine bodyPost_ret (v := .tuple #[.string ⟨#[]⟩, .string ⟨#[]⟩, .int .i64 30]) (by simp [results, Tryz.results48, go_sem]) rfl ?_
    exact ⟨rfl, Below.refl _ _⟩
  | true =>
    cases hob : N3.okS b with
    | false =>
      have e1 : N3.okDiv a b = false := by unfold N3.okDiv N3.ok2; rw [hoa, hob]; rfl
      have e2 : N3.quoO a b = none := by unfold N3.quoO; rw [e1]; rfl
      have e3 : N3.remO a b = none := by unfold N3.remO; rw [e1]; rfl
      rw [e2, e3, out_none'.1, out_none'.2]
      rw [hoa] at HA
      rw [hob] at HB
      clear hoa hob e1 e2 e3
      go_enter Tryz.func48, Tryz.ntmps48
      go_wp2_with fail
      refine (HA.out _).mono ?_
      rintro e w' ⟨rfl, rfl⟩
      go_wp2_with fail
      refine (HB.out _).mono ?_
      rintro e w' ⟨rfl, rfl⟩
      go_wp2
      refine bodyPost_ret (v := .tuple #[.string ⟨#[]⟩, .string ⟨#[]⟩, .int .i64 30]) (by simp [results, Tryz.results48, go_sem]) rfl ?_
      exact ⟨rfl, Below.refl _ _⟩
    | true =>
      by_cases hz : N3.iV b = 0
      · have hst := str_eq48 ((ok_zero hob).1 hz)
        have e1 : N3.okDiv a b = false := by unfold N3.okDiv N3.ok2; rw [hoa, hob, decide_eq_false (fun k => k hz)]; rfl
        have e2 : N3.quoO a b = none := by unfold N3.quoO; rw [e1]; rfl
        have e3 : N3.remO a b = none := by unfold N3.remO; rw [e1]; rfl
        rw [e2, e3, out_none'.1, out_none'.2]
        rw [hoa] at HA
        rw [hob] at HB
        clear hoa hob e1 e2 e3 hz
        go_enter Tryz.func48, Tryz.ntmps48
        go_wp2_with fail
        refine (HA.out _).mono ?_
        rintro e w' ⟨rfl, rfl⟩
        go_wp2_with fail
        refine (HB.out _).mono ?_
        rintro e w' ⟨rfl, rfl⟩
        go_wp2
        refine bodyPost_ret (v := .tuple #[.string ⟨#[]⟩, .string ⟨#[]⟩, .int .i64 30]) (by simp [results, Tryz.results48, go_sem]) rfl ?_
        exact ⟨rfl, Below.refl _ _⟩
      · have hst := str_ne48 (fun e => hz ((ok_zero hob).2 e))
        have e1 : N3.okDiv a b = true := by unfold N3.okDiv N3.ok2; rw [hoa, hob, decide_eq_true hz]; rfl
        have e2 : N3.quoO a b = some (N3.iV a / N3.iV b) := by unfold N3.quoO; rw [if_pos e1]
        have e3 : N3.remO a b = some (N3.iV a % N3.iV b) := by unfold N3.remO; rw [if_pos e1]
        rw [e2, e3, (neg_mag (s := a)).1, (neg_mag (s := b)).1]
        have m1 := mag_lim hoa
        have m2 := mag_lim hob
        have hl0 : 0 < magS b := by
          have : magS b = (N3.iV b).natAbs := rfl
          omega
        have HD1 := Lib.hid (fun V => digits10 a V hoa)
        have HD2 := Lib.hid (fun V => digits10 b V hob)
        rw [hoa] at HA
        rw [hob] at HB
        clear hoa hob e1 e2 e3 hz
        generalize negS a = x at *
        generalize negS b = y at *
        generalize magS a = k at *
        generalize magS b = l at *
        have HDV := Lib.hid divided10
        have HC := Lib.hid checked10
        have HT := Lib.hid text10_any
        have HP := Lib.hid plus10
        have HM := Lib.hid minus10
        have q1 := len_of_lim m1
        have q2 := len_of_lim m2
        have hrl := Nat.mod_lt k hl0
        have hql : k / l ≤ k := Nat.div_le_self _ _
        have q3 : (D10.toG (k / l)).length ≤ 200 := len_of_lim (by omega)
        have q4 : (D10.toG (k % l)).length ≤ 200 := len_of_lim (by omega)
        have hlim : (0 : Nat) + 1 < N3.lim := by decide
        cases x with
        | false =>
          have hds := N3.div_sgn_down false y k l hl0 (.inl rfl)
          simp only [Bool.false_bne] at hds
          rw [hds.1, hds.2]
          have u1 : (N3.sgn y (k / l)).natAbs < N3.lim := by rw [N3.sgn_abs]; omega
          have u2 : ((k % l : Nat) : Int).natAbs < N3.lim := by rw [Int.natAbs_natCast]; omega
          have HCC := Lib.hid (fun v V (h : DigAt V v (k / l)) => HC.out y v (k / l) V h (by omega))
          rw [N3.outS_some u1, N3.outE_some u1] at HCC
          have HTT := Lib.hid (fun v V (h : DigAt V v (k % l)) => HT.out false v (k % l) V h (by omega))
          rw [show N3.sgn false (k % l) = ((k % l : Nat) : Int) from rfl] at HTT
          rw [N3.outS_some u1, N3.outS_some u2, N3.outE_some u1]
          clear hds u1 u2
          go_enter Tryz.func48, Tryz.ntmps48
          go_wp2_with fail
          refine (HA.out _).mono ?_
          rintro e w' ⟨rfl, rfl⟩
          go_wp2_with fail
          refine (HB.out _).mono ?_
          rintro e w' ⟨rfl, rfl⟩
          go_wp2_with fail
          refine (HD1.out _).mono ?_
          rintro e w1 ⟨v1, rfl, hv1, hB1⟩
          have HV1 := Lib.hid hv1
          clear hv1
          go_wp2_with fail
          refine (HD2.out _).mono ?_
          rintro e w2 ⟨v2, rfl, hv2, hB2⟩
          have HW1 := Lib.hid (HV1.out.below hB2)
          have HW2 := Lib.hid hv2
          have hBa := hB1.trans (hB2.mono hB1.size)
          clear hv2
          go_wp2_with fail
          refine (HDV.out _ _ k l _ HW1.out.dig HW2.out.dig hl0 (by omega) (by omega)).mono ?_
          rintro e w3 ⟨v3, v4, rfl, hv3, hv4, hB3⟩
          have hBb := hBa.trans (hB3.mono hBa.size)
          obtain ⟨pa, pc, rfl, -, -⟩ := owned_len hv4
          have HW3 := Lib.hid (HW2.out.below hB3)
          have HV3 := Lib.hid hv3
          have HV4 := Lib.hid hv4
          clear hv3 hv4
          go_wp2_with fail
          refine (HCC.out _ _ HV3.out.dig).mono ?_
          rintro e w7 ⟨rfl, hB7⟩
          have hBy := hBb.trans (hB7.mono hBb.size)
          go_wp2_with fail
          refine (HTT.out _ _ (DigAt.below HV4.out.dig hB7)).mono ?_
          rintro e w8 ⟨rfl, hB8⟩
          have hBz := hBy.trans (hB8.mono hBy.size)
          go_wp2
          refine bodyPost_ret (v := .tuple #[.string (N3.S (N3.sgn y (k / l))), .string (N3.S ((k % l : Nat) : Int)), .int .i64 0]) (by simp [results, Tryz.results48, go_sem]) rfl ?_
          exact ⟨rfl, hBz⟩
        | true =>
          by_cases hr0 : k % l = 0
          · have hds := N3.div_sgn_down true y k l hl0 (.inr hr0)
            simp only [Bool.true_bne] at hds
            rw [hds.1, hds.2]
            have u1 : (N3.sgn (!y) (k / l)).natAbs < N3.lim := by rw [N3.sgn_abs]; omega
            have u2 : ((k % l : Nat) : Int).natAbs < N3.lim := by rw [Int.natAbs_natCast]; omega
            have HCC := Lib.hid (fun v V (h : DigAt V v (k / l)) => HC.out (!y) v (k / l) V h (by omega))
            rw [N3.outS_some u1, N3.outE_some u1] at HCC
            have HTT := Lib.hid (fun v V (h : DigAt V v (k % l)) => HT.out false v (k % l) V h (by omega))
            rw [show N3.sgn false (k % l) = ((k % l : Nat) : Int) from rfl] at HTT
            rw [N3.outS_some u1, N3.outS_some u2, N3.outE_some u1]
            clear hds u1 u2
            have hl := len_zero10.2 hr0
            go_enter Tryz.func48, Tryz.ntmps48
            go_wp2_with fail
            refine (HA.out _).mono ?_
            rintro e w' ⟨rfl, rfl⟩
            go_wp2_with fail
            refine (HB.out _).mono ?_
            rintro e w' ⟨rfl, rfl⟩
            go_wp2_with fail
            refine (HD1.out _).mono ?_
            rintro e w1 ⟨v1, rfl, hv1, hB1⟩
            have HV1 := Lib.hid hv1
            clear hv1
            go_wp2_with fail
            refine (HD2.out _).mono ?_
            rintro e w2 ⟨v2, rfl, hv2, hB2⟩
            have HW1 := Lib.hid (HV1.out.below hB2)
            have HW2 := Lib.hid hv2
            have hBa := hB1.trans (hB2.mono hB1.size)
            clear hv2
            go_wp2_with fail
            refine (HDV.out _ _ k l _ HW1.out.dig HW2.out.dig hl0 (by omega) (by omega)).mono ?_
            rintro e w3 ⟨v3, v4, rfl, hv3, hv4, hB3⟩
            have hBb := hBa.trans (hB3.mono hBa.size)
            obtain ⟨pa, pc, rfl, -, -⟩ := owned_len hv4
            have HW3 := Lib.hid (HW2.out.below hB3)
            have HV3 := Lib.hid hv3
            have HV4 := Lib.hid hv4
            clear hv3 hv4
            clear hr0
            rw [hl] at HV4
            go_wp2_with fail
            refine (HCC.out _ _ HV3.out.dig).mono ?_
            rintro e w7 ⟨rfl, hB7⟩
            have hBy := hBb.trans (hB7.mono hBb.size)
            go_wp2_with fail
            refine (HTT.out _ _ (DigAt.below HV4.out.dig hB7)).mono ?_
            rintro e w8 ⟨rfl, hB8⟩
            have hBz := hBy.trans (hB8.mono hBy.size)
            go_wp2
            refine bodyPost_ret (v := .tuple #[.string (N3.S (N3.sgn (!y) (k / l))), .string (N3.S ((k % l : Nat) : Int)), .int .i64 0]) (by simp [results, Tryz.results48, go_sem]) rfl ?_
            exact ⟨rfl, hBz⟩
          · have hds := N3.div_sgn_up y k l hl0 hr0
            simp only [Bool.true_bne] at hds
            rw [hds.1, hds.2]
            have hl2 : 2 ≤ l := Classical.byContradiction fun hc => hr0 (by rw [show l = 1 from (by omega)]; exact Nat.mod_one k)
            have hk2 : k / l + 1 ≤ k := by
              have h1 : k / l ≤ k / 2 := Nat.div_le_div_left hl2 (by decide)
              have h2 : k ≠ 0 := fun e => hr0 (by rw [e, Nat.zero_mod])
              have h3 : k ≠ 1 ∨ k / l = 0 := by
                by_cases e : k = 1
                · right; rw [e]; exact Nat.div_eq_of_lt (by omega)
                · exact .inl e
              omega
            have u1 : (N3.sgn (!y) (k / l + 1)).natAbs < N3.lim := by rw [N3.sgn_abs]; omega
            have u2 : ((l - k % l : Nat) : Int).natAbs < N3.lim := by rw [Int.natAbs_natCast]; omega
            have q5 : (D10.toG (k / l + 1)).length ≤ 200 := len_of_lim (by omega)
            have q6 : (D10.toG (l - k % l)).length ≤ 200 := len_of_lim (by omega)
            have q7 : (D10.toG 1).length ≤ 200 := len_of_lim (by decide)
            have HCC := Lib.hid (fun v V (h : DigAt V v (k / l + 1)) => HC.out (!y) v (k / l + 1) V h (by omega))
            rw [N3.outS_some u1, N3.outE_some u1] at HCC
            have HTT := Lib.hid (fun v V (h : DigAt V v (l - k % l)) => HT.out false v (l - k % l) V h (by omega))
            rw [show N3.sgn false (l - k % l) = ((l - k % l : Nat) : Int) from rfl] at HTT
            rw [N3.outS_some u1, N3.outS_some u2, N3.outE_some u1]
            have hl : 0 < (D10.toG (k % l)).length := Nat.pos_of_ne_zero (fun e => hr0 (len_zero10.1 e))
            have HLT := Lib.hid hrl
            clear hds u1 u2 hk2
            go_enter Tryz.func48, Tryz.ntmps48
            go_wp2_with fail
            refine (HA.out _).mono ?_
            rintro e w' ⟨rfl, rfl⟩
            go_wp2_with fail
            refine (HB.out _).mono ?_
            rintro e w' ⟨rfl, rfl⟩
            go_wp2_with fail
            refine (HD1.out _).mono ?_
            rintro e w1 ⟨v1, rfl, hv1, hB1⟩
            have HV1 := Lib.hid hv1
            clear hv1
            go_wp2_with fail
            refine (HD2.out _).mono ?_
            rintro e w2 ⟨v2, rfl, hv2, hB2⟩
            have HW1 := Lib.hid (HV1.out.below hB2)
            have HW2 := Lib.hid hv2
            have hBa := hB1.trans (hB2.mono hB1.size)
            clear hv2
            go_wp2_with fail
            refine (HDV.out _ _ k l _ HW1.out.dig HW2.out.dig hl0 (by omega) (by omega)).mono ?_
            rintro e w3 ⟨v3, v4, rfl, hv3, hv4, hB3⟩
            have hBb := hBa.trans (hB3.mono hBa.size)
            obtain ⟨pa, pc, rfl, -, -⟩ := owned_len hv4
            have HW3 := Lib.hid (HW2.out.below hB3)
            have HV3 := Lib.hid hv3
            have HV4 := Lib.hid hv4
            clear hv3 hv4
            clear hr0
            go_wp2_with fail
            have hBc1 := (Below.refl w3.heap.size w3).alloc (Nat.le_refl _) (.cells #[.int .i64 1] 3)
            refine (HP.out _ _ (k / l) 1 _ (HV3.out.dig.below hBc1) (dig_one w3) (by omega) (by omega) (by omega)).mono ?_
            rintro e w4 ⟨v5, rfl, hv5, hB4⟩
            have hB4' := hBc1.trans (hB4.mono hBc1.size)
            have hBc := hBb.trans (hB4'.mono hBb.size)
            have HV5 := Lib.hid hv5.dig
            have HX2 := Lib.hid (HW3.out.below hB4')
            have HX4 := Lib.hid (HV4.out.below hB4')
            clear hv5
            go_wp2_with fail
            refine (HM.out _ _ l (k % l) _ HX2.out.dig HX4.out.dig (Nat.le_of_lt HLT.out) (by omega) (by omega)).mono ?_
            rintro e w5 ⟨v6, rfl, hv6, hB5⟩
            have hBd := hBc.trans (hB5.mono hBc.size)
            have HV6 := Lib.hid hv6.dig
            have HV7 := Lib.hid (HV5.out.below hB5)
            clear hv6
            go_wp2_with fail
            refine (HCC.out _ _ HV7.out).mono ?_
            rintro e w7 ⟨rfl, hB7⟩
            have hBy := hBd.trans (hB7.mono hBd.size)
            go_wp2_with fail
            refine (HTT.out _ _ (DigAt.below HV6.out hB7)).mono ?_
            rintro e w8 ⟨rfl, hB8⟩
            have hBz := hBy.trans (hB8.mono hBy.size)
            go_wp2
            refine bodyPost_ret (v := .tuple #[.string (N3.S (N3.sgn (!y) (k / l + 1))), .string (N3.S ((l - k % l : Nat) : Int)), .int .i64 0]) (by simp [results, Tryz.results48, go_sem]) rfl ?_
            exact ⟨rfl, hBz⟩

set_option maxRecDepth 100000 in
set_option maxHeartbeats 2000000 in
theorem gcd10 (a b : ByteArray) (w : World) (ha : a.size ≤ 9223372036854775806) (hb : b.size ≤ 9223372036854775806) :
    Calls Tryz.prog 49 #[.string a, .string b] w fun e w' => e = .returned (.tuple #[.string (N3.outS (N3.gcdO a b)), .int .i64 (N3.outE (N3.gcdO a b))]) ∧ Below w.heap.size w w' := by
  have HA := Lib.hid (fun V => valid10 a V ha)
  have HB := Lib.hid (fun V => valid10 b V hb)
  clear ha hb
  cases hoa : N3.okS a with
  | false =>
    have e1 : N3.gcdO a b = none := by unfold N3.gcdO N3.ok2; rw [hoa]; rfl
    rw [e1, out_none'.1, out_none'.2]
    rw [hoa] at HA
    clear hoa e1
    go_enter Tryz.func49, Tryz.ntmps49
    go_wp2_with fail
    refine (HA.out _).mono ?_
    rintro e w' ⟨rfl, rfl⟩
    go_wp2
    go_ret2
    exact ⟨rfl, Below.refl _ _⟩
  | true =>
    cases hob : N3.okS b with
    | false =>
      have e1 : N3.gcdO a b = none := by unfold N3.gcdO N3.ok2; rw [hoa, hob]; rfl
      rw [e1, out_none'.1, out_none'.2]
      rw [hoa] at HA
      rw [hob] at HB
      clear hoa hob e1
      go_enter Tryz.func49, Tryz.ntmps49
      go_wp2_with fail
      refine (HA.out _).mono ?_
      rintro e w' ⟨rfl, rfl⟩
      go_wp2_with fail
      refine (HB.out _).mono ?_
      rintro e w' ⟨rfl, rfl⟩
      go_wp2
      go_ret2
      exact ⟨rfl, Below.refl _ _⟩
    | true =>
      have e1 : N3.gcdO a b = some (N3.gcdI (N3.iV a) (N3.iV b)) := by unfold N3.gcdO N3.ok2; rw [hoa, hob]; rfl
      rw [e1, show N3.gcdI (N3.iV a) (N3.iV b) = N3.sgn false (Nat.gcd (magS a) (magS b)) from rfl]
      have m1 := mag_lim hoa
      have m2 := mag_lim hob
      have HD1 := Lib.hid (fun V => digits10 a V hoa)
      have HD2 := Lib.hid (fun V => digits10 b V hob)
      rw [hoa] at HA
      rw [hob] at HB
      clear hoa hob e1
      generalize negS a = x at *
      generalize negS b = y at *
      generalize magS a = k at *
      generalize magS b = l at *
      have HDV := Lib.hid divided10
      have HC := Lib.hid checked10
      have q1 := len_of_lim m1
      have q2 := len_of_lim m2
      go_enter Tryz.func49, Tryz.ntmps49
      go_wp2_with fail
      refine (HA.out _).mono ?_
      rintro e w' ⟨rfl, rfl⟩
      go_wp2_with fail
      refine (HB.out _).mono ?_
      rintro e w' ⟨rfl, rfl⟩
      go_wp2_with fail
      refine (HD1.out _).mono ?_
      rintro e w1 ⟨v1, rfl, hv1, hB1⟩
      have HV1 := Lib.hid hv1
      clear hv1
      go_wp2_with fail
      refine (HD2.out _).mono ?_
      rintro e w2 ⟨v2, rfl, hv2, hB2⟩
      have HW1 := Lib.hid (HV1.out.below hB2)
      have HW2 := Lib.hid hv2
      have hBa := hB1.trans (hB2.mono hB1.size)
      clear hv2
      go_wp2_with fail
      go_loopw [7, 9, 10, 11] (fun u7 u9 _ _ wr => ∃ (n m : Nat), DigAt wr u7 n ∧ DigAt wr u9 m ∧ Nat.gcd n m = Nat.gcd k l ∧ n < N3.lim ∧ m < N3.lim ∧ Below w.heap.size w wr) (fun _ u9 _ _ wr => digOf wr u9)
      case atStart => exact ⟨k, l, HW1.out.dig, HW2.out.dig, rfl, m1, m2, hBa⟩
      case round =>
        obtain ⟨n, m, hn, hm, hg, b1, b2, hBr⟩ := hrel
        rename World => wr
        have HN := Lib.hid hn
        have HM := Lib.hid hm
        have HG := Lib.hid hg
        have HDG := Lib.hid (digOf_eq hm)
        have r1 := len_of_lim b1
        have r2 := len_of_lim b2
        obtain ⟨ca, cc, rfl, -, -⟩ := (show IntsAt wr _ _ from hm).len
        rw [castL_len] at *
        clear hn hm hg
        by_cases hm0 : m = 0
        · have hl := len_zero10.2 hm0
          have HE := Lib.hid (show Nat.gcd k l = n by rw [← HG.out, hm0, Nat.gcd_zero_right])
          rw [hl]
          clear hm0
          have HCC := Lib.hid (HC.out false _ n _ HN.out (by omega))
          rw [← HE.out] at HCC
          go_wp2_with fail
          refine (HCC.out).mono ?_
          rintro e w3 ⟨rfl, hB3⟩
          have hB := hBr.trans (hB3.mono hBr.size)
          go_wp2
          go_ret2
          exact ⟨rfl, hB⟩
        · have hl : 0 < (D10.toG m).length := Nat.pos_of_ne_zero (fun e => hm0 (len_zero10.1 e))
          have hmp : 0 < m := Nat.pos_of_ne_zero hm0
          have HLT := Lib.hid (Nat.mod_lt n hmp)
          have HGG := Lib.hid (show Nat.gcd m (n % m) = Nat.gcd k l by rw [← HG.out, Nat.gcd_comm n m, Nat.gcd_rec m n, Nat.gcd_comm])
          clear hm0
          go_wp2_with fail
          refine (HDV.out _ _ n m _ HN.out HM.out hmp (by omega) (by omega)).mono ?_
          rintro e w3 ⟨v3, v4, rfl, hv3, hv4, hB3⟩
          have HV4 := Lib.hid hv4.dig
          have HM3 := Lib.hid (HM.out.below hB3)
          have hB := hBr.trans (hB3.mono hBr.size)
          have HD4 := Lib.hid (digOf_eq hv4.dig)
          clear hv3 hv4
          go_wp2_with fail
          go_roundw
          case rel => exact ⟨m, n % m, HM3.out, HV4.out, HGG.out, b2, Nat.lt_trans HLT.out b2, hB⟩
          case measure => (show digOf _ _ < digOf _ _); rw [HD4.out, HDG.out]; exact HLT.out

end Go.Proofs.YtjnpenljgfdaiaaGreatDoor

/- package nadirref03: Root. -/
namespace Go.Proofs.YtjnpenljgfdaiaaGreatDoor
open Go.RowKit Go.Shelf Lib

set_option maxRecDepth 100000 in
theorem trimmed10 (v : Value) (O : List Nat) (w : World) (hv : IntsAt w v (castL O)) (hok : D10.OKl O) (hl : O.length ≤ 1000) (hl0 : 0 < O.length) :
    Calls Tryz.prog 102 #[v] w fun e w' => ∃ v', e = .returned v' ∧ OwnD w.heap.size w' v' (D10.val O) ∧ Below w.heap.size w w' := by
  obtain ⟨a, cp, rfl, h1, h2⟩ := hv.len
  rw [castL_len] at h1 hv ⊢
  unfold maxLen at h2
  obtain ⟨b, off, rfl, -⟩ := hv.get (castL_get hl0)
  have hcells : Hid (∀ j u, ((castL O).map (Value.int .i64))[j]? = some u → (w.alloc (.cells #[] 3)).cell? (Addr.add ⟨b, off, none⟩ j) = some u) := Lib.hid (fun j u hj => by
    rw [List.getElem?_map] at hj
    cases hc : (castL O)[j]? with
    | none => rw [hc] at hj; cases hj
    | some y =>
      rw [hc] at hj
      injection hj with hj
      obtain ⟨b', off', e, hce⟩ := hv.get hc
      cases e
      rw [← hj]
      have ea : Addr.add ⟨b, off, none⟩ j = ⟨b, off + j, none⟩ := by simp [Addr.add]
      rw [ea, World.cell?_alloc_some _ _ _ (by rw [hce]; rfl)]
      exact hce)
  have hf : Hid ((w.alloc (.cells #[] 3)).ownsRow w.heap.size 3 1 (.slice (some ⟨w.heap.size, 0, none⟩) 0 0) 0 []) :=
    Lib.hid ⟨rfl, .inr ⟨w.heap.size, 0, #[], rfl, Nat.le_refl _, heap_alloc_new w _, Nat.le_refl _, by decide, rfl, rfl⟩⟩
  have hB0 : Below w.heap.size w (w.alloc (.cells #[] 3)) := (Below.refl _ _).alloc (Nat.le_refl _) _
  have HT := Lib.hid trim10_own
  clear hv
  obtain ⟨i, hi, hz0, hz1, hz2⟩ := info_parts E72.info
  go_enter Tryz.func102, Tryz.ntmps102
  go_wp2_with (at_builtin; refine wpList_append_own _ rfl _ _ 72 rfl w.heap.size 3 i _ 1 8 E72.und hi hz0 hz1 hz2 E72.zs E72.pos _ 0 [] rfl hf.out ⟨b, off, none⟩ O.length cp ((castL O).map (Value.int .i64)) rfl (by rw [casts_len, Nat.mul_one]) hcells.out (castL_one _) (by unfold maxLen; omega) (by omega) (by simp) ?_; intro v' w3 ho3 hg3 _)
  rw [Nat.zero_add, List.nil_append] at ho3
  have hB3 : Below w.heap.size w w3 := hB0.grown hg3 (by simp) (fun k hk => by cases hk; exact Nat.le_refl _)
  refine (HT.out w.heap.size _ O _ ho3 hok).mono ?_
  rintro e w' ⟨v', rfl, hres, rfl⟩
  go_wp2
  go_ret
  exact ⟨_, rfl, hres, hB3⟩
theorem cmp_pos {a b : Nat} (h : b < a) : 0 < N3.cmpI (a : Int) (b : Int) := by unfold N3.cmpI; (repeat' split) <;> omega
theorem cmp_npos {a b : Nat} (h : ¬ b < a) : ¬ 0 < N3.cmpI (a : Int) (b : Int) ∧ N3.cmpI (a : Int) (b : Int) ≤ 0 := by unfold N3.cmpI; (repeat' split) <;> omega
theorem half_len {l h : Nat} (e : h = (l + 1) / 2) (hl : l ≤ 200) : h ≤ 100 ∧ IntKind.i64.wrap ((l : Int) + 1) = (l : Int) + 1 ∧ Int.tdiv ((l : Int) + 1) 2 = (h : Int) ∧ IntKind.i64.wrap (h : Int) = (h : Int) ∧ IntKind.i64.wrap ((h : Int) - 1) = (h : Int) - 1 := by
  refine ⟨by omega, by rw [IntKind.wrap_i64]; omega, ?_, by rw [IntKind.wrap_i64]; omega, by rw [IntKind.wrap_i64]; omega⟩
  rw [Int.tdiv_eq_ediv_of_nonneg (by omega)]; omega
set_option maxRecDepth 100000 in
set_option maxHeartbeats 6000000 in
theorem root10_pos (a : ByteArray) (w : World) (ha : a.size ≤ 9223372036854775806) (hok : N3.okS a = true) (h0 : 0 < a.size) (h45 : a[0].toNat ≠ 45) :
    Calls Tryz.prog 50 #[.string a] w fun e w' => e = .returned (.tuple #[.string (N3.outS (N3.rootO a)), .int .i64 (N3.outE (N3.rootO a))]) ∧ Below w.heap.size w w' := by
  have hneg : negS a = false := by unfold negS; exact decide_eq_false (bare_pos (fun _ => h45)).1
  have hiv : N3.iV a = (magS a : Int) := by rw [(neg_mag (s := a)).1, hneg]; rfl
  have e1 : N3.rootO a = some (N3.sgn false (N3.rootN (magS a))) := by
    unfold N3.rootO
    rw [hok, decide_eq_true (show 0 ≤ N3.iV a by rw [hiv]; omega)]
    rfl
  rw [e1]
  have HA := Lib.hid (fun V => valid10 a V ha)
  have HD1 := Lib.hid (fun V => digits10 a V hok)
  rw [hok] at HA
  rw [hneg] at HD1
  have m1 := mag_lim hok
  have hi0 : (0 : Int) ≤ 0 ∧ (0 : Int) < (a.size : Int) := by omega
  have hq : ((a[0].toNat : Int) == 45) = false := beq_eq_false_iff_ne.2 (by omega)
  have q1 := len_of_lim m1
  have HST := Lib.hid (D10.root_start (n := magS a) rfl)
  obtain ⟨hh, hw1, hw2, hw3, hw4⟩ := half_len rfl q1
  have HC := Lib.hid checked10
  have HTR := Lib.hid trim10_own
  have HTM := Lib.hid trimmed10
  have HP := Lib.hid times10
  have HO := Lib.hid order10
  clear hok hneg hiv e1 ha
  generalize magS a = n at *
  generalize (((D10.toG n).length) + 1) / 2 = h at *
  go_enter Tryz.func50, Tryz.ntmps50
  go_wp2_with fail
  refine (HA.out _).mono ?_
  rintro e w' ⟨rfl, rfl⟩
  go_wp2_with fail
  refine (HD1.out _).mono ?_
  rintro e W ⟨v1, rfl, hv1, hBW⟩
  have HV1 := Lib.hid hv1.dig
  have hmk := mk72n h (by omega) W
  have HZ := Lib.hid (own_zeros h (by omega) W)
  have hB0 : Below W.heap.size W (W.alloc (.cells (madeCells #[.int .i64 0] h) 3)) := (Below.refl _ _).alloc (Nat.le_refl _) _
  obtain ⟨pa, pc, rfl, -, -⟩ := owned_len hv1
  clear hv1
  go_wp2_with fail
  go_loopw [7] (fun u7 wr => ∃ (j : Nat) (O : List Nat), j ≤ h ∧ u7 = .int .i64 ((j : Nat) - 1 : Int) ∧ O.length = h ∧ D10.OKl O ∧ (∀ t, t < j → O.getD t 0 = 0) ∧ D10.val O * D10.val O ≤ n ∧ n < (D10.val O + 10 ^ j) * (D10.val O + 10 ^ j) ∧ wr.ownsRow W.heap.size 3 1 (.slice (some ⟨W.heap.size, 0, none⟩) O.length h) O.length ((castL O).map (Value.int .i64)) ∧ Below W.heap.size W wr) (fun u7 _ => (Go.RowKit.intOf u7 + 1).toNat)
  case atStart =>
    refine ⟨h, List.replicate h 0, Nat.le_refl _, rfl, List.length_replicate, D10.zeros_ok _, ?_, by rw [D10.val_zeros]; exact Nat.zero_le _, by rw [D10.val_zeros]; exact HST.out, ?_, hB0⟩
    · intro t ht; rw [List.getD_eq_getElem?_getD, List.getElem?_replicate, if_pos ht]; rfl
    · rw [List.length_replicate]; exact HZ.out
  case round =>
    obtain ⟨j, O, hj, rfl, hOl, hOk, hO0, hlo, hhi, hown, hBr⟩ := hrel
    rename World => wr
    by_cases hj0 : j = 0
    · subst hj0
      have hj1 : ((0 : Nat) : Int) - 1 = -1 := rfl
      rw [hj1]
      have HR := Lib.hid (show N3.rootN n = D10.val O from N3.rootN_eq ⟨hlo, hhi⟩)
      have hlen : (D10.toG (D10.val O)).length ≤ 100 := by
        have := D10.toG_len_le (D10.val_lt hOk); omega
      have HOWN := Lib.hid hown
      have HOK := Lib.hid hOk
      have HOL := Lib.hid hOl
      rw [hOl] at HOWN
      clear hown hOk hO0 hlo hhi hOl hmk hB0
      go_wp2_with fail
      refine (HTR.out W.heap.size _ O _ (by rw [HOL.out]; exact HOWN.out) HOK.out).mono ?_
      rintro e w2 ⟨v2, rfl, hv2, rfl⟩
      have HV2 := Lib.hid hv2.dig
      clear hv2
      go_wp2_with fail
      refine (HC.out false _ (D10.val O) _ HV2.out (by omega)).mono ?_
      rintro e w3 ⟨rfl, hB3⟩
      have hB := hBW.trans ((hBr.trans (hB3.mono hBr.size)).mono hBW.size)
      have HRR := Lib.hid (show N3.sgn false (N3.rootN n) = N3.sgn false (D10.val O) by rw [HR.out])
      go_wp2
      go_ret2
      exact ⟨by first | (rw [HRR.out]; done) | (rw [HRR.out]; rfl), hB⟩
    · obtain ⟨i, rfl⟩ : ∃ i, j = i + 1 := ⟨j - 1, by omega⟩
      have hei : ((i + 1 : Nat) : Int) - 1 = (i : Int) := by omega
      rw [hei]
      have hil : i < O.length := by omega
      have hce := own_cell hown hil
      have hfz := hown.frozenAt i
      have hji : (0 : Int) ≤ (i : Int) ∧ (i : Int) < (O.length : Int) := by omega
      have hge : ¬ (i : Int) < 0 := by omega
      have hw5 : IntKind.i64.wrap ((i : Int) - 1) = (i : Int) - 1 := by rw [IntKind.wrap_i64]; omega
      have h9 := (hown.stored i (.int .i64 ((9 : Nat) : Int))).1
      rw [← casts_set] at h9
      have H9 := Lib.hid h9
      have HV := Lib.hid (fun d => D10.set_val0 (d := d) hil (hO0 i (Nat.lt_succ_self i)))
      have HOK := Lib.hid hOk
      have HOL := Lib.hid hOl
      have HO0 := Lib.hid hO0
      have HLO := Lib.hid hlo
      have HHI := Lib.hid (show n < (D10.val O + 10 ^ i * (9 + 1)) * (D10.val O + 10 ^ i * (9 + 1)) by rw [Nat.pow_succ] at hhi; exact hhi)
      have hBr2 : Hid (Below W.heap.size W (wr.setCell ⟨W.heap.size, i, none⟩ (.int .i64 9))) := Lib.hid (hBr.setCell (by simp) _)
      clear hown hOk hO0 hlo hhi hOl hmk hB0 h9
      go_wp2_with fail
      go_loopw [36] (fun _ wq => ∃ d : Nat, d ≤ 9 ∧ n < (D10.val O + 10 ^ i * (d + 1)) * (D10.val O + 10 ^ i * (d + 1)) ∧ wq.ownsRow W.heap.size 3 1 (.slice (some ⟨W.heap.size, 0, none⟩) O.length h) O.length ((castL (O.set i d)).map (Value.int .i64)) ∧ Below W.heap.size W wq) (fun _ wq => (Go.RowKit.intOf ((wq.cell? ⟨W.heap.size, i, none⟩).getD undef)).toNat)
      case atStart => exact ⟨9, Nat.le_refl _, HHI.out, H9.out, hBr2.out⟩
      case round =>
        obtain ⟨d, hd9, hdn, hown, hBq⟩ := hrel
        rename World => wq
        have hsl : (O.set i d).length = O.length := List.length_set ..
        have hown' : wq.ownsRow W.heap.size 3 1 (.slice (some ⟨W.heap.size, 0, none⟩) (O.set i d).length h) (O.set i d).length ((castL (O.set i d)).map (Value.int .i64)) := by rw [hsl]; exact hown
        have hce := own_cell hown' (show i < (O.set i d).length by rw [hsl]; exact hil)
        rw [getD_set_self hil] at hce
        have hfz := hown'.frozenAt i
        have HCE := Lib.hid hce
        have HOWN := Lib.hid hown
        have HOWN' := Lib.hid hown'
        have HVd := Lib.hid (HV.out d)
        have HDN := Lib.hid hdn
        have HSK := Lib.hid (D10.ok_set (j := i) HOK.out (show d < 10 by omega))
        have hUl : (D10.toG (D10.val (O.set i d))).length ≤ 100 := by
          have h1 := D10.toG_len_le (D10.val_lt HSK.out)
          rw [hsl, HOL.out] at h1; omega
        clear hown hown' hdn
        by_cases hd0 : 0 < d
        · have hd0' : (0 : Int) < (d : Int) := by omega
          have hwd : IntKind.i64.wrap ((d : Int) - 1) = ((d - 1 : Nat) : Int) := by rw [IntKind.wrap_i64]; omega
          have hU2 := len_times10 (D10.val (O.set i d)) (D10.val (O.set i d))
          have hlO : O.length ≤ 100 := by rw [HOL.out]; exact hh
          go_wp2_with fail
          refine (HTM.out _ (O.set i d) _ (by have := own_ints HOWN'.out; rw [hsl, HOL.out] at this; exact this) HSK.out (by omega) (by omega)).mono ?_
          rintro e w2 ⟨v2, rfl, hv2, hB2⟩
          have HV2 := Lib.hid hv2.dig
          have HR2 := Lib.hid (owned_below HOWN'.out hB2)
          have hBa := hBq.trans (hB2.mono hBq.size)
          clear hv2
          go_wp2_with fail
          refine (HTM.out _ (O.set i d) _ (by have := own_ints HR2.out; rw [hsl, HOL.out] at this; exact this) HSK.out (by omega) (by omega)).mono ?_
          rintro e w3 ⟨v3, rfl, hv3, hB3⟩
          have HV3 := Lib.hid hv3.dig
          have HR3 := Lib.hid (owned_below HR2.out hB3)
          have HV23 := Lib.hid (HV2.out.below hB3)
          have hBb := hBa.trans (hB3.mono hBa.size)
          clear hv3
          go_wp2_with fail
          refine (HP.out _ _ (D10.val (O.set i d)) (D10.val (O.set i d)) _ HV23.out HV3.out (by omega) (by omega)).mono ?_
          rintro e w4 ⟨v4, rfl, hv4, hB4⟩
          have HV4 := Lib.hid hv4.dig
          have HR4 := Lib.hid (owned_below HR3.out hB4)
          have hBc := hBb.trans (hB4.mono hBb.size)
          have HN4 := Lib.hid (HV1.out.below hBc)
          clear hv4
          go_wp2_with fail
          refine (HO.out _ _ (D10.val (O.set i d) * D10.val (O.set i d)) n _ HV4.out HN4.out (by omega) (by omega)).mono ?_
          rintro e w5 ⟨rfl, hB5⟩
          have HR5 := Lib.hid (owned_below HR4.out hB5)
          have hBd := hBc.trans (hB5.mono hBc.size)
          have hce5 := own_cell HR5.out (show i < (O.set i d).length by omega)
          rw [getD_set_self hil] at hce5
          have hfz5 := HR5.out.frozenAt i
          clear hce hfz
          by_cases hbig : n < D10.val (O.set i d) * D10.val (O.set i d)
          · have hz := cmp_pos hbig
            have HDN2 := Lib.hid (show n < (D10.val O + 10 ^ i * (d - 1 + 1)) * (D10.val O + 10 ^ i * (d - 1 + 1)) by rw [show d - 1 + 1 = d by omega, ← HVd.out]; exact hbig)
            clear hbig hUl hU2
            generalize N3.cmpI ((D10.val (O.set i d) * D10.val (O.set i d) : Nat) : Int) (n : Int) = z at *
            go_wp2_with fail
            go_roundw
            case rel =>
              refine ⟨d - 1, by omega, HDN2.out, ?_, hBd.setCell (by simp) _⟩
              have h7 := (HR5.out.stored i (.int .i64 ((d - 1 : Nat) : Int))).1
              rw [← casts_set, set_set', hsl] at h7
              exact h7
            case measure =>
              have h7 := (HR5.out.stored i (.int .i64 ((d - 1 : Nat) : Int))).1
              rw [← casts_set, set_set'] at h7
              have h8 := own_cell (O := O.set i (d - 1)) (by rw [show (O.set i (d - 1)).length = (O.set i d).length by rw [List.length_set, List.length_set]]; exact h7) (by rw [List.length_set]; exact hil)
              rw [getD_set_self hil] at h8
              simp only [HCE.out, h8, Option.getD_some, Go.RowKit.intOf]
              omega
          · obtain ⟨hz, hz2⟩ := cmp_npos hbig
            have HLO2 := Lib.hid (show D10.val (O.set i d) * D10.val (O.set i d) ≤ n by omega)
            have HHI2 := Lib.hid (show n < (D10.val (O.set i d) + 10 ^ i) * (D10.val (O.set i d) + 10 ^ i) by rw [HVd.out, Nat.add_assoc, ← Nat.mul_succ]; exact HDN.out)
            clear hbig hUl hU2
            generalize N3.cmpI ((D10.val (O.set i d) * D10.val (O.set i d) : Nat) : Int) (n : Int) = z at *
            go_wp2_with fail
            go_roundw
            case rel =>
              refine ⟨i, O.set i d, by omega, rfl, by rw [hsl]; exact HOL.out, HSK.out, ?_, HLO2.out, HHI2.out, HR5.out, hBd⟩
              intro t' ht'
              rw [getD_set_other (by omega)]
              exact HO0.out t' (by omega)
            case measure => simp [Go.RowKit.intOf]
        · obtain rfl : d = 0 := by omega
          have HLO2 := Lib.hid (show D10.val (O.set i 0) * D10.val (O.set i 0) ≤ n by rw [HVd.out, Nat.mul_zero, Nat.add_zero]; exact HLO.out)
          have HHI2 := Lib.hid (show n < (D10.val (O.set i 0) + 10 ^ i) * (D10.val (O.set i 0) + 10 ^ i) by rw [HVd.out, Nat.add_assoc, ← Nat.mul_succ]; exact HDN.out)
          go_wp2_with fail
          go_roundw
          case rel =>
            refine ⟨i, O.set i 0, by omega, rfl, by rw [hsl]; exact HOL.out, HSK.out, ?_, HLO2.out, HHI2.out, HOWN'.out, hBq⟩
            intro t' ht'
            rw [getD_set_other (by omega)]
            exact HO0.out t' (by omega)
          case measure => simp [Go.RowKit.intOf]
set_option maxRecDepth 100000 in
theorem root10 (a : ByteArray) (w : World) (ha : a.size ≤ 9223372036854775806) :
    Calls Tryz.prog 50 #[.string a] w fun e w' => e = .returned (.tuple #[.string (N3.outS (N3.rootO a)), .int .i64 (N3.outE (N3.rootO a))]) ∧ Below w.heap.size w w' := by
  have HA := Lib.hid (fun V => valid10 a V ha)
  cases hok : N3.okS a with
  | false =>
    have e1 : N3.rootO a = none := by unfold N3.rootO; rw [hok]; rfl
    rw [e1, out_none'.1, out_none'.2]
    rw [hok] at HA
    clear hok e1
    go_enter Tryz.func50, Tryz.ntmps50
    go_wp2_with fail
    refine (HA.out _).mono ?_
    rintro e w' ⟨rfl, rfl⟩
    go_wp2
    go_ret2
    exact ⟨rfl, Below.refl _ _⟩
  | true =>
    have h0 : 0 < a.size := by
      refine Classical.byContradiction fun hc => ?_
      have : a.data.toList = [] := List.eq_nil_of_length_eq_zero (by rw [← Lib.size_eq]; omega)
      unfold N3.okS at hok
      rw [this] at hok
      cases hok
    by_cases h45 : a[0].toNat = 45
    · have hneg : negS a = true := by unfold negS; exact decide_eq_true (bare_neg h0 h45).1
      have hp := neg_pos10 hok hneg
      have hiv : N3.iV a < 0 := by rw [(neg_mag (s := a)).1, hneg]; unfold N3.sgn; rw [if_pos rfl]; omega
      have e1 : N3.rootO a = none := by unfold N3.rootO; rw [hok, decide_eq_false (show ¬ 0 ≤ N3.iV a by omega)]; rfl
      rw [e1, out_none'.1, out_none'.2]
      rw [hok] at HA
      have hi0 : (0 : Int) ≤ 0 ∧ (0 : Int) < (a.size : Int) := by omega
      have hq : ((a[0].toNat : Int) == 45) = true := beq_iff_eq.2 (by omega)
      clear hok e1 hneg hp hiv
      go_enter Tryz.func50, Tryz.ntmps50
      go_wp2_with fail
      refine (HA.out _).mono ?_
      rintro e w' ⟨rfl, rfl⟩
      go_wp2
      go_ret2
      exact ⟨rfl, Below.refl _ _⟩
    · exact root10_pos a w ha hok h0 h45
end Go.Proofs.YtjnpenljgfdaiaaGreatDoor

/- package nadirref03: FromInt, ToInt. -/
namespace Go.Proofs.YtjnpenljgfdaiaaGreatDoor
open Go.RowKit Go.Shelf Lib

theorem tmod_abs (m : Int) : Int.tmod m 10 = if m < 0 then -((m.natAbs % 10 : Nat) : Int) else ((m.natAbs % 10 : Nat) : Int) := by
  split
  · rename_i h
    have e : m = -((m.natAbs : Nat) : Int) := by omega
    rw [e, Int.neg_tmod, Int.natAbs_neg, Int.natAbs_natCast, Int.tmod_eq_emod_of_nonneg (by omega)]
    omega
  · rename_i h
    have e : m = ((m.natAbs : Nat) : Int) := by omega
    rw [e, Int.natAbs_natCast, Int.tmod_eq_emod_of_nonneg (by omega)]
    omega
theorem tdiv_bd (m : Int) : (Int.tdiv m 10).natAbs ≤ m.natAbs := by rw [D10.tdiv_abs]; omega
theorem tdiv_lt {m : Int} (h : m ≠ 0) : (Int.tdiv m 10).natAbs < m.natAbs := by rw [D10.tdiv_abs]; omega

set_option maxRecDepth 100000 in
set_option maxHeartbeats 4000000 in
theorem fromInt10_neg (n : Int) (w : World) (h0 : -9223372036854775808 ≤ n) (h1 : n ≤ 9223372036854775807) (hn : n < 0) :
    Calls Tryz.prog 44 #[.int .i64 n] w fun e w' => e = .returned (.string (N3.S n)) ∧ Below w.heap.size w w' := by
  have hlen : (D10.toG n.natAbs).length ≤ 20 := D10.toG_len_le (by rw [show (10 : Nat) ^ 20 = 100000000000000000000 from by decide]; omega)
  have HS := Lib.hid (show N3.S (N3.sgn true n.natAbs) = N3.S n from by unfold N3.sgn; first | (rw [if_pos rfl]; congr 1; omega) | (rw [if_neg (by decide)]; congr 1; omega))
  have HT := Lib.hid text10_any
  have hn2 : n < 0 := hn
  have hn3 : decide (n < 0) = true := decide_eq_true hn
  go_enter Tryz.func44, Tryz.ntmps44
  go_wp2_with fail
  go_loopw [3, 4, 5] (fun u3 u4 _ wr => ∃ (m : Int) (O : List Nat), u4 = .int .i64 m ∧ m.natAbs ≤ n.natAbs ∧ -9223372036854775808 ≤ m ∧ m ≤ 9223372036854775807 ∧ D10.toG n.natAbs = O ++ D10.toG m.natAbs ∧ wr.ownsRow w.heap.size 3 1 u3 O.length ((castL O).map (Value.int .i64)) ∧ Below w.heap.size w wr) (fun _ u4 _ _ => (Go.RowKit.intOf u4).natAbs)
  case atStart => exact ⟨n, [], rfl, Nat.le_refl _, h0, h1, rfl, ⟨rfl, .inl ⟨rfl, rfl⟩⟩, Below.refl _ _⟩
  case round =>
    obtain ⟨m, O, rfl, hmn, hm0, hm1, hinv, hown, hBr⟩ := hrel
    rename World => wr
    obtain ⟨ra, rc, rfl, hr1, hr2⟩ := owned_len hown
    unfold maxLen at hr2
    have hbk := hBr.size
    have hol : O.length + (D10.toG m.natAbs).length ≤ 20 := by rw [hinv, List.length_append] at hlen; exact hlen
    by_cases hz : m = 0
    · have HD : Hid (DigAt wr (.slice ra O.length rc) n.natAbs) := Lib.hid (by
        have e : D10.toG n.natAbs = O := by rw [hinv, hz]; show O ++ D10.toG 0 = O; rw [D10.toG_zero, List.append_nil]
        refine OwnD.dig (B := w.heap.size) ?_
        unfold OwnD; rw [e]; exact hown)
      have hq : (m != 0) = false := by rw [hz]; rfl
      clear hown hinv hm0 hm1 hmn hz
      go_wp2_with fail
      refine (HT.out true _ n.natAbs _ HD.out (by omega)).mono ?_
      rintro e w2 ⟨rfl, hB2⟩
      have hB := hBr.trans (hB2.mono hBr.size)
      rw [HS.out]
      go_wp2
      go_ret
      exact ⟨rfl, hB⟩
    · have hq : (m != 0) = true := bne_iff_ne.2 hz
      have HST := Lib.hid (D10.toG_step hz)
      have HLT := Lib.hid (tdiv_lt hz)
      have htm := tmod_abs m
      have htd : (Int.tdiv m 10).natAbs ≤ m.natAbs := tdiv_bd m
      have htd2 : Int.tdiv m 10 ≤ 9223372036854775807 ∧ -9223372036854775808 ≤ Int.tdiv m 10 := by
        have := HLT.out; omega
      have hwq : IntKind.i64.wrap (Int.tdiv m 10) = Int.tdiv m 10 := by rw [IntKind.wrap_i64]; omega
      have HMN := Lib.hid hmn
      have HIN := Lib.hid hinv
      have hd10 : m.natAbs % 10 < 10 := Nat.mod_lt _ (by decide)
      have hol2 : O.length ≤ 20 := by omega
      have HOWN := Lib.hid hown
      generalize hqe : Int.tdiv m 10 = q at *
      have hon := Lib.hid (casts_snoc O (m.natAbs % 10))
      generalize m.natAbs % 10 = d at *
      clear hown hinv hmn hol
      by_cases hneg : m < 0
      · rw [if_pos hneg] at htm
        have hwt : IntKind.i64.wrap (-(d : Int)) = -(d : Int) := by rw [IntKind.wrap_i64]; omega
        have hwt2 : IntKind.i64.wrap (d : Int) = (d : Int) := by rw [IntKind.wrap_i64]; omega
        by_cases hd0 : d = 0
        · subst hd0
          have hwt0 : IntKind.i64.wrap (-((0 : Nat) : Int)) = ((0 : Nat) : Int) := rfl
          rw [show -((0 : Nat) : Int) = ((0 : Nat) : Int) from rfl] at htm
          clear hneg hz hwt hwt0
          go_wp2_with (at_builtin; refine wpList_push E72 rfl _ _ rfl w.heap.size HOWN.out rfl rfl rfl (by unfold maxLen; omega) (by omega) (by omega) ?_; intro v' w3 ho3 hg3 hB3)
          go_roundw
          case rel => exact ⟨q, O ++ [0], rfl, Nat.le_trans htd HMN.out, htd2.2, htd2.1, by rw [HIN.out, HST.out, List.append_assoc]; rfl, by rw [hon.out, List.length_append]; exact ho3, hBr.trans hB3⟩
          case measure => have := HLT.out; simp [Go.RowKit.intOf]; omega
        · have hdn : -(d : Int) < 0 := by omega
          have hnn : -(-(d : Int)) = (d : Int) := by omega
          clear hneg hz
          go_wp2_with (at_builtin; refine wpList_push E72 rfl _ _ rfl w.heap.size HOWN.out rfl rfl rfl (by unfold maxLen; omega) (by omega) (by omega) ?_; intro v' w3 ho3 hg3 hB3)
          go_roundw
          case rel => exact ⟨q, O ++ [d], rfl, Nat.le_trans htd HMN.out, htd2.2, htd2.1, by rw [HIN.out, HST.out, List.append_assoc]; rfl, by rw [hon.out, List.length_append]; exact ho3, hBr.trans hB3⟩
          case measure => have := HLT.out; simp [Go.RowKit.intOf]; omega
      · rw [if_neg hneg] at htm
        have hwt2 : IntKind.i64.wrap (d : Int) = (d : Int) := by rw [IntKind.wrap_i64]; omega
        have hdn : ¬ (d : Int) < 0 := by omega
        clear hneg hz
        go_wp2_with (at_builtin; refine wpList_push E72 rfl _ _ rfl w.heap.size HOWN.out rfl rfl rfl (by unfold maxLen; omega) (by omega) (by omega) ?_; intro v' w3 ho3 hg3 hB3)
        go_roundw
        case rel => exact ⟨q, O ++ [d], rfl, Nat.le_trans htd HMN.out, htd2.2, htd2.1, by rw [HIN.out, HST.out, List.append_assoc]; rfl, by rw [hon.out, List.length_append]; exact ho3, hBr.trans hB3⟩
        case measure => have := HLT.out; simp [Go.RowKit.intOf]; omega

set_option maxRecDepth 100000 in
set_option maxHeartbeats 4000000 in
theorem fromInt10_pos (n : Int) (w : World) (h0 : -9223372036854775808 ≤ n) (h1 : n ≤ 9223372036854775807) (hn : ¬ n < 0) :
    Calls Tryz.prog 44 #[.int .i64 n] w fun e w' => e = .returned (.string (N3.S n)) ∧ Below w.heap.size w w' := by
  have hlen : (D10.toG n.natAbs).length ≤ 20 := D10.toG_len_le (by rw [show (10 : Nat) ^ 20 = 100000000000000000000 from by decide]; omega)
  have HS := Lib.hid (show N3.S (N3.sgn false n.natAbs) = N3.S n from by unfold N3.sgn; first | (rw [if_pos rfl]; congr 1; omega) | (rw [if_neg (by decide)]; congr 1; omega))
  have HT := Lib.hid text10_any
  have hn2 : 0 ≤ n := Int.not_lt.1 hn
  have hn3 : decide (n < 0) = false := decide_eq_false hn
  go_enter Tryz.func44, Tryz.ntmps44
  go_wp2_with fail
  go_loopw [3, 4, 5] (fun u3 u4 _ wr => ∃ (m : Int) (O : List Nat), u4 = .int .i64 m ∧ m.natAbs ≤ n.natAbs ∧ -9223372036854775808 ≤ m ∧ m ≤ 9223372036854775807 ∧ D10.toG n.natAbs = O ++ D10.toG m.natAbs ∧ wr.ownsRow w.heap.size 3 1 u3 O.length ((castL O).map (Value.int .i64)) ∧ Below w.heap.size w wr) (fun _ u4 _ _ => (Go.RowKit.intOf u4).natAbs)
  case atStart => exact ⟨n, [], rfl, Nat.le_refl _, h0, h1, rfl, ⟨rfl, .inl ⟨rfl, rfl⟩⟩, Below.refl _ _⟩
  case round =>
    obtain ⟨m, O, rfl, hmn, hm0, hm1, hinv, hown, hBr⟩ := hrel
    rename World => wr
    obtain ⟨ra, rc, rfl, hr1, hr2⟩ := owned_len hown
    unfold maxLen at hr2
    have hbk := hBr.size
    have hol : O.length + (D10.toG m.natAbs).length ≤ 20 := by rw [hinv, List.length_append] at hlen; exact hlen
    by_cases hz : m = 0
    · have HD : Hid (DigAt wr (.slice ra O.length rc) n.natAbs) := Lib.hid (by
        have e : D10.toG n.natAbs = O := by rw [hinv, hz]; show O ++ D10.toG 0 = O; rw [D10.toG_zero, List.append_nil]
        refine OwnD.dig (B := w.heap.size) ?_
        unfold OwnD; rw [e]; exact hown)
      have hq : (m != 0) = false := by rw [hz]; rfl
      clear hown hinv hm0 hm1 hmn hz
      go_wp2_with fail
      refine (HT.out false _ n.natAbs _ HD.out (by omega)).mono ?_
      rintro e w2 ⟨rfl, hB2⟩
      have hB := hBr.trans (hB2.mono hBr.size)
      rw [HS.out]
      go_wp2
      go_ret
      exact ⟨rfl, hB⟩
    · have hq : (m != 0) = true := bne_iff_ne.2 hz
      have HST := Lib.hid (D10.toG_step hz)
      have HLT := Lib.hid (tdiv_lt hz)
      have htm := tmod_abs m
      have htd : (Int.tdiv m 10).natAbs ≤ m.natAbs := tdiv_bd m
      have htd2 : Int.tdiv m 10 ≤ 9223372036854775807 ∧ -9223372036854775808 ≤ Int.tdiv m 10 := by
        have := HLT.out; omega
      have hwq : IntKind.i64.wrap (Int.tdiv m 10) = Int.tdiv m 10 := by rw [IntKind.wrap_i64]; omega
      have HMN := Lib.hid hmn
      have HIN := Lib.hid hinv
      have hd10 : m.natAbs % 10 < 10 := Nat.mod_lt _ (by decide)
      have hol2 : O.length ≤ 20 := by omega
      have HOWN := Lib.hid hown
      generalize hqe : Int.tdiv m 10 = q at *
      have hon := Lib.hid (casts_snoc O (m.natAbs % 10))
      generalize m.natAbs % 10 = d at *
      clear hown hinv hmn hol
      by_cases hneg : m < 0
      · rw [if_pos hneg] at htm
        have hwt : IntKind.i64.wrap (-(d : Int)) = -(d : Int) := by rw [IntKind.wrap_i64]; omega
        have hwt2 : IntKind.i64.wrap (d : Int) = (d : Int) := by rw [IntKind.wrap_i64]; omega
        by_cases hd0 : d = 0
        · subst hd0
          have hwt0 : IntKind.i64.wrap (-((0 : Nat) : Int)) = ((0 : Nat) : Int) := rfl
          rw [show -((0 : Nat) : Int) = ((0 : Nat) : Int) from rfl] at htm
          clear hneg hz hwt hwt0
          go_wp2_with (at_builtin; refine wpList_push E72 rfl _ _ rfl w.heap.size HOWN.out rfl rfl rfl (by unfold maxLen; omega) (by omega) (by omega) ?_; intro v' w3 ho3 hg3 hB3)
          go_roundw
          case rel => exact ⟨q, O ++ [0], rfl, Nat.le_trans htd HMN.out, htd2.2, htd2.1, by rw [HIN.out, HST.out, List.append_assoc]; rfl, by rw [hon.out, List.length_append]; exact ho3, hBr.trans hB3⟩
          case measure => have := HLT.out; simp [Go.RowKit.intOf]; omega
        · have hdn : -(d : Int) < 0 := by omega
          have hnn : -(-(d : Int)) = (d : Int) := by omega
          clear hneg hz
          go_wp2_with (at_builtin; refine wpList_push E72 rfl _ _ rfl w.heap.size HOWN.out rfl rfl rfl (by unfold maxLen; omega) (by omega) (by omega) ?_; intro v' w3 ho3 hg3 hB3)
          go_roundw
          case rel => exact ⟨q, O ++ [d], rfl, Nat.le_trans htd HMN.out, htd2.2, htd2.1, by rw [HIN.out, HST.out, List.append_assoc]; rfl, by rw [hon.out, List.length_append]; exact ho3, hBr.trans hB3⟩
          case measure => have := HLT.out; simp [Go.RowKit.intOf]; omega
      · rw [if_neg hneg] at htm
        have hwt2 : IntKind.i64.wrap (d : Int) = (d : Int) := by rw [IntKind.wrap_i64]; omega
        have hdn : ¬ (d : Int) < 0 := by omega
        clear hneg hz
        go_wp2_with (at_builtin; refine wpList_push E72 rfl _ _ rfl w.heap.size HOWN.out rfl rfl rfl (by unfold maxLen; omega) (by omega) (by omega) ?_; intro v' w3 ho3 hg3 hB3)
        go_roundw
        case rel => exact ⟨q, O ++ [d], rfl, Nat.le_trans htd HMN.out, htd2.2, htd2.1, by rw [HIN.out, HST.out, List.append_assoc]; rfl, by rw [hon.out, List.length_append]; exact ho3, hBr.trans hB3⟩
        case measure => have := HLT.out; simp [Go.RowKit.intOf]; omega

theorem fromInt10 (n : Int) (w : World) (h0 : -9223372036854775808 ≤ n) (h1 : n ≤ 9223372036854775807) :
    Calls Tryz.prog 44 #[.int .i64 n] w fun e w' => e = .returned (.string (N3.S n)) ∧ Below w.heap.size w w' := by
  by_cases h : n < 0
  · exact fromInt10_neg n w h0 h1 h
  · exact fromInt10_pos n w h0 h1 h
theorem decV_take_le (l : List UInt8) (k : Nat) : N3.decV (l.take k) ≤ N3.decV l := by
  conv => rhs; rw [← List.take_append_drop k l]
  rw [N3.decV_app]
  have : 1 ≤ 10 ^ (l.drop k).length := Nat.one_le_pow _ _ (by decide)
  have := Nat.le_mul_of_pos_right (N3.decV (l.take k)) this
  omega
theorem dec_step {t : ByteArray} {i : Nat} (h : i < t.size) : N3.decV (t.data.toList.take (i + 1)) = N3.decV (t.data.toList.take i) * 10 + (t[i].toNat - 48) := by
  have e : t.data.toList.take (i + 1) = t.data.toList.take i ++ [t[i]] := by
    rw [List.take_add_one]
    have : t.data.toList[i]? = some t[i] := by rw [List.getElem?_eq_getElem (by rw [← Lib.size_eq]; exact h)]; rfl
    rw [this]; rfl
  rw [e, N3.decV_snoc]
theorem dec_step1 {t : ByteArray} {i : Nat} (h : i < t.size) (h1 : 1 ≤ i) : N3.decV (t.data.toList.tail.take (i + 1 - 1)) = N3.decV (t.data.toList.tail.take (i - 1)) * 10 + (t[i].toNat - 48) := by
  obtain ⟨k, rfl⟩ : ∃ k, i = k + 1 := ⟨i - 1, by omega⟩
  rw [show k + 1 + 1 - 1 = k + 1 from rfl, show k + 1 - 1 = k from rfl]
  have e : t.data.toList.tail.take (k + 1) = t.data.toList.tail.take k ++ [t[k + 1]] := by
    rw [List.take_add_one]
    have : t.data.toList.tail[k]? = some t[k + 1] := by rw [List.getElem?_tail, List.getElem?_eq_getElem (by rw [← Lib.size_eq]; exact h)]; rfl
    rw [this]; rfl
  rw [e, N3.decV_snoc]
def loB : ByteArray := ⟨#[45, 57, 50, 50, 51, 51, 55, 50, 48, 51, 54, 56, 53, 52, 55, 55, 53, 56, 48, 56]⟩
def hiB : ByteArray := ⟨#[57, 50, 50, 51, 51, 55, 50, 48, 51, 54, 56, 53, 52, 55, 55, 53, 56, 48, 55]⟩
theorem cmp_lo {s : ByteArray} (h : N3.okS s = true) : N3.cmpS s ⟨#[45, 57, 50, 50, 51, 51, 55, 50, 48, 51, 54, 56, 53, 52, 55, 55, 53, 56, 48, 56]⟩ = N3.cmpI (N3.iV s) (-9223372036854775808) := by
  have e1 : N3.okS ⟨#[45, 57, 50, 50, 51, 51, 55, 50, 48, 51, 54, 56, 53, 52, 55, 55, 53, 56, 48, 56]⟩ = true := by decide +kernel
  have e2 : N3.iV ⟨#[45, 57, 50, 50, 51, 51, 55, 50, 48, 51, 54, 56, 53, 52, 55, 55, 53, 56, 48, 56]⟩ = -9223372036854775808 := by decide +kernel
  unfold N3.cmpS N3.ok2
  rw [h, e1, e2]; rfl
theorem cmp_hi {s : ByteArray} (h : N3.okS s = true) : N3.cmpS s ⟨#[57, 50, 50, 51, 51, 55, 50, 48, 51, 54, 56, 53, 52, 55, 55, 53, 56, 48, 55]⟩ = N3.cmpI (N3.iV s) 9223372036854775807 := by
  have e1 : N3.okS ⟨#[57, 50, 50, 51, 51, 55, 50, 48, 51, 54, 56, 53, 52, 55, 55, 53, 56, 48, 55]⟩ = true := by decide +kernel
  have e2 : N3.iV ⟨#[57, 50, 50, 51, 51, 55, 50, 48, 51, 54, 56, 53, 52, 55, 55, 53, 56, 48, 55]⟩ = 9223372036854775807 := by decide +kernel
  unfold N3.cmpS N3.ok2
  rw [h, e1, e2]; rfl

set_option maxRecDepth 100000 in
set_option maxHeartbeats 4000000 in
theorem toInt10_neg (s : ByteArray) (w : World) (hs : s.size ≤ 281474976710656) (hok : N3.okS s = true) (h0 : 0 < s.size) (h45 : s[0].toNat = 45) (b0 : -9223372036854775808 ≤ N3.iV s) (b1 : N3.iV s ≤ 9223372036854775807) :
    Calls Tryz.prog 52 #[.string s] w fun e w' => e = .returned (.tuple #[.int .i64 (N3.iV s), .int .i64 0]) ∧ Below w.heap.size w w' := by
  have HA := Lib.hid (fun V => valid10 s V (by omega))
  have HLO := Lib.hid (fun V => compare10 s ⟨#[45, 57, 50, 50, 51, 51, 55, 50, 48, 51, 54, 56, 53, 52, 55, 55, 53, 56, 48, 56]⟩ V (by omega) (by decide))
  have HHI := Lib.hid (fun V => compare10 s ⟨#[57, 50, 50, 51, 51, 55, 50, 48, 51, 54, 56, 53, 52, 55, 55, 53, 56, 48, 55]⟩ V (by omega) (by decide))
  have hb := (bare_neg h0 h45).1
  have hiv : N3.iV s = -((N3.decV s.data.toList.tail : Nat) : Int) := by unfold N3.iV N3.intV; rw [if_pos hb]
  have hbare : N3.bare s.data.toList = s.data.toList.tail := by unfold N3.bare; rw [if_pos hb]
  have hq45 : ((s[0].toNat : Int) == 45) = true := beq_iff_eq.2 (by omega)
  have hall : (N3.bare s.data.toList).all N3.isD = true := (N3.bare_facts hok).2
  rw [hbare] at hall
  rw [hok] at HA
  rw [cmp_lo hok] at HLO
  rw [cmp_hi hok] at HHI
  have z1 : ¬ N3.cmpI (N3.iV s) (-9223372036854775808) < 0 := by unfold N3.cmpI; (repeat' split) <;> omega
  have z1' : 0 ≤ N3.cmpI (N3.iV s) (-9223372036854775808) := by omega
  have z2 : ¬ 0 < N3.cmpI (N3.iV s) 9223372036854775807 := by unfold N3.cmpI; (repeat' split) <;> omega
  have z2' : N3.cmpI (N3.iV s) 9223372036854775807 ≤ 0 := by omega
  generalize N3.cmpI (N3.iV s) (-9223372036854775808) = c1 at *
  generalize N3.cmpI (N3.iV s) 9223372036854775807 = c2 at *
  have HIV := Lib.hid hiv
  have HALL := Lib.hid hall
  have hi0 : (0 : Int) ≤ 0 ∧ (0 : Int) < (s.size : Int) := by omega
  rw [hiv] at b0 b1
  rw [hiv]
  have HMX := Lib.hid (fun k => decV_take_le s.data.toList.tail k)
  clear hiv hall hbare hb hok
  go_enter Tryz.func52, Tryz.ntmps52
  go_wp2_with fail
  refine (HA.out _).mono ?_
  rintro e w' ⟨rfl, rfl⟩
  go_wp2_with fail
  refine (HLO.out _).mono ?_
  rintro e w1 ⟨rfl, hB1⟩
  go_wp2_with fail
  refine (HHI.out _).mono ?_
  rintro e w2 ⟨rfl, hB2⟩
  have hBa := hB1.trans (hB2.mono hB1.size)
  go_wp2_with fail
  go_loopw [4, 5, 6] (fun u4 u5 _ wr => ∃ i : Nat, i ≤ s.size ∧ u5 = .int .i64 (i : Nat) ∧ u4 = .int .i64 (-((N3.decV (s.data.toList.tail.take (i - 1)) : Nat) : Int)) ∧ w2 = wr) (fun _ u5 _ _ => ((s.size : Int) - Go.RowKit.intOf u5).toNat)
  case atStart => exact ⟨0, Nat.zero_le _, rfl, by simp [N3.decV], rfl⟩
  case round =>
    obtain ⟨i, hi, rfl, rfl, rfl⟩ := hrel
    by_cases hlt : i < s.size
    · have hki : (0 : Int) ≤ (i : Int) ∧ (i : Int) < (s.size : Int) := by omega
      have hwi : IntKind.i64.wrap ((i : Int) + 1) = ((i + 1 : Nat) : Int) := by rw [IntKind.wrap_i64]; omega
      by_cases hi00 : i = 0
      · subst hi00
        have hki0 : (0 : Int) ≤ ((0 : Nat) : Int) ∧ ((0 : Nat) : Int) < (s.size : Int) := by omega
        have hq : ((s[0].toNat : Int) == 45) = true := hq45
        go_wp2
        go_roundw
        case rel => exact ⟨1, by omega, by go_num, rfl, by first | rfl | trivial⟩
        case measure => simp [Go.RowKit.intOf]; omega
      · have hdig : 48 ≤ s[i].toNat ∧ s[i].toNat ≤ 57 := by
          have := List.all_eq_true.1 HALL.out s[i] (by
            have h2 : s.data.toList.tail[i - 1]? = some s[i] := by
              rw [List.getElem?_tail, show i - 1 + 1 = i by omega, List.getElem?_eq_getElem (by rw [← Lib.size_eq]; exact hlt)]; rfl
            exact List.mem_of_getElem? h2)
          unfold N3.isD at this
          simpa using this
        have hq : ((s[i].toNat : Int) == 45) = false := beq_eq_false_iff_ne.2 (by omega)
        have hw2 : IntKind.u8.wrap ((s[i].toNat : Int) - 48) = ((s[i].toNat - 48 : Nat) : Int) := by rw [IntKind.wrap_u8]; omega
        have hw3 : IntKind.i64.wrap ((s[i].toNat - 48 : Nat) : Int) = ((s[i].toNat - 48 : Nat) : Int) := by rw [IntKind.wrap_i64]; omega
        have hst := dec_step1 hlt (by omega)
        have hmx := HMX.out (i + 1 - 1)
        have HST := Lib.hid hst
        rw [hst] at hmx
        generalize N3.decV s.data.toList.tail = V at *
        generalize N3.decV (s.data.toList.tail.take (i - 1)) = v at *
        have hd9 : s[i].toNat - 48 ≤ 9 := by omega
        generalize hdd : s[i].toNat - 48 = d at *
        have hw4 : IntKind.i64.wrap (-(d : Int)) = -(d : Int) := by rw [IntKind.wrap_i64]; omega
        have hw5 : IntKind.i64.wrap (10 * -(v : Int)) = -(10 * (v : Int)) := by rw [IntKind.wrap_i64]; omega
        have hw6 : IntKind.i64.wrap (-(10 * (v : Int)) + -(d : Int)) = -((v * 10 + d : Nat) : Int) := by rw [IntKind.wrap_i64]; omega
        generalize v * 10 + d = v2 at *
        clear hst hmx hdd
        go_wp2
        go_roundw
        case rel => exact ⟨i + 1, by omega, by go_num, by rw [HST.out], by first | rfl | trivial⟩
        case measure => simp [Go.RowKit.intOf]; omega
    · obtain rfl : i = s.size := by omega
      have HE := Lib.hid (show N3.decV (s.data.toList.tail.take (s.size - 1)) = N3.decV s.data.toList.tail from (by rw [List.take_of_length_le (by rw [List.length_tail, ← Lib.size_eq]; exact Nat.le_refl _)]))
      have hq0 : ¬ (s.size : Int) < (s.size : Int) := by omega
      go_wp2
      go_ret2
      exact ⟨by first | (rw [HE.out]; done) | (rw [HE.out]; rfl), hBa⟩

set_option maxRecDepth 100000 in
set_option maxHeartbeats 4000000 in
theorem toInt10_pos (s : ByteArray) (w : World) (hs : s.size ≤ 281474976710656) (hok : N3.okS s = true) (h0 : 0 < s.size) (h45 : s[0].toNat ≠ 45) (b0 : -9223372036854775808 ≤ N3.iV s) (b1 : N3.iV s ≤ 9223372036854775807) :
    Calls Tryz.prog 52 #[.string s] w fun e w' => e = .returned (.tuple #[.int .i64 (N3.iV s), .int .i64 0]) ∧ Below w.heap.size w w' := by
  have HA := Lib.hid (fun V => valid10 s V (by omega))
  have HLO := Lib.hid (fun V => compare10 s ⟨#[45, 57, 50, 50, 51, 51, 55, 50, 48, 51, 54, 56, 53, 52, 55, 55, 53, 56, 48, 56]⟩ V (by omega) (by decide))
  have HHI := Lib.hid (fun V => compare10 s ⟨#[57, 50, 50, 51, 51, 55, 50, 48, 51, 54, 56, 53, 52, 55, 55, 53, 56, 48, 55]⟩ V (by omega) (by decide))
  have hb := (bare_pos (s := s) (fun _ => h45)).1
  have hiv : N3.iV s = ((N3.decV s.data.toList : Nat) : Int) := by unfold N3.iV N3.intV; rw [if_neg hb]
  have hbare : N3.bare s.data.toList = s.data.toList := by unfold N3.bare; rw [if_neg hb]
  have hq45 : ((s[0].toNat : Int) == 45) = false := beq_eq_false_iff_ne.2 (by omega)
  have hall : (N3.bare s.data.toList).all N3.isD = true := (N3.bare_facts hok).2
  rw [hbare] at hall
  rw [hok] at HA
  rw [cmp_lo hok] at HLO
  rw [cmp_hi hok] at HHI
  have z1 : ¬ N3.cmpI (N3.iV s) (-9223372036854775808) < 0 := by unfold N3.cmpI; (repeat' split) <;> omega
  have z1' : 0 ≤ N3.cmpI (N3.iV s) (-9223372036854775808) := by omega
  have z2 : ¬ 0 < N3.cmpI (N3.iV s) 9223372036854775807 := by unfold N3.cmpI; (repeat' split) <;> omega
  have z2' : N3.cmpI (N3.iV s) 9223372036854775807 ≤ 0 := by omega
  generalize N3.cmpI (N3.iV s) (-9223372036854775808) = c1 at *
  generalize N3.cmpI (N3.iV s) 9223372036854775807 = c2 at *
  have HIV := Lib.hid hiv
  have HALL := Lib.hid hall
  have hi0 : (0 : Int) ≤ 0 ∧ (0 : Int) < (s.size : Int) := by omega
  rw [hiv] at b0 b1
  rw [hiv]
  have HMX := Lib.hid (fun k => decV_take_le s.data.toList k)
  clear hiv hall hbare hb hok
  go_enter Tryz.func52, Tryz.ntmps52
  go_wp2_with fail
  refine (HA.out _).mono ?_
  rintro e w' ⟨rfl, rfl⟩
  go_wp2_with fail
  refine (HLO.out _).mono ?_
  rintro e w1 ⟨rfl, hB1⟩
  go_wp2_with fail
  refine (HHI.out _).mono ?_
  rintro e w2 ⟨rfl, hB2⟩
  have hBa := hB1.trans (hB2.mono hB1.size)
  go_wp2_with fail
  go_loopw [4, 5, 6] (fun u4 u5 _ wr => ∃ i : Nat, i ≤ s.size ∧ u5 = .int .i64 (i : Nat) ∧ u4 = .int .i64 (((N3.decV (s.data.toList.take i) : Nat) : Int)) ∧ w2 = wr) (fun _ u5 _ _ => ((s.size : Int) - Go.RowKit.intOf u5).toNat)
  case atStart => exact ⟨0, Nat.zero_le _, rfl, rfl, rfl⟩
  case round =>
    obtain ⟨i, hi, rfl, rfl, rfl⟩ := hrel
    by_cases hlt : i < s.size
    · have hki : (0 : Int) ≤ (i : Int) ∧ (i : Int) < (s.size : Int) := by omega
      have hwi : IntKind.i64.wrap ((i : Int) + 1) = ((i + 1 : Nat) : Int) := by rw [IntKind.wrap_i64]; omega
      have hdig := ok_at HALL.out hlt
      have hq : ((s[i].toNat : Int) == 45) = false := beq_eq_false_iff_ne.2 (by omega)
      have hw2 : IntKind.u8.wrap ((s[i].toNat : Int) - 48) = ((s[i].toNat - 48 : Nat) : Int) := by rw [IntKind.wrap_u8]; omega
      have hw3 : IntKind.i64.wrap ((s[i].toNat - 48 : Nat) : Int) = ((s[i].toNat - 48 : Nat) : Int) := by rw [IntKind.wrap_i64]; omega
      have hst := dec_step hlt
      have hmx := HMX.out (i + 1)
      have HST := Lib.hid hst
      rw [hst] at hmx
      generalize N3.decV s.data.toList = V at *
      generalize N3.decV (s.data.toList.take i) = v at *
      have hd9 : s[i].toNat - 48 ≤ 9 := by omega
      generalize hdd : s[i].toNat - 48 = d at *
      have hw5 : IntKind.i64.wrap (10 * (v : Int)) = 10 * (v : Int) := by rw [IntKind.wrap_i64]; omega
      have hw6 : IntKind.i64.wrap (10 * (v : Int) + (d : Int)) = ((v * 10 + d : Nat) : Int) := by rw [IntKind.wrap_i64]; omega
      generalize v * 10 + d = v2 at *
      clear hst hmx hdd
      go_wp2
      go_roundw
      case rel => exact ⟨i + 1, by omega, by go_num, by rw [HST.out], by first | rfl | trivial⟩
      case measure => simp [Go.RowKit.intOf]; omega
    · obtain rfl : i = s.size := by omega
      have HE := Lib.hid (show N3.decV (s.data.toList.take s.size) = N3.decV s.data.toList from (by rw [List.take_of_length_le (by rw [← Lib.size_eq]; exact Nat.le_refl _)]))
      have hq0 : ¬ (s.size : Int) < (s.size : Int) := by omega
      go_wp2
      go_ret2
      exact ⟨by first | (rw [HE.out]; done) | (rw [HE.out]; rfl), hBa⟩

set_option maxRecDepth 100000 in
set_option maxHeartbeats 4000000 in
theorem toInt10 (s : ByteArray) (w : World) (hs : s.size ≤ 281474976710656) :
    Calls Tryz.prog 52 #[.string s] w fun e w' => e = .returned (.tuple #[.int .i64 (N3.toM s), .int .i64 (N3.toE s)]) ∧ Below w.heap.size w w' := by
  have HA := Lib.hid (fun V => valid10 s V (by omega))
  have HLO := Lib.hid (fun V => compare10 s ⟨#[45, 57, 50, 50, 51, 51, 55, 50, 48, 51, 54, 56, 53, 52, 55, 55, 53, 56, 48, 56]⟩ V (by omega) (by decide))
  have HHI := Lib.hid (fun V => compare10 s ⟨#[57, 50, 50, 51, 51, 55, 50, 48, 51, 54, 56, 53, 52, 55, 55, 53, 56, 48, 55]⟩ V (by omega) (by decide))
  cases hok : N3.okS s with
  | false =>
    have e1 : N3.toM s = 0 := by unfold N3.toM; rw [hok]; rfl
    have e2 : N3.toE s = 30 := by unfold N3.toE; rw [hok]; rfl
    rw [e1, e2]
    rw [hok] at HA
    clear hok e1 e2
    go_enter Tryz.func52, Tryz.ntmps52
    go_wp2_with fail
    refine (HA.out _).mono ?_
    rintro e w' ⟨rfl, rfl⟩
    go_wp2
    go_ret2
    exact ⟨rfl, Below.refl _ _⟩
  | true =>
    rw [hok] at HA
    rw [cmp_lo hok] at HLO
    rw [cmp_hi hok] at HHI
    by_cases b0 : -9223372036854775808 ≤ N3.iV s
    · by_cases b1 : N3.iV s ≤ 9223372036854775807
      · have e1 : N3.toM s = N3.iV s := by unfold N3.toM N3.inM; rw [hok, decide_eq_true b0, decide_eq_true b1]; rfl
        have e2 : N3.toE s = 0 := by unfold N3.toE N3.inM; rw [hok, decide_eq_true b0, decide_eq_true b1]; rfl
        rw [e1, e2]
        have h0 : 0 < s.size := by
          refine Classical.byContradiction fun hc => ?_
          have : s.data.toList = [] := List.eq_nil_of_length_eq_zero (by rw [← Lib.size_eq]; omega)
          unfold N3.okS at hok
          rw [this] at hok
          cases hok
        by_cases h45 : s[0].toNat = 45
        · exact toInt10_neg s w hs hok h0 h45 b0 b1
        · exact toInt10_pos s w hs hok h0 h45 b0 b1
      · have e1 : N3.toM s = 0 := by unfold N3.toM N3.inM; rw [hok, decide_eq_true b0, decide_eq_false b1]; rfl
        have e2 : N3.toE s = 30 := by unfold N3.toE N3.inM; rw [hok, decide_eq_true b0, decide_eq_false b1]; rfl
        rw [e1, e2]
        have z1 : ¬ N3.cmpI (N3.iV s) (-9223372036854775808) < 0 := by unfold N3.cmpI; (repeat' split) <;> omega
        have z1' : 0 ≤ N3.cmpI (N3.iV s) (-9223372036854775808) := by omega
        have z2 : 0 < N3.cmpI (N3.iV s) 9223372036854775807 := by unfold N3.cmpI; (repeat' split) <;> omega
        clear hok e1 e2 b0 b1
        generalize N3.cmpI (N3.iV s) (-9223372036854775808) = c1 at *
        generalize N3.cmpI (N3.iV s) 9223372036854775807 = c2 at *
        go_enter Tryz.func52, Tryz.ntmps52
        go_wp2_with fail
        refine (HA.out _).mono ?_
        rintro e w' ⟨rfl, rfl⟩
        go_wp2_with fail
        refine (HLO.out _).mono ?_
        rintro e w1 ⟨rfl, hB1⟩
        go_wp2_with fail
        refine (HHI.out _).mono ?_
        rintro e w2 ⟨rfl, hB2⟩
        have hBa := hB1.trans (hB2.mono hB1.size)
        go_wp2
        go_ret2
        exact ⟨rfl, hBa⟩
    · have e1 : N3.toM s = 0 := by unfold N3.toM N3.inM; rw [hok, decide_eq_false b0]; rfl
      have e2 : N3.toE s = 30 := by unfold N3.toE N3.inM; rw [hok, decide_eq_false b0]; rfl
      rw [e1, e2]
      have z1 : N3.cmpI (N3.iV s) (-9223372036854775808) < 0 := by unfold N3.cmpI; (repeat' split) <;> omega
      clear hok e1 e2 b0
      generalize N3.cmpI (N3.iV s) (-9223372036854775808) = c1 at *
      go_enter Tryz.func52, Tryz.ntmps52
      go_wp2_with fail
      refine (HA.out _).mono ?_
      rintro e w' ⟨rfl, rfl⟩
      go_wp2_with fail
      refine (HLO.out _).mono ?_
      rintro e w1 ⟨rfl, hB1⟩
      go_wp2
      go_ret2
      exact ⟨rfl, hB1⟩
end Go.Proofs.YtjnpenljgfdaiaaGreatDoor
