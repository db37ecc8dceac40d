/- package nadirref03: leaving out zeros; a list of digits as a string. -/
import Derived.Test.YtjnpenljgfdaiaaGreatDoorX6
import Derived.Test.YtjnpenljgfdaiaaGreatDoorPL
namespace Go.Proofs.YtjnpenljgfdaiaaGreatDoor
open Go.RowKit Go.Shelf Lib

theorem E72 : ElemOK Tryz.prog 72 3 (.int .i64 0) 1 8 := ⟨Tryz.underlying72, by kernel_rfl, rfl, by decide⟩
theorem E62 : ElemOK Tryz.prog 62 5 (.int .u8 0) 1 1 := ⟨Tryz.underlying62, by kernel_rfl, rfl, by decide⟩
def DigAt (w : World) (v : Value) (n : Nat) : Prop := IntsAt w v (castL (D10.toG n))
set_option maxRecDepth 100000 in
set_option maxHeartbeats 1000000 in
/-- Without zeros at the end. -/
theorem trim10_any (v : Value) (l : List Nat) (w : World) (hv : IntsAt w v (castL l)) (hok : D10.OKl l) :
    Calls Tryz.prog 83 #[v] w fun e w' => ∃ v', e = .returned v' ∧ DigAt w v' (D10.val l) ∧ w = w' := by
  obtain ⟨a, cp, rfl, h1, h2⟩ := hv.len
  rw [castL_len] at h1 ⊢
  unfold maxLen at h2
  have HV := Lib.hid hv
  clear hv
  go_enter Tryz.func83, Tryz.ntmps83
  go_wp2
  go_loopw [0] (fun u0 wr => ∃ k : Nat, k ≤ l.length ∧ u0 = .slice a k cp ∧ (∀ j, k ≤ j → l.getD j 0 = 0) ∧ w = wr) (fun u0 _ => match u0 with | .slice _ k _ => k | _ => 0)
  case atStart => exact ⟨l.length, Nat.le_refl _, rfl, fun j hj => by rw [List.getD_eq_getElem?_getD, List.getElem?_eq_none hj]; rfl, rfl⟩
  case round =>
    obtain ⟨k, hk, rfl, hz, rfl⟩ := hrel
    have HZ := Lib.hid hz
    clear hz
    by_cases h0 : 0 < k
    · obtain ⟨b, off, rfl, hc⟩ := HV.out.get (castL_get (show k - 1 < l.length by omega))
      have hw1 : IntKind.i64.wrap ((k : Int) - 1) = ((k - 1 : Nat) : Int) := by rw [IntKind.wrap_i64]; omega
      have hki : (0 : Int) ≤ ((k - 1 : Nat) : Int) ∧ ((k - 1 : Nat) : Int) < (k : Int) := by omega
      have hkc : (0 : Int) ≤ ((k - 1 : Nat) : Int) ∧ ((k - 1 : Nat) : Int) ≤ (cp : Int) := by omega
      by_cases hx : l.getD (k - 1) 0 = 0
      · rw [hx] at hc
        have HX := Lib.hid hx
        clear hx
        go_wp2
        go_roundw
        case rel =>
          refine ⟨k - 1, by omega, rfl, fun j hj => ?_, trivial⟩
          by_cases e : j = k - 1
          · rw [e]; exact HX.out
          · exact HZ.out j (by omega)
        case measure => simp; omega
      · have q : (((l.getD (k - 1) 0 : Nat) : Int) == 0) = false := beq_eq_false_iff_ne.2 (by omega)
        have HX := Lib.hid hx
        have hres : DigAt w (.slice (some ⟨b, off, none⟩) k cp) (D10.val l) := by
          unfold DigAt
          rw [← D10.trim_eq hok hk HZ.out (.inr HX.out), ← castL_take]
          have h3 := HV.out
          rw [castL_len] at h3
          exact SliceOf.take h3 (by rw [castL_len]; exact hk)
        generalize l.getD (k - 1) 0 = y at hc q
        go_wp2
        go_ret
        exact ⟨_, rfl, hres, rfl⟩
    · obtain rfl : k = 0 := by omega
      have hres : DigAt w (.slice a 0 cp) (D10.val l) := by
        unfold DigAt
        rw [← D10.trim_eq hok hk HZ.out (.inl rfl), ← castL_take]
        have h3 := HV.out
        rw [castL_len] at h3
        exact SliceOf.take h3 (Nat.zero_le _)
      go_wp2
      go_ret
      exact ⟨_, rfl, hres, rfl⟩
/-- The digits from the highest one on. -/
def headC (b : Bool) : List Int := if b = true then [45] else []
def upC (l : List Nat) (k : Nat) : List Int := ((l.drop (l.length - k)).reverse).map fun d : Nat => ((48 + d : Nat) : Int)
theorem upC_zero (l : List Nat) : upC l 0 = [] := by unfold upC; rw [Nat.sub_zero, List.drop_length]; rfl
theorem upC_all (l : List Nat) : upC l l.length = l.reverse.map fun d : Nat => ((48 + d : Nat) : Int) := by unfold upC; rw [Nat.sub_self, List.drop_zero]
theorem upC_len {l : List Nat} {k : Nat} (h : k ≤ l.length) : (upC l k).length = k := by unfold upC; rw [List.length_map, List.length_reverse, List.length_drop]; omega
theorem upC_succ {l : List Nat} {k : Nat} (h : k < l.length) : upC l (k + 1) = upC l k ++ [((48 + l.getD (l.length - 1 - k) 0 : Nat) : Int)] := by
  unfold upC
  have hd : l.drop (l.length - (k + 1)) = l.getD (l.length - 1 - k) 0 :: l.drop (l.length - k) := by
    rw [show l.length - (k + 1) = l.length - 1 - k by omega, List.drop_eq_getElem_cons (by omega), List.getD_eq_getElem?_getD, List.getElem?_eq_getElem (by omega), Option.getD_some, show l.length - 1 - k + 1 = l.length - k by omega]
  rw [hd, List.reverse_cons, List.map_append]; rfl
theorem strOf_text (b : Bool) {n : Nat} (h : n ≠ 0) : strOfNums (headC b ++ (D10.toG n).reverse.map fun d : Nat => ((48 + d : Nat) : Int)) = N3.S (N3.sgn b n) := by
  refine bytes_ext ?_
  rw [strOfNums_data]
  unfold N3.S
  rw [N3.sgn_text b h, N3.txt_toG n h, ← N3.ten_text n h, List.map_append, List.map_map]
  congr 1
  cases b <;> rfl
theorem dig_len {n : Nat} (h : n ≠ 0) : (D10.toG n).length ≤ 200 ↔ n < N3.lim := by
  have h1 := congrArg List.length (N3.ten_text n h)
  rw [List.length_map, List.length_reverse, decDigits_length] at h1
  rw [h1]
  exact N3.nDigits_le (by decide)
set_option maxRecDepth 100000 in
set_option maxHeartbeats 1000000 in
theorem text10_any (b : Bool) (v : Value) (n : Nat) (w : World) (h1 : DigAt w v n) (l1 : (D10.toG n).length ≤ 100000) :
    Calls Tryz.prog 82 #[.bool b, v] w fun e w' => e = .returned (.tuple #[.string (N3.S (N3.sgn b n)), .bool (decide (n < N3.lim))]) ∧ Below w.heap.size w w' := by
  obtain ⟨a, cp, rfl, g1, g2⟩ := (show IntsAt w v _ from h1).len
  rw [castL_len] at g1
  by_cases hn0 : n = 0
  · subst hn0
    have e0 : N3.sgn b 0 = 0 := by cases b <;> rfl
    have hl : (castL (D10.toG 0)).length = 0 := by rw [D10.toG_zero]; rfl
    rw [e0, hl]
    have hS : N3.S 0 = ⟨#[48]⟩ := by unfold N3.S; rw [N3.itoa_zero]
    have hd : decide (0 < N3.lim) = true := by decide
    rw [hS, hd]
    clear h1
    go_enter Tryz.func82, Tryz.ntmps82
    go_wp2
    go_ret2
    exact ⟨rfl, Below.refl _ _⟩
  · have hl0 : 0 < (D10.toG n).length := by
      refine Classical.byContradiction fun hc => hn0 (D10.toG_nil.1 (List.eq_nil_of_length_eq_zero (by omega)))
    have hq0 : (((D10.toG n).length : Int) == 0) = false := beq_eq_false_iff_ne.2 (by omega)
    have hlim := dig_len hn0
    have HS := Lib.hid (strOf_text b hn0)
    have hres : Hid (decide (((D10.toG n).length : Int) ≤ 200) = decide (n < N3.lim)) := Lib.hid (by rw [decide_eq_decide, ← hlim]; omega)
    have hw0 : IntKind.i64.wrap (((D10.toG n).length : Int) - 1) = ((D10.toG n).length : Int) - 1 := by rw [IntKind.wrap_i64]; omega
    have hok := D10.toG_lt n
    rw [castL_len] at h1 ⊢
    rw [← HS.out, ← hres.out]
    have HV := Lib.hid (show IntsAt w (.slice a (D10.toG n).length cp) (castL (D10.toG n)) from h1)
    clear h1 hlim hn0 hres HS
    generalize D10.toG n = l at *
    have HOK := Lib.hid hok
    clear hok
    have hupA := Lib.hid (upC_all l)
    rw [← hupA.out]
    cases b with
    | true =>
      go_enter Tryz.func82, Tryz.ntmps82
      go_wp2_with (at_builtin; refine wpList_push E62 rfl _ _ rfl w.heap.size (show w.ownsRow w.heap.size 5 1 (.slice none 0 0) 0 [] from ⟨rfl, .inl ⟨rfl, rfl⟩⟩) rfl rfl rfl (by unfold maxLen; omega) (by omega) (Nat.le_refl _) ?_; intro v' w3 ho3 hg3 hB3)
      go_loopw [6, 7] (fun u6 u7 wr => ∃ k : Nat, k ≤ l.length ∧ u7 = .int .i64 ((l.length : Int) - 1 - k) ∧ wr.ownsRow w.heap.size 5 1 u6 (1 + k) ((headC true ++ upC l k).map (Value.int .u8)) ∧ Below w.heap.size w wr) (fun _ u7 _ => (Go.RowKit.intOf u7 + 1).toNat)
      case atStart => exact ⟨0, Nat.zero_le _, by simp, by rw [upC_zero, List.append_nil]; exact ho3, hB3⟩
      case round =>
        obtain ⟨k, hk, rfl, hown, hB⟩ := hrel
        rename World => wr
        obtain ⟨ra, rc, rfl, hr1, hr2⟩ := owned_len hown
        unfold maxLen at hr2
        by_cases hkl : k < l.length
        · have hki : l.length - 1 - k < l.length := by omega
          obtain ⟨bb, off, rfl, hcell⟩ := (SliceOf.below HV.out hB).get (castL_get hki)
          have hei : (l.length : Int) - 1 - (k : Int) = ((l.length - 1 - k : Nat) : Int) := by omega
          have hup := upC_succ hkl
          have hd9 : l.getD (l.length - 1 - k) 0 < 10 := HOK.out _ (by rw [List.getD_eq_getElem?_getD, List.getElem?_eq_getElem hki]; exact List.getElem_mem _)
          have hidx := Lib.hid hei
          rw [hei]
          have hw1 : IntKind.i64.wrap (((l.length - 1 - k : Nat) : Int) - 1) = ((l.length - 1 - k : Nat) : Int) - 1 := by rw [IntKind.wrap_i64]; omega
          have hpi : (0 : Int) ≤ ((l.length - 1 - k : Nat) : Int) ∧ ((l.length - 1 - k : Nat) : Int) < (l.length : Int) := by omega
          have HUP := Lib.hid hup
          generalize l.getD (l.length - 1 - k) 0 = x at hcell hd9 HUP
          have hw2 : IntKind.i64.wrap (48 + (x : Int)) = ((48 + x : Nat) : Int) := by rw [IntKind.wrap_i64]; omega
          have hw3 : IntKind.u8.wrap ((48 + x : Nat) : Int) = ((48 + x : Nat) : Int) := by rw [IntKind.wrap_u8]; omega
          have hge : ¬ (((l.length - 1 - k : Nat) : Int) < 0) := by omega
          generalize hii : l.length - 1 - k = i at hcell hw1 hpi hge hidx ⊢
          have hbk := hB.size
          clear hup hei hii
          go_wp2_with (at_builtin; refine wpList_push E62 rfl _ _ rfl w.heap.size hown rfl rfl rfl (by unfold maxLen; omega) (by omega) (by omega) ?_; intro v' w3 ho3 hg3 hB3)
          go_roundw
          case rel =>
            refine ⟨k + 1, by omega, congrArg (Value.int .i64) (by have := hidx.out; omega), ?_, hB.trans hB3⟩
            rw [HUP.out, ← List.append_assoc, List.map_append]
            exact ho3
          case measure => simp [Go.RowKit.intOf]
        · obtain rfl : k = l.length := by omega
          have hei : (l.length : Int) - 1 - (l.length : Int) = -1 := by omega
          rw [hei]
          have hcv := run_convert_owned (xs := headC true ++ upC l l.length) 62 9 Tryz.underlying62 Tryz.underlying5 Tryz.underlying9 hown
          clear hown hei
          go_wp2
          go_ret2
          exact ⟨rfl, hB⟩
    | false =>
      go_enter Tryz.func82, Tryz.ntmps82
      go_wp2_with fail
      go_loopw [6, 7] (fun u6 u7 wr => ∃ k : Nat, k ≤ l.length ∧ u7 = .int .i64 ((l.length : Int) - 1 - k) ∧ wr.ownsRow w.heap.size 5 1 u6 k ((headC false ++ upC l k).map (Value.int .u8)) ∧ Below w.heap.size w wr) (fun _ u7 _ => (Go.RowKit.intOf u7 + 1).toNat)
      case atStart => exact ⟨0, Nat.zero_le _, by simp, by rw [upC_zero, List.append_nil]; exact ⟨rfl, .inl ⟨rfl, rfl⟩⟩, Below.refl _ _⟩
      case round =>
        obtain ⟨k, hk, rfl, hown, hB⟩ := hrel
        rename World => wr
        obtain ⟨ra, rc, rfl, hr1, hr2⟩ := owned_len hown
        unfold maxLen at hr2
        by_cases hkl : k < l.length
        · have hki : l.length - 1 - k < l.length := by omega
          obtain ⟨bb, off, rfl, hcell⟩ := (SliceOf.below HV.out hB).get (castL_get hki)
          have hei : (l.length : Int) - 1 - (k : Int) = ((l.length - 1 - k : Nat) : Int) := by omega
          have hup := upC_succ hkl
          have hd9 : l.getD (l.length - 1 - k) 0 < 10 := HOK.out _ (by rw [List.getD_eq_getElem?_getD, List.getElem?_eq_getElem hki]; exact List.getElem_mem _)
          have hidx := Lib.hid hei
          rw [hei]
          have hw1 : IntKind.i64.wrap (((l.length - 1 - k : Nat) : Int) - 1) = ((l.length - 1 - k : Nat) : Int) - 1 := by rw [IntKind.wrap_i64]; omega
          have hpi : (0 : Int) ≤ ((l.length - 1 - k : Nat) : Int) ∧ ((l.length - 1 - k : Nat) : Int) < (l.length : Int) := by omega
          have HUP := Lib.hid hup
          generalize l.getD (l.length - 1 - k) 0 = x at hcell hd9 HUP
          have hw2 : IntKind.i64.wrap (48 + (x : Int)) = ((48 + x : Nat) : Int) := by rw [IntKind.wrap_i64]; omega
          have hw3 : IntKind.u8.wrap ((48 + x : Nat) : Int) = ((48 + x : Nat) : Int) := by rw [IntKind.wrap_u8]; omega
          have hge : ¬ (((l.length - 1 - k : Nat) : Int) < 0) := by omega
          generalize hii : l.length - 1 - k = i at hcell hw1 hpi hge hidx ⊢
          have hbk := hB.size
          clear hup hei hii
          go_wp2_with (at_builtin; refine wpList_push E62 rfl _ _ rfl w.heap.size hown rfl rfl rfl (by unfold maxLen; omega) (by omega) (by omega) ?_; intro v' w3 ho3 hg3 hB3)
          go_roundw
          case rel =>
            refine ⟨k + 1, by omega, congrArg (Value.int .i64) (by have := hidx.out; omega), ?_, hB.trans hB3⟩
            rw [HUP.out, ← List.append_assoc, List.map_append]
            exact ho3
          case measure => simp [Go.RowKit.intOf]
        · obtain rfl : k = l.length := by omega
          have hei : (l.length : Int) - 1 - (l.length : Int) = -1 := by omega
          rw [hei]
          have hcv := run_convert_owned (xs := headC false ++ upC l l.length) 62 9 Tryz.underlying62 Tryz.underlying5 Tryz.underlying9 hown
          clear hown hei
          go_wp2
          go_ret2
          exact ⟨rfl, hB⟩
end Go.Proofs.YtjnpenljgfdaiaaGreatDoor
