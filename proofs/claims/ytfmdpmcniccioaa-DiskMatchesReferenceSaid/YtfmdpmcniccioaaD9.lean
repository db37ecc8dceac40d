/- slices.DeleteFunc over the indices that are out of bounds. -/
import Derived.Test.YtfmdpmcniccioaaD8
namespace Go.Proofs.Ytfmdpmcniccioaa
open Go.RowKit Go.Shelf Lib

theorem zero3 (w : World) : (zeroValue 3).run Try.prog w = .ok (.int .i64 0) w := by kernel_rfl
/-- clear of the last elements of an own row of integers. -/
theorem run_clear_tail (w : World) (ty : TypeId) {base g n o cap c : Nat} {xs : List Value} (hown : w.ownsRow base 3 1 (.slice (some ⟨g, 0, none⟩) n cap) n xs) (ho : o < n) :
    ∃ w', (Builtin.clear_ #[37] ty #[.slice (some ⟨g, o, none⟩) (n - o) c]).run Try.prog w = .ok (.tuple #[]) w' ∧ w'.ownsRow base 3 1 (.slice (some ⟨g, 0, none⟩) o cap) o (xs.take o) ∧ w.grownBy w' (some g) := by
  rcases hown.2 with ⟨h1, -⟩ | ⟨g', cap', cur, h1, h2, h3, h4, h5, h6, h7⟩
  · cases h1
  · cases h1
    obtain ⟨k, hk⟩ : ∃ k, n - o = k + 1 := ⟨n - o - 1, by omega⟩
    have hlen : (Builtin.zeroCells (Value.int .i64 0).cells (k + 1)).toList.length = k + 1 := by simp [Builtin.zeroCells, Value.cells]
    have hone : ∀ x ∈ (Builtin.zeroCells (Value.int .i64 0).cells (k + 1)).toList, x.oneCell' = true := by
      intro x hx
      simp only [Builtin.zeroCells, Array.toList_map, Array.toList_range, List.mem_map, List.mem_range] at hx
      obtain ⟨i, hi, rfl⟩ := hx
      have : i % (Value.int .i64 0).cells.size = 0 := by simp [Value.cells, Nat.mod_one]
      rw [this]; rfl
    have hst := run_storeCells_at Try.prog g o 3 (Builtin.zeroCells (Value.int .i64 0).cells (k + 1)).toList 0 cur w h3 (by rw [hlen, h6]; omega) hone
    have hz := zero3
    generalize hzc : Builtin.zeroCells (Value.int .i64 0).cells (k + 1) = zc at hlen hone hst
    refine ⟨w.setRow g (cur.toList.take (o + 0) ++ zc.toList ++ cur.toList.drop (o + 0 + zc.toList.length)).toArray, ?_, ⟨by rw [List.length_take, hown.1]; omega, .inr ⟨g, cap, _, rfl, h2, setRow_heap w g cur _ 3 _ h3, by omega, h5, ?_, ?_⟩⟩, ⟨rfl, rfl, rfl, by simp, fun k hk hne => setRow_other w g k _ (fun e => hne (by rw [e]))⟩⟩
    · generalize (w.setRow g (cur.toList.take (o + 0) ++ zc.toList ++ cur.toList.drop (o + 0 + zc.toList.length)).toArray) = w' at hst ⊢
      rw [hk]
      simp [Builtin.clear_, run_underlying Try.underlying37, hz, hzc, hst]
    · simp [hlen, h6]; omega
    · rw [← h7]
      simp only [Nat.mul_one, Nat.add_zero, List.take_take]
      rw [List.append_assoc, List.take_append_of_le_length (by simp [h6]; omega), List.take_take, Nat.min_self, Nat.min_eq_left (by omega)]
def inL (m : Nat) (l : List Int) : List Int := l.filter fun x => !outB m x
theorem inL_snoc {m : Nat} {l : List Int} {k : Nat} {x : Int} (h : l[k]? = some x) : inL m (l.take (k + 1)) = inL m (l.take k) ++ if outB m x then [] else [x] := by
  unfold inL
  rw [List.take_add_one, h, List.filter_append]
  congr 1
  cases hq : outB m x <;> simp [hq]
theorem inL_le (m : Nat) (l : List Int) : (inL m l).length ≤ l.length := List.length_filter_le _ _
theorem first_none {m : Nat} {l : List Int} (h : l.findIdx? (outB m) = none) : inL m l = l := by
  unfold inL
  rw [List.filter_eq_self]
  intro x hx
  rw [List.findIdx?_eq_none_iff.1 h x hx]; rfl
theorem first_some {m : Nat} {l : List Int} {k : Nat} (h : l.findIdx? (outB m) = some k) : k < l.length ∧ inL m (l.take (k + 1)) = l.take k := by
  obtain ⟨hk, h1, h2⟩ := List.findIdx?_eq_some_iff_getElem.1 h
  refine ⟨hk, ?_⟩
  rw [inL_snoc (List.getElem?_eq_getElem hk), h1, if_pos rfl, List.append_nil]
  unfold inL
  rw [List.filter_eq_self]
  intro x hx
  obtain ⟨j, hj, rfl⟩ := List.getElem_of_mem hx
  have hj' : j < k := by rw [List.length_take] at hj; omega
  have := h2 j hj'
  rw [List.getElem_take]
  simpa using this
theorem keep_drop {cur l : List Int} {i j : Nat} {x : Int} (h : cur.drop j = l.drop j) (hij : i < j) : (cur.set i x).drop (j + 1) = l.drop (j + 1) := by
  have e : cur.drop (j + 1) = l.drop (j + 1) := by
    have := congrArg (List.drop 1) h
    simpa [List.drop_drop, Nat.add_comm] using this
  rw [← e]
  apply List.ext_getElem?
  intro q
  rw [List.getElem?_drop, List.getElem?_drop, List.getElem?_set_ne (by omega)]
theorem set_take {cur : List Int} {i : Nat} {x : Int} (hi : i < cur.length) : (cur.set i x).take (i + 1) = cur.take i ++ [x] := by
  apply List.ext_getElem?
  intro q
  rw [List.getElem?_take]
  by_cases hq : q < i
  · rw [if_pos (by omega), List.getElem?_set_ne (by omega), List.getElem?_append_left (by simp; omega), List.getElem?_take, if_pos hq]
  · by_cases hq2 : q = i
    · subst hq2
      rw [if_pos (by omega), List.getElem?_set_self hi, List.getElem?_append_right (by simp; omega)]
      simp [Nat.min_eq_left (Nat.le_of_lt hi)]
    · rw [if_neg (by omega), List.getElem?_eq_none (by simp; omega)]
set_option maxRecDepth 100000 in
set_option maxHeartbeats 1000000 in
theorem deleteFunc_any {w : World} {base : Nat} {v : Value} {l : List Int} {C B m : Nat} (h : Srch w base v l C B m) (hb : base ≤ w.heap.size) (hC : C < base) (hB : B < base) (hs : l.length ≤ 1000) :
    Calls Try.prog 41 #[v, cF C] w fun e w' => ∃ v', e = .returned v' ∧ w'.ownsRow base 3 1 v' (inL m l).length ((inL m l).map (Value.int .i64)) ∧ Below base w w' := by
  have hx := indexFunc_any h
  obtain ⟨a, cap, rfl, h1, h2⟩ := owned_len h.own
  unfold firstOut at hx
  unfold cF at hx ⊢
  cases hf : l.findIdx? (outB m) with
  | none =>
    rw [hf] at hx
    have HE := Lib.hid (first_none hf)
    have HO := Lib.hid h.own
    clear h hf
    go_enter Try.func41, Try.ntmps41
    go_wp2_with fail
    refine hx.mono ?_
    rintro e w' ⟨rfl, rfl⟩
    go_wp2
    go_ret
    exact ⟨_, rfl, by rw [HE.out]; exact HO.out, Below.refl _ _⟩
  | some k0 =>
    rw [hf] at hx
    obtain ⟨hk0, htk⟩ := first_some hf
    obtain ⟨g, rfl, hgb⟩ : ∃ g, a = some (⟨g, 0, none⟩ : Addr) ∧ base ≤ g := by
      rcases h.own.2 with ⟨-, h0⟩ | ⟨g, cap', cur, e, h3, -⟩
      · omega
      · cases e; exact ⟨g, rfl, h3⟩
    have HTK := Lib.hid htk
    have HO := Lib.hid h.own
    have HC := Lib.hid h.c
    obtain ⟨pa, pc, hpb⟩ := h.b
    have HPB := Lib.hid hpb
    unfold maxLen at h2
    have hk1 : ¬ ((k0 : Int) = -1) := by omega
    have hk2 : ((k0 : Int) == -1) = false := beq_eq_false_iff_ne.2 (by omega)
    clear h hf htk hpb
    go_enter Try.func41, Try.ntmps41
    go_wp2_with fail
    refine hx.mono ?_
    rintro e w' ⟨rfl, rfl⟩
    clear hx
    go_wp2
    go_loopw [5, 6] (fun u5 u6 wr => ∃ (i j : Nat) (cur : List Int), i < j ∧ j ≤ l.length ∧ u5 = .int .i64 i ∧ u6 = .int .i64 j ∧ cur.length = l.length ∧ Hid (cur.take i = inL m (l.take j)) ∧ Hid (cur.drop j = l.drop j) ∧ wr.ownsRow base 3 1 (.slice (some ⟨g, 0, none⟩) l.length cap) l.length (cur.map (Value.int .i64)) ∧ Below base w wr) (fun _ u6 _ => (l.length - intOf u6).toNat)
    case atStart => exact ⟨k0, k0 + 1, l, by omega, by omega, rfl, by go_num, rfl, HTK.out.symm, rfl, HO.out, Below.refl _ _⟩
    case round =>
      obtain ⟨i, j, cur, hij, hj, rfl, rfl, hcl, htk, hdr, hown, hBr⟩ := hrel
      by_cases hjl : j < l.length
      · have hx : cur[j]? = some (l.getD j 0) := by
          have := congrArg (fun z => z[0]?) hdr.out
          simp only [List.getElem?_drop, Nat.add_zero] at this
          rw [this, getD_some 0 hjl]
        have hlj := getD_some 0 hjl
        have hsn := inL_snoc (m := m) hlj
        generalize l.getD j 0 = x at hx hlj hsn
        have hcell : wr.cell? ⟨g, j, none⟩ = some (.int .i64 x) := by
          have := hown.cells rfl j (.int .i64 x) (by rw [List.getElem?_map, hx]; rfl)
          rwa [add_zero_off] at this
        have hcr := crash1 (w := wr) (m := m) x ((hBr.cell hC).trans HC.out) ((hBr.cell hB).trans HPB.out)
        have hji : (0 : Int) ≤ (j : Int) ∧ (j : Int) < (l.length : Int) := by omega
        have hii : (0 : Int) ≤ (i : Int) ∧ (i : Int) < (l.length : Int) := by omega
        have hci : ∃ y, wr.cell? ⟨g, i, none⟩ = some y := by
          have h3 : i < cur.length := by omega
          have := hown.cells rfl i (.int .i64 cur[i]) (by rw [List.getElem?_map, List.getElem?_eq_getElem h3]; rfl)
          rw [add_zero_off] at this
          exact ⟨_, this⟩
        obtain ⟨y, hci⟩ := hci
        have hfi := hown.frozenAt i
        have HOW := Lib.hid hown
        have HSN := Lib.hid hsn
        have HX := Lib.hid hx
        clear hown hsn hx hlj
        go_wp2_with fail
        refine hcr.mono ?_
        rintro e w' ⟨rfl, rfl⟩
        clear hcr
        cases hq : outB m x with
        | true =>
          have HE : Hid (inL m (l.take (j + 1)) = inL m (l.take j)) := by have := HSN.out; rw [hq, if_pos rfl, List.append_nil] at this; exact this
          clear hq
          go_wp2
          go_roundw
          case rel => exact ⟨i, j + 1, cur, by omega, by omega, rfl, by go_num, hcl, by rw [HE.out]; exact htk.out, by show _ = _; have := congrArg (List.drop 1) hdr.out; simpa [List.drop_drop, Nat.add_comm] using this, HOW.out, hBr⟩
          case measure => simp [intOf]; omega
        | false =>
          have HE : Hid (inL m (l.take (j + 1)) = inL m (l.take j) ++ [x]) := by show _ = _; have := HSN.out; rw [hq] at this; simpa using this
          clear hq
          go_wp2
          go_roundw
          case rel =>
            refine ⟨i + 1, j + 1, cur.set i x, by omega, by omega, by go_num, by go_num, by rw [List.length_set]; exact hcl, ?_, keep_drop hdr.out hij, ?_, hBr.setCell (p := ⟨g, i, none⟩) hgb _⟩
            · show _ = _; rw [set_take (by omega), HE.out, htk.out]
            · have := (HOW.out.stored i (.int .i64 x)).1
              rw [List.map_set]; exact this
          case measure => simp [intOf]; omega
      · obtain rfl : j = l.length := by omega
        obtain ⟨w3, hrun, hown3, hg3⟩ := run_clear_tail wr 0 (c := cap - i) hown (o := i) (by omega)
        have hci : ¬ (cap = i) := by omega
        have hip : (0 : Int) ≤ (i : Int) ∧ (i : Int) ≤ (l.length : Int) := by omega
        have hic : (i : Int) ≤ (cap : Int) := by omega
        have HE : Hid (cur.take i = inL m l) := by have := htk.out; rw [List.take_length] at this; exact this
        have HOW := Lib.hid hown3
        have HG := Lib.hid hg3
        have hbw := hBr.size
        clear hown3 hg3 hown
        go_wp2
        go_ret
        have hil : i = (inL m l).length := by rw [← HE.out, List.length_take]; omega
        refine ⟨_, rfl, ?_, hBr.grown HG.out (by omega) (fun j hj => by cases hj; exact hgb)⟩
        have := HOW.out
        rw [← List.map_take, HE.out] at this
        rw [← hil]; exact this
end Go.Proofs.Ytfmdpmcniccioaa
