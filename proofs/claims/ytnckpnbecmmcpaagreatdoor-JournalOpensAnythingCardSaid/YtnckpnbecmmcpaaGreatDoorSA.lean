/- slices.Chunk on bytes, as an iterator. -/
import Derived.Test.YtnckpnbecmmcpaaGreatDoorS9
import Derived.Test.YtnckpnbecmmcpaaGreatDoorRangeM
namespace Go.Proofs.YtnckpnbecmmcpaaGreatDoor
open Go.RowKit
set_option maxRecDepth 100000 in
theorem chunk128 (va : Option Addr) (vn vc : Nat) (w : World) : Calls Tryz.prog 128 #[.slice va vn vc, .int .i64 64] w fun e w' => e = .returned (.func (.func 143) #[] #[.pointer (some ⟨w.heap.size, 0, none⟩), .pointer (some ⟨w.heap.size + 1, 0, none⟩)]) ∧ (w.alloc (.cells #[.slice va vn vc] 39)).alloc (.cells #[.int .i64 64] 3) = w' := by
  go_enter Tryz.func128, Tryz.ntmps128
  go_wp2
  go_ret
  exact ⟨rfl, rfl⟩
def encC (bb ob : Nat) (x : Nat) : Array Value := #[.slice (some ⟨bb, ob + 64 * x, none⟩) 64 64]
set_option maxRecDepth 100000 in
set_option maxHeartbeats 400000 in
theorem chunk_seq (m : Nat) (hm : 1 ≤ m) (b1 b2 bb ob N cap : Nat) (w : World) (hN : N ≤ 200000) (hc : 64 * N ≤ cap) (hcap : cap ≤ maxLen) (h1 : Boxed w b1 39 (.slice (some ⟨bb, ob, none⟩) (64 * N) cap)) (h2 : Boxed w b2 3 (.int .i64 64)) :
    SeqM Fence.wide m Tryz.prog 143 #[.pointer (some ⟨b1, 0, none⟩), .pointer (some ⟨b2, 0, none⟩)] (encC bb ob) (fun W W' => W'.heap[b1]? = W.heap[b1]? ∧ W'.heap[b2]? = W.heap[b2]?) (fun _ => False) (fun xs => xs = List.range N) (fun _ => True) (fun pre x => x = pre.length ∧ x < N) w := by
  intro l J Jx W hW hJ hJx hY h0
  have hb1 : Boxed W b1 39 (.slice (some ⟨bb, ob, none⟩) (64 * N) cap) := by
    unfold Boxed at h1 ⊢; rw [hW.block b1 (Array.getElem?_eq_some_iff.1 h1).1]; exact h1
  have hb2 : Boxed W b2 3 (.int .i64 64) := by
    unfold Boxed at h2 ⊢; rw [hW.block b2 (Array.getElem?_eq_some_iff.1 h2).1]; exact h2
  have hro : (Fence.wide).round = none := rfl
  unfold maxLen at hcap
  obtain ⟨n, hn⟩ : ∃ n, 64 * N = n := ⟨_, rfl⟩
  rw [hn] at hb1 hc
  clear h1 h2 hW
  refine callsIn_of_wp Tryz.func143 rfl trivial ?_ hro
  simp only [Tryz.ntmps143, List.size_toArray, List.length_cons, List.length_nil, Nat.reduceAdd, Nat.reduceSub, Array.replicate_succ, Array.replicate_zero, List.push_toArray, List.append_toArray, List.nil_append, List.cons_append]
  have HN := Lib.hid hn
  clear hn
  gi_wp2
  gi_loopw [4, 5] (fun u4 _ wr => ∃ i k : Nat, i ≤ N ∧ k = 64 * i ∧ u4 = .int .i64 (k : Int) ∧ Boxed wr b1 39 (.slice (some ⟨bb, ob, none⟩) n cap) ∧ Boxed wr b2 3 (.int .i64 64) ∧ J (List.range i) wr) (fun u4 _ _ => (n - intOf u4).toNat)
  case atStart => exact ⟨0, 0, by omega, rfl, rfl, hb1, hb2, h0⟩
  case round =>
    obtain ⟨i, k, hi, hk, rfl, hx1, hx2, hj⟩ := hrel
    have c1 := hx1.cell
    have c2 := hx2.cell
    by_cases hlt : i < N
    · have d1 : decide ((k : Int) < (n : Int)) = true := decide_eq_true (by have := HN.out; omega)
      have d1b : decide (k < n) = true := decide_eq_true (by have := HN.out; omega)
      have HK := Lib.hid hk
      clear hk
      have k0 : (0 : Int) ≤ (k : Int) := by omega
      have hkn : k ≤ n := by have := HN.out; have := HK.out; omega
      have hkc : k ≤ cap := by omega
      obtain ⟨r, hr⟩ : ∃ r, n - k = r := ⟨_, rfl⟩
      have hr64 : 64 ≤ r := by have := HN.out; have := HK.out; omega
      have mn1 : (if (r : Int) < 64 then (r : Int) else 64) = 64 := if_neg (by omega)
      have mn2 : min (64 : Int) (r : Int) = 64 := by omega
      gi_wp2_with fail
      refine wpIn_wide.2 ?_
      refine wp_region_noPanic ?_
      refine wp_region_held_drew (S := (fun w' => w'.cell? ⟨b1, 0, none⟩ = some (.slice (some ⟨bb, ob, none⟩) n cap) ∧ w'.cell? ⟨b2, 0, none⟩ = some (.int .i64 64))) (by kernel_rfl) ⟨c1, c2⟩ (fun hHeld => ?_)
      refine wpAnyH_take (i := 0) (oi := { dst := some 13, op := Op.load 3 (Operand.tmp 2), type := 3, pos := "iter.go:105", after := #[], guard := none }) (v := ?_) rfl (by kernel_rfl) (by kernel_rfl) (by kernel_rfl) (fun _ _ _ h => h) (Or.inl ⟨by kernel_rfl, ?_⟩) (by assumption) ?_
      rotate_left
      · intro w hSw
        (try dsimp only at hSw)
        go_simp
        all_goals (with_reducible rfl)
      (try simp only [Act.put, List.setIfInBounds_toArray, List.set_cons_zero, List.set_cons_succ])
      refine wpAnyH_take (i := 1) (oi := { dst := some 14, op := Op.load 39 (Operand.tmp 1), type := 39, pos := "iter.go:105", after := #[], guard := none }) (v := ?_) rfl (by kernel_rfl) (by kernel_rfl) (by kernel_rfl) (fun _ _ _ h => h) (Or.inl ⟨by kernel_rfl, ?_⟩) (by assumption) ?_
      rotate_left
      · intro w hSw
        (try dsimp only at hSw)
        go_simp
        all_goals (with_reducible rfl)
      (try simp only [Act.put, List.setIfInBounds_toArray, List.set_cons_zero, List.set_cons_succ])
      refine wpAnyH_take (i := 2) (oi := { dst := some 15, op := Op.move (Operand.tmp 4), type := 3, pos := "iter.go:105", after := #[], guard := none }) (v := ?_) rfl (by kernel_rfl) (by kernel_rfl) (by kernel_rfl) (fun _ _ _ h => h) (Or.inl ⟨by kernel_rfl, ?_⟩) (by assumption) ?_
      rotate_left
      · intro w hSw
        (try dsimp only at hSw)
        go_simp
        all_goals (with_reducible rfl)
      (try simp only [Act.put, List.setIfInBounds_toArray, List.set_cons_zero, List.set_cons_succ])
      refine wpAnyH_take (i := 3) (oi := { dst := some 16, op := Op.slice 39 (Operand.tmp 14) (some (Operand.tmp 15)) none none, type := 39, pos := "iter.go:105", after := #[{ on := 1, ground := Ground.data }, { on := 2, ground := Ground.data }], guard := none }) (v := ?_) rfl (by kernel_rfl) (by kernel_rfl) (by kernel_rfl) (fun _ _ _ h => h) (Or.inl ⟨by kernel_rfl, ?_⟩) (by assumption) ?_
      rotate_left
      · intro w hSw
        (try dsimp only at hSw)
        go_simp
        all_goals (with_reducible rfl)
      (try simp only [Act.put, List.setIfInBounds_toArray, List.set_cons_zero, List.set_cons_succ])
      refine wpAnyH_take (i := 4) (oi := { dst := some 17, op := Op.call { callee := Callee.builtin Builtin.len, args := #[Operand.tmp 16], argTypes := #[39] }, type := 3, pos := "iter.go:105", after := #[{ on := 3, ground := Ground.data }], guard := none }) (v := ?_) rfl (by kernel_rfl) (by kernel_rfl) (by kernel_rfl) (fun _ _ _ h => h) (Or.inl ⟨by kernel_rfl, ?_⟩) (by assumption) ?_
      rotate_left
      · intro w hSw
        (try dsimp only at hSw)
        go_simp
        all_goals (with_reducible rfl)
      (try simp only [Act.put, List.setIfInBounds_toArray, List.set_cons_zero, List.set_cons_succ])
      refine wpAnyH_take (i := 5) (oi := { dst := some 18, op := Op.call { callee := Callee.builtin Builtin.min, args := #[Operand.tmp 13, Operand.tmp 17], argTypes := #[3, 3] }, type := 3, pos := "iter.go:105", after := #[{ on := 0, ground := Ground.data }, { on := 4, ground := Ground.data }], guard := none }) (v := ?_) rfl (by kernel_rfl) (by kernel_rfl) (by kernel_rfl) (fun _ _ _ h => h) (Or.inl ⟨by kernel_rfl, ?_⟩) (by assumption) ?_
      rotate_left
      · intro w hSw
        (try dsimp only at hSw)
        go_simp
        all_goals (with_reducible rfl)
      (try simp only [Act.put, List.setIfInBounds_toArray, List.set_cons_zero, List.set_cons_succ])
      refine wpAnyH_take (i := 6) (oi := { dst := some 5, op := Op.assign (Operand.tmp 18), type := 3, pos := "iter.go:105", after := #[{ on := 5, ground := Ground.data }, { on := 0, ground := Ground.phase }, { on := 1, ground := Ground.phase }, { on := 2, ground := Ground.phase }, { on := 3, ground := Ground.phase }, { on := 4, ground := Ground.phase }, { on := 5, ground := Ground.phase }], guard := none }) (v := ?_) rfl (by kernel_rfl) (by kernel_rfl) (by kernel_rfl) (fun _ _ _ h => h) (Or.inl ⟨by kernel_rfl, ?_⟩) (by assumption) ?_
      rotate_left
      · intro w hSw
        (try dsimp only at hSw)
        go_simp
        all_goals (with_reducible rfl)
      (try simp only [Act.put, List.setIfInBounds_toArray, List.set_cons_zero, List.set_cons_succ])
      refine wpAnyH_done (by kernel_rfl) ?_ _
      refine NoPanic.normal ?_
      clear hHeld
      have hy1 : Boxed wr.drew b1 39 (.slice (some ⟨bb, ob, none⟩) n cap) := hx1
      have hy2 : Boxed wr.drew b2 3 (.int .i64 64) := hx2
      have hj1 : J (List.range i) wr.drew := hJ _ _ _ hj Chg.drew
      obtain ⟨fn, tmps, assign, body, hy, hR⟩ := hY (List.range i) i wr.drew hj1 ⟨by simp, hlt⟩
      unfold encC at hy
      have HR := Lib.hid hR
      clear hx1 hx2 hj hR c1 c2
      generalize wr.drew = wd at *
      have c1 := hy1.cell
      have c2 := hy2.cell
      obtain ⟨k2, hk2⟩ : ∃ k2, k + 64 = k2 := ⟨_, rfl⟩
      have wk : IntKind.i64.wrap ((k : Int) + 64) = (k2 : Int) := by rw [wrapS _ (by omega) (by omega)]; omega
      have q1 : k ≤ k2 := by omega
      have q2 : k2 ≤ cap := by omega
      have q3 : k2 - k = 64 := by omega
      have q4 : k2 ≠ k := by omega
      have q5 : ¬ k2 = k := q4
      rw [← HK.out] at hy
      have HK2 := Lib.hid (show k2 = 64 * (i + 1) by have := HK.out; omega)
      clear hk2 q4
      gi_wp2
      refine HR.out.mono ?_
      rintro e W' (⟨rfl, hJ', hka, hkb⟩ | ⟨rfl, hJx'⟩)
      · have hz1 : Boxed W' b1 39 (.slice (some ⟨bb, ob, none⟩) n cap) := by unfold Boxed at hy1 ⊢; rw [hka]; exact hy1
        have hz2 : Boxed W' b2 3 (.int .i64 64) := by unfold Boxed at hy2 ⊢; rw [hkb]; exact hy2
        have c1' := hz1.cell
        have c2' := hz2.cell
        clear c1 c2 hka hkb
        gi_wp2
        go_roundw
        case rel => exact ⟨i + 1, k2, by omega, HK2.out, by go_num, hz1, hz2, by rw [List.range_succ]; exact hJ'⟩
        case measure => have := HK2.out; have := HK.out; have := HN.out; simp [intOf]; omega
      · gi_wp2
        refine bodyPost_ret (results_none rfl _ _ _) rfl ?_
        exact ⟨⟨_, rfl⟩, .inr ⟨_, trivial, hJx'⟩⟩
    · have he : i = N := by omega
      have d1 : decide ((k : Int) < (n : Int)) = false := decide_eq_false (by have := HN.out; omega)
      have d1b : decide (k < n) = false := decide_eq_false (by have := HN.out; omega)
      rw [he] at hj
      have HJ := Lib.hid hj
      clear he hk hj
      gi_wp2
      refine ⟨rfl, _, results_none rfl _ _ _, ?_⟩
      exact ⟨⟨_, rfl⟩, .inl ⟨_, rfl, HJ.out⟩⟩
end Go.Proofs.YtnckpnbecmmcpaaGreatDoor
