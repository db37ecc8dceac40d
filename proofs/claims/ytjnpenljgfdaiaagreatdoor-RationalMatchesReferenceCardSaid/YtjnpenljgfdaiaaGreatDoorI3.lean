/- package integer: sums of numbers without a sign. -/
import Derived.Test.YtjnpenljgfdaiaaGreatDoorI2
import Derived.Deep.RegionHeld3
namespace Go.Proofs.YtjnpenljgfdaiaaGreatDoor
open Go.RowKit Lib

def dPlus (l m : List Nat) (i : Nat) : Int := ((l.getD i 0 : Nat) : Int) + ((m.getD i 0 : Nat) : Int)
theorem getD_lt {l : List Nat} (h : N3.OKl l) (i : Nat) : l.getD i 0 < 10000 := by
  by_cases hi : i < l.length
  · exact h _ (by rw [List.getD_eq_getElem?_getD, List.getElem?_eq_getElem hi]; exact List.getElem_mem _)
  · rw [List.getD_eq_getElem?_getD, List.getElem?_eq_none (by omega)]; decide
theorem sumK_add (f g : Nat → Int) : ∀ n, N3.sumK (fun i => f i + g i) n = N3.sumK f n + N3.sumK g n
  | 0 => rfl
  | n + 1 => by
    simp only [N3.sumK]
    rw [sumK_add f g n, Int.add_mul]; omega
/-- The carry of a sum. -/
theorem plus_carry {l m : List Nat} (hl : N3.OKl l) (hm : N3.OKl m) : ∀ i, 0 ≤ N3.cK (dPlus l m) 0 i ∧ N3.cK (dPlus l m) 0 i ≤ 1
  | 0 => ⟨Int.le_refl _, show (0 : Int) ≤ 1 by decide⟩
  | i + 1 => by
    obtain ⟨h1, h2⟩ := plus_carry hl hm i
    have a1 := getD_lt hl i
    have a2 := getD_lt hm i
    have hd : 0 ≤ dPlus l m i ∧ dPlus l m i ≤ 19998 := by unfold dPlus; omega
    simp only [N3.cK]
    unfold N3.carry
    rw [if_neg (by omega)]
    omega
theorem dPlus_end {l m : List Nat} {i : Nat} (h1 : l.length ≤ i) (h2 : m.length ≤ i) : dPlus l m i = 0 := by
  unfold dPlus
  rw [List.getD_eq_getElem?_getD, List.getD_eq_getElem?_getD, List.getElem?_eq_none h1, List.getElem?_eq_none h2]; rfl
/-- How far the sum goes, and what it is worth. -/
theorem plus_end {l m : List Nat} (hl : N3.OKl l) (hm : N3.OKl m) (n : Nat) (h1 : l.length ≤ n) (h2 : m.length ≤ n) :
    ∃ N, n ≤ N ∧ N ≤ n + 1 ∧ (∀ i, i < N → -10000 ≤ dPlus l m i + N3.cK (dPlus l m) 0 i ∧ dPlus l m i + N3.cK (dPlus l m) 0 i ≤ 1000000000000) ∧ (∀ i, n ≤ i → i < N → N3.cK (dPlus l m) 0 i ≠ 0) ∧ N3.cK (dPlus l m) 0 N = 0 ∧ N3.OKl (N3.outK (dPlus l m) 0 N) ∧ N3.val (N3.outK (dPlus l m) 0 N) = N3.val l + N3.val m := by
  have hb : ∀ i, -10000 ≤ dPlus l m i + N3.cK (dPlus l m) 0 i ∧ dPlus l m i + N3.cK (dPlus l m) 0 i ≤ 1000000000000 := fun i => by
    obtain ⟨h1, h2⟩ := plus_carry hl hm i
    have a1 := getD_lt hl i
    have a2 := getD_lt hm i
    unfold dPlus; unfold dPlus at h1 h2; omega
  have hsum : ∀ N, n ≤ N → N3.cK (dPlus l m) 0 N = 0 → N3.OKl (N3.outK (dPlus l m) 0 N) ∧ N3.val (N3.outK (dPlus l m) 0 N) = N3.val l + N3.val m := fun N hN h0 => by
    refine ⟨N3.outK_ok (fun i _ => (hb i).1), ?_⟩
    have h3 := N3.outK_sum N (fun i _ => (hb i).1)
    rw [h0, Int.zero_mul, Int.add_zero, Int.zero_add] at h3
    have h4 : N3.sumK (dPlus l m) N = (N3.val l : Int) + (N3.val m : Int) := by
      rw [← N3.val_sum N l (by omega), ← N3.val_sum N m (by omega), ← sumK_add]; rfl
    omega
  by_cases h0 : N3.cK (dPlus l m) 0 n = 0
  · exact ⟨n, Nat.le_refl _, by omega, fun i _ => hb i, fun i h3 h4 => by omega, h0, hsum n (Nat.le_refl _) h0⟩
  · have h5 : N3.cK (dPlus l m) 0 (n + 1) = 0 := by
      obtain ⟨c1, c2⟩ := plus_carry hl hm n
      simp only [N3.cK]
      rw [dPlus_end h1 h2]
      unfold N3.carry
      rw [if_neg (by omega)]; omega
    refine ⟨n + 1, by omega, Nat.le_refl _, fun i _ => hb i, fun i h3 h4 => ?_, h5, hsum _ (by omega) h5⟩
    obtain rfl : i = n := by omega
    exact h0
set_option maxRecDepth 100000 in
set_option maxHeartbeats 1000000 in
theorem plus1_ans (w : World) (p q : Addr) (v1 v2 : Value) (l m : List Nat) (h1 : IntsAt w v1 (castL l)) (h2 : IntsAt w v2 (castL m)) (hp : w.cell? p = some v1) (hq : w.cell? q = some v2) (hl : N3.OKl l) (hm : N3.OKl m) :
    AnsD w (.func (.func 122) #[] #[.pointer (some p), .pointer (some q)]) (dPlus l m) := by
  refine ⟨122, _, rfl, Tryz.call122, fun i hi W hW => ?_⟩
  have hp' := (hW.cell (World.block_lt_of_cell? _ _ hp)).trans hp
  have hq' := (hW.cell (World.block_lt_of_cell? _ _ hq)).trans hq
  have c1 := Lib.hid (fun V (hV : Below W.heap.size W V) => at_any v1 l i V ((h1.below hW).below hV) (by omega))
  have c2 := Lib.hid (fun V (hV : Below W.heap.size W V) => at_any v2 m i V ((h2.below hW).below hV) (by omega))
  have hw : IntKind.i64.wrap (((l.getD i 0 : Nat) : Int) + ((m.getD i 0 : Nat) : Int)) = dPlus l m i := by
    have a1 := getD_lt hl i
    have a2 := getD_lt hm i
    unfold dPlus
    rw [IntKind.wrap_i64]; omega
  have HW := Lib.hid hw
  clear h1 h2 hp hq hl hm hw
  have ha : (#[Value.int .i64 (i : Int)] ++ #[.pointer (some p), .pointer (some q)] : Array Value) = #[.int .i64 i, .pointer (some p), .pointer (some q)] := rfl
  rw [ha]
  have HW' := HW.out
  generalize ((l.getD i 0 : Nat) : Int) = x at c1 HW'
  generalize ((m.getD i 0 : Nat) : Int) = y at c2 HW'
  have hw := HW'
  clear HW HW'
  go_enter Tryz.func122, Tryz.ntmps122
  go_wp2_with fail
  go_region_held3 (fun w' => Below W.heap.size W w' ∧ w'.cell? p = some v1 ∧ w'.cell? q = some v2)
    (first | exact ⟨(Below.refl _ _).drew, hp', hq'⟩ | go_keep)
    (first | (go_at_call 123; (with_reducible refine (c1.out _ (‹Below W.heap.size W _ ∧ _›).1).mono ?_); rintro e w4 ⟨rfl, rfl⟩) | (go_at_call 123; (with_reducible refine (c2.out _ (‹Below W.heap.size W _ ∧ _›).1).mono ?_); rintro e w4 ⟨rfl, rfl⟩))
  all_goals (
    go_wp2
    go_ret
    exact ⟨rfl, (‹Below W.heap.size W _ ∧ _›).1⟩)
set_option maxRecDepth 100000 in
set_option maxHeartbeats 1000000 in
theorem plus_any (v1 v2 : Value) (n m : Nat) (w : World) (h1 : NumAt w v1 n) (h2 : NumAt w v2 m) (l1 : (N3.toG n).length ≤ 10000) (l2 : (N3.toG m).length ≤ 10000) :
    Calls Tryz.prog 89 #[v1, v2] w fun e w' => ∃ v', e = .returned v' ∧ NumAt w' v' (n + m) ∧ Below w.heap.size w w' := by
  obtain ⟨a, cp, rfl, g1, g2⟩ := (show IntsAt w v1 _ from h1).len
  obtain ⟨b, cq, rfl, k1, k2⟩ := (show IntsAt w v2 _ from h2).len
  have hB : Below w.heap.size w ((w.alloc (.cells #[.slice a (castL (N3.toG n)).length cp] 88)).alloc (.cells #[.slice b (castL (N3.toG m)).length cq] 88)) := ((Below.refl _ _).alloc (Nat.le_refl _) _).alloc (by simp) _
  have hp : ((w.alloc (.cells #[.slice a (castL (N3.toG n)).length cp] 88)).alloc (.cells #[.slice b (castL (N3.toG m)).length cq] 88)).cell? ⟨w.heap.size, 0, none⟩ = some (.slice a (castL (N3.toG n)).length cp) := by
    rw [World.cell?_alloc_lt _ _ _ (by simp), World.cell?_alloc_at _ _ _ _ rfl]; rfl
  have hq : ((w.alloc (.cells #[.slice a (castL (N3.toG n)).length cp] 88)).alloc (.cells #[.slice b (castL (N3.toG m)).length cq] 88)).cell? ⟨w.heap.size + 1, 0, none⟩ = some (.slice b (castL (N3.toG m)).length cq) := by
    rw [World.cell?_alloc_at _ _ _ _ (by simp)]; rfl
  have hans := plus1_ans _ _ _ _ _ (N3.toG n) (N3.toG m) ((show IntsAt w _ _ from h1).below hB) ((show IntsAt w _ _ from h2).below hB) hp hq (N3.toG_lt n) (N3.toG_lt m)
  have hf : ∀ mx : Nat, (N3.toG n).length ≤ mx → (N3.toG m).length ≤ mx → mx ≤ 10000 → Calls Tryz.prog 121 #[.int .i64 mx, .int .i64 0, .func (.func 122) #[] #[.pointer (some ⟨w.heap.size, 0, none⟩), .pointer (some ⟨w.heap.size + 1, 0, none⟩)]] ((w.alloc (.cells #[.slice a (castL (N3.toG n)).length cp] 88)).alloc (.cells #[.slice b (castL (N3.toG m)).length cq] 88)) fun e w' => ∃ v' l, e = .returned v' ∧ IntsAt w' v' (castL l) ∧ N3.OKl l ∧ N3.val l = n + m ∧ Below w.heap.size w w' := by
    intro mx m1 m2 m3
    obtain ⟨N, n1, n2, n3, n4, n5, n6, n7⟩ := plus_end (N3.toG_lt n) (N3.toG_lt m) mx m1 m2
    rw [N3.val_toG, N3.val_toG] at n7
    refine (fold_any mx N 0 _ _ _ hans n1 (by omega) n3 n4 n5).mono ?_
    rintro e w' ⟨v', rfl, hi, hB'⟩
    exact ⟨v', _, rfl, hi, n6, n7, hB.trans (hB'.mono hB.size)⟩
  simp only [castL_len] at hf hp hq hB ⊢
  have HF := Lib.hid hf
  clear hans hf h1 h2
  go_enter Tryz.func89, Tryz.ntmps89
  go_wp2_with fail
  all_goals (
    refine (HF.out _ (by omega) (by omega) (by omega)).mono ?_
    rintro e w3 ⟨v3, l3, rfl, hi3, hok3, hv3, hB3⟩
    have htr := trimmed_any v3 l3 w3 hi3 hok3
    rw [hv3] at htr
    go_wp2_with fail
    refine htr.mono ?_
    rintro e w4 ⟨v4, rfl, hn4, rfl⟩
    go_wp2
    go_ret
    exact ⟨_, rfl, hn4, hB3⟩)
end Go.Proofs.YtjnpenljgfdaiaaGreatDoor
