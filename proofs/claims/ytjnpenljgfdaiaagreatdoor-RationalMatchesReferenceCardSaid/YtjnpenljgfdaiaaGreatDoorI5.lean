/- package integer: the product of a number with a single group. -/
import Derived.Test.YtjnpenljgfdaiaaGreatDoorI4
namespace Go.Proofs.YtjnpenljgfdaiaaGreatDoor
open Go.RowKit Lib

def dBy (l : List Nat) (k : Nat) (i : Nat) : Int := ((l.getD i 0 : Nat) : Int) * (k : Int)
theorem sumK_mul (f : Nat → Int) (k : Int) : ∀ n, N3.sumK (fun i => f i * k) n = N3.sumK f n * k
  | 0 => by simp [N3.sumK]
  | n + 1 => by
    simp only [N3.sumK]
    rw [sumK_mul f k n, Int.add_mul]
    congr 1
    ac_rfl
theorem dBy_bd {l : List Nat} (hl : N3.OKl l) (k i : Nat) : 0 ≤ dBy l k i ∧ dBy l k i ≤ 9999 * (k : Int) := by
  have a1 := getD_lt hl i
  unfold dBy
  refine ⟨Int.mul_nonneg (by omega) (by omega), Int.mul_le_mul_of_nonneg_right (by omega) (by omega)⟩
theorem by_carry {l : List Nat} (hl : N3.OKl l) (k : Nat) : ∀ i, 0 ≤ N3.cK (dBy l k) 0 i ∧ N3.cK (dBy l k) 0 i ≤ k
  | 0 => ⟨Int.le_refl _, show (0 : Int) ≤ k by omega⟩
  | i + 1 => by
    obtain ⟨h1, h2⟩ := by_carry hl k i
    obtain ⟨h3, h4⟩ := dBy_bd hl k i
    simp only [N3.cK]
    unfold N3.carry
    rw [if_neg (by omega)]
    omega
theorem by_end {l : List Nat} (hl : N3.OKl l) (k : Nat) (hk : k < 10000) :
    ∃ N, l.length ≤ N ∧ N ≤ l.length + 1 ∧ (∀ i, i < N → -10000 ≤ dBy l k i + N3.cK (dBy l k) 0 i ∧ dBy l k i + N3.cK (dBy l k) 0 i ≤ 1000000000000) ∧ (∀ i, l.length ≤ i → i < N → N3.cK (dBy l k) 0 i ≠ 0) ∧ N3.cK (dBy l k) 0 N = 0 ∧ N3.OKl (N3.outK (dBy l k) 0 N) ∧ N3.val (N3.outK (dBy l k) 0 N) = N3.val l * k := by
  have hb : ∀ i, -10000 ≤ dBy l k i + N3.cK (dBy l k) 0 i ∧ dBy l k i + N3.cK (dBy l k) 0 i ≤ 1000000000000 := fun i => by
    obtain ⟨h1, h2⟩ := by_carry hl k i
    obtain ⟨h3, h4⟩ := dBy_bd hl k i
    omega
  have hsum : ∀ N, l.length ≤ N → N3.cK (dBy l k) 0 N = 0 → N3.OKl (N3.outK (dBy l k) 0 N) ∧ N3.val (N3.outK (dBy l k) 0 N) = N3.val l * k := fun N hN h0 => by
    refine ⟨N3.outK_ok (fun i _ => (hb i).1), ?_⟩
    have h3 := N3.outK_sum N (fun i _ => (hb i).1)
    rw [h0, Int.zero_mul, Int.add_zero, Int.zero_add] at h3
    have h4 : N3.sumK (dBy l k) N = (N3.val l : Int) * (k : Int) := by
      rw [← N3.val_sum N l hN, ← sumK_mul]; rfl
    rw [h4, ← Int.natCast_mul] at h3
    omega
  by_cases h0 : N3.cK (dBy l k) 0 l.length = 0
  · exact ⟨l.length, Nat.le_refl _, by omega, fun i _ => hb i, fun i h3 h4 => by omega, h0, hsum _ (Nat.le_refl _) h0⟩
  · have h5 : N3.cK (dBy l k) 0 (l.length + 1) = 0 := by
      obtain ⟨c1, c2⟩ := by_carry hl k l.length
      have e : dBy l k l.length = 0 := by
        unfold dBy
        rw [List.getD_eq_getElem?_getD, List.getElem?_eq_none (Nat.le_refl _)]
        simp
      simp only [N3.cK]
      rw [e]
      unfold N3.carry
      rw [if_neg (by omega)]; omega
    refine ⟨l.length + 1, by omega, Nat.le_refl _, fun i _ => hb i, fun i h3 h4 => ?_, h5, hsum _ (by omega) h5⟩
    obtain rfl : i = l.length := by omega
    exact h0
set_option maxRecDepth 100000 in
set_option maxHeartbeats 1000000 in
theorem by1_ans (w : World) (p q : Addr) (v1 : Value) (l : List Nat) (k : Nat) (h1 : IntsAt w v1 (castL l)) (hp : w.cell? p = some v1) (hq : w.cell? q = some (.int .i64 k)) (hl : N3.OKl l) (hk : k < 10000) :
    AnsD w (.func (.func 140) #[] #[.pointer (some p), .pointer (some q)]) (dBy l k) := by
  refine ⟨140, _, rfl, Tryz.call140, fun i hi W hW => ?_⟩
  have hp' := (hW.cell (World.block_lt_of_cell? _ _ hp)).trans hp
  have hq' := (hW.cell (World.block_lt_of_cell? _ _ hq)).trans hq
  have c1 := Lib.hid (fun V (hV : Below W.heap.size W V) => at_any v1 l i V ((h1.below hW).below hV) (by omega))
  have hw : IntKind.i64.wrap (((l.getD i 0 : Nat) : Int) * (k : Int)) = dBy l k i := by
    obtain ⟨a1, a2⟩ := dBy_bd hl k i
    unfold dBy at a1 a2 ⊢
    rw [IntKind.wrap_i64]; omega
  clear h1 hp hq hl
  have ha : (#[Value.int .i64 (i : Int)] ++ #[.pointer (some p), .pointer (some q)] : Array Value) = #[.int .i64 i, .pointer (some p), .pointer (some q)] := rfl
  rw [ha]
  generalize ((l.getD i 0 : Nat) : Int) = x at c1 hw
  go_enter Tryz.func140, Tryz.ntmps140
  go_wp2_with fail
  go_region_held3 (fun w' => Below W.heap.size W w' ∧ w'.cell? p = some v1 ∧ w'.cell? q = some (.int .i64 k))
    (first | exact ⟨(Below.refl _ _).drew, hp', hq'⟩ | go_keep)
    (first | (go_at_call 123; (with_reducible refine (c1.out _ (‹Below W.heap.size W _ ∧ _›).1).mono ?_); rintro e w4 ⟨rfl, rfl⟩))
  all_goals (
    go_wp2
    go_ret
    exact ⟨rfl, (‹Below W.heap.size W _ ∧ _›).1⟩)
set_option maxRecDepth 100000 in
set_option maxHeartbeats 1000000 in
theorem by_any (v1 : Value) (n k : Nat) (w : World) (h1 : NumAt w v1 n) (hk : k < 10000) (l1 : (N3.toG n).length ≤ 10000) :
    Calls Tryz.prog 117 #[v1, .int .i64 k] w fun e w' => ∃ v', e = .returned v' ∧ NumAt w' v' (n * k) ∧ Below w.heap.size w w' := by
  obtain ⟨a, cp, rfl, g1, g2⟩ := (show IntsAt w v1 _ from h1).len
  have hB : Below w.heap.size w ((w.alloc (.cells #[.slice a (castL (N3.toG n)).length cp] 88)).alloc (.cells #[.int .i64 k] 3)) := ((Below.refl _ _).alloc (Nat.le_refl _) _).alloc (by simp) _
  have hp : ((w.alloc (.cells #[.slice a (castL (N3.toG n)).length cp] 88)).alloc (.cells #[.int .i64 k] 3)).cell? ⟨w.heap.size, 0, none⟩ = some (.slice a (castL (N3.toG n)).length cp) := by
    rw [World.cell?_alloc_lt _ _ _ (by simp), World.cell?_alloc_at _ _ _ _ rfl]; rfl
  have hq : ((w.alloc (.cells #[.slice a (castL (N3.toG n)).length cp] 88)).alloc (.cells #[.int .i64 k] 3)).cell? ⟨w.heap.size + 1, 0, none⟩ = some (.int .i64 k) := by
    rw [World.cell?_alloc_at _ _ _ _ (by simp)]; rfl
  have hans := by1_ans _ _ _ _ (N3.toG n) k ((show IntsAt w _ _ from h1).below hB) hp hq (N3.toG_lt n) hk
  have hf : Calls Tryz.prog 121 #[.int .i64 (N3.toG n).length, .int .i64 0, .func (.func 140) #[] #[.pointer (some ⟨w.heap.size, 0, none⟩), .pointer (some ⟨w.heap.size + 1, 0, none⟩)]] ((w.alloc (.cells #[.slice a (castL (N3.toG n)).length cp] 88)).alloc (.cells #[.int .i64 k] 3)) fun e w' => ∃ v' l, e = .returned v' ∧ IntsAt w' v' (castL l) ∧ N3.OKl l ∧ N3.val l = n * k ∧ Below w.heap.size w w' := by
    obtain ⟨N, n1, n2, n3, n4, n5, n6, n7⟩ := by_end (N3.toG_lt n) k hk
    rw [N3.val_toG] at n7
    refine (fold_any (N3.toG n).length N 0 _ _ _ hans n1 (by omega) n3 n4 n5).mono ?_
    rintro e w' ⟨v', rfl, hi, hB'⟩
    exact ⟨v', _, rfl, hi, n6, n7, hB.trans (hB'.mono hB.size)⟩
  simp only [castL_len] at hf hp hq hB ⊢
  have HF := Lib.hid hf
  clear hans hf h1
  go_enter Tryz.func117, Tryz.ntmps117
  go_wp2_with fail
  refine HF.out.mono ?_
  rintro e w3 ⟨v3, l3, rfl, hi3, hok3, hv3, hB3⟩
  have htr := trimmed_any v3 l3 w3 hi3 hok3
  rw [hv3] at htr
  go_wp2_with fail
  refine htr.mono ?_
  rintro e w4 ⟨v4, rfl, hn4, rfl⟩
  go_wp2
  go_ret
  exact ⟨_, rfl, hn4, hB3⟩
end Go.Proofs.YtjnpenljgfdaiaaGreatDoor
