/- package integer: differences of numbers without a sign. -/
import Derived.Test.YtjnpenljgfdaiaaGreatDoorI3
namespace Go.Proofs.YtjnpenljgfdaiaaGreatDoor
open Go.RowKit Lib

def dMinus (l m : List Nat) (i : Nat) : Int := ((l.getD i 0 : Nat) : Int) - ((m.getD i 0 : Nat) : Int)
theorem sumK_sub (f g : Nat → Int) : ∀ n, N3.sumK (fun i => f i - g i) n = N3.sumK f n - N3.sumK g n
  | 0 => rfl
  | n + 1 => by
    simp only [N3.sumK]
    rw [sumK_sub f g n, Int.sub_mul]; omega
theorem minus_carry {l m : List Nat} (hl : N3.OKl l) (hm : N3.OKl m) : ∀ i, -1 ≤ N3.cK (dMinus l m) 0 i ∧ N3.cK (dMinus l m) 0 i ≤ 0
  | 0 => ⟨show (-1 : Int) ≤ 0 by decide, Int.le_refl _⟩
  | i + 1 => by
    obtain ⟨h1, h2⟩ := minus_carry hl hm i
    have a1 := getD_lt hl i
    have a2 := getD_lt hm i
    have hd : -9999 ≤ dMinus l m i ∧ dMinus l m i ≤ 9999 := by unfold dMinus; omega
    simp only [N3.cK]
    unfold N3.carry
    split <;> omega
theorem minus_end {l m : List Nat} (hl : N3.OKl l) (hm : N3.OKl m) (hlen : m.length ≤ l.length) (hle : N3.val m ≤ N3.val l) :
    (∀ i, i < l.length → -10000 ≤ dMinus l m i + N3.cK (dMinus l m) 0 i ∧ dMinus l m i + N3.cK (dMinus l m) 0 i ≤ 1000000000000) ∧ N3.cK (dMinus l m) 0 l.length = 0 ∧ N3.OKl (N3.outK (dMinus l m) 0 l.length) ∧ N3.val (N3.outK (dMinus l m) 0 l.length) = N3.val l - N3.val m := by
  have hb : ∀ i, -10000 ≤ dMinus l m i + N3.cK (dMinus l m) 0 i ∧ dMinus l m i + N3.cK (dMinus l m) 0 i ≤ 1000000000000 := fun i => by
    obtain ⟨h1, h2⟩ := minus_carry hl hm i
    have a1 := getD_lt hl i
    have a2 := getD_lt hm i
    have hd : -9999 ≤ dMinus l m i ∧ dMinus l m i ≤ 9999 := by unfold dMinus; omega
    omega
  have h3 := N3.outK_sum l.length (fun i _ => (hb i).1)
  have hok := N3.outK_ok (n := l.length) (fun i _ => (hb i).1)
  have h4 : N3.sumK (dMinus l m) l.length = (N3.val l : Int) - (N3.val m : Int) := by
    rw [← N3.val_sum l.length l (Nat.le_refl _), ← N3.val_sum l.length m hlen, ← sumK_sub]; rfl
  rw [h4, Int.zero_add] at h3
  have hlt := N3.val_lt hok
  rw [N3.outK_len] at hlt
  have hlt' : (N3.val (N3.outK (dMinus l m) 0 l.length) : Int) < (10000 : Int) ^ l.length := by rw [← N3.pow_cast]; exact Int.ofNat_lt.2 hlt
  obtain ⟨c1, c2⟩ := minus_carry hl hm l.length
  have h0 : N3.cK (dMinus l m) 0 l.length = 0 := by
    rcases Int.lt_or_le (N3.cK (dMinus l m) 0 l.length) 0 with h | h
    · have e : N3.cK (dMinus l m) 0 l.length = -1 := by omega
      rw [e, Int.neg_one_mul] at h3
      omega
    · omega
  rw [h0, Int.zero_mul, Int.add_zero] at h3
  exact ⟨fun i _ => hb i, h0, hok, by omega⟩
set_option maxRecDepth 100000 in
set_option maxHeartbeats 1000000 in
theorem minus1_ans (w : World) (p q : Addr) (v1 v2 : Value) (l m : List Nat) (h1 : IntsAt w v1 (castL l)) (h2 : IntsAt w v2 (castL m)) (hp : w.cell? p = some v1) (hq : w.cell? q = some v2) (hl : N3.OKl l) (hm : N3.OKl m) :
    AnsD w (.func (.func 124) #[] #[.pointer (some p), .pointer (some q)]) (dMinus l m) := by
  refine ⟨124, _, rfl, Tryz.call124, fun i hi W hW => ?_⟩
  have hp' := (hW.cell (World.block_lt_of_cell? _ _ hp)).trans hp
  have hq' := (hW.cell (World.block_lt_of_cell? _ _ hq)).trans hq
  have c1 := Lib.hid (fun V (hV : Below W.heap.size W V) => at_any v1 l i V ((h1.below hW).below hV) (by omega))
  have c2 := Lib.hid (fun V (hV : Below W.heap.size W V) => at_any v2 m i V ((h2.below hW).below hV) (by omega))
  have hw : IntKind.i64.wrap (((l.getD i 0 : Nat) : Int) - ((m.getD i 0 : Nat) : Int)) = dMinus l m i := by
    have a1 := getD_lt hl i
    have a2 := getD_lt hm i
    unfold dMinus
    rw [IntKind.wrap_i64]; omega
  have HW := Lib.hid hw
  clear h1 h2 hp hq hl hm hw
  have ha : (#[Value.int .i64 (i : Int)] ++ #[.pointer (some p), .pointer (some q)] : Array Value) = #[.int .i64 i, .pointer (some p), .pointer (some q)] := rfl
  rw [ha]
  have HW' := HW.out
  generalize ((l.getD i 0 : Nat) : Int) = x at c1 HW'
  generalize ((m.getD i 0 : Nat) : Int) = y at c2 HW'
  have hw := HW'
  clear HW HW'
  go_enter Tryz.func124, Tryz.ntmps124
  go_wp2_with fail
  go_region_held3 (fun w' => Below W.heap.size W w' ∧ w'.cell? p = some v1 ∧ w'.cell? q = some v2)
    (first | exact ⟨(Below.refl _ _).drew, hp', hq'⟩ | go_keep)
    (first | (go_at_call 123; (with_reducible refine (c1.out _ (‹Below W.heap.size W _ ∧ _›).1).mono ?_); rintro e w4 ⟨rfl, rfl⟩) | (go_at_call 123; (with_reducible refine (c2.out _ (‹Below W.heap.size W _ ∧ _›).1).mono ?_); rintro e w4 ⟨rfl, rfl⟩))
  all_goals (
    go_wp2
    go_ret
    exact ⟨rfl, (‹Below W.heap.size W _ ∧ _›).1⟩)
set_option maxRecDepth 100000 in
set_option maxHeartbeats 1000000 in
theorem minus_any (v1 v2 : Value) (n m : Nat) (w : World) (h1 : NumAt w v1 n) (h2 : NumAt w v2 m) (l1 : (N3.toG n).length ≤ 10000) (hle : m ≤ n) :
    Calls Tryz.prog 91 #[v1, v2] w fun e w' => ∃ v', e = .returned v' ∧ NumAt w' v' (n - m) ∧ Below w.heap.size w w' := by
  obtain ⟨a, cp, rfl, g1, g2⟩ := (show IntsAt w v1 _ from h1).len
  obtain ⟨b, cq, rfl, k1, k2⟩ := (show IntsAt w v2 _ from h2).len
  have hB : Below w.heap.size w ((w.alloc (.cells #[.slice a (castL (N3.toG n)).length cp] 88)).alloc (.cells #[.slice b (castL (N3.toG m)).length cq] 88)) := ((Below.refl _ _).alloc (Nat.le_refl _) _).alloc (by simp) _
  have hp : ((w.alloc (.cells #[.slice a (castL (N3.toG n)).length cp] 88)).alloc (.cells #[.slice b (castL (N3.toG m)).length cq] 88)).cell? ⟨w.heap.size, 0, none⟩ = some (.slice a (castL (N3.toG n)).length cp) := by
    rw [World.cell?_alloc_lt _ _ _ (by simp), World.cell?_alloc_at _ _ _ _ rfl]; rfl
  have hq : ((w.alloc (.cells #[.slice a (castL (N3.toG n)).length cp] 88)).alloc (.cells #[.slice b (castL (N3.toG m)).length cq] 88)).cell? ⟨w.heap.size + 1, 0, none⟩ = some (.slice b (castL (N3.toG m)).length cq) := by
    rw [World.cell?_alloc_at _ _ _ _ (by simp)]; rfl
  have hans := minus1_ans _ _ _ _ _ (N3.toG n) (N3.toG m) ((show IntsAt w _ _ from h1).below hB) ((show IntsAt w _ _ from h2).below hB) hp hq (N3.toG_lt n) (N3.toG_lt m)
  have hlm : (N3.toG m).length ≤ (N3.toG n).length := N3.toG_len_le (by have h := N3.val_lt (N3.toG_lt n); rw [N3.val_toG] at h; omega)
  have hf : Calls Tryz.prog 121 #[.int .i64 (N3.toG n).length, .int .i64 0, .func (.func 124) #[] #[.pointer (some ⟨w.heap.size, 0, none⟩), .pointer (some ⟨w.heap.size + 1, 0, none⟩)]] ((w.alloc (.cells #[.slice a (castL (N3.toG n)).length cp] 88)).alloc (.cells #[.slice b (castL (N3.toG m)).length cq] 88)) fun e w' => ∃ v' l, e = .returned v' ∧ IntsAt w' v' (castL l) ∧ N3.OKl l ∧ N3.val l = n - m ∧ Below w.heap.size w w' := by
    obtain ⟨n3, n5, n6, n7⟩ := minus_end (N3.toG_lt n) (N3.toG_lt m) hlm (by rw [N3.val_toG, N3.val_toG]; exact hle)
    rw [N3.val_toG, N3.val_toG] at n7
    refine (fold_any (N3.toG n).length (N3.toG n).length 0 _ _ _ hans (Nat.le_refl _) (by omega) n3 (fun i h3 h4 => absurd h4 (by omega)) n5).mono ?_
    rintro e w' ⟨v', rfl, hi, hB'⟩
    exact ⟨v', _, rfl, hi, n6, n7, hB.trans (hB'.mono hB.size)⟩
  simp only [castL_len] at hf hp hq hB ⊢
  have HF := Lib.hid hf
  clear hans hf h1 h2
  go_enter Tryz.func91, Tryz.ntmps91
  go_wp2_with fail
  all_goals (
    refine HF.out.mono ?_
    rintro e w3 ⟨v3, l3, rfl, hi3, hok3, hv3, hB3⟩
    have htr := trimmed_any v3 l3 w3 hi3 hok3
    rw [hv3] at htr
    go_wp2_with fail
    refine htr.mono ?_
    rintro e w4 ⟨v4, rfl, hn4, rfl⟩
    go_wp2
    go_ret
    exact ⟨_, rfl, hn4, hB3⟩)
end Go.Proofs.YtjnpenljgfdaiaaGreatDoor
