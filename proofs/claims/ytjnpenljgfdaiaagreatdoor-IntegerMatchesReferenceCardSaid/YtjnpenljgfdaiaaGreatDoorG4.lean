/- package nadirref03: quotient and remainder. -/
import Derived.Test.YtjnpenljgfdaiaaGreatDoorG3
namespace Go.Proofs.YtjnpenljgfdaiaaGreatDoor
open Go.RowKit Go.Shelf Lib

theorem castL_one (l : List Nat) : ∀ u ∈ (castL l).map (Value.int .i64), u.oneCell' = true := by
  intro u hu
  obtain ⟨x, -, rfl⟩ := List.mem_map.1 hu
  rfl
/-- 'append([]int{k}, r...)'. -/
theorem wpList_prep {ops : Array Oper} {rest : List Oper} {o : Oper} {a : Act} {Q : Exit → Act → World → Prop} {w0 : World} (hgd : o.guard = none) (s x : Operand)
    (ho : o.op = .call { callee := .builtin .append, args := #[s, x], argTypes := #[72, 72] })
    (base : Nat) {v : Value} {m : Nat} {xs : List Value} {k : Int} (hown : w0.ownsRow base 3 1 v m xs) (hs : a.eval s = .slice (some ⟨w0.heap.size, 0, none⟩) 1 1) (hx : a.eval x = v)
    (hxs : ∀ u ∈ xs, u.oneCell' = true) (hm : m ≤ 100000) (hbase : base ≤ w0.heap.size)
    (h : ∀ v' w', w'.ownsRow base 3 1 v' (m + 1) (.int .i64 k :: xs) → Below w0.heap.size w0 w' → wpList Tryz.prog ops Q rest (a.put o.dst v') w') :
    wpList Tryz.prog ops Q (o :: rest) a (w0.alloc (.cells #[.int .i64 k] 3)) := by
  obtain ⟨i, hi, hz0, hz1, hz2⟩ := info_parts E72.info
  have hA : Below w0.heap.size w0 (w0.alloc (.cells #[.int .i64 k] 3)) := (Below.refl _ _).alloc (Nat.le_refl _) _
  have hb : (w0.alloc (.cells #[.int .i64 k] 3)).heap[w0.heap.size]? = some (.cells #[.int .i64 k] 3 (0, 0)) := heap_alloc_new w0 _
  have up : ∀ {B B' : Nat} {w : World} {v : Value} {n : Nat} {xs : List Value}, w.ownsRow B 3 1 v n xs → B' ≤ B → w.ownsRow B' 3 1 v n xs := fun h hB => ⟨h.1, h.2.imp id fun ⟨g, cap, cur, e, hb, r⟩ => ⟨g, cap, cur, e, Nat.le_trans hB hb, r⟩⟩
  have hf : (w0.alloc (.cells #[.int .i64 k] 3)).ownsRow w0.heap.size 3 1 (.slice (some ⟨w0.heap.size, 0, none⟩) 1 1) 1 [.int .i64 k] :=
    ⟨rfl, .inr ⟨w0.heap.size, 1, #[.int .i64 k], rfl, Nat.le_refl _, hb, Nat.le_refl _, by decide, rfl, rfl⟩⟩
  rcases hown.2 with ⟨rfl, hn⟩ | ⟨g, cap, cur, rfl, hg, hgb, h1, h2, -⟩
  · refine wpList_append_own_none hgd s x 72 ho w0.heap.size 3 i 1 E72.und hi _ 1 _ hs hf hx ?_
    have hl : xs = [] := by have := hown.1; rw [hn, Nat.zero_mul] at this; exact List.length_eq_zero_iff.1 this
    subst hn hl
    exact h _ _ (up hf hbase) hA
  · have hgl : g < w0.heap.size := (Array.getElem?_eq_some_iff.1 hgb).1
    refine wpList_append_own _ hgd s x 72 ho w0.heap.size 3 i _ 1 8 E72.und hi hz0 hz1 hz2 E72.zs E72.pos _ 1 _ hs hf ⟨g, 0, none⟩ m cap xs hx (by rw [hown.1]) ?_ hxs (by unfold maxLen; omega) (by omega) (by simp) ?_
    · intro j u hj
      have := hown.cells rfl j u hj
      rw [World.cell?_alloc_some _ _ _ (by rw [this]; rfl)]
      exact this
    · intro v' w' h3 h4 _
      rw [Nat.add_comm 1 m] at h3
      exact h v' w' (up h3 hbase) (hA.grown h4 (by simp) (fun k hk => by cases hk; exact Nat.le_refl _))
theorem owned_other {B : Nat} {e : TypeId} {k : Nat} {v : Value} {n : Nat} {xs : List Value} {w : World} (h : w.ownsRow B e k v n xs) {p : Addr} (hp : p.block < B) (u : Value) : (w.setCell p u).ownsRow B e k v n xs :=
  ⟨h.1, h.2.imp id fun ⟨g, cap, cur, e1, hb, hg, r⟩ => ⟨g, cap, cur, e1, hb, (heap_setCell_other w p g u (by omega)).trans hg, r⟩⟩
theorem DigAt.unique {w : World} {v : Value} {n m : Nat} (h1 : DigAt w v n) (h2 : DigAt w v m) : n = m := by
  have hl : (castL (D10.toG n)).length = (castL (D10.toG m)).length := by
    obtain ⟨a, cp, e1, -, -⟩ := (show IntsAt w v _ from h1).len
    obtain ⟨b, cq, e2, -, -⟩ := (show IntsAt w v _ from h2).len
    rw [e1] at e2; injection e2
  rw [castL_len, castL_len] at hl
  have hg : D10.toG n = D10.toG m := by
    refine List.ext_getElem? fun i => ?_
    by_cases hi : i < (D10.toG n).length
    · obtain ⟨a, cp, rfl, -, -⟩ := (show IntsAt w v _ from h1).len
      obtain ⟨b, off, e1, c1⟩ := SliceOf.get (show IntsAt w _ _ from h1) (castL_get hi)
      obtain ⟨b', off', e2, c2⟩ := SliceOf.get (show IntsAt w _ _ from h2) (castL_get (show i < (D10.toG m).length by omega))
      rw [e1] at e2
      cases e2
      rw [c1] at c2
      injection c2 with c3
      injection c3 with _ c4
      have c5 : (D10.toG n).getD i 0 = (D10.toG m).getD i 0 := by omega
      rw [List.getD_eq_getElem?_getD, List.getD_eq_getElem?_getD, List.getElem?_eq_getElem hi, List.getElem?_eq_getElem (show i < (D10.toG m).length by omega)] at c5
      rw [List.getElem?_eq_getElem hi, List.getElem?_eq_getElem (show i < (D10.toG m).length by omega)]
      exact congrArg some c5
    · rw [List.getElem?_eq_none (by omega), List.getElem?_eq_none (by omega)]
  rw [← D10.val_toG n, hg, D10.val_toG]
noncomputable def digOf (w : World) (v : Value) : Nat := by classical exact if h : ∃ n, DigAt w v n then Classical.choose h else 0
theorem digOf_eq {w : World} {v : Value} {n : Nat} (h : DigAt w v n) : digOf w v = n := by
  unfold digOf
  rw [dif_pos ⟨n, h⟩]
  exact DigAt.unique (Classical.choose_spec (p := fun n => DigAt w v n) ⟨n, h⟩) h
theorem digs_cons {x r : Nat} (hx : x < 10) : D10.OKl (x :: D10.toG r) ∧ D10.val (x :: D10.toG r) = x + 10 * r := by
  refine ⟨fun y hy => ?_, by rw [D10.val, D10.val_toG]⟩
  rcases List.mem_cons.1 hy with rfl | h
  · exact hx
  · exact D10.toG_lt r y h
theorem casts_cons (x : Nat) (l : List Nat) : (castL (x :: l)).map (Value.int .i64) = .int .i64 (x : Nat) :: (castL l).map (Value.int .i64) := rfl
theorem set_get0 {Q : List Nat} {i : Nat} (h : Q.getD i 0 = 0) (hi : i < Q.length) : Q.set i 0 = Q := by
  refine List.ext_getElem? fun j => ?_
  rw [List.getElem?_set]
  split
  · rename_i e
    subst e
    rw [List.getD_eq_getElem?_getD, List.getElem?_eq_getElem hi] at h
    rw [List.getElem?_eq_getElem hi]
    exact congrArg some h.symm
  · rfl
theorem set_set' (Q : List Nat) (i a b : Nat) : (Q.set i a).set i b = Q.set i b := List.set_set ..
theorem getD_set_self {Q : List Nat} {i a : Nat} (hi : i < Q.length) : (Q.set i a).getD i 0 = a := by
  rw [List.getD_eq_getElem?_getD, List.getElem?_set, if_pos rfl, if_pos hi]; rfl
theorem getD_set_other {Q : List Nat} {i j a : Nat} (h : i ≠ j) : (Q.set i a).getD j 0 = Q.getD j 0 := by
  rw [List.getD_eq_getElem?_getD, List.getElem?_set, if_neg h, ← List.getD_eq_getElem?_getD]
set_option maxRecDepth 100000 in
set_option maxHeartbeats 4000000 in
theorem divided10 (v1 v2 : Value) (n m : Nat) (w : World) (h1 : DigAt w v1 n) (h2 : DigAt w v2 m) (hm : 0 < m) (l1 : (D10.toG n).length ≤ 1000) (l2 : (D10.toG m).length ≤ 1000) :
    Calls Tryz.prog 98 #[v1, v2] w fun e w' => ∃ v3 v4, e = .returned (.tuple #[v3, v4]) ∧ OwnD w.heap.size w' v3 (n / m) ∧ OwnD w.heap.size w' v4 (n % m) ∧ Below w.heap.size w w' := by
  obtain ⟨a, cp, rfl, g1, g2⟩ := (show IntsAt w v1 _ from h1).len
  obtain ⟨b, cq, rfl, k1, k2⟩ := (show IntsAt w v2 _ from h2).len
  have H2 := Lib.hid h2
  unfold DigAt at h1
  rw [castL_len] at g1 k1 h1
  rw [castL_len] at H2
  rw [castL_len, castL_len]
  have H1 := Lib.hid h1
  have HT := Lib.hid trim10_own
  have HOR := Lib.hid order10
  have HMI := Lib.hid minus10
  have HM := Lib.hid hm
  have hw0 : IntKind.i64.wrap (((D10.toG n).length : Int) - 1) = ((D10.toG n).length : Int) - 1 := by rw [IntKind.wrap_i64]; omega
  have hmk := mk72n (D10.toG n).length (by omega) w
  have HO := Lib.hid (own_zeros (D10.toG n).length (by omega) w)
  have hB0 : Below w.heap.size w (w.alloc (.cells (madeCells #[.int .i64 0] (D10.toG n).length) 3)) := (Below.refl _ _).alloc (Nat.le_refl _) _
  have hs0 : (w.alloc (.cells (madeCells #[.int .i64 0] (D10.toG n).length) 3)).heap.size = w.heap.size + 1 := by simp
  clear h1 h2
  go_enter Tryz.func98, Tryz.ntmps98
  go_wp2_with fail
  go_loopw [7, 8] (fun u7 u8 wr => ∃ (j : Nat) (Q : List Nat), j ≤ (D10.toG n).length ∧ u8 = .int .i64 ((j : Nat) - 1 : Int) ∧ OwnD (w.heap.size + 1) wr u7 (n / 10 ^ j % m) ∧ Q.length = (D10.toG n).length ∧ D10.OKl Q ∧ (∀ t, t < j → Q.getD t 0 = 0) ∧ D10.val Q = n / 10 ^ j / m * 10 ^ j ∧ wr.ownsRow w.heap.size 3 1 (.slice (some ⟨w.heap.size, 0, none⟩) Q.length (D10.toG n).length) Q.length ((castL Q).map (Value.int .i64)) ∧ Below w.heap.size w wr ∧ w.heap.size + 1 ≤ wr.heap.size) (fun _ u8 _ => (Go.RowKit.intOf u8 + 1).toNat)
  case atStart =>
    refine ⟨(D10.toG n).length, List.replicate (D10.toG n).length 0, Nat.le_refl _, rfl, ?_, List.length_replicate, D10.zeros_ok _, ?_, ?_, ?_, hB0, by rw [hs0]; exact Nat.le_refl _⟩
    · rw [D10.toG_top, Nat.zero_mod]; exact own_nil _ _
    · intro t ht; rw [List.getD_eq_getElem?_getD, List.getElem?_replicate, if_pos ht]; rfl
    · rw [D10.val_zeros, D10.toG_top, Nat.zero_div, Nat.zero_mul]
    · rw [List.length_replicate]; exact HO.out
  case round =>
    obtain ⟨j, Q, hj, rfl, hr, hQl, hQok, hQ0, hQv, hQown, hBr, hsr⟩ := hrel
    rename World => wr
    by_cases hj0 : j = 0
    · subst hj0
      have hj1 : ((0 : Nat) : Int) - 1 = -1 := rfl
      rw [hj1]
      have HV := Lib.hid (show D10.val Q = n / m from by rw [Nat.pow_zero, Nat.div_one, Nat.mul_one] at hQv; exact hQv)
      have HR := Lib.hid (show OwnD w.heap.size wr _ (n % m) from by rw [Nat.pow_zero, Nat.div_one] at hr; exact own_up hr (Nat.le_succ _))
      have HOWN := Lib.hid hQown
      have HOK := Lib.hid hQok
      rw [hQl] at HOWN
      have HQL := Lib.hid hQl
      clear hr hQown hQok hQ0 hQv hQl hmk hB0 hs0
      go_wp2_with fail
      refine (HT.out w.heap.size _ Q _ (by rw [HQL.out]; exact HOWN.out) HOK.out).mono ?_
      rintro e w' ⟨v', rfl, hres, rfl⟩
      rw [HV.out] at hres
      go_wp2
      go_ret2
      exact ⟨_, _, rfl, hres, HR.out, hBr⟩
    · obtain ⟨i, rfl⟩ : ∃ i, j = i + 1 := ⟨j - 1, by omega⟩
      have hei : ((i + 1 : Nat) : Int) - 1 = (i : Int) := by omega
      rw [hei]
      have hil : i < (D10.toG n).length := by omega
      obtain ⟨b1, off1, rfl, hce1⟩ := (SliceOf.below H1.out hBr).get (castL_get hil)
      have hi1 : (0 : Int) ≤ (i : Int) ∧ (i : Int) < ((D10.toG n).length : Int) := by omega
      have hge : ¬ (i : Int) < 0 := by omega
      have hw1 : IntKind.i64.wrap ((i : Int) - 1) = (i : Int) - 1 := by rw [IntKind.wrap_i64]; omega
      have hdx := D10.get_lt n i
      have HQS := Lib.hid (D10.quo_step hQv (by omega) (hQ0 i (Nat.lt_succ_self i)) hm)
      have HND := Lib.hid (show n / 10 ^ i % m = (10 * (n / 10 ^ (i + 1) % m) + (D10.toG n).getD i 0) % m from by rw [← (D10.div_digit hm).2, ← D10.high_digit n i])
      have hrm := Nat.mod_lt (n / 10 ^ (i + 1)) hm
      have hset0 := set_get0 (hQ0 i (Nat.lt_succ_self i)) (by omega : i < Q.length)
      have HQ0 := Lib.hid hQ0
      have HQL := Lib.hid hQl
      have HQK := Lib.hid hQok
      have HQO := Lib.hid hQown
      generalize n / 10 ^ (i + 1) % m = r at *
      generalize (D10.toG n).getD i 0 = x at *
      have hX : 10 * r + x < 10 * m := by omega
      have hrl : (D10.toG r).length ≤ 1000 := by
        have : (D10.toG r).length ≤ (D10.toG m).length := Classical.byContradiction fun hc => by
          have := D10.ord_len (n := m) (m := r) (by omega); omega
        omega
      obtain ⟨hcok, hcv⟩ := digs_cons (r := r) hdx
      obtain ⟨ra, rc, rfl, hra1, hra2⟩ := owned_len hr
      have HR := Lib.hid hr
      clear hr hQown hQok hQ0 hQv hQl hmk hB0 hs0
      go_wp2_with (at_builtin; refine wpList_prep rfl _ _ rfl (w.heap.size + 1) (show World.ownsRow _ _ _ _ _ _ _ from HR.out) rfl rfl (castL_one _) (by omega) (by omega) ?_; intro v' w3 ho3 hB3)
      rw [← casts_cons] at ho3
      refine (HT.out (w.heap.size + 1) _ (x :: D10.toG r) _ (by rw [List.length_cons]; exact ho3) hcok).mono ?_
      rintro e w4 ⟨v4, rfl, hv4, rfl⟩
      rw [hcv, show x + 10 * r = 10 * r + x by omega] at hv4
      have HV4 := Lib.hid hv4
      have HB4 := Lib.hid (hBr.trans (hB3.mono hBr.size))
      have hs4 : w.heap.size + 1 ≤ w3.heap.size := by have := hB3.size; omega
      have HQ4 := Lib.hid (owned_below HQO.out hB3)
      clear hv4 ho3 hB3 hcok hcv hce1
      go_wp2_with fail
      go_loopw [7] (fun u7 wq => ∃ (R t : Nat), OwnD (w.heap.size + 1) wq u7 R ∧ R + t * m = 10 * r + x ∧ t ≤ 9 ∧ wq.ownsRow w.heap.size 3 1 (.slice (some ⟨w.heap.size, 0, none⟩) (Q.set i t).length (D10.toG n).length) (Q.set i t).length ((castL (Q.set i t)).map (Value.int .i64)) ∧ Below w.heap.size w wq ∧ w.heap.size + 1 ≤ wq.heap.size) (fun u7 wq => digOf wq u7)
      case atStart => exact ⟨10 * r + x, 0, HV4.out, by omega, by decide, by rw [hset0]; exact HQ4.out, HB4.out, hs4⟩
      case round =>
        obtain ⟨R, t, hR, hRt, ht9, hown, hBq, hsq⟩ := hrel
        rename World => wq
        have hRl : (D10.toG R).length ≤ (D10.toG m).length + 1 := D10.toG_len_le (by
          have h1 := D10.lt_pow m
          rw [Nat.pow_succ]
          generalize (10 : Nat) ^ (D10.toG m).length = A at *
          have : R ≤ 10 * r + x := by rw [← hRt]; exact Nat.le_add_right _ _
          omega)
        obtain ⟨ua, uc, rfl, -, -⟩ := owned_len hR
        have hce := own_cell hown (show i < (Q.set i t).length by rw [List.length_set, HQL.out]; exact hil)
        rw [getD_set_self (by rw [HQL.out]; exact hil)] at hce
        have hfz := hown.frozenAt i
        have hji : (0 : Int) ≤ (i : Int) ∧ (i : Int) < ((Q.set i t).length : Int) := by rw [List.length_set, HQL.out]; omega
        have HOWN := Lib.hid hown
        have HRR := Lib.hid hR
        have HRT := Lib.hid hRt
        have HM0 := Lib.hid (digOf_eq hR.dig)
        have H2q := Lib.hid (H2.out.below hBq)
        have hwt : IntKind.i64.wrap ((t : Int) + 1) = ((t + 1 : Nat) : Int) := by rw [IntKind.wrap_i64]; omega
        clear hown hR hRt
        by_cases hRm : m ≤ R
        · have hz : 0 ≤ N3.cmpI (R : Int) (m : Int) := by unfold N3.cmpI; (repeat' split) <;> omega
          have HT9 := Lib.hid (D10.div_small hrm hdx HRT.out hRm)
          go_wp2_with fail
          refine (HOR.out _ _ R m _ HRR.out.dig H2q.out (by omega) (by omega)).mono ?_
          rintro e w5 ⟨rfl, hB5⟩
          generalize N3.cmpI (R : Int) (m : Int) = z at *
          have H25 := Lib.hid (H2q.out.below hB5)
          have HR5 := Lib.hid (HRR.out.below hB5)
          have HO5 := Lib.hid (owned_below HOWN.out hB5)
          have hs5 := hB5.size
          have hBw5 := hBq.trans (hB5.mono hBq.size)
          go_wp2_with fail
          refine (HMI.out _ _ R m _ HR5.out.dig H25.out hRm (by omega) (by omega)).mono ?_
          rintro e w6 ⟨v6, rfl, hv6, hB6⟩
          have HV6 := Lib.hid (own_up hv6 (show w.heap.size + 1 ≤ w5.heap.size by omega))
          have HO6 := Lib.hid (owned_below HO5.out hB6)
          have hs6 := hB6.size
          have hBw6 := hBw5.trans (hB6.mono hBw5.size)
          replace hce := cell_keep hB6 (cell_keep hB5 hce)
          replace hfz := HO6.out.frozenAt i
          clear hv6
          go_wp2_with fail
          go_roundw
          case rel =>
            refine ⟨R - m, t + 1, owned_other HV6.out (by simp) _, ?_, by have := HT9.out; omega, ?_, hBw6.setCell (by simp) _, by simp; omega⟩
            · have := HRT.out; rw [Nat.succ_mul]; omega
            · have h7 := (HO6.out.stored i (.int .i64 ((t + 1 : Nat) : Int))).1
              rw [← casts_set, set_set'] at h7
              rw [List.length_set] at h7 ⊢
              exact h7
          case measure =>
            have h8 := fun u => digOf_eq (OwnD.dig (owned_other HV6.out (p := ⟨w.heap.size, i, none⟩) (by simp) u))
            have h9 := HM0.out
            first
              | (rw [h8 _, h9]; omega)
              | (show digOf _ _ < digOf _ _; rw [h8 _, h9]; omega)
        · have hz : ¬ 0 ≤ N3.cmpI (R : Int) (m : Int) := by unfold N3.cmpI; (repeat' split) <;> omega
          have hz2 : N3.cmpI (R : Int) (m : Int) < 0 := by omega
          obtain ⟨e1, e2⟩ := D10.div_end HRT.out (show R < m by omega)
          have HE1 := Lib.hid e1
          have HE2 := Lib.hid e2
          clear e1 e2
          go_wp2_with fail
          refine (HOR.out _ _ R m _ HRR.out.dig H2q.out (by omega) (by omega)).mono ?_
          rintro e w5 ⟨rfl, hB5⟩
          generalize N3.cmpI (R : Int) (m : Int) = z at *
          have HR5 := Lib.hid (HRR.out.below hB5)
          have HO5 := Lib.hid (owned_below HOWN.out hB5)
          have hs5 := hB5.size
          have hBw5 := hBq.trans (hB5.mono hBq.size)
          go_wp2_with fail
          go_roundw
          case rel =>
            refine ⟨i, Q.set i t, by omega, rfl, ?_, set_lens HQL.out, D10.ok_set HQK.out (by omega), ?_, ?_, ?_, hBw5, by omega⟩
            · rw [HND.out, ← HE1.out]; exact HR5.out
            · intro t' ht'
              rw [getD_set_other (by omega)]
              exact HQ0.out t' (by omega)
            · rw [HE2.out]; exact HQS.out
            · exact HO5.out
          case measure => simp [Go.RowKit.intOf]
end Go.Proofs.YtjnpenljgfdaiaaGreatDoor
