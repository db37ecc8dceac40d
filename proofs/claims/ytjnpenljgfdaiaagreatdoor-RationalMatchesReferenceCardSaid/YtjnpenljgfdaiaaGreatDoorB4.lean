/- package integer: products. -/
import Derived.Test.YtjnpenljgfdaiaaGreatDoorB3
namespace Go.Proofs.YtjnpenljgfdaiaaGreatDoor
open Go.RowKit Go.Shelf Lib
attribute [local go_sem] Oper.semAt_some

theorem IntsAt.putObj {A : World} {v : Value} {l : List Int} (h : IntsAt A v l) {k : Nat} {o : Obj} (o' : Obj) (hk : A.heap[k]? = some o) (ho : o.isCells = false) : IntsAt (A.putObj k o') v l :=
  OwnM.putObj (zs := fun _ => False) (D := 0) (I := fun (_ : Unit) W => IntsAt W v l) (fun _ _ _ hs ht => hs.turn ht (fun _ h => h)) (s := ()) o' h (Nat.zero_le _) hk ho
theorem keeps_below {A B : World} (h : Below A.heap.size A B) : KeepsOthers A B := ⟨h.size, fun k _ hk _ => (h.block k (Array.getElem?_eq_some_iff.1 hk).1).trans hk⟩
theorem boxed_below {A B : World} (h : Below A.heap.size A B) {k t : Nat} {v : Value} (hb : Boxed A k t v) : Boxed B k t v := (h.block k hb.lt).trans hb
theorem IntsAt.setBox {w : World} {v : Value} {l : List Int} (h : IntsAt w v l) {B t : Nat} {xa : Option Addr} {xn xc : Nat} (hb : Boxed w B t (.slice xa xn xc)) (u : Value) : IntsAt (w.setCell ⟨B, 0, none⟩ u) v l := by
  obtain ⟨a, cap, h1, h2, h3, h4⟩ := h
  refine ⟨a, cap, h1, h2, h3, fun hl => ?_⟩
  obtain ⟨b, off, rfl, h5⟩ := h4 hl
  refine ⟨b, off, rfl, fun j y hj => ?_⟩
  have hc := h5 j y hj
  rw [World.cell?_setCell_other _ _ _ _ (fun e => by rw [← e, hb.cell] at hc; cases hc)]
  exact hc
theorem len_mul (n m : Nat) : (N3.toG (n * m)).length ≤ (N3.toG n).length + (N3.toG m).length := by
  refine N3.toG_len_le ?_
  have q1 := N3.val_lt (N3.toG_lt n)
  have q2 := N3.val_lt (N3.toG_lt m)
  rw [N3.val_toG] at q1 q2
  rw [Nat.pow_add]
  exact Nat.mul_lt_mul'' q1 q2
theorem len_mono {n m : Nat} (h : n ≤ m) : (N3.toG n).length ≤ (N3.toG m).length := by
  by_cases hc : (N3.toG n).length ≤ (N3.toG m).length
  · exact hc
  · have := N3.len_lt (Nat.lt_of_not_le hc); omega
theorem len_one {x : Nat} (h : x < 10000) : (N3.toG x).length ≤ 1 := N3.toG_len_le (by simpa using h)
set_option maxRecDepth 100000 in
set_option maxHeartbeats 2000000 in
theorem times_any (v1 v2 : Value) (n m : Nat) (w : World) (h1 : NumAt w v1 n) (h2 : NumAt w v2 m) (l1 : (N3.toG n).length ≤ 1000) (l2 : (N3.toG m).length ≤ 1000) :
    Calls Tryz.prog 87 #[v1, v2] w fun e w' => ∃ v', e = .returned v' ∧ NumAt w' v' (n * m) ∧ Below w.heap.size w w' := by
  obtain ⟨a, cp, rfl, g1, g2⟩ := (show IntsAt w v1 _ from h1).len
  obtain ⟨b, cq, rfl, k1, k2⟩ := (show IntsAt w v2 _ from h2).len
  rw [castL_len] at g1 k1
  rw [castL_len, castL_len]
  obtain ⟨W0, hW0⟩ : ∃ W0, ((w.alloc (.cells #[.slice a (N3.toG n).length cp] 88)).alloc (.cells #[.slice none 0 0] 88)).alloc (.cells #[.slice b (N3.toG m).length cq] 88) = W0 := ⟨_, rfl⟩
  have hsz : W0.heap.size = w.heap.size + 3 := by rw [← hW0]; simp
  have hB0 : Below w.heap.size w W0 := by rw [← hW0]; exact (((Below.refl _ _).alloc (Nat.le_refl _) _).alloc (by simp) _).alloc (by simp; omega) _
  have hb1 : Boxed W0 w.heap.size 88 (.slice a (N3.toG n).length cp) := by rw [← hW0]; exact ((Boxed.new w 88 _).alloc _).alloc _
  have hb2 : Boxed W0 (w.heap.size + 1) 88 (.slice none 0 0) := by
    have := (Boxed.new (w.alloc (.cells #[.slice a (N3.toG n).length cp] 88)) 88 (.slice none 0 0)).alloc (.cells #[.slice b (N3.toG m).length cq] 88)
    rw [World.size_alloc] at this
    rw [← hW0]; exact this
  have hb3 : Boxed W0 (w.heap.size + 1 + 1) 88 (.slice b (N3.toG m).length cq) := by
    have := Boxed.new ((w.alloc (.cells #[.slice a (N3.toG n).length cp] 88)).alloc (.cells #[.slice none 0 0] 88)) 88 (.slice b (N3.toG m).length cq)
    rw [World.size_alloc, World.size_alloc] at this
    rw [← hW0]; exact this
  have hseq := Lib.hid (backward_seq 4 (by omega) (w.heap.size + 1 + 1) (N3.toG m) w W0 _ h2 hB0 (by omega) ⟨_, _, by rw [castL_len]; exact hb3⟩)
  have hnil : NumAt W0 (.slice none 0 0) 0 := ⟨none, 0, by rw [N3.toG_zero]; rfl, by rw [N3.toG_zero]; exact Nat.le_refl _, by unfold maxLen; omega, fun h => by rw [N3.toG_zero] at h; exact absurd h (by decide)⟩
  refine (callsIn_wide (n := 5)).1 ?_
  refine callsIn_of_wp_marks Tryz.func87 rfl trivial ?_ rfl
  simp only [Tryz.ntmps87, List.size_toArray, List.length_cons, List.length_nil, Nat.reduceAdd, Nat.reduceSub, Array.replicate_succ, Array.replicate_zero, List.push_toArray, List.append_toArray, List.nil_append, List.cons_append]
  refine wpIn_wide.2 ?_
  go_wp2_with fail
  refine (backward_made _ _ _ _).mono ?_
  rintro e w' ⟨rfl, rfl⟩
  go_wp2_with fail
  refine (wpIn_wide (n := 5)).1 ?_
  refine wpIn_rangeFunc_Mf (zs := fun k => False) rfl (by omega) (gf := 138) (lb := #[.pointer (some ⟨w.heap.size + 1 + 1, 0, none⟩)]) (by simp [Act.eval]) trivial Tryz.call138
    (fun k hk => hk.elim) hseq.out (fun h k => h.trans k)
    (fun W l o o' hl ho _ _ => KpC.putObj o' (by omega) (by omega) ho) (Below.refl _ _) (fun _ => rfl)
    (fun pre W => pre.length ≤ (N3.toG m).length ∧ Boxed W w.heap.size 88 (.slice a (N3.toG n).length cp) ∧ (∃ vo, Boxed W (w.heap.size + 1) 88 vo ∧ NumAt W vo (N3.horner (N3.toG m) n pre.length)) ∧ Below w.heap.size w W ∧ w.heap.size + 3 ≤ W.heap.size)
    (fun _ _ _ => False)
    (fun s A B hs ht => ⟨hs.1, ht.boxed hs.2.1 (fun h => h), by
      obtain ⟨vo, q1, q2⟩ := hs.2.2.1
      exact ⟨vo, ht.boxed q1 (fun h => h), IntsAt.turn q2 ht (fun _ h => h)⟩, ht.below hs.2.2.2.1 (Nat.le_refl _) (by omega) (fun k hk h => h), Nat.le_trans hs.2.2.2.2 ht.size⟩)
    (fun _ _ _ _ hs _ => hs)
    ⟨by simp, hb1, ⟨_, hb2, by rw [show ([] : List (Nat × Nat)).length = 0 from rfl, N3.horner_zero]; exact hnil⟩, hB0, by omega⟩
    (fun x t => ((t.setIfInBounds 10 (.int .i64 (x.1 : Int))).setIfInBounds 11 (.int .i64 (x.2 : Int))).setIfInBounds 7 (.int .i64 (x.2 : Int))) ?assign ?body ?done ?stop
  case assign =>
    intro l x W K hK
    dsimp only [encB]
    gi_wp2
    exact hK
  case body =>
    rintro l pre x W ⟨hpl, hc1, ⟨vo, hc2, hvo⟩, hB, hsz1⟩ ⟨hlt, rfl⟩
    have hx4 : (nthB (N3.toG m) pre.length).2 < 10000 := getD_lt (N3.toG_lt m) _
    have hstep := Lib.hid (N3.horner_succ n hlt)
    have hbig : N3.horner (N3.toG m) n pre.length ≤ n * m := by have := N3.horner_le (N3.toG m) pre.length n; rw [N3.val_toG] at this; exact this
    have hnx : (nthB (N3.toG m) pre.length).2 = (N3.toG m).getD ((N3.toG m).length - 1 - pre.length) 0 := rfl
    rw [← hnx] at hstep
    generalize nthB (N3.toG m) pre.length = xx at hx4 hstep ⊢
    generalize hh : N3.horner (N3.toG m) n pre.length = h at hvo hstep hbig
    have hlh : (N3.toG h).length ≤ 2000 := by
      have q1 := len_mono hbig
      have q2 := len_mul n m
      omega
    have hpre' := Lib.hid hlt
    have hj1 := hc1.cell
    have hj2 := hc2.cell
    have hf2 := hc2.frozen
    have hby := Lib.hid (fun (V : World) (hV : Below w.heap.size w V) => by_any (.slice a (N3.toG n).length cp) n xx.2 V (NumAt.below (by have := h1; rw [castL_len] at this; exact this) hV) hx4 (by omega))
    have hlb := Lib.hid (show (N3.toG (n * xx.2)).length ≤ 10000 by
        have q1 := len_mul n xx.2
        have q2 := len_one hx4
        omega)
    obtain ⟨oa, oc, rfl, o1, o2⟩ := (show IntsAt W vo _ from hvo).len
    rw [castL_len] at *
    have HVO := Lib.hid hvo
    have HH1 := Lib.hid hh
    clear hvo hh hpl hlt hnx
    by_cases h0 : h = 0
    · have hl0 : (N3.toG h).length = 0 := by rw [h0, N3.toG_zero]; rfl
      have HS := Lib.hid hstep
      have H0 := Lib.hid h0
      rw [hl0] at hj2 o1
      have hj2' := hj2
      have HV2 := Lib.hid (show NumAt W (.slice oa 0 oc) 0 from by have := HVO.out; rw [hl0, h0] at this; exact this)
      have hadd : Hid (∀ (V : World) (hV : Below W.heap.size W V) (v4 : Value) (h4 : NumAt V v4 (n * xx.2)), Calls Tryz.prog 89 #[.slice oa 0 oc, v4] V fun e w' => ∃ v', e = .returned v' ∧ NumAt w' v' (n * xx.2) ∧ Below V.heap.size V w') := fun V hV v4 h4 => by
        have q := plus_any (.slice oa 0 oc) v4 0 (n * xx.2) V (HV2.out.below hV) h4 (by rw [N3.toG_zero]; decide) hlb.out
        rw [Nat.zero_add] at q; exact q
      clear hlh hbig h0 hl0 o1
      gi_wp2_with fail
      refine wpIn_round_E (S := (fun w' => Below W.heap.size W w' ∧ w'.cell? ⟨w.heap.size, 0, none⟩ = some (.slice a (N3.toG n).length cp) ∧ w'.cell? ⟨w.heap.size + 1, 0, none⟩ = some (.slice oa 0 oc))) 5 (by kernel_rfl) (by kernel_rfl) ⟨(Below.refl _ _).drew, hj1, hj2⟩ (fun hHeld => ?_)
      refine wpE_take (i := 0) (oi := { dst := some 18, op := Op.load 88 (Operand.tmp 5), type := 88, pos := "integer.go:152", after := #[], guard := none }) (v := ?_) rfl (by kernel_rfl) (by kernel_rfl) (by kernel_rfl) (by kernel_rfl) (fun _ _ _ h => h) (Or.inl ⟨by kernel_rfl, ?_⟩) (by assumption) ?_
      rotate_left
      · intro w hSw
        (try dsimp only at hSw)
        go_simp
        all_goals (with_reducible rfl)
      (try simp only [Act.put, List.setIfInBounds_toArray, List.set_cons_zero, List.set_cons_succ])
      refine wpE_take (i := 1) (oi := { dst := some 19, op := Op.load 88 (Operand.tmp 2), type := 88, pos := "integer.go:152", after := #[], guard := none }) (v := ?_) rfl (by kernel_rfl) (by kernel_rfl) (by kernel_rfl) (by kernel_rfl) (fun _ _ _ h => h) (Or.inl ⟨by kernel_rfl, ?_⟩) (by assumption) ?_
      rotate_left
      · intro w hSw
        (try dsimp only at hSw)
        go_simp
        all_goals (with_reducible rfl)
      (try simp only [Act.put, List.setIfInBounds_toArray, List.set_cons_zero, List.set_cons_succ])
      refine wpE_take (i := 2) (oi := { dst := some 20, op := Op.move (Operand.tmp 7), type := 3, pos := "integer.go:152", after := #[], guard := none }) (v := ?_) rfl (by kernel_rfl) (by kernel_rfl) (by kernel_rfl) (by kernel_rfl) (fun _ _ _ h => h) (Or.inl ⟨by kernel_rfl, ?_⟩) (by assumption) ?_
      rotate_left
      · intro w hSw
        (try dsimp only at hSw)
        go_simp
        all_goals (with_reducible rfl)
      (try simp only [Act.put, List.setIfInBounds_toArray, List.set_cons_zero, List.set_cons_succ])
      refine wpE_one (i := 3) (o := { dst := some 21, op := Op.call { callee := Callee.value (Operand.func 117), args := #[Operand.tmp 19, Operand.tmp 20], argTypes := #[88, 3] }, type := 88, pos := "integer.go:152", after := #[{ on := 1, ground := Ground.data }, { on := 2, ground := Ground.data }], guard := none }) (by kernel_rfl) rfl (fun K hK => ?_)
      go_simp
      go_at_call 117
      refine (hby.out _ (hB.trans (hHeld.1.mono hB.size))).mono ?_
      rintro e w4 ⟨v4, rfl, hn4, hB4⟩
      refine hK.out _ _ (fun _ => ?_) (fun hHeld2 => ?_)
      · exact ⟨hHeld.1.trans (hB4.mono hHeld.1.size), (hB4.cell (World.block_lt_of_cell? _ _ hHeld.2.1)).trans hHeld.2.1, (hB4.cell (World.block_lt_of_cell? _ _ hHeld.2.2)).trans hHeld.2.2⟩
      clear hHeld
      have hHeld := hHeld2 (by decide)
      clear hHeld2
      clear hK K
      (try simp only [Act.put, List.setIfInBounds_toArray, List.set_cons_zero, List.set_cons_succ])
      refine wpE_one (i := 4) (o := { dst := some 22, op := Op.call { callee := Callee.value (Operand.func 89), args := #[Operand.tmp 18, Operand.tmp 21], argTypes := #[88, 88] }, type := 88, pos := "integer.go:152", after := #[{ on := 0, ground := Ground.data }, { on := 3, ground := Ground.data }, { on := 3, ground := Ground.chain }], guard := none }) (by kernel_rfl) rfl (fun K hK => ?_)
      go_simp
      go_at_call 89
      refine (hadd.out _ hHeld.1 _ hn4).mono ?_
      rintro e w5 ⟨v5, rfl, hn5, hB5⟩
      refine hK.out _ _ (fun _ => ?_) (fun hHeld2 => ?_)
      · exact ⟨hHeld.1.trans (hB5.mono hHeld.1.size), (hB5.cell (World.block_lt_of_cell? _ _ hHeld.2.1)).trans hHeld.2.1, (hB5.cell (World.block_lt_of_cell? _ _ hHeld.2.2)).trans hHeld.2.2⟩
      clear hHeld
      have hHeld := hHeld2 (by decide)
      clear hHeld2
      clear hK K
      (try simp only [Act.put, List.setIfInBounds_toArray, List.set_cons_zero, List.set_cons_succ])
      refine wpE_one (i := 5) (o := { dst := none, op := Op.store 88 (Operand.tmp 5) (Operand.tmp 22), type := 0, pos := "integer.go:152", after := #[{ on := 4, ground := Ground.data }, { on := 4, ground := Ground.chain }, { on := 0, ground := Ground.phase }, { on := 1, ground := Ground.phase }, { on := 2, ground := Ground.phase }, { on := 3, ground := Ground.phase }, { on := 4, ground := Ground.phase }], guard := none }) (by kernel_rfl) rfl (fun K hK => ?_)
      obtain ⟨ya, yc, rfl, y1, y2⟩ := (show IntsAt _ v5 _ from hn5).len
      have hcs := hHeld.2.2
      have hfs := (boxed_below hHeld.1 hc2).frozen
      have hHeldB := hHeld.1
      go_simp
      refine hK.out _ _ (fun h => absurd rfl h) (fun _ => ?_)
      clear hK K
      (try simp only [Act.put, List.setIfInBounds_toArray, List.set_cons_zero, List.set_cons_succ])
      refine wpE_done (by kernel_rfl) ?_ _
      refine OnlyN.normal ?_
      gi_wp2_with fail
      refine ⟨(keeps_below hHeldB).trans (KeepsOthers.setCell _ _ _), ⟨(hHeldB.mono hB.size).setCell (by simp) _, (Below.heap_setCell _ _ _ _ (by simp)).trans (hHeldB.block _ (by omega))⟩, by have := hpre'.out; simp; omega, ?_, ⟨_, (boxed_below hHeldB hc2).set _, ?_⟩, hB.trans ((hHeldB.mono hB.size).setCell (by simp) _), ?_⟩
      · exact (Below.heap_setCell _ _ _ _ (by simp)).trans (boxed_below hHeldB hc1)
      · rw [List.length_append, List.length_singleton, HS.out, H0.out, Nat.mul_zero, Nat.zero_add]
        exact IntsAt.setBox hn5 (boxed_below hHeldB hc2) _
      · have := hHeldB.size; simp; omega
    · have hl0 : 0 < (N3.toG h).length := by
        refine Classical.byContradiction fun hc => h0 (N3.toG_nil.1 (List.eq_nil_of_length_eq_zero (by omega)))
      have hsh := N3.shift_toG h0
      have HSH := Lib.hid hsh
      have HS := Lib.hid hstep
      have hl9 : (N3.toG (10000 * h)).length ≤ 3000 := by rw [← hsh, List.length_cons]; omega
      have HV := Lib.hid (show IntsAt W (.slice oa (N3.toG h).length oc) (castL (N3.toG h)) from HVO.out)
      have hm2 : (N3.toG h).length ≤ 1000000 := by omega
      generalize hlen : (N3.toG h).length = len at hl0 hj2 HV o1 hm2
      have HLN := Lib.hid hlen
      clear hlen h0 hsh hlh hbig
      have hj2a : (W.alloc (.cells #[.int .i64 0] 3)).cell? ⟨w.heap.size + 1, 0, none⟩ = some (.slice oa len oc) := (World.cell?_alloc_lt _ _ _ (by simp; omega)).trans hj2
      gi_wp2_with (gi_at_builtin; refine wpListIn_round (fun c h => by cases h) ?_; refine wpList_cons rfl _ _ rfl HV.out rfl rfl (by rw [HLN.out]; exact hm2) ?_; intro g c w1 hi1 hc11 hc12 hB1 _; rw [HLN.out] at hi1 hc11; refine wpList_nil ?_; refine OnlyN.normal ?_; show wpListIn _ _ _ _ _ _ _ _; have hk2 := (boxed_below hB1 hc2).cell; have hkf := (boxed_below hB1 hc2).frozen; rw [HLN.out])
      generalize hW2 : w1.setCell ⟨w.heap.size + 1, 0, none⟩ (.slice (some ⟨g, 0, none⟩) (1 + len) c) = W2
      have b1 : Boxed W2 w.heap.size 88 (.slice a (N3.toG n).length cp) := by rw [← hW2]; exact (Below.heap_setCell _ _ _ _ (by simp)).trans (boxed_below hB1 hc1)
      have b2 : Boxed W2 (w.heap.size + 1) 88 (.slice (some ⟨g, 0, none⟩) (1 + len) c) := by rw [← hW2]; exact (boxed_below hB1 hc2).set _
      have b3 : KeepsOthers W W2 := by rw [← hW2]; exact (keeps_below hB1).trans (KeepsOthers.setCell _ _ _)
      have b4 : Below w.heap.size W W2 := by rw [← hW2]; exact (hB1.mono hB.size).setCell (by simp) _
      have b5 : W2.heap[w.heap.size + 1 + 1]? = W.heap[w.heap.size + 1 + 1]? := by rw [← hW2]; exact (Below.heap_setCell _ _ _ _ (by simp)).trans (hB1.block _ (by omega))
      have b6 := Lib.hid (show NumAt W2 (.slice (some ⟨g, 0, none⟩) (1 + len) c) (10000 * h) by
        rw [← hW2]
        unfold NumAt
        rw [← HSH.out]
        exact IntsAt.setBox hi1 (boxed_below hB1 hc2) _)
      have hadd := Lib.hid (fun (V : World) (hV : Below W2.heap.size W2 V) (v4 : Value) (h4 : NumAt V v4 (n * xx.2)) => plus_any (.slice (some ⟨g, 0, none⟩) (1 + len) c) v4 (10000 * h) (n * xx.2) V (b6.out.below hV) h4 (by omega) hlb.out)
      have i1 := b1.cell
      have i2 := b2.cell
      have hsz2 := b4.size
      clear hW2 hi1 hk2 hkf hj1 hj2 hj2a hf2
      refine wpIn_round_E (S := (fun w' => Below W2.heap.size W2 w' ∧ w'.cell? ⟨w.heap.size, 0, none⟩ = some (.slice a (N3.toG n).length cp) ∧ w'.cell? ⟨w.heap.size + 1, 0, none⟩ = some (.slice (some ⟨g, 0, none⟩) (1 + len) c))) 5 (by kernel_rfl) (by kernel_rfl) ⟨(Below.refl _ _).drew, i1, i2⟩ (fun hHeld => ?_)
      refine wpE_take (i := 0) (oi := { dst := some 18, op := Op.load 88 (Operand.tmp 5), type := 88, pos := "integer.go:152", after := #[], guard := none }) (v := ?_) rfl (by kernel_rfl) (by kernel_rfl) (by kernel_rfl) (by kernel_rfl) (fun _ _ _ h => h) (Or.inl ⟨by kernel_rfl, ?_⟩) (by assumption) ?_
      rotate_left
      · intro w hSw
        (try dsimp only at hSw)
        go_simp
        all_goals (with_reducible rfl)
      (try simp only [Act.put, List.setIfInBounds_toArray, List.set_cons_zero, List.set_cons_succ])
      refine wpE_take (i := 1) (oi := { dst := some 19, op := Op.load 88 (Operand.tmp 2), type := 88, pos := "integer.go:152", after := #[], guard := none }) (v := ?_) rfl (by kernel_rfl) (by kernel_rfl) (by kernel_rfl) (by kernel_rfl) (fun _ _ _ h => h) (Or.inl ⟨by kernel_rfl, ?_⟩) (by assumption) ?_
      rotate_left
      · intro w hSw
        (try dsimp only at hSw)
        go_simp
        all_goals (with_reducible rfl)
      (try simp only [Act.put, List.setIfInBounds_toArray, List.set_cons_zero, List.set_cons_succ])
      refine wpE_take (i := 2) (oi := { dst := some 20, op := Op.move (Operand.tmp 7), type := 3, pos := "integer.go:152", after := #[], guard := none }) (v := ?_) rfl (by kernel_rfl) (by kernel_rfl) (by kernel_rfl) (by kernel_rfl) (fun _ _ _ h => h) (Or.inl ⟨by kernel_rfl, ?_⟩) (by assumption) ?_
      rotate_left
      · intro w hSw
        (try dsimp only at hSw)
        go_simp
        all_goals (with_reducible rfl)
      (try simp only [Act.put, List.setIfInBounds_toArray, List.set_cons_zero, List.set_cons_succ])
      refine wpE_one (i := 3) (o := { dst := some 21, op := Op.call { callee := Callee.value (Operand.func 117), args := #[Operand.tmp 19, Operand.tmp 20], argTypes := #[88, 3] }, type := 88, pos := "integer.go:152", after := #[{ on := 1, ground := Ground.data }, { on := 2, ground := Ground.data }], guard := none }) (by kernel_rfl) rfl (fun K hK => ?_)
      go_simp
      go_at_call 117
      refine (hby.out _ ((hB.trans b4).trans (hHeld.1.mono (hB.trans b4).size))).mono ?_
      rintro e w4 ⟨v4, rfl, hn4, hB4⟩
      refine hK.out _ _ (fun _ => ?_) (fun hHeld2 => ?_)
      · exact ⟨hHeld.1.trans (hB4.mono hHeld.1.size), (hB4.cell (World.block_lt_of_cell? _ _ hHeld.2.1)).trans hHeld.2.1, (hB4.cell (World.block_lt_of_cell? _ _ hHeld.2.2)).trans hHeld.2.2⟩
      clear hHeld
      have hHeld := hHeld2 (by decide)
      clear hHeld2
      clear hK K
      (try simp only [Act.put, List.setIfInBounds_toArray, List.set_cons_zero, List.set_cons_succ])
      refine wpE_one (i := 4) (o := { dst := some 22, op := Op.call { callee := Callee.value (Operand.func 89), args := #[Operand.tmp 18, Operand.tmp 21], argTypes := #[88, 88] }, type := 88, pos := "integer.go:152", after := #[{ on := 0, ground := Ground.data }, { on := 3, ground := Ground.data }, { on := 3, ground := Ground.chain }], guard := none }) (by kernel_rfl) rfl (fun K hK => ?_)
      go_simp
      go_at_call 89
      refine (hadd.out _ hHeld.1 _ hn4).mono ?_
      rintro e w5 ⟨v5, rfl, hn5, hB5⟩
      refine hK.out _ _ (fun _ => ?_) (fun hHeld2 => ?_)
      · exact ⟨hHeld.1.trans (hB5.mono hHeld.1.size), (hB5.cell (World.block_lt_of_cell? _ _ hHeld.2.1)).trans hHeld.2.1, (hB5.cell (World.block_lt_of_cell? _ _ hHeld.2.2)).trans hHeld.2.2⟩
      clear hHeld
      have hHeld := hHeld2 (by decide)
      clear hHeld2
      clear hK K
      (try simp only [Act.put, List.setIfInBounds_toArray, List.set_cons_zero, List.set_cons_succ])
      refine wpE_one (i := 5) (o := { dst := none, op := Op.store 88 (Operand.tmp 5) (Operand.tmp 22), type := 0, pos := "integer.go:152", after := #[{ on := 4, ground := Ground.data }, { on := 4, ground := Ground.chain }, { on := 0, ground := Ground.phase }, { on := 1, ground := Ground.phase }, { on := 2, ground := Ground.phase }, { on := 3, ground := Ground.phase }, { on := 4, ground := Ground.phase }], guard := none }) (by kernel_rfl) rfl (fun K hK => ?_)
      obtain ⟨ya, yc, rfl, y1, y2⟩ := (show IntsAt _ v5 _ from hn5).len
      have hcs := hHeld.2.2
      have hfs := (boxed_below hHeld.1 b2).frozen
      have hHeldB := hHeld.1
      go_simp
      refine hK.out _ _ (fun h => absurd rfl h) (fun _ => ?_)
      clear hK K
      (try simp only [Act.put, List.setIfInBounds_toArray, List.set_cons_zero, List.set_cons_succ])
      refine wpE_done (by kernel_rfl) ?_ _
      refine OnlyN.normal ?_
      gi_wp2_with fail
      have hB2 := hB.trans b4
      refine ⟨b3.trans ((keeps_below hHeldB).trans (KeepsOthers.setCell _ _ _)), ⟨b4.trans ((hHeldB.mono hB2.size).setCell (by simp) _), (Below.heap_setCell _ _ _ _ (by simp)).trans ((hHeldB.block _ (by omega)).trans b5)⟩, by have := hpre'.out; simp; omega, ?_, ⟨_, (boxed_below hHeldB b2).set _, ?_⟩, hB2.trans ((hHeldB.mono hB2.size).setCell (by simp) _), ?_⟩
      · exact (Below.heap_setCell _ _ _ _ (by simp)).trans (boxed_below hHeldB b1)
      · rw [List.length_append, List.length_singleton, HS.out]
        exact IntsAt.setBox hn5 (boxed_below hHeldB b2) _
      · have := hHeldB.size; simp; omega
  case done =>
    rintro D ys W hD hys ⟨_, hc1, ⟨vo, hc2, hvo⟩, hB, hsz1⟩ hK
    have hj2 := hc2.cell
    rw [hys, N3.horner_all, N3.val_toG] at hvo
    obtain ⟨oa, oc, rfl, o1, o2⟩ := (show IntsAt W vo _ from hvo).len
    have HV := Lib.hid hvo
    clear hvo
    go_wp2_with fail
    refine ⟨by simp, .inl ⟨_, _, rfl, run_takeDeferred hK, ?_⟩⟩
    refine ⟨.slice oa (castL (N3.toG (n * m))).length oc, by simp [results, Tryz.results87, go_sem], _, rfl, ?_, ?_⟩
    · exact IntsAt.putObj HV.out _ hK rfl
    · exact hB.trans (belowK_b (w := w) (Nat.le_refl _) _ D _ _ (by omega) hK rfl rfl)
  case stop =>
    intro D c pre W _ _ h _
    exact h.elim
end Go.Proofs.YtjnpenljgfdaiaaGreatDoor
