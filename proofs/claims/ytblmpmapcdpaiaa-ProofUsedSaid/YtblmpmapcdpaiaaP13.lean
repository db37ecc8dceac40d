/- program.proof: the growing of the proof. -/
import Derived.Test.YtblmpmapcdpaiaaM3
import Derived.Test.YtblmpmapcdpaiaaSteps
import Derived.RegionTactic
import Derived.Lib.SmallJoins
import Derived.Deep.CutRange
import Derived.Deep.DeepCutAuto
import Derived.Deep.RegionWith
namespace Go.Proofs.Ytblmpmapcdpaiaa
open Go.RowKit Lib Go.Joins

theorem E35 : ElemOK Try.prog 35 80 (.agg #[.int .i64 0, .int .i64 0, .int .i64 0, .slice none 0 0]) 4 48 := ⟨Try.underlying35, by kernel_rfl, rfl, by decide⟩

/-- What growing needs to find. -/
structure GrowIn (oB rB gB base : Nat) (w0 W : World) (vr : Value) (rows : List RowD) : Prop where
  b0 : Below w0.heap.size w0 W
  rows : RowsAt w0 vr rows
  rbox : Blk W rB #[vr] 27
  gbox : Blk W gB #[.func (.func 89) #[] #[.pointer (some ⟨oB, 0, none⟩), .pointer (some ⟨rB, 0, none⟩), .pointer (some ⟨gB, 0, none⟩)]] 32
  o0 : w0.heap.size ≤ oB
  ro : rB ≠ oB
  go : gB ≠ oB
  rb : rB < base
  gb : gB < base
  ob : oB < base
  bs : base ≤ W.heap.size
theorem GrowIn.fr {oB rB gB base : Nat} {w0 A B : World} {vr : Value} {rows : List RowD} (h : GrowIn oB rB gB base w0 A vr rows) (f : Fr oB base A B) : GrowIn oB rB gB base w0 B vr rows :=
  ⟨h.b0.trans (f.below h.o0 (by have := h.o0; have := h.ob; omega) h.b0.size), h.rows, f.blk h.rbox h.ro (by decide), f.blk h.gbox h.go (by decide), h.o0, h.ro, h.go, h.rb, h.gb, h.ob, by have := h.bs; have := f.size; omega⟩

set_option maxRecDepth 100000 in
set_option maxHeartbeats 2000000 in
theorem grow_leaf (oB rB gB base : Nat) (w0 W : World) (vr v : Value) (rows : List RowD) (d set n i : Nat) (xs : List Value) (hin : GrowIn oB rB gB base w0 W vr rows) (hout : OutAt oB base W v n xs)
    (hrows : ∀ r ∈ rows, r.coef.length ≤ 60 ∧ coefOK r.coef = true ∧ d ≤ r.coef.length) (hs : set < 4611686018427387904) (hn : n ≤ 100000) (hbad : badAt rows d set = some i) :
    Calls Try.prog 89 #[.int .i64 d, .int .i64 set, .pointer (some ⟨oB, 0, none⟩), .pointer (some ⟨rB, 0, none⟩), .pointer (some ⟨gB, 0, none⟩)] W fun e W' => e = .returned (.int .i64 n) ∧
      ∃ v' ys, OutAt oB base W' v' (n + 1) (xs ++ ys) ∧ StepsC W' ys [{ var := -1, no := 0, yes := 0, wts := [{ row := i, times := 1 }] }] ∧ Fr oB base W W' := by
  have hB0 : Below W.heap.size W ((W.alloc (.cells #[.int .i64 d] 3)).alloc (.cells #[.int .i64 set] 3)) := ((Below.refl _ _).alloc (Nat.le_refl _) _).alloc (by simp) _
  have hx := indexR vr _ rows _ _ (hin.rows.below (hin.b0.trans (hB0.mono hin.b0.size))) (proof11_ans _ rows d set ⟨W.heap.size, 0, none⟩ ⟨W.heap.size + 1, 0, none⟩
    ((((Below.refl _ _).alloc (Nat.le_refl _) _).cell (by simp <;> omega)).trans (World.cell?_alloc_at _ _ _ _ rfl)) (World.cell?_alloc_at _ _ _ _ (by simp)) hrows hs)
  rw [badAt_idx, hbad] at hx
  simp only at hx
  have ko := hout.box.cell 0
  have kr := hin.rbox.cell 0
  simp only [List.getElem?_toArray, List.getElem?_cons_zero] at ko kr
  obtain ⟨oa, oc, rfl, ho1, ho2⟩ := owned_len hout.row
  unfold maxLen at ho2
  have lo := hout.box.lt
  have lr := hin.rbox.lt
  have HI := Lib.hid hin
  have HO := Lib.hid hout
  clear hrows hbad hin hout
  go_enter Try.func89, Try.ntmps89
  go_wp2_with fail
  refine hx.mono ?_
  rintro e w2 ⟨rfl, hB2⟩
  have hB3 := hB0.trans (hB2.mono hB0.size)
  have hout2 := HO.out.below hB3
  have lo2 := hout2.box.lt
  have ko2 := hout2.box.cell 0
  have fo2 := hout2.box.frozen 0
  simp only [List.getElem?_toArray, List.getElem?_cons_zero] at ko2
  have hBw : Below w2.heap.size w2 (w2.alloc (.cells #[.int .i64 i, .int .i64 1] 82)) := (Below.refl _ _).alloc (Nat.le_refl _) _
  have hout3 := hout2.below hBw
  have hbs : base ≤ (w2.alloc (.cells #[.int .i64 i, .int .i64 1] 82)).heap.size := by have := HI.out.bs; have := hB3.size; simp; omega
  have hwt : Blk (w2.alloc (.cells #[.int .i64 i, .int .i64 1] 82)) w2.heap.size #[.int .i64 i, .int .i64 1] 82 := Blk.new _ _ _
  have hsz : (w2.alloc (.cells #[.int .i64 i, .int .i64 1] 82)).heap.size = w2.heap.size + 1 := by simp
  clear ko kr hx
  go_wp2_with (at_builtin; refine wpList_pushN E35 rfl _ _ rfl base hout3.row rfl (by rw [hsz]; rfl) rfl (by intro u hu; simp at hu; rcases hu with rfl | rfl | rfl <;> rfl) (by unfold maxLen; omega) (by omega) hbs ?_; intro v' w4 hown' hgrow hb1; obtain ⟨hbx, hout4, hfr⟩ := hout3.pushed hbs hown' hgrow; have k4 := hbx.cell 0; have f4 := hbx.frozen 0; simp only [List.getElem?_toArray, List.getElem?_cons_zero] at k4; obtain ⟨na, nc, rfl, hn1, hn2⟩ := owned_len hown')
  go_ret
  have hfr3 : Fr oB base W _ := ((Fr.of_below hB3).trans (Fr.of_below hBw)).trans hfr
  exact ⟨rfl, _, _, hout4, ⟨_, [], rfl, .inr ⟨w2.heap.size, ⟨i, 1⟩, rfl, rfl, hfr.blk hwt (by omega) (by decide)⟩, rfl⟩, hfr3⟩

theorem set_mid (xs ys : List Value) (j : Nat) (u : Value) : (xs ++ ys).set (xs.length + j) u = xs ++ ys.set j u := by
  rw [List.set_append_right _ _ (by omega)]; congr 2; omega

set_option maxRecDepth 100000 in
set_option maxHeartbeats 1000000 in
theorem grow_all (oB rB gB base : Nat) (w0 : World) (vr : Value) (rows : List RowD) (m : Nat) (hm : m ≤ 12) (hrows : ∀ r ∈ rows, r.coef.length = m ∧ coefOK r.coef = true)
    (hfull : ∀ s, s < 2 ^ m → badAt rows m s ≠ none) : ∀ (f d set n : Nat) (W : World) (v : Value) (xs : List Value), f + d = m → set < 2 ^ d → n + 2 ^ (f + 1) ≤ 10000 →
    GrowIn oB rB gB base w0 W vr rows → OutAt oB base W v n xs →
    Calls Try.prog 89 #[.int .i64 d, .int .i64 set, .pointer (some ⟨oB, 0, none⟩), .pointer (some ⟨rB, 0, none⟩), .pointer (some ⟨gB, 0, none⟩)] W fun e W' => e = .returned (.int .i64 n) ∧
      ∃ v' ys, OutAt oB base W' v' (n + (growS rows f d set n).length) (xs ++ ys) ∧ StepsC W' ys (growS rows f d set n) ∧ Fr oB base W W' := by
  have hr60 : ∀ d, d ≤ m → ∀ r ∈ rows, r.coef.length ≤ 60 ∧ coefOK r.coef = true ∧ d ≤ r.coef.length := fun d hd r hr => by
    obtain ⟨h1, h2⟩ := hrows r hr; exact ⟨by omega, h2, by omega⟩
  have leaf : ∀ (f d set n i : Nat) (W : World) (v : Value) (xs : List Value), d ≤ m → set < 2 ^ d → n ≤ 10000 → badAt rows d set = some i → GrowIn oB rB gB base w0 W vr rows → OutAt oB base W v n xs →
    Calls Try.prog 89 #[.int .i64 d, .int .i64 set, .pointer (some ⟨oB, 0, none⟩), .pointer (some ⟨rB, 0, none⟩), .pointer (some ⟨gB, 0, none⟩)] W fun e W' => e = .returned (.int .i64 n) ∧
      ∃ v' ys, OutAt oB base W' v' (n + (growS rows f d set n).length) (xs ++ ys) ∧ StepsC W' ys (growS rows f d set n) ∧ Fr oB base W W' := fun f d set n i W v xs hd hs hn hb hin hout => by
    have hg : growS rows f d set n = [{ var := -1, no := 0, yes := 0, wts := [{ row := i, times := 1 }] }] := by cases f <;> (unfold growS; rw [hb])
    have hp : 2 ^ d ≤ 2 ^ 12 := Nat.pow_le_pow_right (by omega) (by omega)
    rw [hg]
    exact grow_leaf oB rB gB base w0 W vr v rows d set n i xs hin hout (hr60 d hd) (by omega) (by omega) hb
  intro f
  induction f with
  | zero =>
    intro d set n W v xs hfd hs hn hin hout
    obtain rfl : d = m := by omega
    cases hb : badAt rows d set with
    | none => exact absurd hb (hfull set hs)
    | some i => exact leaf 0 d set n i W v xs (Nat.le_refl _) hs (Nat.le_trans (Nat.le_add_right _ _) hn) hb hin hout
  | succ f ih =>
    intro d set n W v xs hfd hs hn hin hout
    cases hb : badAt rows d set with
    | some i => exact leaf (f + 1) d set n i W v xs (by omega) hs (Nat.le_trans (Nat.le_add_right _ _) hn) hb hin hout
    | none =>
      have hg : growS rows (f + 1) d set n = { var := d, no := (n + 1 : Nat), yes := (n + 1 + (growS rows f (d + 1) set (n + 1)).length : Nat), wts := [] } ::
          (growS rows f (d + 1) set (n + 1) ++ growS rows f (d + 1) (set + 2 ^ d) (n + 1 + (growS rows f (d + 1) set (n + 1)).length)) := by
        conv => lhs; unfold growS
        rw [hb]
      rw [hg]
      have hlen := growS_len rows f (d + 1) set (n + 1)
      have hp12 : 2 ^ d ≤ 2 ^ 12 := Nat.pow_le_pow_right (by omega) (by omega)
      have hpd : 2 ^ (d + 1) = 2 * 2 ^ d := by rw [Nat.pow_succ]; omega
      have hpf : 2 ^ (f + 1 + 1) = 2 * 2 ^ (f + 1) := by rw [Nat.pow_succ]; omega
      have hB0 : Below W.heap.size W ((W.alloc (.cells #[.int .i64 d] 3)).alloc (.cells #[.int .i64 set] 3)) := ((Below.refl _ _).alloc (Nat.le_refl _) _).alloc (by simp) _
      have hx := indexR vr _ rows _ _ (hin.rows.below (hin.b0.trans (hB0.mono hin.b0.size))) (proof11_ans _ rows d set ⟨W.heap.size, 0, none⟩ ⟨W.heap.size + 1, 0, none⟩
        ((((Below.refl _ _).alloc (Nat.le_refl _) _).cell (by simp <;> omega)).trans (World.cell?_alloc_at _ _ _ _ rfl)) (World.cell?_alloc_at _ _ _ _ (by simp)) (hr60 d (by omega)) (by omega))
      rw [badAt_idx, hb] at hx
      simp only at hx
      have hA := Lib.hid (fun W v xs => ih (d + 1) set (n + 1) W v xs (by omega) (by omega) (by omega))
      have hBB := Lib.hid (fun W v xs => ih (d + 1) (set + 2 ^ d) (n + 1 + (growS rows f (d + 1) set (n + 1)).length) W v xs (by omega) (by omega) (by omega))
      have hor := Lib.hid (i64_or_pow set d hs (by omega))
      generalize growS rows f (d + 1) set (n + 1) = LA at hA hBB hlen ⊢
      generalize growS rows f (d + 1) (set + 2 ^ d) (n + 1 + LA.length) = LB at hBB ⊢
      have ko := hout.box.cell 0
      have kr := hin.rbox.cell 0
      simp only [List.getElem?_toArray, List.getElem?_cons_zero] at ko kr
      obtain ⟨oa, oc, rfl, ho1, ho2⟩ := owned_len hout.row
      unfold maxLen at ho2
      have lo := hout.box.lt
      have lr := hin.rbox.lt
      have HI := Lib.hid hin
      have HO := Lib.hid hout
      clear hin hout ih leaf hfull hrows hr60 hb hg
      go_enter Try.func89, Try.ntmps89
      go_wp2_with fail
      refine hx.mono ?_
      rintro e w2 ⟨rfl, hB2⟩
      have hB3 := hB0.trans (hB2.mono hB0.size)
      have hout2 := HO.out.below hB3
      have lo2 := hout2.box.lt
      have ko2 := hout2.box.cell 0
      have fo2 := hout2.box.frozen 0
      simp only [List.getElem?_toArray, List.getElem?_cons_zero] at ko2
      have hbs : base ≤ w2.heap.size := by have := HI.out.bs; have := hB3.size; omega
      have k5 : Blk w2 W.heap.size #[.int .i64 d] 3 := ((Blk.new W #[.int .i64 d] 3).alloc _).below hB2 (by simp; omega)
      have k6 : Blk w2 (W.heap.size + 1) #[.int .i64 set] 3 := (Blk.newAt _ _ _ (by simp)).below hB2 (by simp)
      have K5 := Lib.hid k5
      have K6 := Lib.hid k6
      have c5 := k5.cell 0
      have c6 := k6.cell 0
      simp only [List.getElem?_toArray, List.getElem?_cons_zero] at c5 c6
      clear ko kr hx k5 k6
      go_upto_region 7 with (at_builtin; refine wpList_pushN E35 rfl _ _ rfl base hout2.row rfl rfl rfl (by intro u hu; simp at hu; rcases hu with rfl | rfl | rfl <;> rfl) (by unfold maxLen; omega) (by omega) hbs ?_; intro v' w4 hown' hgrow hb1; obtain ⟨hbx, hout4, hfr⟩ := hout2.pushed hbs hown' hgrow; have k4 := hbx.cell 0; have f4 := hbx.frozen 0; simp only [List.getElem?_toArray, List.getElem?_cons_zero] at k4; obtain ⟨na, nc, rfl, hn1, hn2⟩ := owned_len hown')
      generalize w4.setCell ⟨oB, 0, none⟩ (.slice na (n + 1) nc) = w5 at hout4 hfr ⊢
      have hfr5 : Fr oB base W w5 := (Fr.of_below hB3).trans hfr
      have hin5 := HI.out.fr hfr5
      have k5 := hfr.blk K5.out (by omega) (by decide)
      have k6 := hfr.blk K6.out (by omega) (by decide)
      have lg := hin5.gbox.lt
      have hcall := hA.out w5 _ _ hin5 hout4
      have HFR5 := Lib.hid hfr5
      have HIN5 := Lib.hid hin5
      have KK5 := Lib.hid k5
      have KK6 := Lib.hid k6
      have c5 := k5.cell 0
      have c6 := k6.cell 0
      have cg := hin5.gbox.cell 0
      simp only [List.getElem?_toArray, List.getElem?_cons_zero] at c5 c6 cg
      rw [show ((d + 1 : Nat) : Int) = (d : Int) + 1 from by omega] at hcall
      clear k5 k6 hfr5 hin5 k4 f4 hbx hgrow hown' hb1 hB2 hB3 hB0 ko2 fo2 hout2 hout4 hfr K5 K6 lo2
      go_upto_region 8 with fail
      refine hcall.mono ?_
      rintro e w6 ⟨rfl, v6, ysA, hout6, hstA, hfr6⟩
      clear hcall c5 c6 cg
      have hin6 := HIN5.out.fr hfr6
      have k5 := hfr6.blk KK5.out (by have := HI.out.bs; omega) (by decide)
      have k6 := hfr6.blk KK6.out (by have := HI.out.bs; omega) (by decide)
      have hx8 : Hid (∀ W', Below w6.heap.size w6 W' → Calls Try.prog 89 #[.int .i64 ((d : Int) + 1), .int .i64 ((set : Int) + 2 ^ d), .pointer (some ⟨oB, 0, none⟩), .pointer (some ⟨rB, 0, none⟩), .pointer (some ⟨gB, 0, none⟩)] W' _) :=
        fun W' hb => by
          have h := hBB.out W' _ _ (hin6.fr (Fr.of_below hb)) (hout6.below hb)
          rw [show ((d + 1 : Nat) : Int) = (d : Int) + 1 from by omega, show ((set + 2 ^ d : Nat) : Int) = (set : Int) + 2 ^ d from by simp] at h
          exact h
      have hor2 := hor.out
      rw [show ((set + 2 ^ d : Nat) : Int) = (set : Int) + 2 ^ d from by simp] at hor2
      have KK7 := Lib.hid k5
      have KK8 := Lib.hid k6
      have HIN6 := Lib.hid hin6
      have HOUT6 := Lib.hid hout6
      have HSTA := Lib.hid hstA
      have HFR6 := Lib.hid hfr6
      have c5 := k5.cell 0
      have c6 := k6.cell 0
      have cg := hin6.gbox.cell 0
      have lg6 := hin6.gbox.lt
      have l5 := k5.lt
      have l6 := k6.lt
      have hd12 : (d : Int) < 64 := by omega
      have hp0 : (0 : Int) ≤ 2 ^ d ∧ (2 : Int) ^ d < 2 ^ 63 := by
        have e : ((2 ^ d : Nat) : Int) = (2 : Int) ^ d := by simp
        omega
      have hw1 : IntKind.i64.wrap ((d : Int) + 1) = (d : Int) + 1 := wraps_i64 _ (by omega) (by omega)
      have hw2 : IntKind.i64.wrap ((2 : Int) ^ d) = (2 : Int) ^ d := wraps_i64 _ hp0.1 hp0.2
      simp only [List.getElem?_toArray, List.getElem?_cons_zero] at c5 c6 cg
      clear k5 k6 hin6 hout6 hstA hfr6 hBB hA
      go_wp2_with fail
      go_region_held3 (fun w' => w'.cell? ⟨gB, 0, none⟩ = some (.func (.func 89) #[] #[.pointer (some ⟨oB, 0, none⟩), .pointer (some ⟨rB, 0, none⟩), .pointer (some ⟨gB, 0, none⟩)]) ∧ w'.cell? ⟨W.heap.size, 0, none⟩ = some (.int .i64 d) ∧ w'.cell? ⟨W.heap.size + 1, 0, none⟩ = some (.int .i64 set))
        (first | go_keep | exact ⟨by have := (hfr8.blk (show Blk w6.drew gB _ _ from HIN6.out.gbox) HI.out.go (by decide)).cell 0; simpa using this, by have := (hfr8.blk (show Blk w6.drew W.heap.size _ _ from KK7.out) (by have := HI.out.bs; omega) (by decide)).cell 0; simpa using this, by have := (hfr8.blk (show Blk w6.drew (W.heap.size + 1) _ _ from KK8.out) (by have := HI.out.bs; omega) (by decide)).cell 0; simpa using this⟩)
        ((go_at_call 89; refine (hx8.out _ (by exact (Below.refl _ _).drew)).mono ?_; rintro e w8 ⟨rfl, v8, ysB, hout8, hstB, hfr8⟩))
      obtain ⟨g8, cap8, rfl⟩ := ownsRow_form hout8.row (by omega)
      have ko8 := hout8.box.cell 0
      simp only [List.getElem?_toArray, List.getElem?_cons_zero] at ko8
      have r1 := hout8.row.cellAt (n * 4 + 1) (by omega)
      have r2 := hout8.row.cellAt (n * 4 + 2) (by omega)
      have f1 := hout8.row.frozenAt (n * 4 + 1)
      have f2 := hout8.row.frozenAt (n * 4 + 2)
      have hxl : xs.length = n * 4 := HO.out.row.1
      rw [List.append_assoc, List.append_assoc, List.getElem?_append_right (by omega), hxl, show n * 4 + 1 - n * 4 = 1 from by omega] at r1
      rw [List.append_assoc, List.append_assoc, List.getElem?_append_right (by omega), hxl, show n * 4 + 2 - n * 4 = 2 from by omega] at r2
      simp only [List.cons_append, List.getElem?_cons_succ, List.getElem?_cons_zero] at r1 r2
      have hnl : (n : Int) < ((n + 1 + LA.length + LB.length : Nat) : Int) := by omega
      have HOUT8 := Lib.hid hout8
      have HSTB := Lib.hid hstB
      have HFR8 := Lib.hid hfr8
      clear hstB hfr8 hout8 hor2 hw1 hw2
      go_wp2_with fail
      go_region
      go_wp2
      go_ret
      have s1 := HOUT8.out.stored (n * 4 + 1) (.int .i64 ((n : Int) + 1))
      have s2 := s1.1.stored (n * 4 + 2) (.int .i64 ((n : Int) + 1 + LA.length))
      have fA : Fr oB base w6 w6.drew := Fr.of_below (Below.refl _ _).drew
      have fB : Fr oB base w8 _ := (s1.2.trans s2.2).trans (Fr.of_below (Below.refl _ _).drew)
      have hxs : (((xs ++ [Value.int .i64 d, .int .i64 0, .int .i64 0, .slice none 0 0]) ++ ysA ++ ysB).set (n * 4 + 1) (.int .i64 ((n : Int) + 1))).set (n * 4 + 2) (.int .i64 ((n : Int) + 1 + LA.length)) =
          xs ++ (.int .i64 d :: .int .i64 ((n + 1 : Nat) : Int) :: .int .i64 ((n + 1 + LA.length : Nat) : Int) :: .slice none 0 0 :: (ysA ++ ysB)) := by
        rw [List.append_assoc, List.append_assoc, ← hxl, set_mid, set_mid]
        simp
      have o8 := s2.1.below (Below.refl _ _).drew
      rw [hxs] at o8
      have hlen8 : n + 1 + LA.length + LB.length = n + (LA.length + LB.length + 1) := by omega
      refine ⟨rfl, .slice (some ⟨g8, 0, none⟩) (n + 1 + LA.length + LB.length) cap8, _, ?_, ⟨.slice none 0 0, ysA ++ ysB, rfl, .inl ⟨rfl, rfl⟩, (HSTA.out.fr (((fA.trans HFR8.out)).trans fB) HOUT6.out.not82).app (HSTB.out.fr fB HOUT8.out.not82)⟩, (((HFR5.out.trans HFR6.out).trans fA).trans HFR8.out).trans fB⟩
      rw [show n + ((LA ++ LB).length + 1) = n + 1 + LA.length + LB.length from by rw [List.length_append]; omega]
      exact o8
end Go.Proofs.Ytblmpmapcdpaiaa
