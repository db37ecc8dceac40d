/- Texts K5, K6 in one. -/
import Derived.Test.YtblmpmapcdpaiaaK4
import Derived.Defers
import Derived.Recover
import Derived.Laws.Pointers
import Derived.RegionTactic
import Derived.ChangeAlike
section
/- package proof: check's deferred closure. -/
namespace Go.Proofs.Ytblmpmapcdpaiaa
open Go.RowKit Lib

theorem assert_yes (at_ : Int) (w : World) : (Instr.typeAssert (.iface 122 (.agg #[.int .i64 at_])) 20 122 true).run Try.prog w = .ok (.tuple #[.agg #[.int .i64 at_], .bool true]) w := by kernel_rfl
theorem assert_no (w : World) : (Instr.typeAssert .nilIface 20 122 true).run Try.prog w = .ok (.tuple #[.agg #[.int .i64 0], .bool false]) w := by kernel_rfl
set_option maxRecDepth 100000 in
set_option maxHeartbeats 4000000 in
theorem catch_panicking (p q : Nat) (x at_ : Int) (m : Option Nat) (w : World) (hc : w.cell? ⟨p, 0, none⟩ = some (.int .i64 x)) (hz : w.frozen? ⟨p, 0, none⟩ = false) (hc2 : w.cell? ⟨q, 0, none⟩ = some (.map m)) (hz2 : w.frozen? ⟨q, 0, none⟩ = false) (hpq : ¬ q = p) (hp : p < w.heap.size) (hq : q < w.heap.size) :
    CallsD Try.prog 102 #[.pointer (some ⟨p, 0, none⟩), .pointer (some ⟨q, 0, none⟩)] (.panicking [wrongP at_]) w fun e u' w' =>
      e = .returned (.tuple #[]) ∧ u' = .panicking [{ v := .iface 122 (.agg #[.int .i64 at_]), recovered := true }] ∧ w' = ((w.alloc (.cells #[.int .i64 at_] 122)).setCell ⟨p, 0, none⟩ (.int .i64 at_)).setCell ⟨q, 0, none⟩ (.map none) := by
  refine callsD_of_wpS Try.func102 rfl fun c₀ cs hu => ?_
  unfold wrongP at hu
  have hta := assert_yes at_
  have hB : Below w.heap.size w (w.alloc (.cells #[.int .i64 at_] 122)) := (Below.refl _ _).alloc (Nat.le_refl _) _
  have h1 := (hB.cell (p := ⟨p, 0, none⟩) hp).trans hc
  have h2 := (hB.cell (p := ⟨q, 0, none⟩) hq).trans hc2
  have h3 := (hB.frozen (p := ⟨p, 0, none⟩) hp).trans hz
  have h4 := (hB.frozen (p := ⟨q, 0, none⟩) hq).trans hz2
  have h5 : (w.alloc (.cells #[.int .i64 at_] 122)).cell? ⟨w.heap.size, 0, none⟩ = some (.int .i64 at_) := World.cell?_alloc_at _ _ _ _ rfl
  clear hB
  apply wpS_seq
  apply wpS_region
  simp [wpOpsS, go_sem, recoverD, hu, Try.ntmps102, Exit.thenS, hta]
  apply wpS_seq
  apply wpS_region
  simp [wpOpsS, go_sem, Exit.thenS]
  refine wpS_cond (t := true) (by simp [Act.eval, Array.replicate]) ?_
  simp only [if_true]
  apply wpS_region
  simp [wpOpsS, go_sem, Array.replicate, h1, h2, h3, h4, h5, hpq, bodyPostS, results, Try.results102]
set_option maxRecDepth 100000 in
set_option maxHeartbeats 4000000 in
theorem catch_idle (p q : Nat) (w : World) :
    CallsD Try.prog 102 #[.pointer (some ⟨p, 0, none⟩), .pointer (some ⟨q, 0, none⟩)] .returning w fun e u' w' =>
      e = .returned (.tuple #[]) ∧ u' = .returning ∧ w' = w.alloc (.cells #[.int .i64 0] 122) := by
  refine callsD_of_wpS Try.func102 rfl fun c₀ cs hu => ?_
  have hta := assert_no
  apply wpS_seq
  apply wpS_region
  simp [wpOpsS, go_sem, recoverD, hu, Try.ntmps102, Exit.thenS, hta]
  apply wpS_seq
  apply wpS_region
  simp [wpOpsS, go_sem, Exit.thenS]
  refine wpS_cond (t := false) (by simp [Act.eval, Array.replicate]) ?_
  simp only [Bool.false_eq_true, if_false]
  refine wpS_of_wp (wp_skip ?_)
  cases c₀
  simp_all [bodyPostS, results, Try.results102]
set_option maxRecDepth 100000 in
theorem end_panic {N1 N2 : Nat} {W : World} {x at_ : Int} {m : Option Nat} {tmps : Array Value} {R : Ending → World → Prop} (b1 : Blk W N1 #[.int .i64 x] 3) (b2 : Blk W N2 #[.map m] 107) (h6 : tmps[6]? = some (.pointer (some ⟨N1, 0, none⟩))) (h7 : tmps[7]? = some (.pointer (some ⟨N2, 0, none⟩)))
    (hR : R (.returned (.tuple #[.int .i64 at_, .map none])) (((W.alloc (.cells #[.int .i64 at_] 122)).setCell ⟨N1, 0, none⟩ (.int .i64 at_)).setCell ⟨N2, 0, none⟩ (.map none))) :
    bodyPostD Try.prog Try.f81 R (Exit.panic [wrongP at_]) ⟨tmps, [{ target := .fn (.func 102) #[.pointer (some ⟨N1, 0, none⟩), .pointer (some ⟨N2, 0, none⟩)], args := #[] }]⟩ W := by
  have hne : N1 ≠ N2 := b1.ne b2 (by decide)
  have k1 : (((W.alloc (.cells #[.int .i64 at_] 122)).setCell ⟨N1, 0, none⟩ (.int .i64 at_)).setCell ⟨N2, 0, none⟩ (.map none)).cell? ⟨N1, 0, none⟩ = some (.int .i64 at_) := (((b1.alloc _).set 0 _).other _ hne).cell 0
  have k2 : (((W.alloc (.cells #[.int .i64 at_] 122)).setCell ⟨N1, 0, none⟩ (.int .i64 at_)).setCell ⟨N2, 0, none⟩ (.map none)).cell? ⟨N2, 0, none⟩ = some (.map none) := (((b2.alloc _).other _ (Ne.symm hne)).set 0 _).cell 0
  refine leaves_cons (f := 102) (args := #[.pointer (some ⟨N1, 0, none⟩), .pointer (some ⟨N2, 0, none⟩)]) (by simp) (by simp [go_sem]) ?_
  refine (catch_panicking N1 N2 x at_ m W (b1.cell 0) (b1.frozen 0) (b2.cell 0) (b2.frozen 0) (Ne.symm hne) b1.lt b2.lt).mono ?_
  rintro e u' w'' ⟨rfl, rfl, rfl⟩
  generalize ((W.alloc (.cells #[.int .i64 at_] 122)).setCell ⟨N1, 0, none⟩ (.int .i64 at_)).setCell ⟨N2, 0, none⟩ (.map none) = W2 at *
  simp [Leaves, settle, results, Try.results81, go_sem, k1, k2, h6, h7]
  exact hR
set_option maxRecDepth 100000 in
theorem end_ret {N1 N2 : Nat} {W : World} {c : Int} {u : Value} {tmps : Array Value} {R : Ending → World → Prop} (b1 : Blk W N1 #[.int .i64 c] 3) (b2 : Blk W N2 #[u] 107) (h6 : tmps[6]? = some (.pointer (some ⟨N1, 0, none⟩))) (h7 : tmps[7]? = some (.pointer (some ⟨N2, 0, none⟩)))
    (hR : R (.returned (.tuple #[.int .i64 c, u])) (W.alloc (.cells #[.int .i64 0] 122))) :
    bodyPostD Try.prog Try.f81 R Exit.ret ⟨tmps, [{ target := .fn (.func 102) #[.pointer (some ⟨N1, 0, none⟩), .pointer (some ⟨N2, 0, none⟩)], args := #[] }]⟩ W := by
  have k1 : (W.alloc (.cells #[.int .i64 0] 122)).cell? ⟨N1, 0, none⟩ = some (.int .i64 c) := (b1.alloc _).cell 0
  have k2 : (W.alloc (.cells #[.int .i64 0] 122)).cell? ⟨N2, 0, none⟩ = some u := (b2.alloc _).cell 0
  refine leaves_cons (f := 102) (args := #[.pointer (some ⟨N1, 0, none⟩), .pointer (some ⟨N2, 0, none⟩)]) (by simp) (by simp [go_sem]) ?_
  refine (catch_idle N1 N2 W).mono ?_
  rintro e u' w'' ⟨rfl, rfl, rfl⟩
  generalize W.alloc (.cells #[.int .i64 0] 122) = W2 at *
  simp [Leaves, settle, results, Try.results81, go_sem, k1, k2, h6, h7]
  exact hR
/-- What check answers. -/
def checkV (p : ProgD) (rows : List RowD) (l : List StepD) : Int :=
  if validB p = true ∧ l.length ≤ 8192 then (if l.length = 0 then 0 else wrongV rows l p.vars.toNat l.length 0 (fun _ => -1)) else -2
/-- The used rows as a value: a map where the proof holds, none otherwise. -/
def UsedR (w : World) (u : Value) (R : Nat) (c : Int) (b : Nat → Bool) : Prop := (c = -1 ∧ ∃ M, u = .map (some M) ∧ UsedAt w M R b) ∨ (c ≠ -1 ∧ u = .map none)
def Checked (W w' : World) (e : Ending) (R : Nat) (c : Int) (b : Nat → Bool) : Prop := ∃ u, e = .returned (.tuple #[.int .i64 c, u]) ∧ UsedR w' u R c b ∧ Below W.heap.size W w'
theorem a12_none : (a12 fun _ => encP (-1)).toArray = #[.int .i64 0, .int .i64 0, .int .i64 0, .int .i64 0, .int .i64 0, .int .i64 0, .int .i64 0, .int .i64 0, .int .i64 0, .int .i64 0, .int .i64 0, .int .i64 0] := rfl
set_option maxRecDepth 100000 in
set_option maxHeartbeats 4000000 in
theorem check_any (v vr vl : Value) (p : ProgD) (rows : List RowD) (l : List StepD) (w : World) (hv : ProgV w v p) (hr : RowsAt w vr rows) (hl : StepsAt w vl l) (hok : validB p = true → ∃ n : Nat, p.vars = n ∧ RowsOK n rows) :
    Calls Try.prog 81 #[v, vr, vl] w fun e w' => Checked w w' e rows.length (checkV p rows l) (usedV l l.length 0 (fun _ => false)) := by
  have hmf : ∀ (fn : Fn) (first cap : Array Value) (w : World), (Instr.makeFunc fn first cap).run Try.prog w = .ok (.func fn first cap) w := fun _ _ _ _ => rfl
  have hx := fun W (hW : Below w.heap.size w W) => pvalid_all v p W (hv.below hW)
  have HX := Lib.hid hx
  have HV := Lib.hid hv
  have HOK := Lib.hid hok
  clear hx hok
  obtain ⟨va, vg, rfl, hvr, hvg⟩ := hv
  obtain ⟨la, lc, rfl, hl1, hl2⟩ := (show SlicesLen vl l.length from hl.len)
  obtain ⟨ra, rc, rfl, -, -⟩ := (show SlicesLen vr rows.length from hr.len)
  unfold maxLen at hl2
  have hB3 : Below w.heap.size w (((w.alloc (.cells #[.int .i64 p.vars, va, vg] 29)).alloc (.cells #[.int .i64 0] 3)).alloc (.cells #[.map none] 107)) := (((Below.refl _ _).alloc (Nat.le_refl _) _).alloc (by simp) _).alloc (by simp; omega) _
  have b0 : Blk (((w.alloc (.cells #[.int .i64 p.vars, va, vg] 29)).alloc (.cells #[.int .i64 0] 3)).alloc (.cells #[.map none] 107)) w.heap.size #[.int .i64 p.vars, va, vg] 29 := ((Blk.new _ _ _).alloc _).alloc _
  have b1 : Blk (((w.alloc (.cells #[.int .i64 p.vars, va, vg] 29)).alloc (.cells #[.int .i64 0] 3)).alloc (.cells #[.map none] 107)) (w.heap.size + 1) #[.int .i64 0] 3 := (Blk.newAt _ _ _ (by simp)).alloc _
  have b2 : Blk (((w.alloc (.cells #[.int .i64 p.vars, va, vg] 29)).alloc (.cells #[.int .i64 0] 3)).alloc (.cells #[.map none] 107)) (w.heap.size + 1 + 1) #[.map none] 107 := Blk.newAt _ _ _ (by simp)
  have hz : (((w.alloc (.cells #[.int .i64 p.vars, va, vg] 29)).alloc (.cells #[.int .i64 0] 3)).alloc (.cells #[.map none] 107)).heap.size = w.heap.size + 3 := by simp
  have HB := Lib.hid (And.intro hB3 (And.intro b0 (And.intro b1 (And.intro b2 hz))))
  clear hB3 b0 b1 b2 hz
  cases hvb : validB p with
  | false =>
    have hcv : checkV p rows l = -2 := by unfold checkV; rw [hvb]; simp
    rw [hcv]
    have HY := Lib.hid (HX.out _ HB.out.1)
    clear hcv hvr hvg hr hl HV HOK HX
    go_enter_defers Try.func81, Try.ntmps81
    go_wp2_with fail
    refine (HY.out).mono ?_
    rw [hvb]
    rintro e w1 ⟨rfl, hB1⟩
    have HW := Lib.hid (And.intro (HB.out.1.trans (hB1.mono HB.out.1.size)) (And.intro (HB.out.2.2.1.below hB1 HB.out.2.2.1.lt) (HB.out.2.2.2.1.below hB1 HB.out.2.2.2.1.lt)))
    clear hB1
    have c1 := HW.out.2.1.cell 0
    have c2 := HW.out.2.2.cell 0
    have f1 := HW.out.2.1.frozen 0
    have f2 := HW.out.2.2.frozen 0
    simp only [List.getElem?_toArray, List.getElem?_cons_zero] at c1 c2
    go_wp2
    have HE : Hid (Below w.heap.size w ((w1.setCell ⟨w.heap.size + 1, 0, none⟩ (.int .i64 (-2))).setCell ⟨w.heap.size + 1 + 1, 0, none⟩ (.map none))) := (HW.out.1.setCell (by simp) _).setCell (by simp; omega) _
    have k1 : ((w1.setCell ⟨w.heap.size + 1, 0, none⟩ (.int .i64 (-2))).setCell ⟨w.heap.size + 1 + 1, 0, none⟩ (.map none)).cell? ⟨w.heap.size + 1, 0, none⟩ = some (.int .i64 (-2)) := ((HW.out.2.1.set 0 _).other _ (by simp)).cell 0
    have k2 : ((w1.setCell ⟨w.heap.size + 1, 0, none⟩ (.int .i64 (-2))).setCell ⟨w.heap.size + 1 + 1, 0, none⟩ (.map none)).cell? ⟨w.heap.size + 1 + 1, 0, none⟩ = some (.map none) := ((HW.out.2.2.other _ (by simp)).set 0 _).cell 0
    generalize (w1.setCell ⟨w.heap.size + 1, 0, none⟩ (.int .i64 (-2))).setCell ⟨w.heap.size + 1 + 1, 0, none⟩ (.map none) = W2 at *
    clear c1 c2 f1 f2 HW
    simp [bodyPostD, Leaves, results, Try.results81, go_sem, k1, k2]
    exact ⟨_, rfl, .inr ⟨by decide, rfl⟩, HE.out⟩
  | true =>
    by_cases hlen : l.length ≤ 8192
    · have dl : decide ((8192 : Int) < (l.length : Int)) = false := decide_eq_false (by omega)
      by_cases h0 : l.length = 0
      · have d0 : Hid (decide (0 < l.length) = false) := decide_eq_false (by omega)
        have hcv : checkV p rows l = 0 := by unfold checkV; rw [if_pos ⟨hvb, hlen⟩, if_pos h0]
        rw [hcv]
        have HY := Lib.hid (HX.out _ HB.out.1)
        obtain ⟨n, hn, hro⟩ := HOK.out hvb
        obtain ⟨vars, prows, gain⟩ := p
        simp only at *
        subst hn
        have hmm := @run_makeMap Try.prog
        have HL := Lib.hid (And.intro hr (And.intro hl hro))
        have H0 := Lib.hid h0
        clear hcv hvr hvg hr hl HV HOK HX hro h0
        go_enter_defers Try.func81, Try.ntmps81
        go_wp2_with fail
        refine (HY.out).mono ?_
        rw [hvb]
        rintro e w1 ⟨rfl, hB1⟩
        have HW := Lib.hid (And.intro (HB.out.1.trans (hB1.mono HB.out.1.size)) (And.intro (HB.out.2.1.below hB1 HB.out.2.1.lt) (And.intro (HB.out.2.2.1.below hB1 HB.out.2.2.1.lt) (HB.out.2.2.2.1.below hB1 HB.out.2.2.2.1.lt))))
        clear hB1 HB HY
        have c0 := HW.out.2.1.cell 0
        simp only [List.getElem?_toArray, List.getElem?_cons_zero] at c0
        go_wp2_with fail
        have kB : Below w1.heap.size w1 ((w1.alloc (.map #[] 0)).alloc (.cells #[.int .i64 (n : Int), .slice ra rows.length rc, .slice la l.length lc, .map (some w1.heap.size)] 126)) := ((Below.refl _ _).alloc (Nat.le_refl _) _).alloc (by simp) _
        have kc : Blk ((w1.alloc (.map #[] 0)).alloc (.cells #[.int .i64 (n : Int), .slice ra rows.length rc, .slice la l.length lc, .map (some w1.heap.size)] 126)) (w1.heap.size + 1) #[.int .i64 (n : Int), .slice ra rows.length rc, .slice la l.length lc, .map (some w1.heap.size)] 126 := Blk.newAt _ _ _ (by simp)
        have ku : UsedAt ((w1.alloc (.map #[] 0)).alloc (.cells #[.int .i64 (n : Int), .slice ra rows.length rc, .slice la l.length lc, .map (some w1.heap.size)] 126)) w1.heap.size rows.length (fun _ => false) := World.ownsMap.alloc (UsedAt.empty w1 rows.length) _
        have HU := Lib.hid (And.intro (HW.out.1.trans (kB.mono HW.out.1.size)) (And.intro kc (And.intro ku (And.intro (HW.out.2.2.1.below kB HW.out.2.2.1.lt) (HW.out.2.2.2.below kB HW.out.2.2.2.lt)))))
        have hz1 : w.heap.size ≤ w1.heap.size := HW.out.1.size
        have hz2 : w.heap.size + 1 < w1.heap.size := HW.out.2.2.1.lt
        have hz3 : w.heap.size + 1 + 1 < w1.heap.size := HW.out.2.2.2.lt
        clear kB kc ku HW c0
        rw [d0.out]
        refine (need_no 0 _).mono ?_
        rintro e w' ⟨rfl, rfl⟩
        go_wp2_with fail
        generalize ((w1.alloc (.map #[] 0)).alloc (.cells #[.int .i64 (n : Int), .slice ra rows.length rc, .slice la l.length lc, .map (some w1.heap.size)] 126)) = X at *
        refine end_panic HU.out.2.2.2.1 HU.out.2.2.2.2 rfl rfl ?_
        exact ⟨_, rfl, .inr ⟨by decide, rfl⟩, (((HU.out.1.alloc HU.out.1.size _).setCell (by simp) _).setCell (by simp; omega) _)⟩
      · have d0 : Hid (decide (0 < l.length) = true) := decide_eq_true (by omega)
        have hcv : checkV p rows l = wrongV rows l p.vars.toNat l.length 0 (fun _ => -1) := by unfold checkV; rw [if_pos ⟨hvb, hlen⟩, if_neg h0]
        rw [hcv]
        have HY := Lib.hid (HX.out _ HB.out.1)
        obtain ⟨n, hn, hro⟩ := HOK.out hvb
        obtain ⟨vars, prows, gain⟩ := p
        simp only at *
        subst hn
        rw [Int.toNat_natCast]
        have hmm := @run_makeMap Try.prog
        have HL := Lib.hid (And.intro hr (And.intro hl hro))
        have H0 := Lib.hid h0
        clear hcv hvr hvg hr hl HV HOK HX hro h0
        go_enter_defers Try.func81, Try.ntmps81
        go_wp2_with fail
        refine (HY.out).mono ?_
        rw [hvb]
        rintro e w1 ⟨rfl, hB1⟩
        have HW := Lib.hid (And.intro (HB.out.1.trans (hB1.mono HB.out.1.size)) (And.intro (HB.out.2.1.below hB1 HB.out.2.1.lt) (And.intro (HB.out.2.2.1.below hB1 HB.out.2.2.1.lt) (HB.out.2.2.2.1.below hB1 HB.out.2.2.2.1.lt))))
        clear hB1 HB HY
        have c0 := HW.out.2.1.cell 0
        simp only [List.getElem?_toArray, List.getElem?_cons_zero] at c0
        go_wp2_with fail
        have kB : Below w1.heap.size w1 ((w1.alloc (.map #[] 0)).alloc (.cells #[.int .i64 (n : Int), .slice ra rows.length rc, .slice la l.length lc, .map (some w1.heap.size)] 126)) := ((Below.refl _ _).alloc (Nat.le_refl _) _).alloc (by simp) _
        have kc : Blk ((w1.alloc (.map #[] 0)).alloc (.cells #[.int .i64 (n : Int), .slice ra rows.length rc, .slice la l.length lc, .map (some w1.heap.size)] 126)) (w1.heap.size + 1) #[.int .i64 (n : Int), .slice ra rows.length rc, .slice la l.length lc, .map (some w1.heap.size)] 126 := Blk.newAt _ _ _ (by simp)
        have ku : UsedAt ((w1.alloc (.map #[] 0)).alloc (.cells #[.int .i64 (n : Int), .slice ra rows.length rc, .slice la l.length lc, .map (some w1.heap.size)] 126)) w1.heap.size rows.length (fun _ => false) := World.ownsMap.alloc (UsedAt.empty w1 rows.length) _
        have HU := Lib.hid (And.intro (HW.out.1.trans (kB.mono HW.out.1.size)) (And.intro kc (And.intro ku (And.intro (HW.out.2.2.1.below kB HW.out.2.2.1.lt) (HW.out.2.2.2.below kB HW.out.2.2.2.lt)))))
        have hz1 : w.heap.size ≤ w1.heap.size := HW.out.1.size
        have hz2 : w.heap.size + 1 < w1.heap.size := HW.out.2.2.1.lt
        have hz3 : w.heap.size + 1 + 1 < w1.heap.size := HW.out.2.2.2.lt
        clear kB kc ku HW c0
        have hwk : Calls Try.prog 104 #[.pointer (some ⟨w1.heap.size + 1, 0, none⟩), .int .i64 0, .agg #[.int .i64 0, .int .i64 0, .int .i64 0, .int .i64 0, .int .i64 0, .int .i64 0, .int .i64 0, .int .i64 0, .int .i64 0, .int .i64 0, .int .i64 0, .int .i64 0]] ((w1.alloc (.map #[] 0)).alloc (.cells #[.int .i64 (n : Int), .slice ra rows.length rc, .slice la l.length lc, .map (some w1.heap.size)] 126)) fun e w' => Gone ((w1.alloc (.map #[] 0)).alloc (.cells #[.int .i64 (n : Int), .slice ra rows.length rc, .slice la l.length lc, .map (some w1.heap.size)] 126)) w' e w1.heap.size rows.length (wrongV rows l n l.length 0 (fun _ => -1)) (usedV l l.length 0 (fun _ => false)) :=
          walk_any HL.out.1 HL.out.2.1 HL.out.2.2 (by omega) l.length 0 (fun _ => -1) (fun _ => false) _ _ _ (by omega) (by have := H0.out; omega) HU.out.2.1 HU.out.1 hz1 (fun k => ⟨.inr (.inr rfl), fun _ => rfl⟩) HU.out.2.2.1
        have hbd : ∀ W, (Instr.build 130 #[]).run Try.prog W = .ok (.agg #[.int .i64 0, .int .i64 0, .int .i64 0, .int .i64 0, .int .i64 0, .int .i64 0, .int .i64 0, .int .i64 0, .int .i64 0, .int .i64 0, .int .i64 0, .int .i64 0]) W := fun _ => by kernel_rfl
        have HWK := Lib.hid hwk
        clear hwk
        rw [d0.out]
        refine (need_yes 0 _).mono ?_
        rintro e w' ⟨rfl, rfl⟩
        go_wp2_with fail
        refine HWK.out.mono ?_
        rintro e w' ⟨b', hu, hf, (⟨h1, rfl, rfl⟩ | ⟨h1, rfl⟩)⟩
        · have kB := HU.out.1.trans (hf.below (B := w.heap.size) HU.out.1.size (fun k e => by omega))
          have HZ := Lib.hid (And.intro kB (And.intro (HU.out.2.1.frm hf (by omega)) (And.intro hu (And.intro (HU.out.2.2.2.1.frm hf (by omega)) (HU.out.2.2.2.2.frm hf (by omega))))))
          have hz4 : w.heap.size ≤ w'.heap.size := HZ.out.1.size
          clear kB hu hf HU HWK hbd hmf hmm HL
          have y3 := HZ.out.2.1.cell 3
          have y1 := HZ.out.2.2.2.1.cell 0
          have y2 := HZ.out.2.2.2.2.cell 0
          have g1 := HZ.out.2.2.2.1.frozen 0
          have g2 := HZ.out.2.2.2.2.frozen 0
          simp only [List.getElem?_toArray, List.getElem?_cons_zero, List.getElem?_cons_succ] at y1 y2 y3
          go_wp2_with fail
          go_region
          all_goals
            go_wp2
            refine end_ret (N1 := w.heap.size + 1) (N2 := w.heap.size + 1 + 1) (c := -1) (u := .map (some w1.heap.size)) ?_ ?_ rfl rfl ?_
            · first
                | exact ((HZ.out.2.2.2.1.set 0 _).other _ (by simp))
                | exact ((HZ.out.2.2.2.1.other _ (by simp)).set 0 _)
            · first
                | exact ((HZ.out.2.2.2.2.other _ (by simp)).set 0 _)
                | exact ((HZ.out.2.2.2.2.set 0 _).other _ (by simp))
            · refine ⟨_, by rw [h1], .inl ⟨h1, _, rfl, ?_⟩, ?_⟩
              · refine World.ownsMap.alloc ?_ _
                exact HZ.out.2.2.1.frm (F := fun k => k = w.heap.size + 1 ∨ k = w.heap.size + 1 + 1) ((((Frm.refl _ _).setCell (fun _ => by simp) _).setCell (fun _ => by simp) _).drew) (by omega)
              · exact ((((HZ.out.1.setCell (by simp) _).setCell (by simp; omega) _).drew).alloc (by simp; omega) _)
        · have kB := HU.out.1.trans (hf.below (B := w.heap.size) HU.out.1.size (fun k e => by omega))
          go_wp2_with fail
          refine end_panic (HU.out.2.2.2.1.frm hf (by omega)) (HU.out.2.2.2.2.frm hf (by omega)) rfl rfl ?_
          exact ⟨_, rfl, .inr ⟨by omega, rfl⟩, (((kB.alloc kB.size _).setCell (by simp) _).setCell (by simp; omega) _)⟩
    · have dl : decide ((8192 : Int) < (l.length : Int)) = true := decide_eq_true (by omega)
      have hcv : checkV p rows l = -2 := by unfold checkV; rw [if_neg (fun h => hlen h.2)]
      rw [hcv]
      have HY := Lib.hid (HX.out _ HB.out.1)
      clear hcv hvr hvg hr hl HV HOK HX
      go_enter_defers Try.func81, Try.ntmps81
      go_wp2_with fail
      refine (HY.out).mono ?_
      rw [hvb]
      rintro e w1 ⟨rfl, hB1⟩
      have HW := Lib.hid (And.intro (HB.out.1.trans (hB1.mono HB.out.1.size)) (And.intro (HB.out.2.2.1.below hB1 HB.out.2.2.1.lt) (HB.out.2.2.2.1.below hB1 HB.out.2.2.2.1.lt)))
      clear hB1
      have c1 := HW.out.2.1.cell 0
      have c2 := HW.out.2.2.cell 0
      have f1 := HW.out.2.1.frozen 0
      have f2 := HW.out.2.2.frozen 0
      simp only [List.getElem?_toArray, List.getElem?_cons_zero] at c1 c2
      go_wp2
      have HE : Hid (Below w.heap.size w ((w1.setCell ⟨w.heap.size + 1, 0, none⟩ (.int .i64 (-2))).setCell ⟨w.heap.size + 1 + 1, 0, none⟩ (.map none))) := (HW.out.1.setCell (by simp) _).setCell (by simp; omega) _
      have k1 : ((w1.setCell ⟨w.heap.size + 1, 0, none⟩ (.int .i64 (-2))).setCell ⟨w.heap.size + 1 + 1, 0, none⟩ (.map none)).cell? ⟨w.heap.size + 1, 0, none⟩ = some (.int .i64 (-2)) := ((HW.out.2.1.set 0 _).other _ (by simp)).cell 0
      have k2 : ((w1.setCell ⟨w.heap.size + 1, 0, none⟩ (.int .i64 (-2))).setCell ⟨w.heap.size + 1 + 1, 0, none⟩ (.map none)).cell? ⟨w.heap.size + 1 + 1, 0, none⟩ = some (.map none) := ((HW.out.2.2.other _ (by simp)).set 0 _).cell 0
      generalize (w1.setCell ⟨w.heap.size + 1, 0, none⟩ (.int .i64 (-2))).setCell ⟨w.heap.size + 1 + 1, 0, none⟩ (.map none) = W2 at *
      clear c1 c2 f1 f2 HW
      simp [bodyPostD, Leaves, results, Try.results81, go_sem, k1, k2]
      exact ⟨_, rfl, .inr ⟨by decide, rfl⟩, HE.out⟩
end Go.Proofs.Ytblmpmapcdpaiaa
end
section
/- package proof: Wrong, Refutes, Size. -/
namespace Go.Proofs.Ytblmpmapcdpaiaa
open Go.RowKit Lib

theorem validB_rows {p : ProgD} (h : validB p = true) : ∃ n : Nat, p.vars = n ∧ RowsOK n p.rows := by
  obtain ⟨v1, v2, v3, v4, v5, v6⟩ := validB_true h
  obtain ⟨n, hn⟩ := Int.eq_ofNat_of_zero_le v1
  refine ⟨n, hn, by omega, by omega, fun r hr => ?_⟩
  obtain ⟨h1, h2, h3, h4⟩ := rightB_true (v4 r hr)
  exact ⟨by omega, h2, by omega, by omega⟩
def wrongD (p : ProgD) (l : List StepD) : Int := checkV p p.rows l
set_option maxRecDepth 100000 in
theorem wrong_any (v vl : Value) (p : ProgD) (l : List StepD) (w : World) (hv : ProgV w v p) (hl : StepsAt w vl l) :
    Calls Try.prog 50 #[v, vl] w fun e w' => e = .returned (.int .i64 (wrongD p l)) ∧ Below w.heap.size w w' := by
  obtain ⟨vr, vg, rfl, hvr, hvg⟩ := hv
  obtain ⟨ra, rc, rfl, -, -⟩ := (show SlicesLen vr p.rows.length from hvr.len)
  obtain ⟨ga, gc, rfl, -, -⟩ := (show SlicesLen vg p.gain.length from hvg.len)
  obtain ⟨la, lc, rfl, -, -⟩ := (show SlicesLen vl l.length from hl.len)
  have hB0 : Below w.heap.size w (w.alloc (.cells #[.int .i64 p.vars, .slice ra p.rows.length rc, .slice ga p.gain.length gc] 29)) := (Below.refl _ _).alloc (Nat.le_refl _) _
  have hx := check_any _ _ _ p p.rows l _ ⟨_, _, rfl, hvr.below hB0, hvg.below hB0⟩ (hvr.below hB0) (hl.below hB0) validB_rows
  unfold wrongD
  generalize checkV p p.rows l = c at hx
  clear hvr hvg hl
  go_enter Try.func50, Try.ntmps50
  go_wp2_with fail
  refine hx.mono ?_
  rintro e w' ⟨u, rfl, -, hB⟩
  go_wp2
  go_ret
  exact ⟨rfl, hB0.trans (hB.mono hB0.size)⟩
set_option maxRecDepth 100000 in
theorem prefutes_any (v vl : Value) (p : ProgD) (l : List StepD) (w : World) (hv : ProgV w v p) (hl : StepsAt w vl l) :
    Calls Try.prog 48 #[v, vl] w fun e w' => e = .returned (.bool (wrongD p l == -1)) ∧ Below w.heap.size w w' := by
  obtain ⟨vr, vg, rfl, hvr, hvg⟩ := hv
  obtain ⟨ra, rc, rfl, -, -⟩ := (show SlicesLen vr p.rows.length from hvr.len)
  obtain ⟨ga, gc, rfl, -, -⟩ := (show SlicesLen vg p.gain.length from hvg.len)
  have hB0 : Below w.heap.size w (w.alloc (.cells #[.int .i64 p.vars, .slice ra p.rows.length rc, .slice ga p.gain.length gc] 29)) := (Below.refl _ _).alloc (Nat.le_refl _) _
  have hx := wrong_any _ _ p l _ ⟨_, _, rfl, hvr.below hB0, hvg.below hB0⟩ (hl.below hB0)
  generalize wrongD p l = c at hx
  clear hvr hvg hl
  go_enter Try.func48, Try.ntmps48
  go_wp2_with fail
  refine hx.mono ?_
  rintro e w' ⟨rfl, hB⟩
  go_wp2
  go_ret
  exact ⟨rfl, hB0.trans (hB.mono hB0.size)⟩
/-- How many of the first m steps are leaves. -/
def leavesK (l : List StepD) : Nat → Nat
  | 0 => 0
  | m + 1 => leavesK l m + if (l.getD m ⟨0, 0, 0, []⟩).var = -1 then 1 else 0
theorem leavesK_le (l : List StepD) : ∀ m, leavesK l m ≤ m := by
  intro m
  induction m with
  | zero => exact Nat.le_refl _
  | succ m ih => simp only [leavesK]; split <;> omega
set_option maxRecDepth 100000 in
set_option maxHeartbeats 1000000 in
theorem size_any (vl : Value) (l : List StepD) (w : World) (hl : StepsAt w vl l) :
    Calls Try.prog 46 #[vl] w fun e w' => e = .returned (.tuple #[.int .i64 ((l.length : Int) - (leavesK l l.length : Int)), .int .i64 (leavesK l l.length : Int)]) ∧ Below w.heap.size w w' := by
  obtain ⟨la, lc, rfl, hl1, hl2⟩ := (show SlicesLen vl l.length from hl.len)
  unfold maxLen at hl2
  have HL := Lib.hid hl
  clear hl
  go_enter Try.func46, Try.ntmps46
  go_wp2
  go_loopw [4, 9] (fun u4 u9 wr => ∃ k : Nat, k ≤ l.length ∧ u9 = .int .i64 k ∧ u4 = .int .i64 (leavesK l k : Nat) ∧ Below w.heap.size w wr) (fun _ u9 _ => (l.length - Go.RowKit.intOf u9).toNat)
  case atStart => exact ⟨0, by omega, rfl, rfl, Below.refl _ _⟩
  case round =>
    obtain ⟨k, hk, rfl, rfl, hB⟩ := hrel
    have hlk := leavesK_le l k
    have hz := hB.size
    by_cases hkl : k < l.length
    · have hs := getD_some (⟨0, 0, 0, []⟩ : StepD) hkl
      have HN : Hid (leavesK l (k + 1) = leavesK l k + if (l.getD k ⟨0, 0, 0, []⟩).var = -1 then 1 else 0) := rfl
      obtain ⟨b, off, vw, rfl, s0, s1, s2, s3, hwt⟩ := (HL.out.below hB).getC hs
      obtain ⟨wa, wc, rfl, -, -⟩ := hwt.len
      clear hwt
      generalize l.getD k ⟨0, 0, 0, []⟩ = s at *
      have HS := Lib.hid hs
      have hkk : (0 : Int) ≤ (k : Int) ∧ (k : Int) < (l.length : Int) := by omega
      clear hs
      have hB2 : ∀ o, Below w.heap.size w (wr.alloc o) := fun o => hB.alloc hz o
      have HB2 := Lib.hid hB2
      clear hB2 hB
      by_cases hv : s.var = -1
      · have q : (s.var == -1) = true := beq_iff_eq.2 hv
        rw [if_pos hv] at HN
        clear hv
        go_wp2
        go_roundw
        case rel => exact ⟨k + 1, by omega, by go_num, by rw [HN.out]; go_num, HB2.out _⟩
        case measure => simp [Go.RowKit.intOf]; omega
      · have q : (s.var == -1) = false := beq_eq_false_iff_ne.2 hv
        rw [if_neg hv] at HN
        clear hv
        go_wp2
        go_roundw
        case rel => exact ⟨k + 1, by omega, by go_num, by rw [HN.out]; go_num, HB2.out _⟩
        case measure => simp [Go.RowKit.intOf]; omega
    · obtain rfl : k = l.length := by omega
      have hw : IntKind.i64.wrap ((l.length : Int) - (leavesK l l.length : Int)) = (l.length : Int) - (leavesK l l.length : Int) := by rw [IntKind.wrap_i64]; omega
      go_wp2
      go_ret2
      exact ⟨rfl, hB⟩
end Go.Proofs.Ytblmpmapcdpaiaa
end
