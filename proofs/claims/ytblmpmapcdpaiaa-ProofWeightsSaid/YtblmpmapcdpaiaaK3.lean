/- package proof: leaf. -/
import Derived.Test.YtblmpmapcdpaiaaK0
import Derived.Test.YtblmpmapcdpaiaaB3
import Derived.Deep.MidRow
import Derived.StillTailTactics
namespace Go.Proofs.Ytblmpmapcdpaiaa
open Go.RowKit Lib

theorem Blk.range {W : World} {B : Nat} {cs : List Value} {t : TypeId} (h : Blk W B cs.toArray t) : W.rangeAt B 0 cs := fun j v hj => by
  rw [Nat.zero_add, h.cell j]; simpa using hj
/-- An array of twelve numbers. -/
def a12 (g : Nat → Int) : List Value := (List.range 12).map fun k => .int .i64 (g k)
theorem a12_get {g : Nat → Int} {k : Nat} (h : k < 12) : (a12 g)[k]? = some (.int .i64 (g k)) := by simp [a12, h]
theorem a12_len (g : Nat → Int) : (a12 g).length = 12 := by simp [a12]
theorem a12_set (g : Nat → Int) (j : Nat) (x : Int) : (a12 g).toArray.setIfInBounds j (.int .i64 x) = (a12 (fun k => if k = j then x else g k)).toArray := by
  apply Array.ext'
  simp only [Array.toList_setIfInBounds]
  apply List.ext_getElem?
  intro i
  rw [List.getElem?_set]
  by_cases hi : i < 12
  · rw [a12_get (g := fun k => if k = j then x else g k) hi, a12_len]
    by_cases e : j = i
    · subst e; rw [if_pos rfl, if_pos hi, if_pos rfl]
    · have e2 : ¬ i = j := fun h => e h.symm
      rw [if_neg e, a12_get hi, if_neg e2]
  · rw [List.getElem?_eq_none (l := a12 (fun k => if k = j then x else g k)) (by rw [a12_len]; omega)]
    split
    · rw [a12_len, if_neg (by omega)]
    · exact List.getElem?_eq_none (by rw [a12_len]; omega)
theorem load12 {W : World} {B : Nat} {g : Nat → Int} {t T : TypeId} (h : Blk W B (a12 g).toArray t) (hT : T = 129 ∨ T = 130) : (Instr.loadAt T (.pointer (some ⟨B, 0, none⟩))).run Try.prog W = .ok (.agg (a12 g).toArray) W := by
  rcases hT with rfl | rfl
  · exact run_loadAt_mid W B 0 129 (a12 g) _ h.range Try.underlying129 rfl (by rw [a12_len]; kernel_rfl)
  · exact run_loadAt_mid W B 0 130 (a12 g) _ h.range Try.underlying130 rfl (by rw [a12_len]; kernel_rfl)
theorem index12 (g : Nat → Int) : ∀ {k : Nat} (_ : k < 12) (W : World), (Instr.index 129 (.agg (a12 g).toArray) (.int .i64 (k : Int))).run Try.prog W = .ok (.int .i64 (g k)) W
  | 0, _, W => by kernel_rfl
  | 1, _, W => by kernel_rfl
  | 2, _, W => by kernel_rfl
  | 3, _, W => by kernel_rfl
  | 4, _, W => by kernel_rfl
  | 5, _, W => by kernel_rfl
  | 6, _, W => by kernel_rfl
  | 7, _, W => by kernel_rfl
  | 8, _, W => by kernel_rfl
  | 9, _, W => by kernel_rfl
  | 10, _, W => by kernel_rfl
  | 11, _, W => by kernel_rfl
  | k + 12, h, _ => absurd h (by omega)
theorem StepsAt.getC {w : World} {a : Option Addr} {len cap : Nat} {l : List StepD} (h : StepsAt w (.slice a len cap) l) {k : Nat} {s : StepD} (hk : l[k]? = some s) :
    ∃ b off vw, a = some ⟨b, off, none⟩ ∧ w.cell? ⟨b, off + k * 4, none⟩ = some (.int .i64 s.var) ∧ w.cell? ⟨b, off + k * 4 + 1, none⟩ = some (.int .i64 s.no) ∧ w.cell? ⟨b, off + k * 4 + 2, none⟩ = some (.int .i64 s.yes) ∧ w.cell? ⟨b, off + k * 4 + 3, none⟩ = some vw ∧ WtsAt w vw s.wts := by
  obtain ⟨a', cap', e, h2, h3, h4⟩ := h
  have hl : 0 < l.length := by
    refine Classical.byContradiction fun hc => ?_
    rw [List.getElem?_eq_none (by omega)] at hk; cases hk
  obtain ⟨b, off, rfl, h5⟩ := h4 hl
  obtain ⟨cs, c1, c2, vw, rfl, c3⟩ := h5 k s hk
  cases e
  exact ⟨b, off, vw, rfl, c2 0 _ rfl, c2 1 _ rfl, c2 2 _ rfl, c2 3 _ rfl, c3⟩
theorem WtsAt.getC {w : World} {a : Option Addr} {len cap : Nat} {l : List WtD} (h : WtsAt w (.slice a len cap) l) {k : Nat} {s : WtD} (hk : l[k]? = some s) :
    ∃ b off, a = some ⟨b, off, none⟩ ∧ w.cell? ⟨b, off + k * 2, none⟩ = some (.int .i64 s.row) ∧ w.cell? ⟨b, off + k * 2 + 1, none⟩ = some (.int .i64 s.times) := by
  obtain ⟨a', cap', e, h2, h3, h4⟩ := h
  have hl : 0 < l.length := by
    refine Classical.byContradiction fun hc => ?_
    rw [List.getElem?_eq_none (by omega)] at hk; cases hk
  obtain ⟨b, off, rfl, h5⟩ := h4 hl
  obtain ⟨cs, c1, c2, rfl⟩ := h5 k s hk
  cases e
  exact ⟨b, off, rfl, c2 0 _ rfl, c2 1 _ rfl⟩
theorem UsedAt.lt {W : World} {M R : Nat} {b : Nat → Bool} (h : UsedAt W M R b) : M < W.heap.size := World.ownsMap.lt h
theorem UsedAt.frm {F : Nat → Prop} {W W' : World} {M R : Nat} {b : Nat → Bool} (h : UsedAt W M R b) (hf : Frm F W W') (hM : ¬ F M) : UsedAt W' M R b := by
  have hl := h.lt
  obtain ⟨es, clock, hb, rest⟩ := h
  exact ⟨es, clock, (hf.block M hl hM).trans hb, rest⟩
theorem UsedAt.ne {W : World} {M R B : Nat} {b : Nat → Bool} {cs : Array Value} {t : TypeId} (h : UsedAt W M R b) (hB : Blk W B cs t) : B ≠ M := fun e => by
  obtain ⟨es, clock, hb, rest⟩ := h
  subst e
  rw [show W.heap[B]? = _ from hB] at hb
  cases hb
/-- What a call of leaf or walk leaves. -/
def Left (W w' : World) (e : Ending) (M R at_ : Nat) (wr : Int) (b : Nat → Bool) : Prop :=
  ∃ b', UsedAt w' M R b' ∧ Frm (fun k => k = M) W w' ∧ ((wr = -1 ∧ e = .returned (.tuple #[]) ∧ b' = b) ∨ (wr = at_ ∧ e = .panicked [wrongP at_]))
set_option maxRecDepth 100000 in
set_option maxHeartbeats 40000000 in
theorem leaf_any {W0 W : World} {cB M n at_ : Nat} {rows : List RowD} {l : List StepD} {s : StepD} {vr vl : Value} {dc : Dc} {b : Nat → Bool} (hc : Blk W cB #[.int .i64 (n : Nat), vr, vl, .map (some M)] 126) (hvr : RowsAt W0 vr rows) (hvl : StepsAt W0 vl l) (hB0 : Below W0.heap.size W0 W) (hM0 : W0.heap.size ≤ M)
    (hs : l[at_]? = some s) (hl9 : l.length ≤ 9000) (hr : RowsOK n rows) (hd : DcOK n dc) (hu : UsedAt W M rows.length b) :
    Calls Try.prog 113 #[.pointer (some ⟨cB, 0, none⟩), .int .i64 (at_ : Nat), .agg (a12 (fun k => encP (dc k))).toArray] W fun e w' => Left W w' e M rows.length at_ (if leafV rows n s dc then -1 else at_) (markW b s.wts s.wts.length) := by
  have hal : at_ < l.length := by
    refine Classical.byContradiction fun hx => ?_
    rw [List.getElem?_eq_none (by omega)] at hs; cases hs
  obtain ⟨la, lc, rfl, hl1, hl2⟩ := (show SlicesLen vl l.length from hvl.len)
  obtain ⟨ra, rc, rfl, hr1, hr2⟩ := (show SlicesLen vr rows.length from hvr.len)
  unfold maxLen at hl2 hr2
  obtain ⟨sb, so, vw, rfl, s0, s1, s2, s3, hw⟩ := hvl.getC hs
  obtain ⟨wa, wc, rfl, hw1, hw2⟩ := (show SlicesLen vw s.wts.length from hw.len)
  unfold maxLen at hw2
  have mv : ∀ {i : Nat} {u : Value}, W0.cell? ⟨sb, i, none⟩ = some u → W.cell? ⟨sb, i, none⟩ = some u := fun {i u} hx => (hB0.cell (World.block_lt_of_cell? _ _ hx)).trans hx
  have hsl : sb < W.heap.size := World.block_lt_of_cell? _ _ (mv s0)
  have c2 := hc.cell 2
  simp only [List.getElem?_toArray, List.getElem?_cons_succ, List.getElem?_cons_zero] at c2
  have hat : (0 : Int) ≤ (at_ : Int) ∧ (at_ : Int) < (l.length : Int) := by omega
  have hcl := hc.lt
  -- the three blocks of the call's own
  have kd : Blk (W.alloc (.cells (a12 (fun k => encP (dc k))).toArray 130)) W.heap.size (a12 (fun k => encP (dc k))).toArray 130 := Blk.new _ _ _
  generalize hWa : W.alloc (.cells (a12 (fun k => encP (dc k))).toArray 130) = Wa at kd
  have hFa : Frm (fun k => k = M) W Wa := hWa ▸ (Frm.refl _ W).alloc _
  have hza : Wa.heap.size = W.heap.size + 1 := by rw [← hWa]; simp
  have ca2 : Wa.cell? ⟨cB, 2, none⟩ = some (.slice (some ⟨sb, so, none⟩) l.length lc) := (hWa ▸ (Below.refl _ W).alloc (Nat.le_refl _) (.cells (a12 (fun k => encP (dc k))).toArray 130) : Below W.heap.size W Wa).cell hcl |>.trans c2
  have ma : ∀ {i : Nat} {u : Value}, W0.cell? ⟨sb, i, none⟩ = some u → Wa.cell? ⟨sb, i, none⟩ = some u := fun {i u} hx => ((hWa ▸ (Below.refl _ W).alloc (Nat.le_refl _) (.cells (a12 (fun k => encP (dc k))).toArray 130) : Below W.heap.size W Wa).cell hsl).trans (mv hx)
  replace s0 := ma s0
  replace s1 := ma s1
  replace s2 := ma s2
  replace s3 := ma s3
  have kb : Blk (Wa.alloc (.cells #[.int .i64 s.var, .int .i64 s.no, .int .i64 s.yes, .slice wa s.wts.length wc] 80)) (W.heap.size + 1) #[.int .i64 s.var, .int .i64 s.no, .int .i64 s.yes, .slice wa s.wts.length wc] 80 := Blk.newAt _ _ _ hza.symm
  have kd2 := kd.alloc (.cells #[.int .i64 s.var, .int .i64 s.no, .int .i64 s.yes, .slice wa s.wts.length wc] 80)
  have hFb : Frm (fun k => k = M) W (Wa.alloc (.cells #[.int .i64 s.var, .int .i64 s.no, .int .i64 s.yes, .slice wa s.wts.length wc] 80)) := hFa.alloc _
  have hzb : (Wa.alloc (.cells #[.int .i64 s.var, .int .i64 s.no, .int .i64 s.yes, .slice wa s.wts.length wc] 80)).heap.size = W.heap.size + 2 := by simp [hza]
  have hml := hu.lt
  have hub : UsedAt (Wa.alloc (.cells #[.int .i64 s.var, .int .i64 s.no, .int .i64 s.yes, .slice wa s.wts.length wc] 80)) M rows.length b := by
    rw [← hWa]; exact (World.ownsMap.alloc (World.ownsMap.alloc hu _) _)
  have hcb : Blk (Wa.alloc (.cells #[.int .i64 s.var, .int .i64 s.no, .int .i64 s.yes, .slice wa s.wts.length wc] 80)) cB #[.int .i64 (n : Nat), .slice ra rows.length rc, .slice (some ⟨sb, so, none⟩) l.length lc, .map (some M)] 126 := by
    rw [← hWa]; exact (hc.alloc _).alloc _
  have HWT := Lib.hid hw
  have HU := Lib.hid hu
  have HFb := Lib.hid (And.intro hFb (And.intro hub hcb))
  have HVR := Lib.hid hvr
  have HB0 := Lib.hid hB0
  generalize hlv : (if leafV rows n s dc then (-1 : Int) else (at_ : Int)) = lv
  have bad : headL s = false → Hid (lv = (at_ : Int)) := fun h => by show _ = _; rw [← hlv]; unfold leafV; rw [h]; rfl
  have good : headL s = true → Hid (lv = if (okW rows.length s.wts && overB rows n s dc) then (-1 : Int) else (at_ : Int)) := fun h => by show _ = _; rw [← hlv]; unfold leafV; rw [h]; rfl
  clear hlv
  obtain ⟨svar, sno, syes, swts⟩ := s
  simp only at s0 s1 s2 s3 kb kd2 hFb hzb hw1 hw2 HWT HFb
  clear hvl hvr hw mv ma c2 hFa hFb hub hcb hc hu hB0
  go_enter Try.func113, Try.ntmps113
  by_cases h1 : sno = 0
  · subst h1
    by_cases h2 : syes = 0
    · subst h2
      cases hin : inB (swts.length : Int) 1 8 with
      | false =>
        have hi : ∀ X, Calls Try.prog 86 #[.int .i64 (swts.length : Int), .int .i64 1, .int .i64 8] X fun e w' => e = .returned (.bool false) ∧ X = w' := fun X => by rw [← hin]; exact isIn86 _ _ _ X
        go_wp2_with fail
        refine (hi _).mono ?_
        rintro e w' ⟨rfl, rfl⟩
        go_wp2_with fail
        refine (need_no _ _).mono ?_
        rintro e w' ⟨rfl, rfl⟩
        go_wp2
        clear good kd2 kb
        exact ⟨rfl, b, HFb.out.2.1, HFb.out.1, .inr ⟨(bad (by unfold headL; simp only; rw [hin]; rfl)).out, rfl⟩⟩
      | true =>
        have hi : ∀ X, Calls Try.prog 86 #[.int .i64 (swts.length : Int), .int .i64 1, .int .i64 8] X fun e w' => e = .returned (.bool true) ∧ X = w' := fun X => by rw [← hin]; exact isIn86 _ _ _ X
        have hlen : 1 ≤ swts.length ∧ swts.length ≤ 8 := by
          unfold inB at hin
          simp only [Bool.and_eq_true, decide_eq_true_eq] at hin
          omega
        have hgood := good (by unfold headL; simp only; rw [hin]; rfl)
        go_wp2_with fail
        refine (hi _).mono ?_
        rintro e w' ⟨rfl, rfl⟩
        clear hi hin
        go_wp2_with fail
        refine (need_yes _ _).mono ?_
        rintro e w' ⟨rfl, rfl⟩
        have kc := Blk.newAt (Wa.alloc (.cells #[.int .i64 svar, .int .i64 0, .int .i64 0, .slice wa swts.length wc] 80)) (a12 (fun _ => 0)).toArray 129 hzb.symm
        have kd3 := kd2.alloc (.cells (a12 (fun _ => 0)).toArray 129)
        have hFc := HFb.out.1.alloc (.cells (a12 (fun _ => 0)).toArray 129)
        have huc : UsedAt ((Wa.alloc (.cells #[.int .i64 svar, .int .i64 0, .int .i64 0, .slice wa swts.length wc] 80)).alloc (.cells (a12 (fun _ => 0)).toArray 129)) M rows.length b := World.ownsMap.alloc HFb.out.2.1 _
        have hcc := HFb.out.2.2.alloc (.cells (a12 (fun _ => 0)).toArray 129)
        have kb3 := kb.alloc (.cells (a12 (fun _ => 0)).toArray 129)
        have hzc : ((Wa.alloc (.cells #[.int .i64 svar, .int .i64 0, .int .i64 0, .slice wa swts.length wc] 80)).alloc (.cells (a12 (fun _ => 0)).toArray 129)).heap.size = W.heap.size + 3 := by simp [hza]
        have j3 := kb3.cell 3
        simp only [List.getElem?_toArray, List.getElem?_cons_succ, List.getElem?_cons_zero] at j3
        have e12 : (a12 (fun _ => 0)).toArray = #[.int .i64 0, .int .i64 0, .int .i64 0, .int .i64 0, .int .i64 0, .int .i64 0, .int .i64 0, .int .i64 0, .int .i64 0, .int .i64 0, .int .i64 0, .int .i64 0] := rfl
        have j3' : ((Wa.alloc (.cells #[.int .i64 svar, .int .i64 0, .int .i64 0, .slice wa swts.length wc] 80)).alloc (.cells #[.int .i64 0, .int .i64 0, .int .i64 0, .int .i64 0, .int .i64 0, .int .i64 0, .int .i64 0, .int .i64 0, .int .i64 0, .int .i64 0, .int .i64 0, .int .i64 0] 129)).cell? ⟨W.heap.size + 1, 3, none⟩ = some (.slice wa swts.length wc) := j3
        clear kb kd2 bad good j3
        go_wp2
        rw [e12] at kc kd3 hFc huc hcc kb3 hzc
        generalize (Wa.alloc (.cells #[.int .i64 svar, .int .i64 0, .int .i64 0, .slice wa swts.length wc] 80)).alloc (.cells #[.int .i64 0, .int .i64 0, .int .i64 0, .int .i64 0, .int .i64 0, .int .i64 0, .int .i64 0, .int .i64 0, .int .i64 0, .int .i64 0, .int .i64 0, .int .i64 0] 129) = Wc at *
        have kc : Blk Wc (W.heap.size + 2) (a12 (fun k => sK rows swts 0 k)).toArray 129 := by rw [show (a12 (fun k => sK rows swts 0 k)) = a12 (fun _ => 0) from rfl, e12]; exact kc
        clear j3' e12 HFb
        have HC2 : Hid (cB ≠ M) := huc.ne hcc
        have HC := Lib.hid (And.intro kd3 (And.intro kb3 hcc))
        have HFC := Lib.hid hFc
        clear kd3 kb3 hcc hFc
        have hsz2 : swts.length ≤ 8 := hlen.2
        have hR1 : rows.length ≤ 301 := hr.2.1
        go_loopw [8, 9, 43] (fun u8 u9 u43 wr => ∃ m : Nat, m ≤ swts.length ∧ u43 = .int .i64 m ∧ u8 = .int .i64 (mK rows swts m) ∧ u9 = .int .i64 (lastK swts m) ∧ Hid (∀ j, j < m → wtB rows.length swts j = true) ∧ Blk wr (W.heap.size + 2) (a12 (fun k => sK rows swts m k)).toArray 129 ∧ UsedAt wr M rows.length (markW b swts m) ∧ Frm (fun k => k = M ∨ k = W.heap.size + 2) Wc wr) (fun _ _ u43 _ => (swts.length - Go.RowKit.intOf u43).toNat)
        case atStart => exact ⟨0, by omega, rfl, rfl, rfl, fun j hj => absurd hj (by omega), kc, huc, Frm.refl _ _⟩
        case round =>
          obtain ⟨m, hm, rfl, rfl, rfl, hpre, kar, hur, hFr⟩ := hrel
          rename World => wr
          have hzr := hFr.size
          by_cases hml2 : m < swts.length
          · have hx := List.getElem?_eq_getElem hml2
            have hgd : swts.getD m wt0 = swts[m] := by rw [List.getD_eq_getElem?_getD, hx]; rfl
            have hWr : Below W0.heap.size W0 wr := (HB0.out.trans ((HFC.out.below (B := W0.heap.size) HB0.out.size (fun k e => by subst e; exact hM0)))).trans (hFr.below (B := W0.heap.size) (by have := HFC.out.size; have := HB0.out.size; omega) (fun k e => by have := HB0.out.size; rcases e with rfl | rfl <;> omega))
            obtain ⟨wb, wo, rfl, t0, t1⟩ := HWT.out.getC hx
            replace t0 := (hWr.cell (World.block_lt_of_cell? _ _ t0)).trans t0
            replace t1 := (hWr.cell (World.block_lt_of_cell? _ _ t1)).trans t1
            have hmi : (0 : Int) ≤ (m : Int) ∧ (m : Int) < (swts.length : Int) := by omega
            rw [← hgd] at t0 t1
            have hlo := lastK_ge m hpre.out
            have hhi := lastK_le (R := rows.length) (by omega) m hpre.out
            have hw1 : IntKind.i64.wrap (lastK swts m + 1) = lastK swts m + 1 := by rw [IntKind.wrap_i64]; omega
            have hw2 : IntKind.i64.wrap ((rows.length : Int) - 1) = (rows.length : Int) - 1 := by rw [IntKind.wrap_i64]; omega
            have hcr : Blk wr cB #[.int .i64 (n : Nat), .slice ra rows.length rc, .slice (some ⟨sb, so, none⟩) l.length lc, .map (some M)] 126 := HC.out.2.2.frm hFr (by rintro (e | e); exact HC2.out e; omega)
            -- the weight in its variable
            have kw := Blk.new wr #[.int .i64 (swts.getD m wt0).row, .int .i64 (swts.getD m wt0).times] 82
            have hFw : Frm (fun k => k = M ∨ k = W.heap.size + 2) Wc (wr.alloc (.cells #[.int .i64 (swts.getD m wt0).row, .int .i64 (swts.getD m wt0).times] 82)) := hFr.alloc _
            have huw : UsedAt (wr.alloc (.cells #[.int .i64 (swts.getD m wt0).row, .int .i64 (swts.getD m wt0).times] 82)) M rows.length (markW b swts m) := World.ownsMap.alloc hur _
            have kaw := kar.alloc (.cells #[.int .i64 (swts.getD m wt0).row, .int .i64 (swts.getD m wt0).times] 82)
            have hcw := hcr.alloc (.cells #[.int .i64 (swts.getD m wt0).row, .int .i64 (swts.getD m wt0).times] 82)
            have hzw : (wr.alloc (.cells #[.int .i64 (swts.getD m wt0).row, .int .i64 (swts.getD m wt0).times] 82)).heap.size = wr.heap.size + 1 := by simp
            have i1 := hcw.cell 1
            have x0 := kw.cell 0
            have x1 := kw.cell 1
            simp only [List.getElem?_toArray, List.getElem?_cons_succ, List.getElem?_cons_zero] at i1 x0 x1
            have HW := Lib.hid (And.intro kw (And.intro hFw (And.intro huw (And.intro kaw hcw))))
            have HWR := Lib.hid hWr
            clear kw hFw huw kaw hcw hcr kar hur hgd hx hWr
            cases hr1' : inB (swts.getD m wt0).row (lastK swts m + 1) ((rows.length : Int) - 1) with
            | false =>
              have hbad : wtB rows.length swts m = false := by unfold wtB; rw [hr1']; rfl
              have hcall1 : ∀ X, Calls Try.prog 86 #[.int .i64 (swts.getD m wt0).row, .int .i64 (lastK swts m + 1), .int .i64 ((rows.length : Int) - 1)] X fun e w' => e = .returned (.bool false) ∧ w' = X := fun X => by rw [← hr1']; exact (isIn86 _ _ _ X).mono fun _ _ h => ⟨h.1, h.2.symm⟩
              have hlv := hgood.out
              rw [okW_not hml2 hbad, Bool.false_and, if_neg (by decide)] at hlv
              have HLV := Lib.hid hlv
              clear hlv hgood hr1' hbad
              generalize swts.getD m wt0 = tw at *
              generalize lastK swts m = la at *
              go_wp2_with fail
              generalize wr.alloc (.cells #[.int .i64 tw.row, .int .i64 tw.times] 82) = Wd at *
              refine wp_region_still_tail 17 (by kernel_rfl) (by kernel_rfl) ?_
              simp only [List.take_succ_cons, List.take_zero, List.drop_succ_cons, List.drop_zero]
              repeat still_step
              still_call hcall1 _
              repeat still_step
              refine wpStill_nil ?_
              change wpList _ _ _ _ _ Wd.drew
              go_wp2_with fail
              refine (need_no _ _).mono ?_
              rintro e w' ⟨rfl, rfl⟩
              go_wp2
              exact ⟨rfl, markW b swts m, World.ownsMap.drew HW.out.2.2.1, (HFC.out.trans HW.out.2.1.drew (fun i hi h => by rcases h with h | h; exact h; omega)), .inr ⟨HLV.out, rfl⟩⟩
            | true =>
              cases hr2' : inB (swts.getD m wt0).times 1 1000 with
              | false =>
                have hbad : wtB rows.length swts m = false := by unfold wtB; rw [hr2', Bool.and_false]
                have hcall1 : ∀ X, Calls Try.prog 86 #[.int .i64 (swts.getD m wt0).row, .int .i64 (lastK swts m + 1), .int .i64 ((rows.length : Int) - 1)] X fun e w' => e = .returned (.bool true) ∧ w' = X := fun X => by rw [← hr1']; exact (isIn86 _ _ _ X).mono fun _ _ h => ⟨h.1, h.2.symm⟩
                have hcall2 : ∀ X, Calls Try.prog 86 #[.int .i64 (swts.getD m wt0).times, .int .i64 1, .int .i64 1000] X fun e w' => e = .returned (.bool false) ∧ w' = X := fun X => by rw [← hr2']; exact (isIn86 _ _ _ X).mono fun _ _ h => ⟨h.1, h.2.symm⟩
                have hlv := hgood.out
                rw [okW_not hml2 hbad, Bool.false_and, if_neg (by decide)] at hlv
                have HLV := Lib.hid hlv
                clear hlv hgood hr1' hr2' hbad
                generalize swts.getD m wt0 = tw at *
                generalize lastK swts m = la at *
                go_wp2_with fail
                generalize wr.alloc (.cells #[.int .i64 tw.row, .int .i64 tw.times] 82) = Wd at *
                refine wp_region_still_tail 17 (by kernel_rfl) (by kernel_rfl) ?_
                simp only [List.take_succ_cons, List.take_zero, List.drop_succ_cons, List.drop_zero]
                repeat still_step
                still_call hcall1 _
                repeat still_step
                still_call hcall2 _
                repeat still_step
                refine wpStill_nil ?_
                change wpList _ _ _ _ _ Wd.drew
                go_wp2_with fail
                refine (need_no _ _).mono ?_
                rintro e w' ⟨rfl, rfl⟩
                go_wp2
                exact ⟨rfl, markW b swts m, World.ownsMap.drew HW.out.2.2.1, (HFC.out.trans HW.out.2.1.drew (fun i hi h => by rcases h with h | h; exact h; omega)), .inr ⟨HLV.out, rfl⟩⟩
              | true =>
                have hok : wtB rows.length swts m = true := by unfold wtB; rw [hr1', hr2']; rfl
                have hcall1 : ∀ X, Calls Try.prog 86 #[.int .i64 (swts.getD m wt0).row, .int .i64 (lastK swts m + 1), .int .i64 ((rows.length : Int) - 1)] X fun e w' => e = .returned (.bool true) ∧ w' = X := fun X => by rw [← hr1']; exact (isIn86 _ _ _ X).mono fun _ _ h => ⟨h.1, h.2.symm⟩
                have hcall2 : ∀ X, Calls Try.prog 86 #[.int .i64 (swts.getD m wt0).times, .int .i64 1, .int .i64 1000] X fun e w' => e = .returned (.bool true) ∧ w' = X := fun X => by rw [← hr2']; exact (isIn86 _ _ _ X).mono fun _ _ h => ⟨h.1, h.2.symm⟩
                have hpre1 : Hid (∀ j, j < m + 1 → wtB rows.length swts j = true) := fun j hj => by
                  by_cases e : j = m
                  · subst e; exact hok
                  · exact hpre.out j (by omega)
                obtain ⟨j, hj, hjl, hjg, hcl', hcc', hmo1, hmo2⟩ := rowW_ok hr (i := m) (fun j hj => hpre1.out j (by omega))
                obtain ⟨-, -, ht1, ht2⟩ := wtB_true hok
                obtain ⟨hk1, hk2⟩ := mK_bd hr m hpre.out
                have hsk := Lib.hid (sK_bd hr m hpre.out)
                have hMK : mK rows swts (m + 1) = mK rows swts m + (swts.getD m wt0).times * (rowW rows (swts.getD m wt0)).most := rfl
                have hSK : ∀ k, sK rows swts (m + 1) k = sK rows swts m k + (swts.getD m wt0).times * (rowW rows (swts.getD m wt0)).coef.getD k 0 := fun _ => rfl
                have hSZ := Lib.hid (fun k hk => (sK_zero hr (m + 1) hpre1.out k hk).trans (sK_zero hr m hpre.out k hk).symm)
                have hMW : markW b swts (m + 1) = mark (markW b swts m) (swts.getD m wt0).row.toNat := rfl
                have hLK : lastK swts (m + 1) = (swts.getD m wt0).row := rfl
                rw [hj] at hMW hLK x0
                rw [hj] at hcall1
                rw [Int.toNat_natCast] at hMW
                have HMW := Lib.hid (And.intro hMW hLK)
                have hmb := mul_bdC (a := (swts.getD m wt0).times) (M := 1000) (b := (rowW rows (swts.getD m wt0)).most) (N := 10000000000000) ⟨by omega, by omega⟩ ⟨hmo1, hmo2⟩ (by omega) (by omega)
                generalize rowW rows (swts.getD m wt0) = rw_ at *
                obtain ⟨rb, ro, vc, rfl, -, -, -, -, r4, r5, hci⟩ := HVR.out.get hjg
                replace r4 := (HWR.out.cell (World.block_lt_of_cell? _ _ r4)).trans r4
                replace r5 := (HWR.out.cell (World.block_lt_of_cell? _ _ r5)).trans r5
                have hwdl : Below wr.heap.size wr (wr.alloc (.cells #[.int .i64 (swts.getD m wt0).row, .int .i64 (swts.getD m wt0).times] 82)) := (Below.refl _ _).alloc (Nat.le_refl _) _
                replace r4 := (hwdl.cell (World.block_lt_of_cell? _ _ r4)).trans r4
                replace r5 := (hwdl.cell (World.block_lt_of_cell? _ _ r5)).trans r5
                have HCI := Lib.hid hci
                have HWD := Lib.hid (HWR.out.trans (hwdl.mono (by have := HWR.out.size; exact this)))
                obtain ⟨ca, cc, rfl, hcn1, hcn2⟩ := hci.len
                unfold maxLen at hcn2
                rw [hj] at r4 r5 x1 HW HWD hwdl hzw i1 t0
                have hji : (0 : Int) ≤ (j : Int) ∧ (j : Int) < (rows.length : Int) := by omega
                clear hr1' hr2' hok hci hjg hj hMW hLK hgood hlo hhi hwdl
                generalize (swts.getD m wt0).times = t at *
                generalize lastK swts m = la at *
                obtain ⟨ml, hml3⟩ : ∃ z, z = mK rows swts m := ⟨_, rfl⟩
                rw [← hml3] at hk1 hk2 hMK
                have hwm1 : IntKind.i64.wrap (t * rw_.most) = t * rw_.most := by rw [IntKind.wrap_i64]; omega
                have hwm2 : IntKind.i64.wrap (ml + t * rw_.most) = ml + t * rw_.most := by rw [IntKind.wrap_i64]; omega
                have HMK := Lib.hid hMK
                have HSK := Lib.hid hSK
                clear hMK hSK hmb
                rw [← hml3]
                clear hml3
                go_wp2_with fail
                generalize wr.alloc (.cells #[.int .i64 (j : Int), .int .i64 t] 82) = Wd at *
                refine wp_region_still_tail 17 (by kernel_rfl) (by kernel_rfl) ?_
                simp only [List.take_succ_cons, List.take_zero, List.drop_succ_cons, List.drop_zero]
                repeat still_step
                still_call hcall1 _
                repeat still_step
                still_call hcall2 _
                repeat still_step
                refine wpStill_nil ?_
                change wpList _ _ _ _ _ Wd.drew
                go_wp2_with fail
                refine (need_yes _ _).mono ?_
                rintro e w' ⟨rfl, rfl⟩
                clear hcall1 hcall2
                have HW1 : Hid (Blk Wd.drew wr.heap.size #[.int .i64 (j : Int), .int .i64 t] 82 ∧ Frm (fun k => k = M ∨ k = W.heap.size + 2) Wc Wd.drew ∧ UsedAt Wd.drew M rows.length (markW b swts m) ∧ Blk Wd.drew (W.heap.size + 2) (a12 (fun k => sK rows swts m k)).toArray 129 ∧ Blk Wd.drew cB #[.int .i64 (n : Nat), .slice (some ⟨rb, ro, none⟩) rows.length rc, .slice (some ⟨sb, so, none⟩) l.length lc, .map (some M)] 126) := ⟨HW.out.1, HW.out.2.1.drew, World.ownsMap.drew HW.out.2.2.1, HW.out.2.2.2.1, HW.out.2.2.2.2⟩
                go_wp2_with fail
                replace x0 : Wd.drew.cell? ⟨wr.heap.size, 0, none⟩ = some (.int .i64 (j : Int)) := x0
                replace x1 : Wd.drew.cell? ⟨wr.heap.size, 1, none⟩ = some (.int .i64 t) := x1
                replace i1 : Wd.drew.cell? ⟨cB, 1, none⟩ = some (.slice (some ⟨rb, ro, none⟩) rows.length rc) := i1
                replace r4 : Wd.drew.cell? ⟨rb, ro + j * 6 + 4, none⟩ = some (.slice ca rw_.coef.length cc) := r4
                replace r5 : Wd.drew.cell? ⟨rb, ro + j * 6 + 5, none⟩ = some (.int .i64 rw_.most) := r5
                have HWE := Lib.hid (HWD.out.drew)
                clear HW HWD
                generalize Wd.drew = We at *
                go_still (by kernel_rfl)
                change Exit.then _ _ _ _ We.drew
                replace x0 : We.drew.cell? ⟨wr.heap.size, 0, none⟩ = some (.int .i64 (j : Int)) := x0
                replace i1 : We.drew.cell? ⟨cB, 1, none⟩ = some (.slice (some ⟨rb, ro, none⟩) rows.length rc) := i1
                replace r4 : We.drew.cell? ⟨rb, ro + j * 6 + 4, none⟩ = some (.slice ca rw_.coef.length cc) := r4
                replace HW1 : Hid (Blk We.drew wr.heap.size #[.int .i64 (j : Int), .int .i64 t] 82 ∧ Frm (fun k => k = M ∨ k = W.heap.size + 2) Wc We.drew ∧ UsedAt We.drew M rows.length (markW b swts m) ∧ Blk We.drew (W.heap.size + 2) (a12 (fun k => sK rows swts m k)).toArray 129 ∧ Blk We.drew cB #[.int .i64 (n : Nat), .slice (some ⟨rb, ro, none⟩) rows.length rc, .slice (some ⟨sb, so, none⟩) l.length lc, .map (some M)] 126) := ⟨HW1.out.1, HW1.out.2.1.drew, HW1.out.2.2.1, HW1.out.2.2.2.1, HW1.out.2.2.2.2⟩
                replace HWE := Lib.hid (HWE.out.drew)
                clear x1 r5
                generalize We.drew = Wg at *
                go_wp2_with fail
                go_still (by kernel_rfl)
                change Exit.then _ _ _ _ Wg.drew
                have HW2 : Hid (Blk Wg.drew wr.heap.size #[.int .i64 (j : Int), .int .i64 t] 82 ∧ Frm (fun k => k = M ∨ k = W.heap.size + 2) Wc Wg.drew ∧ UsedAt Wg.drew M rows.length (markW b swts m) ∧ Blk Wg.drew (W.heap.size + 2) (a12 (fun k => sK rows swts m k)).toArray 129 ∧ Blk Wg.drew cB #[.int .i64 (n : Nat), .slice (some ⟨rb, ro, none⟩) rows.length rc, .slice (some ⟨sb, so, none⟩) l.length lc, .map (some M)] 126) := ⟨HW1.out.1, HW1.out.2.1.drew, HW1.out.2.2.1, HW1.out.2.2.2.1, HW1.out.2.2.2.2⟩
                have HWF := Lib.hid (HWE.out.drew)
                clear x0 i1 r4 HW1 HWE
                generalize Wg.drew = Wf at *
                generalize hska : sK rows swts m = ska at *
                generalize hskb : sK rows swts (m + 1) = skb at *
                go_wp2_with fail
                go_loopw [91] (fun u91 wt => ∃ k : Nat, k ≤ rw_.coef.length ∧ u91 = .int .i64 k ∧ Blk wt (W.heap.size + 2) (a12 (fun i => if i < k then skb i else ska i)).toArray 129 ∧ Frm (fun i => i = W.heap.size + 2) Wf wt) (fun u91 _ => (rw_.coef.length - Go.RowKit.intOf u91).toNat)
                case atStart => exact ⟨0, by omega, rfl, by simpa using HW2.out.2.2.2.1, Frm.refl _ _⟩
                case round =>
                  obtain ⟨k, hk, rfl, kat, hft⟩ := hrel
                  rename World => wt
                  by_cases hkl : k < rw_.coef.length
                  · have hBt := HWF.out.trans (hft.below (B := W0.heap.size) HWF.out.size (fun i e => by subst e; have := HB0.out.size; omega))
                    have hgk := getD_some 0 hkl
                    obtain ⟨cb, co, rfl, z0⟩ := (HCI.out.below hBt).get hgk
                    have kwt := HW2.out.1.frm hft (by omega)
                    have x1 := kwt.cell 1
                    have ka := kat.cell k
                    have kf := kat.frozen k
                    have hk12 : k < 12 := by have := hr.1; omega
                    have kaS := Lib.hid (kat.set k (.int .i64 (skb k)))
                    rw [a12_set] at kaS
                    simp only [List.getElem?_toArray, List.getElem?_cons_succ, List.getElem?_cons_zero, a12_get hk12, if_neg (Nat.lt_irrefl k)] at x1 ka
                    have hki : (0 : Int) ≤ (k : Int) ∧ (k : Int) < (rw_.coef.length : Int) := by omega
                    have hki2 : (k : Int) < 12 := by omega
                    obtain ⟨cb1, cb2⟩ := coefOK_get hcc' k
                    obtain ⟨sb1, sb2⟩ := hsk.out k
                    have hmu := mul_bdC (a := t) (M := 1000) (b := rw_.coef.getD k 0) (N := 1000000000) ⟨by omega, by omega⟩ ⟨cb1, cb2⟩ (by omega) (by omega)
                    have hsk1 := HSK.out k
                    generalize rw_.coef.getD k 0 = cf at *
                    generalize hsa : ska k = sa at *
                    have hwc1 : IntKind.i64.wrap (t * cf) = t * cf := by rw [IntKind.wrap_i64]; omega
                    have hwc2 : IntKind.i64.wrap (sa + t * cf) = sa + t * cf := by rw [IntKind.wrap_i64]; omega
                    rw [hsk1] at kaS
                    have HST := Lib.hid hsk1
                    have HF2 := Lib.hid hft
                    clear hgk kat kwt hmu hsk1 hBt hft
                    go_wp2_with fail
                    go_still_tail 9, (by kernel_rfl)
                    change wpList _ _ _ _ _ wt.drew
                    have hfun : Hid ((fun i => if i = k then sa + t * cf else if i < k then skb i else ska i) = fun i => if i < k + 1 then skb i else ska i) := by
                      show _ = _
                      funext i
                      by_cases e : i = k
                      · subst e; rw [if_pos rfl, if_pos (by omega)]; exact HST.out.symm
                      · rw [if_neg e]
                        by_cases e2 : i < k
                        · rw [if_pos e2, if_pos (by omega)]
                        · rw [if_neg e2, if_neg (by omega)]
                    go_wp2
                    go_roundw
                    case rel => exact ⟨k + 1, by omega, by go_num, by rw [← hfun.out]; exact kaS.out, HF2.out.drew.setCell (fun _ => rfl) _⟩
                    case measure => simp [Go.RowKit.intOf]; omega
                  · obtain rfl : k = rw_.coef.length := by omega
                    have hfun : (fun i => if i < rw_.coef.length then skb i else ska i) = skb := by
                      funext i
                      by_cases e : i < rw_.coef.length
                      · rw [if_pos e]
                      · rw [if_neg e, hSZ.out i (by omega)]
                    rw [hfun] at kat
                    have hMt : ¬ M = W.heap.size + 2 := by omega
                    have hut : UsedAt wt.drew M rows.length (markW b swts m) := World.ownsMap.drew (HW2.out.2.2.1.frm hft hMt)
                    have kct := HW2.out.2.2.2.2.frm hft (by omega)
                    have kwt := HW2.out.1.frm hft (by omega)
                    have i3 := kct.cell 3
                    have x0 := kwt.cell 0
                    simp only [List.getElem?_toArray, List.getElem?_cons_succ, List.getElem?_cons_zero] at i3 x0
                    have HF3 := Lib.hid (HW2.out.2.1.trans (G := fun i => i = W.heap.size + 2) hft (fun i _ e => .inr e))
                    have HKA := Lib.hid kat
                    clear hfun hft kat kct kwt
                    go_wp2_with fail
                    go_still_tail 6, (by kernel_rfl)
                    change wpList _ _ _ _ _ wt.drew
                    refine wpList_mark rfl _ _ _ rfl rfl hut (by omega) hjl rfl rfl ?_
                    intro w9 hu9 hg9
                    have hF9 := HF3.out.drew.grown hg9 (fun i e _ => by cases e; exact .inl rfl)
                    have hK9 : Blk w9 (W.heap.size + 2) (a12 skb).toArray 129 := (hg9.block (W.heap.size + 2) HKA.out.lt (fun e => hMt (by cases e; rfl))).trans HKA.out
                    clear hut i3 x0 hg9 HKA HF3
                    go_wp2
                    go_roundw
                    case rel => exact ⟨m + 1, by omega, by go_num, by rw [HMK.out], by rw [HMW.out.2], hpre1, by rw [hskb]; exact hK9, by rw [HMW.out.1]; exact hu9, hF9⟩
                    case measure => simp [Go.RowKit.intOf]; omega
          · obtain rfl : m = swts.length := by omega
            have hok : okW rows.length swts = true := by
              unfold okW
              rw [List.all_eq_true]
              intro i hi
              exact hpre.out i (by simpa using hi)
            have hlv := hgood.out
            rw [hok, Bool.true_and] at hlv
            have hsb := Lib.hid (sK_bd hr swts.length hpre.out)
            obtain ⟨hmk1, hmk2⟩ := mK_bd hr swts.length hpre.out
            have hlk : lK dc (sK rows swts swts.length) 12 = lK dc (sK rows swts swts.length) n := by
              have h1 := lK_more (dc := dc) (s := sK rows swts swts.length) (n := n) (fun k hk => sK_zero hr swts.length hpre.out k hk) (12 - n)
              have hn12 := hr.1
              rwa [show n + (12 - n) = 12 by omega] at h1
            have hov : overB rows n ⟨svar, 0, 0, swts⟩ dc = decide (mK rows swts swts.length < lK dc (sK rows swts swts.length) 12) := by unfold overB; rw [hlk]
            rw [hov] at hlv
            have HLV := Lib.hid hlv
            have hlb := Lib.hid (lK_bd (dc := dc) (s := sK rows swts swts.length) (M := 8000000000000) (by omega) (fun k => by have := hsb.out k; constructor <;> omega))
            have kdr := HC.out.1.frm hFr (by omega)
            have hur' := Lib.hid hur
            clear hlv hov hlk hok hgood hur
            have HDC := Lib.hid hd
            generalize sK rows swts swts.length = sf at *
            generalize mK rows swts swts.length = mf at *
            have hFin : Frm (fun k => k = M) W wr := HFC.out.trans hFr (fun i hi h => by rcases h with h | h; exact h; omega)
            have HFIN := Lib.hid hFin
            have HDR := Lib.hid kdr
            clear hFin hFr kdr
            go_wp2_with (refine wpList_load_mid rfl 129 _ rfl (W.heap.size + 2) 0 rfl (a12 sf) _ kar.range Try.underlying129 rfl (by rw [a12_len]; kernel_rfl) ?_)
            go_loopw [14, 114] (fun u14 u114 wt => ∃ k : Nat, k ≤ 12 ∧ u114 = .int .i64 k ∧ u14 = .int .i64 (lK dc sf k) ∧ wt = wr) (fun _ u114 _ => (12 - Go.RowKit.intOf u114).toNat)
            case atStart => exact ⟨0, by omega, rfl, rfl, rfl⟩
            case round =>
              obtain ⟨k, hk, rfl, rfl, rfl⟩ := hrel
              by_cases hk12 : k < 12
              · have hix := index12 sf hk12 wr
                have c0 := HDR.out.cell k
                simp only [List.getElem?_toArray, a12_get hk12] at c0
                have hki : (0 : Int) ≤ (k : Int) ∧ (k : Int) < 12 := by omega
                obtain ⟨l1, l2⟩ := hlb.out k
                obtain ⟨b1, b2⟩ := hsb.out k
                have hLK : lK dc sf (k + 1) = lK dc sf k + term (dc k) (sf k) := rfl
                have hW64 : ∀ z : Int, -200000000000000 ≤ z → z ≤ 200000000000000 → IntKind.i64.wrap z = z := fun z h1 h2 => by rw [IntKind.wrap_i64]; omega
                have HLK := Lib.hid hLK
                clear hLK
                rcases encP_eq HDC.out k with ⟨e1, e2⟩ | ⟨e1, e2⟩ | ⟨e1, e2⟩
                · have ht : term (dc k) (sf k) = sf k := by rw [e1]; rfl
                  rw [e2] at c0
                  have HT := Lib.hid ht
                  generalize sf k = sa at *
                  generalize lK dc sf k = lk at *
                  have hw := hW64 (lk + sa) (by omega) (by omega)
                  clear e1 e2 ht hW64
                  go_wp2
                  go_roundw
                  case rel => exact ⟨k + 1, by omega, by go_num, by rw [HLK.out, HT.out], trivial⟩
                  case measure => simp [Go.RowKit.intOf]; omega
                · have ht : term (dc k) (sf k) = 0 := by rw [e1]; rfl
                  rw [e2] at c0
                  have HT := Lib.hid ht
                  generalize sf k = sa at *
                  generalize lK dc sf k = lk at *
                  clear e1 e2 ht hW64
                  go_wp2
                  go_roundw
                  case rel => exact ⟨k + 1, by omega, by go_num, by rw [HLK.out, HT.out, Int.add_zero], trivial⟩
                  case measure => simp [Go.RowKit.intOf]; omega
                · have ht : term (dc k) (sf k) = if sf k < 0 then sf k else 0 := by
                    rw [e1]
                    unfold term
                    by_cases h : sf k < 0
                    · rw [if_pos (.inr ⟨by omega, h⟩), if_pos h]
                    · rw [if_neg (by omega), if_neg h]
                  rw [e2] at c0
                  have HT := Lib.hid ht
                  generalize sf k = sa at *
                  generalize lK dc sf k = lk at *
                  obtain ⟨q, hq, hqb⟩ : ∃ q : Int, (if sa < 0 then sa else 0) = q ∧ -8000000000000 ≤ q ∧ q ≤ 8000000000000 := ⟨_, rfl, by split <;> omega, by split <;> omega⟩
                  have hq' : min 0 sa = q := by rw [← hq]; split <;> omega
                  have hw := hW64 (lk + q) (by omega) (by omega)
                  have HQ := Lib.hid hq
                  clear e1 e2 ht hW64
                  go_wp2
                  go_roundw
                  case rel => exact ⟨k + 1, by omega, by go_num, by rw [HLK.out, HT.out, HQ.out], trivial⟩
                  case measure => simp [Go.RowKit.intOf]; omega
              · obtain rfl : k = 12 := by omega
                cases hov : decide (mf < lK dc sf 12) with
                | true =>
                  have hlv2 : Hid (lv = -1) := by show _ = _; rw [HLV.out, hov]; rfl
                  go_wp2_with fail
                  refine (need_yes _ _).mono ?_
                  rintro e w' ⟨rfl, rfl⟩
                  go_wp2
                  go_end0
                  exact ⟨markW b swts swts.length, hur'.out, HFIN.out, .inl ⟨hlv2.out, rfl, rfl⟩⟩
                | false =>
                  have hlv2 : Hid (lv = (at_ : Int)) := by show _ = _; rw [HLV.out, hov]; rfl
                  go_wp2_with fail
                  refine (need_no _ _).mono ?_
                  rintro e w' ⟨rfl, rfl⟩
                  go_wp2
                  exact ⟨rfl, markW b swts swts.length, hur'.out, HFIN.out, .inr ⟨hlv2.out, rfl⟩⟩
    · have q2 : (syes == 0) = false := beq_eq_false_iff_ne.2 h2
      go_wp2_with fail
      refine (need_no _ _).mono ?_
      rintro e w' ⟨rfl, rfl⟩
      go_wp2
      clear good kd2 kb
      exact ⟨rfl, b, HFb.out.2.1, HFb.out.1, .inr ⟨(bad (by unfold headL; simp only; rw [q2]; rfl)).out, rfl⟩⟩
  · have q1 : (sno == 0) = false := beq_eq_false_iff_ne.2 h1
    go_wp2_with fail
    refine (need_no _ _).mono ?_
    rintro e w' ⟨rfl, rfl⟩
    go_wp2
    clear good kd2 kb
    exact ⟨rfl, b, HFb.out.2.1, HFb.out.1, .inr ⟨(bad (by unfold headL; simp only; rw [q1]; rfl)).out, rfl⟩⟩
end Go.Proofs.Ytblmpmapcdpaiaa
