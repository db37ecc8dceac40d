/- package proof: walk. -/
import Derived.Test.YtblmpmapcdpaiaaK3
namespace Go.Proofs.Ytblmpmapcdpaiaa
open Go.RowKit Lib

/-- What a call of walk leaves: the map of used rows, and nothing else; it panics at the first step that is wrong. -/
def Gone (W w' : World) (e : Ending) (M R : Nat) (wr : Int) (b : Nat → Bool) : Prop :=
  ∃ b', UsedAt w' M R b' ∧ Frm (fun k => k = M) W w' ∧ ((wr = -1 ∧ e = .returned (.tuple #[]) ∧ b' = b) ∨ (0 ≤ wr ∧ e = .panicked [wrongP wr]))
theorem wrongV_leaf {rows : List RowD} {l : List StepD} {n f at_ : Nat} {dc : Dc} {s : StepD} (hs : l[at_]? = some s) (hv : s.var = -1) : wrongV rows l n (f + 1) at_ dc = if leafV rows n s dc then (-1 : Int) else (at_ : Int) := by
  unfold wrongV; rw [hs]; simp only [hv, if_pos]
theorem wrongV_bad {rows : List RowD} {l : List StepD} {n f at_ : Nat} {dc : Dc} {s : StepD} (hs : l[at_]? = some s) (hv : s.var ≠ -1) (hc : (caseA n s dc && caseC l.length at_ s) = false) : wrongV rows l n (f + 1) at_ dc = at_ := by
  unfold wrongV; rw [hs]; simp only [if_neg hv, hc]; rfl
theorem wrongV_case {rows : List RowD} {l : List StepD} {n f at_ : Nat} {dc : Dc} {s : StepD} (hs : l[at_]? = some s) (hv : s.var ≠ -1) (hc : (caseA n s dc && caseC l.length at_ s) = true) :
    wrongV rows l n (f + 1) at_ dc = if wrongV rows l n f s.no.toNat (upd dc s.var.toNat 0) = -1 then wrongV rows l n f s.yes.toNat (upd dc s.var.toNat 1) else wrongV rows l n f s.no.toNat (upd dc s.var.toNat 0) := by
  conv => lhs; unfold wrongV
  rw [hs]; simp only [if_neg hv, hc, if_pos]
theorem usedV_leaf {l : List StepD} {f at_ : Nat} {b : Nat → Bool} {s : StepD} (hs : l[at_]? = some s) (hv : s.var = -1) : usedV l (f + 1) at_ b = markW b s.wts s.wts.length := by
  unfold usedV; rw [hs]; simp only [hv, if_pos]
theorem usedV_case {l : List StepD} {f at_ : Nat} {b : Nat → Bool} {s : StepD} (hs : l[at_]? = some s) (hv : s.var ≠ -1) : usedV l (f + 1) at_ b = usedV l f s.yes.toNat (usedV l f s.no.toNat b) := by
  conv => lhs; unfold usedV
  rw [hs]; simp only [if_neg hv]
theorem wpStill_skip {P : Program} {ops : Array Oper} {w : World} {Q : Act → Prop} {a : Act} {o : Oper} {rest : List Oper} (hw : Region.wanted o (yielded ops a.tmps) = false) (h : wpStill P ops w Q rest (a.put o.dst undef)) : wpStill P ops w Q (o :: rest) a := by
  unfold wpStill
  rw [if_neg (by rw [hw]; decide)]
  exact h
theorem wpStill_move {P : Program} {ops : Array Oper} {w : World} {Q : Act → Prop} {a : Act} {o : Oper} {rest : List Oper} (x : Operand) (ho : o.op = .move x) (hw : Region.wanted o (yielded ops a.tmps) = true) (h : wpStill P ops w Q rest (a.put o.dst (a.eval x))) : wpStill P ops w Q (o :: rest) a := by
  unfold wpStill
  rw [if_pos hw]
  unfold Oper.still execOp
  rw [ho]
  simp [Oper.stillUpon]
  exact h
theorem upd_upd (dc : Dc) (v : Nat) (x y : Int) : upd (upd dc v x) v y = upd dc v y := by
  funext k
  unfold upd
  split <;> rfl
theorem encP_upd (dc : Dc) (v : Nat) (x : Int) : (fun k => if k = v then encP x else encP (dc k)) = fun k => encP (upd dc v x k) := by
  funext k
  unfold upd
  split <;> rfl
attribute [local irreducible] wpStill
set_option maxRecDepth 100000 in
set_option maxHeartbeats 40000000 in
theorem walk_any {W0 : World} {n : Nat} {rows : List RowD} {l : List StepD} {vr vl : Value} (hvr : RowsAt W0 vr rows) (hvl : StepsAt W0 vl l) (hr : RowsOK n rows) (hl9 : l.length ≤ 9000) :
    ∀ (f at_ : Nat) (dc : Dc) (b : Nat → Bool) (W : World) (cB M : Nat), l.length ≤ f + at_ → at_ < l.length → Blk W cB #[.int .i64 (n : Nat), vr, vl, .map (some M)] 126 → Below W0.heap.size W0 W → W0.heap.size ≤ M → DcOK n dc → UsedAt W M rows.length b →
      Calls Try.prog 104 #[.pointer (some ⟨cB, 0, none⟩), .int .i64 (at_ : Nat), .agg (a12 (fun k => encP (dc k))).toArray] W fun e w' => Gone W w' e M rows.length (wrongV rows l n f at_ dc) (usedV l f at_ b) := by
  intro f
  induction f with
  | zero => intro at_ dc b W cB M h1 h2; omega
  | succ f ih =>
    intro at_ dc b W cB M hfuel hal hc hB0 hM0 hd hu
    have hs := List.getElem?_eq_getElem hal
    generalize l[at_] = s at hs
    have hleaf := fun (Y : World) (h1 : Blk Y cB #[.int .i64 (n : Nat), vr, vl, .map (some M)] 126) (h2 : Below W0.heap.size W0 Y) (h3 : UsedAt Y M rows.length b) => leaf_any (s := s) h1 hvr hvl h2 hM0 hs hl9 hr hd h3
    have HLEAF := Lib.hid hleaf
    have HIH := Lib.hid ih
    clear ih hleaf
    obtain ⟨la, lc, rfl, hl1, hl2⟩ := (show SlicesLen vl l.length from hvl.len)
    unfold maxLen at hl2
    obtain ⟨sb, so, vw, rfl, s0, s1, s2, s3, hw⟩ := hvl.getC hs
    obtain ⟨wa, wc, rfl, hw1, hw2⟩ := (show SlicesLen vw s.wts.length from hw.len)
    unfold maxLen at hw2
    have c2 := hc.cell 2
    simp only [List.getElem?_toArray, List.getElem?_cons_succ, List.getElem?_cons_zero] at c2
    have hat : (0 : Int) ≤ (at_ : Int) ∧ (at_ : Int) < (l.length : Int) := by omega
    have hcl := hc.lt
    have hn12 := hr.1
    have kd : Blk (W.alloc (.cells (a12 (fun k => encP (dc k))).toArray 130)) W.heap.size (a12 (fun k => encP (dc k))).toArray 130 := Blk.new _ _ _
    generalize hWa : W.alloc (.cells (a12 (fun k => encP (dc k))).toArray 130) = Wa at kd
    have hFa : Frm (fun k => k = M) W Wa := hWa ▸ (Frm.refl _ W).alloc _
    have hWl : Below W.heap.size W Wa := hWa ▸ (Below.refl _ W).alloc (Nat.le_refl _) _
    have hza : Wa.heap.size = W.heap.size + 1 := by rw [← hWa]; simp
    have hB1 : Below W0.heap.size W0 Wa := hB0.trans (hWl.mono hB0.size)
    have ca2 : Wa.cell? ⟨cB, 2, none⟩ = some (.slice (some ⟨sb, so, none⟩) l.length lc) := (hWl.cell hcl).trans c2
    have ma : ∀ {i : Nat} {u : Value}, W0.cell? ⟨sb, i, none⟩ = some u → Wa.cell? ⟨sb, i, none⟩ = some u := fun {i u} hx => (hB1.cell (World.block_lt_of_cell? _ _ hx)).trans hx
    replace s0 := ma s0
    replace s1 := ma s1
    replace s2 := ma s2
    replace s3 := ma s3
    have kb : Blk (Wa.alloc (.cells #[.int .i64 s.var, .int .i64 s.no, .int .i64 s.yes, .slice wa s.wts.length wc] 80)) (W.heap.size + 1) #[.int .i64 s.var, .int .i64 s.no, .int .i64 s.yes, .slice wa s.wts.length wc] 80 := Blk.newAt _ _ _ hza.symm
    have kd2 := kd.alloc (.cells #[.int .i64 s.var, .int .i64 s.no, .int .i64 s.yes, .slice wa s.wts.length wc] 80)
    have hFb : Frm (fun k => k = M) W (Wa.alloc (.cells #[.int .i64 s.var, .int .i64 s.no, .int .i64 s.yes, .slice wa s.wts.length wc] 80)) := hFa.alloc _
    have hzb : (Wa.alloc (.cells #[.int .i64 s.var, .int .i64 s.no, .int .i64 s.yes, .slice wa s.wts.length wc] 80)).heap.size = W.heap.size + 2 := by simp [hza]
    have hml := hu.lt
    have hcM : cB ≠ M := hu.ne hc
    have hub : UsedAt (Wa.alloc (.cells #[.int .i64 s.var, .int .i64 s.no, .int .i64 s.yes, .slice wa s.wts.length wc] 80)) M rows.length b := by
      rw [← hWa]; exact (World.ownsMap.alloc (World.ownsMap.alloc hu _) _)
    have hcb : Blk (Wa.alloc (.cells #[.int .i64 s.var, .int .i64 s.no, .int .i64 s.yes, .slice wa s.wts.length wc] 80)) cB #[.int .i64 (n : Nat), vr, .slice (some ⟨sb, so, none⟩) l.length lc, .map (some M)] 126 := by
      rw [← hWa]; exact (hc.alloc _).alloc _
    have HFb := Lib.hid (And.intro hFb (And.intro hub hcb))
    have HBB := Lib.hid (hB0.trans (hFb.below (B := W0.heap.size) hB0.size (fun k e => by subst e; exact hM0)) : Below W0.heap.size W0 (Wa.alloc (.cells #[.int .i64 s.var, .int .i64 s.no, .int .i64 s.yes, .slice wa s.wts.length wc] 80))) 
    by_cases hv : s.var = -1
    · have e1 := wrongV_leaf (rows := rows) (n := n) (f := f) (dc := dc) hs hv
      have e2 := usedV_leaf (f := f) (b := b) hs hv
      rw [e1, e2]
      generalize hlv : (if leafV rows n s dc then (-1 : Int) else (at_ : Int)) = lv at HLEAF
      have q0 : (s.var == -1) = true := beq_iff_eq.2 hv
      obtain ⟨svar, sno, syes, swts⟩ := s
      simp only at *
      clear hv e1 e2 ma c2 hFa hFb hub hcb hc hu hB0
      go_enter Try.func104, Try.ntmps104
      go_wp2_with (refine wpList_load_mid rfl 130 _ rfl W.heap.size 0 rfl (a12 (fun k => encP (dc k))) _ kd2.range Try.underlying130 rfl (by rw [a12_len]; kernel_rfl) ?_)
      refine (HLEAF.out _ HFb.out.2.2 HBB.out HFb.out.2.1).mono ?_
      rintro e w' ⟨b1, hu1, hf1, (⟨h1, rfl, rfl⟩ | ⟨h1, rfl⟩)⟩
      · go_wp2
        first
          | go_end0
          | refine bodyPost_ret (results_none rfl _ _ _) rfl ?_
        exact ⟨_, hu1, HFb.out.1.trans hf1 (fun i _ e => e), .inl ⟨h1, rfl, rfl⟩⟩
      · go_wp2
        exact ⟨rfl, b1, hu1, HFb.out.1.trans hf1 (fun i _ e => e), .inr ⟨by omega, by rw [h1]⟩⟩
    · have q0 : (s.var == -1) = false := beq_eq_false_iff_ne.2 hv
      have hbad : (caseA n s dc && caseC l.length at_ s) = false → wrongV rows l n (f + 1) at_ dc = at_ := wrongV_bad hs hv
      have hgood : (caseA n s dc && caseC l.length at_ s) = true → wrongV rows l n (f + 1) at_ dc = if wrongV rows l n f s.no.toNat (upd dc s.var.toNat 0) = -1 then wrongV rows l n f s.yes.toNat (upd dc s.var.toNat 1) else wrongV rows l n f s.no.toNat (upd dc s.var.toNat 0) := wrongV_case hs hv
      have hus := usedV_case (f := f) (b := b) hs hv
      rw [hus]
      generalize wrongV rows l n (f + 1) at_ dc = lv at hbad hgood
      obtain ⟨svar, sno, syes, swts⟩ := s
      simp only at *
      have hw1' : IntKind.i64.wrap ((n : Int) - 1) = (n : Int) - 1 := by rw [IntKind.wrap_i64]; omega
      have HG := Lib.hid hgood
      have HBD := Lib.hid hbad
      have HK0 : Hid (Blk (Wa.alloc (.cells #[.int .i64 svar, .int .i64 sno, .int .i64 syes, .slice wa swts.length wc] 80)) W.heap.size (a12 (fun k => encP (dc k))).toArray 130 ∧ Blk (Wa.alloc (.cells #[.int .i64 svar, .int .i64 sno, .int .i64 syes, .slice wa swts.length wc] 80)) (W.heap.size + 1) #[.int .i64 svar, .int .i64 sno, .int .i64 syes, .slice wa swts.length wc] 80 ∧ Blk (Wa.alloc (.cells #[.int .i64 svar, .int .i64 sno, .int .i64 syes, .slice wa swts.length wc] 80)) cB #[.int .i64 (n : Nat), vr, .slice (some ⟨sb, so, none⟩) l.length lc, .map (some M)] 126 ∧ UsedAt (Wa.alloc (.cells #[.int .i64 svar, .int .i64 sno, .int .i64 syes, .slice wa swts.length wc] 80)) M rows.length b ∧ Frm (fun k => k = M) W (Wa.alloc (.cells #[.int .i64 svar, .int .i64 sno, .int .i64 syes, .slice wa swts.length wc] 80)) ∧ Below W0.heap.size W0 (Wa.alloc (.cells #[.int .i64 svar, .int .i64 sno, .int .i64 syes, .slice wa swts.length wc] 80))) := ⟨kd2, kb, HFb.out.2.2, HFb.out.2.1, HFb.out.1, HBB.out⟩
      have HV := Lib.hid hv
      have HD := Lib.hid hd
      have hlen2 : (0 : Int) ≤ (swts.length : Int) := by omega
      clear hv ma c2 hFa hFb hub hcb hc hu hB0 hgood hbad kd2 kb HFb HBB HLEAF hus hd
      have x0' : (Wa.alloc (.cells #[.int .i64 svar, .int .i64 sno, .int .i64 syes, .slice wa swts.length wc] 80)).cell? ⟨W.heap.size + 1, 0, none⟩ = some (.int .i64 svar) := HK0.out.2.1.cell 0
      cases hr1 : inB svar 0 ((n : Int) - 1) with
      | false =>
        have hcA : Hid (lv = (at_ : Int)) := HBD.out (by unfold caseA; simp only; rw [hr1]; rfl)
        have hcall1 : ∀ X, Calls Try.prog 86 #[.int .i64 svar, .int .i64 0, .int .i64 ((n : Int) - 1)] X fun e w' => e = .returned (.bool false) ∧ w' = X := fun X => by rw [← hr1]; exact (isIn86 _ _ _ X).mono fun _ _ h => ⟨h.1, h.2.symm⟩
        clear hr1
        go_enter Try.func104, Try.ntmps104
        go_wp2_with fail
        generalize Wa.alloc (.cells #[.int .i64 svar, .int .i64 sno, .int .i64 syes, .slice wa swts.length wc] 80) = X at *
        have y0 := HK0.out.2.1.cell 0
        have y3 := HK0.out.2.1.cell 3
        have z0 := HK0.out.2.2.1.cell 0

        simp only [List.getElem?_toArray, List.getElem?_cons_succ, List.getElem?_cons_zero] at y0 y3 z0
        refine wp_region_still_tail 22 (by kernel_rfl) (by kernel_rfl) ?_
        simp only [List.take_succ_cons, List.take_zero, List.drop_succ_cons, List.drop_zero]
        repeat still_step
        still_call hcall1 _
        repeat still_step
        refine wpStill_nil ?_
        change wpList _ _ _ _ _ X.drew
        go_wp2_with fail
        refine (need_no _ _).mono ?_
        rintro e w' ⟨rfl, rfl⟩
        go_wp2
        exact ⟨rfl, b, World.ownsMap.drew HK0.out.2.2.2.1, HK0.out.2.2.2.2.1.drew, .inr ⟨by have := hcA.out; omega, by rw [hcA.out]⟩⟩
      | true =>
        obtain ⟨v, hv0, hvn⟩ : ∃ v : Nat, svar = v ∧ v < n := by
          unfold inB at hr1
          simp only [Bool.and_eq_true, decide_eq_true_eq] at hr1
          obtain ⟨v, hv⟩ := Int.eq_ofNat_of_zero_le hr1.1
          exact ⟨v, hv, by omega⟩
        subst hv0
        have hv12 : (0 : Int) ≤ (v : Int) ∧ (v : Int) < 12 := by omega
        rcases encP_eq HD.out v with ⟨e1, e2⟩ | ⟨e1, e2⟩ | ⟨e1, e2⟩
        · have hcA : Hid (lv = (at_ : Int)) := HBD.out (by unfold caseA; simp only; rw [Int.toNat_natCast, e1]; simp)
          have hcall1 : ∀ X, Calls Try.prog 86 #[.int .i64 (v : Int), .int .i64 0, .int .i64 ((n : Int) - 1)] X fun e w' => e = .returned (.bool true) ∧ w' = X := fun X => by rw [← hr1]; exact (isIn86 _ _ _ X).mono fun _ _ h => ⟨h.1, h.2.symm⟩
          clear hr1
          go_enter Try.func104, Try.ntmps104
          go_wp2_with fail
          generalize Wa.alloc (.cells #[.int .i64 (v : Int), .int .i64 sno, .int .i64 syes, .slice wa swts.length wc] 80) = X at *
          have y0 := HK0.out.2.1.cell 0
          have y3 := HK0.out.2.1.cell 3
          have z0 := HK0.out.2.2.1.cell 0
          have d0 := HK0.out.1.cell v
          simp only [List.getElem?_toArray, a12_get (show v < 12 by omega), e2] at d0
          simp only [List.getElem?_toArray, List.getElem?_cons_succ, List.getElem?_cons_zero] at y0 y3 z0
          refine wp_region_still_tail 22 (by kernel_rfl) (by kernel_rfl) ?_
          simp only [List.take_succ_cons, List.take_zero, List.drop_succ_cons, List.drop_zero]
          repeat still_step
          still_call hcall1 _
          repeat still_step
          refine wpStill_nil ?_
          change wpList _ _ _ _ _ X.drew
          go_wp2_with fail
          refine (need_no _ _).mono ?_
          rintro e w' ⟨rfl, rfl⟩
          go_wp2
          exact ⟨rfl, b, World.ownsMap.drew HK0.out.2.2.2.1, HK0.out.2.2.2.2.1.drew, .inr ⟨by have := hcA.out; omega, by rw [hcA.out]⟩⟩
        · have hcA : Hid (lv = (at_ : Int)) := HBD.out (by unfold caseA; simp only; rw [Int.toNat_natCast, e1]; simp)
          have hcall1 : ∀ X, Calls Try.prog 86 #[.int .i64 (v : Int), .int .i64 0, .int .i64 ((n : Int) - 1)] X fun e w' => e = .returned (.bool true) ∧ w' = X := fun X => by rw [← hr1]; exact (isIn86 _ _ _ X).mono fun _ _ h => ⟨h.1, h.2.symm⟩
          clear hr1
          go_enter Try.func104, Try.ntmps104
          go_wp2_with fail
          generalize Wa.alloc (.cells #[.int .i64 (v : Int), .int .i64 sno, .int .i64 syes, .slice wa swts.length wc] 80) = X at *
          have y0 := HK0.out.2.1.cell 0
          have y3 := HK0.out.2.1.cell 3
          have z0 := HK0.out.2.2.1.cell 0
          have d0 := HK0.out.1.cell v
          simp only [List.getElem?_toArray, a12_get (show v < 12 by omega), e2] at d0
          simp only [List.getElem?_toArray, List.getElem?_cons_succ, List.getElem?_cons_zero] at y0 y3 z0
          refine wp_region_still_tail 22 (by kernel_rfl) (by kernel_rfl) ?_
          simp only [List.take_succ_cons, List.take_zero, List.drop_succ_cons, List.drop_zero]
          repeat still_step
          still_call hcall1 _
          repeat still_step
          refine wpStill_nil ?_
          change wpList _ _ _ _ _ X.drew
          go_wp2_with fail
          refine (need_no _ _).mono ?_
          rintro e w' ⟨rfl, rfl⟩
          go_wp2
          exact ⟨rfl, b, World.ownsMap.drew HK0.out.2.2.2.1, HK0.out.2.2.2.2.1.drew, .inr ⟨by have := hcA.out; omega, by rw [hcA.out]⟩⟩
        · by_cases hwl : swts.length = 0
          · have q3 : ((swts.length : Int) == 0) = true := by rw [hwl]; rfl
            have hcaA : caseA n ⟨(v : Int), sno, syes, swts⟩ dc = true := by unfold caseA; simp only; rw [hr1, q3, Int.toNat_natCast, e1]; rfl
            clear hwl
            have hwl1 : IntKind.i64.wrap ((at_ : Int) + 1) = (at_ : Int) + 1 := by rw [IntKind.wrap_i64]; omega
            have hwl2 : IntKind.i64.wrap ((l.length : Int) - 1) = (l.length : Int) - 1 := by rw [IntKind.wrap_i64]; omega
            have hcall1 : ∀ X, Calls Try.prog 86 #[.int .i64 (v : Int), .int .i64 0, .int .i64 ((n : Int) - 1)] X fun e w' => e = .returned (.bool true) ∧ w' = X := fun X => by rw [← hr1]; exact (isIn86 _ _ _ X).mono fun _ _ h => ⟨h.1, h.2.symm⟩
            clear hr1
            go_enter Try.func104, Try.ntmps104
            go_wp2_with fail
            generalize Wa.alloc (.cells #[.int .i64 (v : Int), .int .i64 sno, .int .i64 syes, .slice wa swts.length wc] 80) = X at *
            have y0 := HK0.out.2.1.cell 0
            have y3 := HK0.out.2.1.cell 3
            have z0 := HK0.out.2.2.1.cell 0
            have d0 := HK0.out.1.cell v
            simp only [List.getElem?_toArray, a12_get (show v < 12 by omega), e2] at d0
            simp only [List.getElem?_toArray, List.getElem?_cons_succ, List.getElem?_cons_zero] at y0 y3 z0
            refine wp_region_still_tail 22 (by kernel_rfl) (by kernel_rfl) ?_
            simp only [List.take_succ_cons, List.take_zero, List.drop_succ_cons, List.drop_zero]
            repeat still_step
            still_call hcall1 _
            repeat still_step
            refine wpStill_nil ?_
            change wpList _ _ _ _ _ X.drew
            go_wp2_with fail
            refine (need_yes _ _).mono ?_
            rintro e w' ⟨rfl, rfl⟩
            clear hcall1 x0'
            have HK1 : Hid (Blk X.drew W.heap.size (a12 (fun k => encP (dc k))).toArray 130 ∧ Blk X.drew (W.heap.size + 1) #[.int .i64 (v : Int), .int .i64 sno, .int .i64 syes, .slice wa swts.length wc] 80 ∧ Blk X.drew cB #[.int .i64 (n : Nat), vr, .slice (some ⟨sb, so, none⟩) l.length lc, .map (some M)] 126 ∧ UsedAt X.drew M rows.length b ∧ Frm (fun k => k = M) W X.drew ∧ Below W0.heap.size W0 X.drew) := ⟨HK0.out.1, HK0.out.2.1, HK0.out.2.2.1, World.ownsMap.drew HK0.out.2.2.2.1, HK0.out.2.2.2.2.1.drew, HK0.out.2.2.2.2.2.drew⟩
            clear HK0 y0 y3 z0 d0
            generalize X.drew = Y at *
            have y1 := HK1.out.2.1.cell 1
            have y2 := HK1.out.2.1.cell 2
            have z2 := HK1.out.2.2.1.cell 2
            simp only [List.getElem?_toArray, List.getElem?_cons_succ, List.getElem?_cons_zero] at y1 y2 z2
            go_wp2_with fail
            cases hc1 : inB sno ((at_ : Int) + 1) ((l.length : Int) - 1) with
            | false =>
              have hcA : Hid (lv = (at_ : Int)) := HBD.out (by unfold caseC; simp only; rw [hc1, Bool.false_and, Bool.and_false])
              have hcall3 : ∀ X, Calls Try.prog 86 #[.int .i64 sno, .int .i64 ((at_ : Int) + 1), .int .i64 ((l.length : Int) - 1)] X fun e w' => e = .returned (.bool false) ∧ w' = X := fun X => by rw [← hc1]; exact (isIn86 _ _ _ X).mono fun _ _ h => ⟨h.1, h.2.symm⟩
              clear hc1
              clear hcaA
              refine wp_region_still_tail 25 (by kernel_rfl) (by kernel_rfl) ?_
              simp only [List.take_succ_cons, List.take_zero, List.drop_succ_cons, List.drop_zero]
              repeat still_step
              still_call hcall3 _
              repeat still_step
              refine wpStill_nil ?_
              change wpList _ _ _ _ _ Y.drew
              go_wp2_with fail
              refine (need_no _ _).mono ?_
              rintro e w' ⟨rfl, rfl⟩
              go_wp2
              exact ⟨rfl, b, World.ownsMap.drew HK1.out.2.2.2.1, HK1.out.2.2.2.2.1.drew, .inr ⟨by have := hcA.out; omega, by rw [hcA.out]⟩⟩
            | true =>
              cases hc2 : inB syes ((at_ : Int) + 1) ((l.length : Int) - 1) with
              | false =>
                have hcA : Hid (lv = (at_ : Int)) := HBD.out (by unfold caseC; simp only; rw [hc2, Bool.and_false, Bool.and_false])
                have hcall3 : ∀ X, Calls Try.prog 86 #[.int .i64 sno, .int .i64 ((at_ : Int) + 1), .int .i64 ((l.length : Int) - 1)] X fun e w' => e = .returned (.bool true) ∧ w' = X := fun X => by rw [← hc1]; exact (isIn86 _ _ _ X).mono fun _ _ h => ⟨h.1, h.2.symm⟩
                have hcall4 : ∀ X, Calls Try.prog 86 #[.int .i64 syes, .int .i64 ((at_ : Int) + 1), .int .i64 ((l.length : Int) - 1)] X fun e w' => e = .returned (.bool false) ∧ w' = X := fun X => by rw [← hc2]; exact (isIn86 _ _ _ X).mono fun _ _ h => ⟨h.1, h.2.symm⟩
                clear hc1 hc2
                clear hcaA
                refine wp_region_still_tail 25 (by kernel_rfl) (by kernel_rfl) ?_
                simp only [List.take_succ_cons, List.take_zero, List.drop_succ_cons, List.drop_zero]
                repeat still_step
                still_call hcall3 _
                repeat still_step
                still_call hcall4 _
                repeat still_step
                refine wpStill_nil ?_
                change wpList _ _ _ _ _ Y.drew
                go_wp2_with fail
                refine (need_no _ _).mono ?_
                rintro e w' ⟨rfl, rfl⟩
                go_wp2
                exact ⟨rfl, b, World.ownsMap.drew HK1.out.2.2.2.1, HK1.out.2.2.2.2.1.drew, .inr ⟨by have := hcA.out; omega, by rw [hcA.out]⟩⟩
              | true =>
                have hcC : Hid (lv = if wrongV rows l n f sno.toNat (upd dc v 0) = -1 then wrongV rows l n f syes.toNat (upd dc v 1) else wrongV rows l n f sno.toNat (upd dc v 0)) := HG.out (by rw [hcaA]; unfold caseC; simp only; rw [hc1, hc2]; rfl)
                obtain ⟨nn, hnn, hn1, hn2⟩ : ∃ m : Nat, sno = m ∧ at_ < m ∧ m < l.length := by
                  unfold inB at hc1
                  simp only [Bool.and_eq_true, decide_eq_true_eq] at hc1
                  obtain ⟨v, hv⟩ := Int.eq_ofNat_of_zero_le (show 0 ≤ sno by omega)
                  exact ⟨v, hv, by omega, by omega⟩
                obtain ⟨ny, hny, hy1, hy2⟩ : ∃ m : Nat, syes = m ∧ at_ < m ∧ m < l.length := by
                  unfold inB at hc2
                  simp only [Bool.and_eq_true, decide_eq_true_eq] at hc2
                  obtain ⟨v, hv⟩ := Int.eq_ofNat_of_zero_le (show 0 ≤ syes by omega)
                  exact ⟨v, hv, by omega, by omega⟩
                subst hnn hny
                rw [Int.toNat_natCast, Int.toNat_natCast] at hcC
                have hcall3 : ∀ X, Calls Try.prog 86 #[.int .i64 (nn : Int), .int .i64 ((at_ : Int) + 1), .int .i64 ((l.length : Int) - 1)] X fun e w' => e = .returned (.bool true) ∧ w' = X := fun X => by rw [← hc1]; exact (isIn86 _ _ _ X).mono fun _ _ h => ⟨h.1, h.2.symm⟩
                have hcall4 : ∀ X, Calls Try.prog 86 #[.int .i64 (ny : Int), .int .i64 ((at_ : Int) + 1), .int .i64 ((l.length : Int) - 1)] X fun e w' => e = .returned (.bool true) ∧ w' = X := fun X => by rw [← hc2]; exact (isIn86 _ _ _ X).mono fun _ _ h => ⟨h.1, h.2.symm⟩
                clear hc1 hc2
                clear hcaA
                refine wp_region_still_tail 25 (by kernel_rfl) (by kernel_rfl) ?_
                simp only [List.take_succ_cons, List.take_zero, List.drop_succ_cons, List.drop_zero]
                repeat still_step
                still_call hcall3 _
                repeat still_step
                still_call hcall4 _
                repeat still_step
                refine wpStill_nil ?_
                change wpList _ _ _ _ _ Y.drew
                go_wp2_with fail
                refine (need_yes _ _).mono ?_
                rintro e w' ⟨rfl, rfl⟩
                clear hcall3 hcall4 HG HBD
                have HK2 : Hid (Blk Y.drew W.heap.size (a12 (fun k => encP (dc k))).toArray 130 ∧ Blk Y.drew (W.heap.size + 1) #[.int .i64 (v : Int), .int .i64 (nn : Int), .int .i64 (ny : Int), .slice wa swts.length wc] 80 ∧ Blk Y.drew cB #[.int .i64 (n : Nat), vr, .slice (some ⟨sb, so, none⟩) l.length lc, .map (some M)] 126 ∧ UsedAt Y.drew M rows.length b ∧ Frm (fun k => k = M) W Y.drew ∧ Below W0.heap.size W0 Y.drew) := ⟨HK1.out.1, HK1.out.2.1, HK1.out.2.2.1, World.ownsMap.drew HK1.out.2.2.2.1, HK1.out.2.2.2.2.1.drew, HK1.out.2.2.2.2.2.drew⟩
                clear HK1 y1 y2 z2
                generalize Y.drew = Z at *
                have p0 := HK2.out.2.1.cell 0
                have p1 := HK2.out.2.1.cell 1
                have d0 := HK2.out.1.cell v
                have g0 := HK2.out.1.frozen v
                simp only [List.getElem?_toArray, a12_get (show v < 12 by omega), List.getElem?_cons_succ, List.getElem?_cons_zero] at p0 p1 d0
                have HK3 : Hid (Blk (Z.setCell ⟨W.heap.size, v, none⟩ (.int .i64 (-1))) W.heap.size (a12 (fun k => encP (upd dc v 0 k))).toArray 130 ∧ Blk (Z.setCell ⟨W.heap.size, v, none⟩ (.int .i64 (-1))) (W.heap.size + 1) #[.int .i64 (v : Int), .int .i64 (nn : Int), .int .i64 (ny : Int), .slice wa swts.length wc] 80 ∧ Blk (Z.setCell ⟨W.heap.size, v, none⟩ (.int .i64 (-1))) cB #[.int .i64 (n : Nat), vr, .slice (some ⟨sb, so, none⟩) l.length lc, .map (some M)] 126 ∧ UsedAt (Z.setCell ⟨W.heap.size, v, none⟩ (.int .i64 (-1))) M rows.length b ∧ Frm (fun k => k = M) W (Z.setCell ⟨W.heap.size, v, none⟩ (.int .i64 (-1))) ∧ Below W0.heap.size W0 (Z.setCell ⟨W.heap.size, v, none⟩ (.int .i64 (-1)))) := by
                  refine ⟨?_, HK2.out.2.1.other _ (by simp), HK2.out.2.2.1.other _ (by simp; omega), HK2.out.2.2.2.1.frm (F := fun k => k = W.heap.size) ((Frm.refl (fun k => k = W.heap.size) Z).setCell (fun _ => rfl) _) (by omega), HK2.out.2.2.2.2.1.setCell (by omega) _, HK2.out.2.2.2.2.2.setCell (by simp; omega) _⟩
                  have hset := HK2.out.1.set v (.int .i64 (-1))
                  rw [a12_set, show (fun k => if k = v then ((-1) : Int) else encP (dc k)) = _ from encP_upd (dc) v 0] at hset
                  exact hset
                have p2 := HK3.out.2.1.cell 1
                simp only [List.getElem?_toArray, List.getElem?_cons_succ, List.getElem?_cons_zero] at p2
                clear HK2
                go_wp2_with (refine wpList_load_mid rfl 130 _ rfl W.heap.size 0 rfl (a12 (fun k => encP (upd dc v 0 k))) _ HK3.out.1.range Try.underlying130 rfl (by rw [a12_len]; kernel_rfl) ?_)
                refine (HIH.out nn (upd dc v 0) b _ cB M (by omega) (by omega) HK3.out.2.2.1 HK3.out.2.2.2.2.2 hM0 (HD.out.upd hvn (.inr rfl)) HK3.out.2.2.2.1).mono ?_
                clear p0 p1 p2 d0 g0
                rintro e w' ⟨b1, hu1, hf1, (⟨h1, rfl, rfl⟩ | ⟨h1, rfl⟩)⟩
                · have hcC2 : Hid (lv = wrongV rows l n f ny (upd dc v 1)) := by rw [h1, if_pos rfl] at hcC; exact hcC
                  clear hcC h1
                  have HK4 : Hid (Blk w' W.heap.size (a12 (fun k => encP (upd dc v 0 k))).toArray 130 ∧ Blk w' (W.heap.size + 1) #[.int .i64 (v : Int), .int .i64 (nn : Int), .int .i64 (ny : Int), .slice wa swts.length wc] 80 ∧ Blk w' cB #[.int .i64 (n : Nat), vr, .slice (some ⟨sb, so, none⟩) l.length lc, .map (some M)] 126 ∧ UsedAt w' M rows.length (usedV l f nn b) ∧ Frm (fun k => k = M) W w' ∧ Below W0.heap.size W0 w') := ⟨HK3.out.1.frm hf1 (by omega), HK3.out.2.1.frm hf1 (by omega), HK3.out.2.2.1.frm hf1 (by omega), hu1, HK3.out.2.2.2.2.1.trans hf1 (fun _ _ e => e), HK3.out.2.2.2.2.2.trans (hf1.below (B := W0.heap.size) HK3.out.2.2.2.2.2.size (fun k e => by omega))⟩
                  clear HK3 hu1 hf1
                  have p0 := HK4.out.2.1.cell 0
                  have p1 := HK4.out.2.1.cell 2
                  have d0 := HK4.out.1.cell v
                  have g0 := HK4.out.1.frozen v
                  simp only [List.getElem?_toArray, a12_get (show v < 12 by omega), List.getElem?_cons_succ, List.getElem?_cons_zero] at p0 p1 d0
                  have HK5 : Hid (Blk (w'.setCell ⟨W.heap.size, v, none⟩ (.int .i64 1)) W.heap.size (a12 (fun k => encP (upd dc v 1 k))).toArray 130 ∧ Blk (w'.setCell ⟨W.heap.size, v, none⟩ (.int .i64 1)) (W.heap.size + 1) #[.int .i64 (v : Int), .int .i64 (nn : Int), .int .i64 (ny : Int), .slice wa swts.length wc] 80 ∧ Blk (w'.setCell ⟨W.heap.size, v, none⟩ (.int .i64 1)) cB #[.int .i64 (n : Nat), vr, .slice (some ⟨sb, so, none⟩) l.length lc, .map (some M)] 126 ∧ UsedAt (w'.setCell ⟨W.heap.size, v, none⟩ (.int .i64 1)) M rows.length (usedV l f nn b) ∧ Frm (fun k => k = M) W (w'.setCell ⟨W.heap.size, v, none⟩ (.int .i64 1)) ∧ Below W0.heap.size W0 (w'.setCell ⟨W.heap.size, v, none⟩ (.int .i64 1))) := by
                    refine ⟨?_, HK4.out.2.1.other _ (by simp), HK4.out.2.2.1.other _ (by simp; omega), HK4.out.2.2.2.1.frm (F := fun k => k = W.heap.size) ((Frm.refl (fun k => k = W.heap.size) w').setCell (fun _ => rfl) _) (by omega), HK4.out.2.2.2.2.1.setCell (by omega) _, HK4.out.2.2.2.2.2.setCell (by simp; omega) _⟩
                    have hset := HK4.out.1.set v (.int .i64 1)
                    rw [a12_set, show (fun k => if k = v then (1 : Int) else encP (upd dc v 0 k)) = _ from encP_upd (upd dc v 0) v 1] at hset
                    rw [upd_upd] at hset; exact hset
                  have p2 := HK5.out.2.1.cell 2
                  simp only [List.getElem?_toArray, List.getElem?_cons_succ, List.getElem?_cons_zero] at p2
                  clear HK4
                  go_wp2_with (refine wpList_load_mid rfl 130 _ rfl W.heap.size 0 rfl (a12 (fun k => encP (upd dc v 1 k))) _ HK5.out.1.range Try.underlying130 rfl (by rw [a12_len]; kernel_rfl) ?_)
                  refine (HIH.out ny (upd dc v 1) (usedV l f nn b) _ cB M (by omega) (by omega) HK5.out.2.2.1 HK5.out.2.2.2.2.2 hM0 (HD.out.upd hvn (.inl rfl)) HK5.out.2.2.2.1).mono ?_
                  clear p0 p1 p2 d0 g0
                  rintro e w2 ⟨b1, hu1, hf1, (⟨h1, rfl, rfl⟩ | ⟨h1, rfl⟩)⟩
                  · go_wp2
                    first
                      | go_end0
                      | refine bodyPost_ret (results_none rfl _ _ _) rfl ?_
                    exact ⟨_, hu1, HK5.out.2.2.2.2.1.trans hf1 (fun _ _ e => e), .inl ⟨by rw [hcC2.out]; exact h1, rfl, rfl⟩⟩
                  · go_wp2
                    exact ⟨rfl, b1, hu1, HK5.out.2.2.2.2.1.trans hf1 (fun _ _ e => e), .inr ⟨by rw [hcC2.out]; exact h1, by rw [hcC2.out]⟩⟩
                · have hcC2 : Hid (lv = wrongV rows l n f nn (upd dc v 0)) := by rw [if_neg (by omega)] at hcC; exact hcC
                  go_wp2
                  exact ⟨rfl, b1, hu1, HK3.out.2.2.2.2.1.trans hf1 (fun _ _ e => e), .inr ⟨by rw [hcC2.out]; exact h1, by rw [hcC2.out]⟩⟩
          · have q3 : ((swts.length : Int) == 0) = false := beq_eq_false_iff_ne.2 (by omega)
            have hcA : Hid (lv = (at_ : Int)) := HBD.out (by unfold caseA; simp only; rw [q3]; simp)
            have hcall1 : ∀ X, Calls Try.prog 86 #[.int .i64 (v : Int), .int .i64 0, .int .i64 ((n : Int) - 1)] X fun e w' => e = .returned (.bool true) ∧ w' = X := fun X => by rw [← hr1]; exact (isIn86 _ _ _ X).mono fun _ _ h => ⟨h.1, h.2.symm⟩
            clear hr1
            go_enter Try.func104, Try.ntmps104
            go_wp2_with fail
            generalize Wa.alloc (.cells #[.int .i64 (v : Int), .int .i64 sno, .int .i64 syes, .slice wa swts.length wc] 80) = X at *
            have y0 := HK0.out.2.1.cell 0
            have y3 := HK0.out.2.1.cell 3
            have z0 := HK0.out.2.2.1.cell 0
            have d0 := HK0.out.1.cell v
            simp only [List.getElem?_toArray, a12_get (show v < 12 by omega), e2] at d0
            simp only [List.getElem?_toArray, List.getElem?_cons_succ, List.getElem?_cons_zero] at y0 y3 z0
            refine wp_region_still_tail 22 (by kernel_rfl) (by kernel_rfl) ?_
            simp only [List.take_succ_cons, List.take_zero, List.drop_succ_cons, List.drop_zero]
            repeat still_step
            still_call hcall1 _
            repeat still_step
            refine wpStill_nil ?_
            change wpList _ _ _ _ _ X.drew
            go_wp2_with fail
            refine (need_no _ _).mono ?_
            rintro e w' ⟨rfl, rfl⟩
            go_wp2
            exact ⟨rfl, b, World.ownsMap.drew HK0.out.2.2.2.1, HK0.out.2.2.2.2.1.drew, .inr ⟨by have := hcA.out; omega, by rw [hcA.out]⟩⟩
end Go.Proofs.Ytblmpmapcdpaiaa
