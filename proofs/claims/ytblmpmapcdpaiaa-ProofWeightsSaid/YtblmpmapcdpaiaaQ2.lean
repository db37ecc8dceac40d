/- The reference's wrong. -/
import Derived.Test.YtblmpmapcdpaiaaQ1
namespace Go.Proofs.Ytblmpmapcdpaiaa
open Go.RowKit Lib


theorem own_none3 (W : World) : (W.alloc (.cells #[] 3)).ownsRow W.heap.size 3 1 (.slice (some ⟨W.heap.size, 0, none⟩) 0 0) 0 [] :=
  ⟨rfl, .inr ⟨W.heap.size, 0, #[], rfl, Nat.le_refl _, heap_alloc_new W _, Nat.le_refl _, Nat.zero_le _, rfl, rfl⟩⟩
/-- A copy of a slice of numbers, appended to nothing. -/
theorem wpList_copy3 {ops : Array Oper} {rest : List Oper} {o : Oper} {a : Act} {Q : Exit → Act → World → Prop} {W : World} (hgd : o.guard = none) (s x : Operand)
    (ho : o.op = .call { callee := .builtin .append, args := #[s, x], argTypes := #[24, 24] }) (hs : a.eval s = .slice (some ⟨W.heap.size, 0, none⟩) 0 0)
    {db off cap : Nat} {l : List Int} (hx : a.eval x = .slice (some ⟨db, off, none⟩) l.length cap) (hl : IntsAt W (.slice (some ⟨db, off, none⟩) l.length cap) l) (hn : l.length ≤ 1000)
    (h : ∀ g c w', w'.ownsRow W.heap.size 3 1 (.slice (some ⟨g, 0, none⟩) l.length c) l.length (l.map (Value.int .i64)) → Below W.heap.size W w' → W.heap.size ≤ g → wpList Try.prog ops Q rest (a.put o.dst (.slice (some ⟨g, 0, none⟩) l.length c)) w') : wpList Try.prog ops Q (o :: rest) a (W.alloc (.cells #[] 3)) := by
  obtain ⟨i, hi, hz0, hz1, hz2⟩ := info_parts E24.info
  refine wpList_append_own _ hgd s x 24 ho W.heap.size 3 i _ 1 8 E24.und hi hz0 hz1 hz2 E24.zs E24.pos _ 0 [] hs (own_none3 W) ⟨db, off, none⟩ l.length cap (l.map (Value.int .i64)) hx (by simp) ?_ ?_ (by unfold maxLen; omega) (by omega) (by simp) ?_
  · intro j u hj
    rw [List.getElem?_map] at hj
    cases hq : l[j]? with
    | none => rw [hq] at hj; cases hj
    | some y =>
      rw [hq] at hj
      cases hj
      obtain ⟨b, o2, e, hc⟩ := SliceOf.get hl hq
      cases e
      rw [addr_add]
      exact (((Below.refl _ _).alloc (Nat.le_refl _) _).cell (p := ⟨db, off + j, none⟩) (World.block_lt_of_cell? _ _ hc)).trans hc
  · intro u hu
    obtain ⟨y, -, rfl⟩ := List.mem_map.1 hu
    rfl
  · intro v' w' h1 h2 h3
    rw [Nat.zero_add, List.nil_append] at h1
    have hB : Below W.heap.size W w' := ((Below.refl _ _).alloc (Nat.le_refl _) _).grown h2 (by simp) (fun k e => by cases e; exact Nat.le_refl _)
    rcases h1.2 with ⟨e, -⟩ | ⟨g, c, cur, rfl, hb, -⟩
    · have := (h3.1 e).1
      cases this
    · exact h g c w' h1 hB hb
theorem caseA_bad {n : Nat} {s : StepD} {dc : Dc} (h : s.var < 0 ∨ (n : Int) ≤ s.var ∨ 0 < s.wts.length ∨ 0 ≤ dc s.var.toNat) : caseA n s dc = false := by
  cases hq : caseA n s dc with
  | false => rfl
  | true =>
    unfold caseA inB at hq
    simp only [Bool.and_eq_true, decide_eq_true_eq, beq_iff_eq] at hq
    omega
theorem caseC_bad {L at_ : Nat} {s : StepD} (h : s.no ≤ at_ ∨ (L : Int) ≤ s.no ∨ s.yes ≤ at_ ∨ (L : Int) ≤ s.yes) : caseC L at_ s = false := by
  cases hq : caseC L at_ s with
  | false => rfl
  | true =>
    unfold caseC inB at hq
    simp only [Bool.and_eq_true, decide_eq_true_eq] at hq
    omega
theorem cases_good {n L at_ : Nat} {s : StepD} {dc : Dc} (h1 : 0 ≤ s.var) (h2 : s.var < n) (h3 : s.wts.length = 0) (h4 : dc s.var.toNat = -1) (h5 : (at_ : Int) < s.no) (h6 : s.no < L) (h7 : (at_ : Int) < s.yes) (h8 : s.yes < L) : (caseA n s dc && caseC L at_ s) = true := by
  unfold caseA caseC inB
  simp only [Bool.and_eq_true, decide_eq_true_eq, beq_iff_eq]
  omega
theorem dcR_cell {n v : Nat} {dc : Dc} (h : v < n) : ((dcR n dc).map (Value.int .i64))[v]? = some (.int .i64 (dc v)) := by rw [List.getElem?_map, dcR_get h]; rfl
theorem own_cell {W : World} {base g n c v : Nat} {xs : List Value} {u : Value} (h : W.ownsRow base 3 1 (.slice (some ⟨g, 0, none⟩) n c) n xs) (hv : xs[v]? = some u) : ∃ cur, Blk W g cur 3 ∧ W.cell? ⟨g, v, none⟩ = some u ∧ W.frozen? ⟨g, v, none⟩ = false := by
  have hc := h.cells rfl v u hv
  rw [add_zero_off] at hc
  rcases h.2 with ⟨e, -⟩ | ⟨g', cap, cur, e, -, hb, -⟩
  · cases e
  · cases e
    exact ⟨cur, hb, hc, (show Blk W g cur 3 from hb).frozen v⟩
theorem own_stored {W : World} {base g n c : Nat} {dc : Dc} (h : W.ownsRow base 3 1 (.slice (some ⟨g, 0, none⟩) n c) n ((dcR n dc).map (Value.int .i64))) (v : Nat) (x : Int) :
    True ∧ IntsAt (W.setCell ⟨g, v, none⟩ (.int .i64 x)) (.slice (some ⟨g, 0, none⟩) n c) (dcR n (upd dc v x)) := by
  have h1 := (h.stored v (.int .i64 x)).1
  rw [← List.map_set, dcR_set] at h1
  refine ⟨trivial, ?_⟩
  have h2 : (W.setCell ⟨g, v, none⟩ (.int .i64 x)).ownsRow base 3 1 (.slice (some ⟨g, 0, none⟩) n c) (dcR n (upd dc v x)).length ((dcR n (upd dc v x)).map (Value.int .i64)) := by rw [dcR_len]; exact h1
  exact owned_slice h2
set_option maxRecDepth 100000 in
set_option maxHeartbeats 40000000 in
theorem rwrong_any {W0 : World} {n : Nat} {rows : List RowD} {l : List StepD} {vr vl : Value} (hvr : RowsAt W0 vr rows) (hvl : StepsAt W0 vl l) (hr : RowsOK n rows) (hl9 : l.length ≤ 9000) :
    ∀ (f at_ : Nat) (dc : Dc) (W : World) (vd : Value), l.length ≤ f + at_ → at_ < l.length → Below W0.heap.size W0 W → DcOK n dc → IntsAt W vd (dcR n dc) →
      Calls Try.prog 82 #[vr, vl, .int .i64 (at_ : Nat), vd] W fun e w' => e = .returned (.int .i64 (wrongV rows l n f at_ dc)) ∧ Below W.heap.size W w' := by
  intro f
  induction f with
  | zero => intro at_ dc W vd h1 h2; omega
  | succ f ih =>
    intro at_ dc W vd hfuel hal hB0 hd hvd
    have hs := List.getElem?_eq_getElem hal
    generalize l[at_] = s at hs
    have HIH := Lib.hid ih
    clear ih
    obtain ⟨la, lc, rfl, hl1, hl2⟩ := (show SlicesLen vl l.length from hvl.len)
    obtain ⟨ra, rc, rfl, hr1, hr2⟩ := (show SlicesLen vr rows.length from hvr.len)
    obtain ⟨da, dcap, rfl, hd1, hd2⟩ := (show SlicesLen vd (dcR n dc).length from hvd.len)
    rw [dcR_len] at hvd hd1 ⊢
    unfold maxLen at hl2 hr2 hd2
    obtain ⟨sb, so, vw, rfl, s0, s1, s2, s3, hw⟩ := (hvl.below hB0).getC hs
    obtain ⟨wa, wc, rfl, hw1, hw2⟩ := (show SlicesLen vw s.wts.length from hw.len)
    unfold maxLen at hw2
    have hat : (0 : Int) ≤ (at_ : Int) ∧ (at_ : Int) < (l.length : Int) := by omega
    have HL := Lib.hid hvl
    have HRW := Lib.hid hvr
    have HB0 := Lib.hid hB0
    have HVD := Lib.hid hvd
    have HD := Lib.hid hd
    have HR := Lib.hid hr
    have HWT := Lib.hid hw
    have HBX : Hid (Below W.heap.size W (W.alloc (.cells #[.int .i64 s.var, .int .i64 s.no, .int .i64 s.yes, .slice wa s.wts.length wc] 80))) := (Below.refl _ _).alloc (Nat.le_refl _) _
    have HKX : Hid (Blk (W.alloc (.cells #[.int .i64 s.var, .int .i64 s.no, .int .i64 s.yes, .slice wa s.wts.length wc] 80)) W.heap.size #[.int .i64 s.var, .int .i64 s.no, .int .i64 s.yes, .slice wa s.wts.length wc] 80) := Blk.new _ _ _
    by_cases hv : s.var = -1
    · have e1 := wrongV_leaf (rows := rows) (n := n) (f := f) (dc := dc) hs hv
      rw [e1]
      have hleaf := rleaf_any (s := s) ((hvr.below hB0).below HBX.out) (hw.below HBX.out) (hvd.below HBX.out) hr hd
      have HLEAF := Lib.hid hleaf
      have q0 : (s.var == -1) = true := beq_iff_eq.2 hv
      cases hlv : leafV rows n s dc with
      | true =>
        rw [if_pos rfl]
        rw [hlv] at HLEAF
        obtain ⟨svar, sno, syes, swts⟩ := s
        simp only at *
        clear hv e1 hlv hleaf hvr hvl hvd hw hB0 hd hr hs
        go_enter Try.func82, Try.ntmps82
        go_wp2_with fail
        refine HLEAF.out.mono ?_
        rintro e w' ⟨rfl, hB⟩
        go_wp2
        go_ret
        exact ⟨rfl, HBX.out.trans (hB.mono HBX.out.size)⟩
      | false =>
        rw [if_neg (by decide)]
        rw [hlv] at HLEAF
        obtain ⟨svar, sno, syes, swts⟩ := s
        simp only at *
        clear hv e1 hlv hleaf hvr hvl hvd hw hB0 hd hr hs
        go_enter Try.func82, Try.ntmps82
        go_wp2_with fail
        refine HLEAF.out.mono ?_
        rintro e w' ⟨rfl, hB⟩
        go_wp2
        go_ret
        exact ⟨rfl, HBX.out.trans (hB.mono HBX.out.size)⟩
    · have q0 : (s.var == -1) = false := beq_eq_false_iff_ne.2 hv
      have hbad : (caseA n s dc && caseC l.length at_ s) = false → wrongV rows l n (f + 1) at_ dc = at_ := wrongV_bad hs hv
      have hgood : (caseA n s dc && caseC l.length at_ s) = true → wrongV rows l n (f + 1) at_ dc = if wrongV rows l n f s.no.toNat (upd dc s.var.toNat 0) = -1 then wrongV rows l n f s.yes.toNat (upd dc s.var.toNat 1) else wrongV rows l n f s.no.toNat (upd dc s.var.toNat 0) := wrongV_case hs hv
      generalize wrongV rows l n (f + 1) at_ dc = lv at hbad hgood
      obtain ⟨svar, sno, syes, swts⟩ := s
      simp only at *
      have HG := Lib.hid hgood
      have HBD := Lib.hid hbad
      clear hv hgood hbad hvr hvl hvd hw hB0 hd hr hs
      by_cases c0 : svar < 0
      · have d0a : decide (svar < 0) = true := decide_eq_true (by omega)
        have HE := Lib.hid (HBD.out (by rw [caseA_bad (.inl c0)]; rfl))
        clear c0
        go_enter Try.func82, Try.ntmps82
        go_wp2_with fail
        go_wp2
        go_ret
        exact ⟨by rw [HE.out]; rfl, HBX.out⟩
      · have d0a : decide (svar < 0) = false := decide_eq_false (by omega)
        by_cases c1 : (n : Int) ≤ svar
        · have d1a : decide ((n : Int) ≤ svar) = true := decide_eq_true (by omega)
          have HE := Lib.hid (HBD.out (by rw [caseA_bad (.inr (.inl c1))]; rfl))
          clear c0 c1
          go_enter Try.func82, Try.ntmps82
          go_wp2_with fail
          go_wp2
          go_ret
          exact ⟨by rw [HE.out]; rfl, HBX.out⟩
        · have d1a : decide ((n : Int) ≤ svar) = false := decide_eq_false (by omega)
          by_cases c2 : 0 < swts.length
          · have d2a : decide (0 < swts.length) = true := decide_eq_true (by omega)
            have d2b : decide ((0 : Int) < (swts.length : Int)) = true := decide_eq_true (by omega)
            have HE := Lib.hid (HBD.out (by rw [caseA_bad (.inr (.inr (.inl c2)))]; rfl))
            clear c0 c1 c2
            go_enter Try.func82, Try.ntmps82
            go_wp2_with fail
            go_wp2
            go_ret
            exact ⟨by rw [HE.out]; rfl, HBX.out⟩
          · have d2a : decide (0 < swts.length) = false := decide_eq_false (by omega)
            have d2b : decide ((0 : Int) < (swts.length : Int)) = false := decide_eq_false (by omega)
            by_cases c3 : sno ≤ (at_ : Int)
            · have d3a : decide (sno ≤ (at_ : Int)) = true := decide_eq_true (by omega)
              have HE := Lib.hid (HBD.out (by rw [caseC_bad (.inl c3)]; exact Bool.and_false _))
              clear c0 c1 c2 c3
              go_enter Try.func82, Try.ntmps82
              go_wp2_with fail
              go_wp2
              go_ret
              exact ⟨by rw [HE.out]; rfl, HBX.out⟩
            · have d3a : decide (sno ≤ (at_ : Int)) = false := decide_eq_false (by omega)
              by_cases c4 : (l.length : Int) ≤ sno
              · have d4a : decide ((l.length : Int) ≤ sno) = true := decide_eq_true (by omega)
                have HE := Lib.hid (HBD.out (by rw [caseC_bad (.inr (.inl c4))]; exact Bool.and_false _))
                clear c0 c1 c2 c3 c4
                go_enter Try.func82, Try.ntmps82
                go_wp2_with fail
                go_wp2
                go_ret
                exact ⟨by rw [HE.out]; rfl, HBX.out⟩
              · have d4a : decide ((l.length : Int) ≤ sno) = false := decide_eq_false (by omega)
                by_cases c5 : syes ≤ (at_ : Int)
                · have d5a : decide (syes ≤ (at_ : Int)) = true := decide_eq_true (by omega)
                  have HE := Lib.hid (HBD.out (by rw [caseC_bad (.inr (.inr (.inl c5)))]; exact Bool.and_false _))
                  clear c0 c1 c2 c3 c4 c5
                  go_enter Try.func82, Try.ntmps82
                  go_wp2_with fail
                  go_wp2
                  go_ret
                  exact ⟨by rw [HE.out]; rfl, HBX.out⟩
                · have d5a : decide (syes ≤ (at_ : Int)) = false := decide_eq_false (by omega)
                  by_cases c6 : (l.length : Int) ≤ syes
                  · have d6a : decide ((l.length : Int) ≤ syes) = true := decide_eq_true (by omega)
                    have HE := Lib.hid (HBD.out (by rw [caseC_bad (.inr (.inr (.inr c6)))]; exact Bool.and_false _))
                    clear c0 c1 c2 c3 c4 c5 c6
                    go_enter Try.func82, Try.ntmps82
                    go_wp2_with fail
                    go_wp2
                    go_ret
                    exact ⟨by rw [HE.out]; rfl, HBX.out⟩
                  · have d6a : decide ((l.length : Int) ≤ syes) = false := decide_eq_false (by omega)
                    obtain ⟨v, hv0, hvn⟩ : ∃ v : Nat, svar = v ∧ v < n := by
                      obtain ⟨v, hv⟩ := Int.eq_ofNat_of_zero_le (show 0 ≤ svar by omega)
                      exact ⟨v, hv, by omega⟩
                    subst hv0
                    obtain ⟨db, dof, rfl, u0⟩ := HVD.out.get (dcR_get (dc := dc) hvn)
                    have hdbl : db < W.heap.size := World.block_lt_of_cell? _ _ u0
                    have hvi : (0 : Int) ≤ (v : Int) ∧ (v : Int) < (n : Int) := by omega
                    have u0' : (W.alloc (.cells #[.int .i64 (v : Int), .int .i64 sno, .int .i64 syes, .slice wa swts.length wc] 80)).cell? ⟨db, dof + v, none⟩ = some (.int .i64 (dc v)) := (HBX.out.cell hdbl).trans u0
                    by_cases c7 : 0 ≤ dc v
                    · have d7 : decide (0 ≤ dc v) = true := decide_eq_true c7
                      have HE := Lib.hid (HBD.out (by rw [caseA_bad (.inr (.inr (.inr (by simpa using c7))))]; rfl))
                      clear c0 c1 c2 c3 c4 c5 c6 c7
                      go_enter Try.func82, Try.ntmps82
                      go_wp2_with fail
                      go_wp2
                      go_ret
                      exact ⟨by rw [HE.out]; rfl, HBX.out⟩
                    · have d7 : decide (0 ≤ dc v) = false := decide_eq_false c7
                      have hdv : dc v = -1 := by have := (HD.out v).1; omega
                      have hlvg := HG.out (cases_good (by simp) (by show (v : Int) < (n : Int); omega) (by show swts.length = 0; omega) (by simpa using hdv) (by show (at_ : Int) < sno; omega) (by show sno < (l.length : Int); omega) (by show (at_ : Int) < syes; omega) (by show syes < (l.length : Int); omega))
                      obtain ⟨nn, hnn, hn1, hn2⟩ : ∃ m : Nat, sno = m ∧ at_ < m ∧ m < l.length := by
                        obtain ⟨v, hv⟩ := Int.eq_ofNat_of_zero_le (show 0 ≤ sno by omega)
                        exact ⟨v, hv, by omega, by omega⟩
                      obtain ⟨ny, hny, hy1, hy2⟩ : ∃ m : Nat, syes = m ∧ at_ < m ∧ m < l.length := by
                        obtain ⟨v, hv⟩ := Int.eq_ofNat_of_zero_le (show 0 ≤ syes by omega)
                        exact ⟨v, hv, by omega, by omega⟩
                      subst hnn hny
                      simp only [Int.toNat_natCast] at hlvg
                      obtain ⟨x0, HX0⟩ : ∃ x, Hid (wrongV rows l n f nn (upd dc v 0) = x) := ⟨_, rfl⟩
                      obtain ⟨x1, HX1⟩ : ∃ x, Hid (wrongV rows l n f ny (upd dc v 1) = x) := ⟨_, rfl⟩
                      have HXG0 : Hid (-1 ≤ x0) := by rw [← HX0.out]; exact wrongV_ge _ _ _ _ _ _
                      have HXG1 : Hid (-1 ≤ x1) := by rw [← HX1.out]; exact wrongV_ge _ _ _ _ _ _
                      rw [HX0.out, HX1.out] at hlvg
                      have HLV := Lib.hid hlvg
                      have hn12 := HR.out.1
                      have dn1 : decide (n ≤ v) = false := decide_eq_false (by omega)
                      have dn3 : decide (nn ≤ at_) = false := decide_eq_false (by omega)
                      have dn4 : decide (l.length ≤ nn) = false := decide_eq_false (by omega)
                      have dn5 : decide (ny ≤ at_) = false := decide_eq_false (by omega)
                      have dn6 : decide (l.length ≤ ny) = false := decide_eq_false (by omega)
                      clear hlvg hdv c0 c1 c2 c3 c4 c5 c6 c7 HG HBD
                      go_enter Try.func82, Try.ntmps82
                      go_wp2_with fail
                      go_wp2
                      go_loopw [10] (fun u10 wr => ∃ t : Int, ((t = 0) ∨ (t = 1 ∧ x0 = -1) ∨ (t = 2 ∧ x0 = -1 ∧ x1 = -1)) ∧ u10 = .int .i64 t ∧ Blk wr W.heap.size #[.int .i64 (v : Int), .int .i64 (nn : Int), .int .i64 (ny : Int), .slice wa swts.length wc] 80 ∧ Below W.heap.size W wr) (fun u10 _ => (2 - Go.RowKit.intOf u10).toNat)
                      case atStart => exact ⟨0, .inl rfl, rfl, HKX.out, HBX.out⟩
                      case round =>
                        obtain ⟨t, ht, rfl, hk, hB⟩ := hrel
                        rcases ht with rfl | ⟨rfl, h0⟩ | ⟨rfl, h0, h1⟩
                        · have y0 := hk.cell 0
                          have y1 := hk.cell 1
                          simp only [List.getElem?_toArray, List.getElem?_cons_succ, List.getElem?_cons_zero] at y0 y1
                          have HK := Lib.hid hk
                          have HB := Lib.hid hB
                          have hzk : W.heap.size < wr.heap.size := hk.lt
                          have HVK : Hid (IntsAt wr (.slice (some ⟨db, dof, none⟩) (dcR n dc).length dcap) (dcR n dc)) := by rw [dcR_len]; exact HVD.out.below hB
                          have hlen := Lib.hid (dcR_len n dc)
                          skip
                          clear hk hB
                          go_wp2_with (at_builtin; refine wpList_copy3 (l := dcR n dc) rfl _ _ rfl rfl (by rw [hlen.out]; rfl) HVK.out (by rw [hlen.out]; omega) ?_; intro g c w3 hown hB3 hgs; rw [hlen.out] at hown; rw [hlen.out]; obtain ⟨cur, hgb, hcv, hg0⟩ := own_cell hown (dcR_cell hvn); have k0 := (hB3.cell (p := ⟨W.heap.size, 0, none⟩) hzk).trans y0; have k1 := (hB3.cell (p := ⟨W.heap.size, 1, none⟩) hzk).trans y1; have HKS := own_stored hown v 0; have HB4 : Hid (Below W.heap.size W (w3.setCell ⟨g, v, none⟩ (.int .i64 0))) := (HB.out.trans (hB3.mono HB.out.size)).setCell (by simp; omega) _; have HK4 : Hid (Blk (w3.setCell ⟨g, v, none⟩ (.int .i64 0)) W.heap.size #[.int .i64 (v : Int), .int .i64 (nn : Int), .int .i64 (ny : Int), .slice wa swts.length wc] 80) := ((HK.out.below hB3 hzk).other _ (by simp; omega)); have k0' := HK4.out.cell 0; have k1' := HK4.out.cell 1; have k2' := HK4.out.cell 2; simp only [List.getElem?_toArray, List.getElem?_cons_succ, List.getElem?_cons_zero] at k0' k1' k2'; clear hown hgb hlen)
                          refine (HIH.out nn (upd dc v 0) _ _ (by omega) (by omega) (HB0.out.trans (HB4.out.mono HB0.out.size)) (HD.out.upd hvn (.inr rfl)) (HKS.2)).mono ?_
                          rintro e w4 ⟨rfl, hB5⟩
                          rw [HX0.out]
                          by_cases hx : 0 ≤ x0
                          · have HLVV := Lib.hid (show lv = x0 from by rw [HLV.out, if_neg (by omega)])
                            have dx : decide (0 ≤ x0) = true := decide_eq_true hx
                            clear hx
                            go_wp2
                            go_ret
                            exact ⟨by rw [HLVV.out] <;> rfl, HB4.out.trans (hB5.mono HB4.out.size)⟩
                          · have dx : decide (0 ≤ x0) = false := decide_eq_false hx
                            have HX : Hid (x0 = -1) := by have := HXG0.out; show x0 = -1; omega
                            clear hx
                            go_wp2
                            go_roundw
                            case rel => exact ⟨1, .inr (.inl ⟨rfl, HX.out⟩), by go_num, HK4.out.below hB5 HK4.out.lt, HB4.out.trans (hB5.mono HB4.out.size)⟩
                            case measure => simp [Go.RowKit.intOf]
                        · have y0 := hk.cell 0
                          have y1 := hk.cell 1
                          have y2 := hk.cell 2
                          simp only [List.getElem?_toArray, List.getElem?_cons_succ, List.getElem?_cons_zero] at y0 y1 y2
                          have HK := Lib.hid hk
                          have HB := Lib.hid hB
                          have hzk : W.heap.size < wr.heap.size := hk.lt
                          have HVK : Hid (IntsAt wr (.slice (some ⟨db, dof, none⟩) (dcR n dc).length dcap) (dcR n dc)) := by rw [dcR_len]; exact HVD.out.below hB
                          have hlen := Lib.hid (dcR_len n dc)
                          have h0' := Lib.hid h0
                          clear hk hB h0
                          go_wp2_with (at_builtin; refine wpList_copy3 (l := dcR n dc) rfl _ _ rfl rfl (by rw [hlen.out]; rfl) HVK.out (by rw [hlen.out]; omega) ?_; intro g c w3 hown hB3 hgs; rw [hlen.out] at hown; rw [hlen.out]; obtain ⟨cur, hgb, hcv, hg0⟩ := own_cell hown (dcR_cell hvn); have k0 := (hB3.cell (p := ⟨W.heap.size, 0, none⟩) hzk).trans y0; have k1 := (hB3.cell (p := ⟨W.heap.size, 1, none⟩) hzk).trans y1; have k2 := (hB3.cell (p := ⟨W.heap.size, 2, none⟩) hzk).trans y2; have HKS := own_stored hown v 1; have HB4 : Hid (Below W.heap.size W (w3.setCell ⟨g, v, none⟩ (.int .i64 1))) := (HB.out.trans (hB3.mono HB.out.size)).setCell (by simp; omega) _; have HK4 : Hid (Blk (w3.setCell ⟨g, v, none⟩ (.int .i64 1)) W.heap.size #[.int .i64 (v : Int), .int .i64 (nn : Int), .int .i64 (ny : Int), .slice wa swts.length wc] 80) := ((HK.out.below hB3 hzk).other _ (by simp; omega)); have k0' := HK4.out.cell 0; have k1' := HK4.out.cell 1; have k2' := HK4.out.cell 2; simp only [List.getElem?_toArray, List.getElem?_cons_succ, List.getElem?_cons_zero] at k0' k1' k2'; clear hown hgb hlen)
                          refine (HIH.out ny (upd dc v 1) _ _ (by omega) (by omega) (HB0.out.trans (HB4.out.mono HB0.out.size)) (HD.out.upd hvn (.inl rfl)) (HKS.2)).mono ?_
                          rintro e w4 ⟨rfl, hB5⟩
                          rw [HX1.out]
                          by_cases hx : 0 ≤ x1
                          · have HLVV := Lib.hid (show lv = x1 from by rw [HLV.out, h0'.out, if_pos rfl])
                            have dx : decide (0 ≤ x1) = true := decide_eq_true hx
                            clear hx
                            go_wp2
                            go_ret
                            exact ⟨by rw [HLVV.out] <;> rfl, HB4.out.trans (hB5.mono HB4.out.size)⟩
                          · have dx : decide (0 ≤ x1) = false := decide_eq_false hx
                            have HX : Hid (x1 = -1) := by have := HXG1.out; show x1 = -1; omega
                            clear hx
                            go_wp2
                            go_roundw
                            case rel => exact ⟨2, .inr (.inr ⟨rfl, h0'.out, HX.out⟩), by go_num, HK4.out.below hB5 HK4.out.lt, HB4.out.trans (hB5.mono HB4.out.size)⟩
                            case measure => simp [Go.RowKit.intOf]
                        · have HLVV := Lib.hid (show lv = -1 from by rw [HLV.out, h0, if_pos rfl]; exact h1)
                          clear h0 h1
                          go_wp2
                          go_ret
                          exact ⟨by rw [HLVV.out] <;> rfl, hB⟩
end Go.Proofs.Ytblmpmapcdpaiaa
