/- nadirref33: Write. -/
import Derived.Test.YtfmdpmcniccioaaRef3
namespace Go.Proofs.Ytfmdpmcniccioaa
open Go.RowKit Go.Shelf Lib

theorem E41 : ElemOK Try.prog 41 80 (.agg #[.int .i64 0, .string ⟨#[]⟩]) 2 24 := ⟨Try.underlying41, by kernel_rfl, rfl, by decide⟩
/-- One element of several cells is appended to an own row; and where the row then lies. -/
theorem wpList_pushW {ops : Array Oper} {rest : List Oper} {o : Oper} {a : Act} {Q : Exit → Act → World → Prop} {t e : TypeId} {z : Value} {size bytes : Nat} {w0 : World} {us : List Value}
    (E : ElemOK Try.prog t e z size bytes) (hgd : o.guard = none) (s x : Operand)
    (ho : o.op = .call { callee := .builtin .append, args := #[s, x], argTypes := #[t, t] })
    (base : Nat) {v : Value} {n : Nat} {xs : List Value} (hown : w0.ownsRow base e size v n xs) (hs : a.eval s = v) (hx : a.eval x = .slice (some ⟨w0.heap.size, 0, none⟩) 1 1)
    (hus : us.length = size) (h1 : ∀ u ∈ us, u.oneCell' = true) (h63 : n + 1 ≤ maxLen) (hbytes : (n + 1) * bytes ≤ 140737488355328) (hbase : base ≤ w0.heap.size)
    (h : ∀ v' w', w'.ownsRow base e size v' (n + 1) (xs ++ us) → (w0.alloc (.cells us.toArray e)).grownBy w' v.ownBlock → (v'.ownBlock = v.ownBlock ∨ v'.ownBlock = some (w0.heap.size + 1)) → wpList Try.prog ops Q rest (a.put o.dst v') w') :
    wpList Try.prog ops Q (o :: rest) a (w0.alloc (.cells us.toArray e)) := by
  obtain ⟨i, hi, hz0, hz1, hz2⟩ := info_parts E.info
  refine wpList_plain hgd fun K hK => ?_
  obtain ⟨v', w', hrun, r1, r2, r3⟩ := run_append_where (P := Try.prog) (w0.alloc (.cells us.toArray e)) base t o.type e i z size bytes E.und hi hz0 hz1 hz2 E.zs E.pos v n xs (hown.alloc _) ⟨w0.heap.size, 0, none⟩ 1 1 us (by rw [hus, Nat.one_mul])
    (fun j y hj => by rw [add_zero_off, World.cell?_alloc_at _ _ _ _ rfl]; simpa using hj) h1 h63 hbytes (by simp; omega)
  unfold Oper.wp
  simp [execOp, ho, resolve, invoke, builtin, hs, hx, hrun, Result.andThen]
  exact hK _ _ (h v' w' r1 r2 (by simpa using r3))
section
variable {W : World} {R : Nat} {vs vl : Value} {n : Nat} {D : DiskD}
theorem RefAt.pushed {w5 : World} {v' : Value} {X : Obj} (h : RefAt W R vs vl n D) (o : Nat) (s : ByteArray) (vis : List UInt8)
    (hown : w5.ownsRow 0 80 2 v' (D.pend.length + 1) (wcs D.pend ++ [.int .i64 (o : Nat), .string s])) (hg : (W.alloc X).grownBy w5 vl.ownBlock) :
    Blk w5 R #[vs, vl, .bool D.off, .int .i64 D.left] 43 ∧ RefAt (w5.setCell ⟨R, 1, none⟩ v') R vs v' n { D with pend := D.pend ++ [⟨o, s⟩], vis := vis } ∧ Frm (RFoot R vs vl) W (w5.setCell ⟨R, 1, none⟩ v') := by
  have nL := h.neL
  have nSL := owned_ne h.sure h.pen (by decide)
  have bB : Blk w5 R #[vs, vl, .bool D.off, .int .i64 D.left] 43 := (hg.block R (by have := h.box.lt; simp; omega) (fun e => nL R e.symm rfl)).trans (h.box.alloc X)
  have hfr : Frm (RFoot R vs vl) W (w5.setCell ⟨R, 1, none⟩ v') := (((Frm.refl _ W).alloc X).grown hg (fun k hk _ => .inr (.inr hk))).setCell (fun _ => .inl rfl) _
  have e : wcs (D.pend ++ [⟨o, s⟩]) = wcs D.pend ++ [.int .i64 (o : Nat), .string s] := by rw [wcs_app]; rfl
  refine ⟨bB, ⟨bB.set 1 v', ?_, ?_⟩, hfr⟩
  · refine owned_kept h.sure (fun g hgg => ?_)
    have hl := (h.sure.lt g hgg).2
    exact (Below.heap_setCell _ _ _ _ (fun e => h.neS g hgg e)).trans ((hg.block g (by simp; omega) (fun e => nSL g hgg e.symm)).trans (Below.heap_alloc _ _ _ hl))
  · show (w5.setCell ⟨R, 1, none⟩ v').ownsRow 0 80 2 v' (D.pend ++ [(⟨o, s⟩ : WrD)]).length (wcs (D.pend ++ [⟨o, s⟩]))
    rw [e, List.length_append]
    refine owned_kept hown (fun g hgg => Below.heap_setCell _ _ _ _ (fun e => ?_))
    obtain ⟨cur, hb, -⟩ := owned_block hown hgg
    exact hb.ne bB (by decide) e
theorem RefAt.kept {W' : World} (h : RefAt W R vs vl n D) {off : Bool} {left : Int} (hfr : Frm (fun i => i = R) W W') (hb : Blk W' R #[vs, vl, .bool off, .int .i64 left] 43) : RefAt W' R vs vl n { D with off := off, left := left } :=
  ⟨hb, owned_kept h.sure (fun g hg => hfr.block g (h.sure.lt g hg).2 (h.neS g hg)), owned_kept h.pen (fun g hg => hfr.block g (h.pen.lt g hg).2 (h.neL g hg))⟩
end
set_option maxRecDepth 100000 in
set_option maxHeartbeats 4000000 in
theorem write_ref {W : World} {R n : Nat} {D : DiskD} {F : Nat → Prop} (h : RefF W R n D F) (hF : ∀ k, W.heap.size ≤ k → F k) (hp : D.pend.length ≤ 1000000) (off : Int) (s : ByteArray) :
    Calls Try.prog 30 #[.pointer (some ⟨R, 0, none⟩), .int .i64 off, .string s] W fun e w' => e = .returned (.int .i64 (writeE D off s)) ∧ RefF w' R n (writeD D off s) F ∧ Frm F W w' := by
  obtain ⟨vs, vl, hA, hI, hFt⟩ := h
  have hd := hI.dur
  have hn := hI.most
  have hss : (0 : Int) ≤ (s.size : Int) := by omega
  obtain ⟨sg, sc, rfl⟩ := Go.Joins.ownsRow_form hA.sure hI.pos
  have i0 := hA.box.cell 0
  have i1 := hA.box.cell 1
  have i2 := hA.box.cell 2
  simp only [List.getElem?_toArray, List.getElem?_cons_succ, List.getElem?_cons_zero] at i0 i1 i2
  have HC : Hid (writeE D off s = if D.off then 331 else if insideB n off s.size then 0 else 330) := by unfold writeE; rw [hd]; rfl
  have HW : Hid (writeD D off s = if writeE D off s = 0 then usedD { D with pend := D.pend ++ [⟨off.toNat, s⟩], vis := putB D.vis off.toNat (bts s) } else D) := rfl
  have hsame : writeE D off s ≠ 0 → Hid (RefF W R n (writeD D off s) F) := fun hq => by
    rw [HW.out, if_neg hq]; exact ⟨_, vl, hA, hI, hFt⟩
  cases hD : D.off with
  | true =>
    rw [hD] at i2
    have e1 : Hid (writeE D off s = 331) := by rw [HC.out, hD]; rfl
    have HS := hsame (by rw [e1.out]; decide)
    clear hD HC HW hsame hA hI hFt
    go_enter Try.func30, Try.ntmps30
    go_wp2
    go_ret
    exact ⟨retI e1.out.symm, HS.out, Frm.refl _ _⟩
  | false =>
    rw [hD] at i2
    have hbad : insideB n off s.size = false → Hid (writeE D off s = 330 ∧ RefF W R n (writeD D off s) F) := fun hq => by
      have e1 : writeE D off s = 330 := by rw [HC.out, hD, hq]; rfl
      exact ⟨e1, (hsame (by rw [e1]; decide)).out⟩
    have hno : ¬ (0 ≤ off ∧ off ≤ n ∧ (s.size : Int) ≤ n - off) → insideB n off s.size = false := fun hq => by
      cases hb : insideB n off s.size with
      | false => rfl
      | true => exact absurd ⟨(inside_iff.1 hb).1, (inside_iff.1 hb).2.2.1, (inside_iff.1 hb).2.2.2⟩ hq
    by_cases h1 : off < 0
    · have d1 : decide (off < 0) = true := decide_eq_true h1
      have HB := hbad (hno (by omega))
      clear hD hbad hno h1 HC HW hsame hA hI hFt
      go_enter Try.func30, Try.ntmps30
      go_wp2
      go_ret
      exact ⟨retI HB.out.1.symm, HB.out.2, Frm.refl _ _⟩
    · have d1 : decide (off < 0) = false := decide_eq_false h1
      by_cases h3 : (n : Int) < off
      · have d3 : decide ((n : Int) < off) = true := decide_eq_true h3
        have HB := hbad (hno (by omega))
        clear hD hbad hno h1 h3 HC HW hsame hA hI hFt
        go_enter Try.func30, Try.ntmps30
        go_wp2
        go_ret
        exact ⟨retI HB.out.1.symm, HB.out.2, Frm.refl _ _⟩
      · have d3 : decide ((n : Int) < off) = false := decide_eq_false h3
        have hw : IntKind.i64.wrap ((n : Int) - off) = (n : Int) - off := wrapS _ (by omega) (by omega)
        by_cases h4 : (n : Int) - off < (s.size : Int)
        · have d4 : decide ((n : Int) - off < (s.size : Int)) = true := decide_eq_true h4
          have HB := hbad (hno (by omega))
          clear hD hbad hno h1 h3 h4 HC HW hsame hA hI hFt
          go_enter Try.func30, Try.ntmps30
          go_wp2
          go_ret
          exact ⟨retI HB.out.1.symm, HB.out.2, Frm.refl _ _⟩
        · have d4 : decide ((n : Int) - off < (s.size : Int)) = false := decide_eq_false h4
          have hin : insideB n off s.size = true := inside_iff.2 ⟨by omega, by omega, by omega, by omega⟩
          have e1 : Hid (writeE D off s = 0) := by rw [HC.out, hD, hin]; rfl
          obtain ⟨o, rfl⟩ := Int.eq_ofNat_of_zero_le (show 0 ≤ off by omega)
          have e2 : Hid (writeD D (o : Int) s = usedD { D with pend := D.pend ++ [⟨o, s⟩], vis := putB D.vis o (bts s) }) := by show _ = _; rw [HW.out, if_pos e1.out, Int.toNat_natCast]
          have ho1 : o ≤ n := by omega
          have HI2 := Lib.hid (hI.write (o : Int) s)
          rw [e2.out] at HI2
          have hI0 := hI.left
          have hI1 := hI.leftM
          have H := Lib.hid (And.intro hA hFt)
          have hpen := hA.pen
          have hlt := hA.box.lt
          have i1a : (W.alloc (.cells #[.int .i64 (o : Nat), .string s] 80)).cell? ⟨R, 1, none⟩ = some vl := by
            have := (hA.box.alloc (.cells #[.int .i64 (o : Nat), .string s] 80)).cell 1
            simpa using this
          obtain ⟨pa, pc, rfl, hp1, hp2⟩ := owned_len hpen
          have hU : ∀ D1 : DiskD, usedD D1 = if D1.left = 0 then D1 else { D1 with left := D1.left - 1, off := decide (D1.left - 1 = 0) } := fun _ => rfl
          clear hbad hno h1 h3 h4 HC HW hsame hA hI hFt hin
          have hFv : ∀ v' : Value, (v'.ownBlock = (Value.slice pa D.pend.length pc).ownBlock ∨ v'.ownBlock = some (W.heap.size + 1)) → ∀ k, RFoot R (.slice (some ⟨sg, 0, none⟩) n sc) v' k → F k := by
            rintro v' hv k (rfl | hk | hk)
            · exact H.out.2 _ (.inl rfl)
            · exact H.out.2 _ (.inr (.inl hk))
            · rcases hv with e | e
              · exact H.out.2 _ (.inr (.inr (e ▸ hk)))
              · rw [e] at hk; cases hk; exact hF _ (by omega)
          have hR : F R := H.out.2 R (.inl rfl)
          have HFV := Lib.hid hFv
          clear hFv
          by_cases hz : D.left = 0
          · have e3 : Hid (usedD { D with pend := D.pend ++ [⟨o, s⟩], vis := putB D.vis o (bts s) } = { D with pend := D.pend ++ [⟨o, s⟩], vis := putB D.vis o (bts s) }) := by show _ = _; rw [hU, if_pos hz]
            have q0 : decide (0 < D.left) = false := decide_eq_false (by omega)
            clear hU hz
            go_enter Try.func30, Try.ntmps30
            go_wp2_with (at_builtin; refine wpList_pushW E41 rfl _ _ rfl 0 hpen rfl rfl rfl (by intro u hu; simp at hu; rcases hu with rfl | rfl <;> rfl) (by unfold maxLen; omega) (by omega) (Nat.zero_le _) ?_; intro v' w5 hown' hgrow hwh; obtain ⟨hb5, h6, hF6⟩ := H.out.1.pushed o s (putB D.vis o (bts s)) hown' hgrow; obtain ⟨na, nc, rfl, hn1, hn2⟩ := owned_len hown'; have j1 := hb5.cell 1; have g1 := hb5.frozen 1; simp only [List.getElem?_toArray, List.getElem?_cons_succ, List.getElem?_cons_zero] at j1; have k3 := h6.box.cell 3; have f3 := h6.box.frozen 3; have k2 := h6.box.cell 2; have f2 := h6.box.frozen 2; simp only [List.getElem?_toArray, List.getElem?_cons_succ, List.getElem?_cons_zero] at k3 k2)
            go_ret
            exact ⟨retI e1.out.symm, by rw [e2.out, e3.out]; exact ⟨_, _, h6, by rw [← e3.out]; exact HI2.out, HFV.out _ hwh⟩, hF6.mono (fun i _ e => H.out.2 i e)⟩
          · have hw1 : IntKind.i64.wrap (D.left - 1) = D.left - 1 := wrapS _ (by omega) (by omega)
            have q0 : decide (0 < D.left) = true := decide_eq_true (by omega)
            by_cases hz1 : D.left - 1 = 0
            · have e3 : Hid (usedD { D with pend := D.pend ++ [⟨o, s⟩], vis := putB D.vis o (bts s) } = { D with pend := D.pend ++ [⟨o, s⟩], vis := putB D.vis o (bts s), left := D.left - 1, off := true }) := by show _ = _; rw [hU, if_neg hz]; show DiskD.mk (decide (D.left - 1 = 0)) _ _ _ _ = _; rw [decide_eq_true hz1]
              have q1 : (D.left - 1 == 0) = true := by rw [hz1]; rfl
              clear hU hz hz1
              go_enter Try.func30, Try.ntmps30
              go_wp2_with (at_builtin; refine wpList_pushW E41 rfl _ _ rfl 0 hpen rfl rfl rfl (by intro u hu; simp at hu; rcases hu with rfl | rfl <;> rfl) (by unfold maxLen; omega) (by omega) (Nat.zero_le _) ?_; intro v' w5 hown' hgrow hwh; obtain ⟨hb5, h6, hF6⟩ := H.out.1.pushed o s (putB D.vis o (bts s)) hown' hgrow; obtain ⟨na, nc, rfl, hn1, hn2⟩ := owned_len hown'; have j1 := hb5.cell 1; have g1 := hb5.frozen 1; simp only [List.getElem?_toArray, List.getElem?_cons_succ, List.getElem?_cons_zero] at j1; have k3 := h6.box.cell 3; have f3 := h6.box.frozen 3; have k2 := h6.box.cell 2; have f2 := h6.box.frozen 2; simp only [List.getElem?_toArray, List.getElem?_cons_succ, List.getElem?_cons_zero] at k3 k2)
              go_ret
              have hfr : Frm (fun i => i = R) (w5.setCell ⟨R, 1, none⟩ (.slice na (D.pend.length + 1) nc)) (((w5.setCell ⟨R, 1, none⟩ (.slice na (D.pend.length + 1) nc)).setCell ⟨R, 3, none⟩ (.int .i64 (D.left - 1))).setCell ⟨R, 2, none⟩ (.bool true)) := ((Frm.refl (fun i => i = R) _).setCell (fun _ => rfl) _).setCell (fun _ => rfl) _
              exact ⟨retI e1.out.symm, by rw [e2.out]; exact ⟨_, _, by rw [e3.out]; exact h6.kept hfr ((h6.box.set 3 (.int .i64 (D.left - 1))).set 2 (.bool true)), HI2.out, HFV.out _ hwh⟩, (hF6.mono (fun i _ e => H.out.2 i e)).trans hfr (fun i _ e => e ▸ hR)⟩
            · have e3 : Hid (usedD { D with pend := D.pend ++ [⟨o, s⟩], vis := putB D.vis o (bts s) } = { D with pend := D.pend ++ [⟨o, s⟩], vis := putB D.vis o (bts s), left := D.left - 1, off := D.off }) := by show _ = _; rw [hU, if_neg hz]; show DiskD.mk (decide (D.left - 1 = 0)) _ _ _ _ = _; rw [decide_eq_false hz1, hD]
              have q1 : (D.left - 1 == 0) = false := beq_eq_false_iff_ne.2 hz1
              clear hU hz hz1
              go_enter Try.func30, Try.ntmps30
              go_wp2_with (at_builtin; refine wpList_pushW E41 rfl _ _ rfl 0 hpen rfl rfl rfl (by intro u hu; simp at hu; rcases hu with rfl | rfl <;> rfl) (by unfold maxLen; omega) (by omega) (Nat.zero_le _) ?_; intro v' w5 hown' hgrow hwh; obtain ⟨hb5, h6, hF6⟩ := H.out.1.pushed o s (putB D.vis o (bts s)) hown' hgrow; obtain ⟨na, nc, rfl, hn1, hn2⟩ := owned_len hown'; have j1 := hb5.cell 1; have g1 := hb5.frozen 1; simp only [List.getElem?_toArray, List.getElem?_cons_succ, List.getElem?_cons_zero] at j1; have k3 := h6.box.cell 3; have f3 := h6.box.frozen 3; have k2 := h6.box.cell 2; have f2 := h6.box.frozen 2; simp only [List.getElem?_toArray, List.getElem?_cons_succ, List.getElem?_cons_zero] at k3 k2)
              go_ret
              have hfr : Frm (fun i => i = R) (w5.setCell ⟨R, 1, none⟩ (.slice na (D.pend.length + 1) nc)) ((w5.setCell ⟨R, 1, none⟩ (.slice na (D.pend.length + 1) nc)).setCell ⟨R, 3, none⟩ (.int .i64 (D.left - 1))) := (Frm.refl (fun i => i = R) _).setCell (fun _ => rfl) _
              exact ⟨retI e1.out.symm, by rw [e2.out]; exact ⟨_, _, by rw [e3.out]; exact h6.kept hfr (h6.box.set 3 (.int .i64 (D.left - 1))), HI2.out, HFV.out _ hwh⟩, (hF6.mono (fun i _ e => H.out.2 i e)).trans hfr (fun i _ e => e ▸ hR)⟩
end Go.Proofs.Ytfmdpmcniccioaa
