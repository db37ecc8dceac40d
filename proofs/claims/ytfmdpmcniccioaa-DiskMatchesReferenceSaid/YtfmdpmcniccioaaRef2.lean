/- nadirref33: Visible. -/
import Derived.Test.YtfmdpmcniccioaaRef1
import Derived.Lib.SmallJoins
namespace Go.Proofs.Ytfmdpmcniccioaa
open Go.RowKit Go.Shelf Lib

theorem own5_empty {W : World} {B base : Nat} (hb : Blk W B #[] 5) (h : base ≤ B) : W.ownsRow base 5 1 (.slice (some ⟨B, 0, none⟩) 0 0) 0 [] :=
  ⟨rfl, .inr ⟨B, 0, #[], rfl, h, hb, Nat.le_refl _, by decide, rfl, rfl⟩⟩
/-- 'append([]byte{}, b...)': a copy. -/
theorem wpList_bytes {ops : Array Oper} {rest : List Oper} {o : Oper} {a : Act} {Q : Exit → Act → World → Prop} {w : World} (hgd : o.guard = none) (s x : Operand)
    (ho : o.op = .call { callee := .builtin .append, args := #[s, x], argTypes := #[40, 40] })
    (hs : a.eval s = .slice (some ⟨w.heap.size, 0, none⟩) 0 0) {base g n c : Nat} {b : List UInt8} (hown : w.ownsRow base 5 1 (.slice (some ⟨g, 0, none⟩) n c) n (bcs b)) (hx : a.eval x = .slice (some ⟨g, 0, none⟩) n c) (hn0 : 0 < n) (hn : n ≤ 4194304)
    (h : ∀ g' c' w', w'.ownsRow w.heap.size 5 1 (.slice (some ⟨g', 0, none⟩) n c') n (bcs b) → Below w.heap.size w w' → wpList Try.prog ops Q rest (a.put o.dst (.slice (some ⟨g', 0, none⟩) n c')) w') :
    wpList Try.prog ops Q (o :: rest) a (w.alloc (.cells #[] 5)) := by
  obtain ⟨i, hi, hz0, hz1, hz2⟩ := info_parts E40.info
  have hA : Below w.heap.size w (w.alloc (.cells #[] 5)) := (Below.refl _ _).alloc (Nat.le_refl _) _
  have hf := own5_empty (Blk.new w #[] 5) (Nat.le_refl _)
  have hl := hown.1
  refine wpList_append_own _ hgd s x 40 ho w.heap.size 5 i _ 1 1 E40.und hi hz0 hz1 hz2 E40.zs E40.pos _ 0 [] hs hf ⟨g, 0, none⟩ n c (bcs b) hx (by omega) ?_ (bcs_one b) (by unfold maxLen; omega) (by omega) (by simp) ?_
  · intro j u hj
    have := hown.cells rfl j u hj
    rw [World.cell?_alloc_some _ _ _ (by rw [this]; rfl)]
    exact this
  · intro v' w' h3 h4 _
    rw [Nat.zero_add, List.nil_append] at h3
    obtain ⟨g', c', rfl⟩ := Go.Joins.ownsRow_form h3 hn0
    exact h g' c' w' h3 (hA.grown h4 (by simp) (fun k hk => by cases hk; exact Nat.le_refl _))
theorem foldl_step {l : List WrD} {k : Nat} {x : WrD} {b : List UInt8} (h : l[k]? = some x) : (l.take (k + 1)).foldl ontoW b = putB ((l.take k).foldl ontoW b) x.off (bts x.s) := by
  rw [List.take_add_one, h, List.foldl_append]
  rfl
theorem take_len {n : Nat} {D : DiskD} (h : Inv n D) (k : Nat) : ((D.pend.take k).foldl ontoW D.dur).length = n := foldl_len _ _ h.dur (fun w hw => h.fit w (List.mem_of_mem_take hw))
set_option maxRecDepth 100000 in
set_option maxHeartbeats 2000000 in
theorem visible_any {w : World} {R : Nat} {vs vl : Value} {n : Nat} {D : DiskD} (h : RefAt w R vs vl n D) (hI : Inv n D) (hp : D.pend.length ≤ 1000000) :
    Calls Try.prog 34 #[.pointer (some ⟨R, 0, none⟩)] w fun e w' => ∃ g c, e = .returned (.slice (some ⟨g, 0, none⟩) n c) ∧ w'.ownsRow w.heap.size 5 1 (.slice (some ⟨g, 0, none⟩) n c) n (bcs D.vis) ∧ Below w.heap.size w w' := by
  obtain ⟨sg, sc, rfl⟩ := Go.Joins.ownsRow_form h.sure hI.pos
  obtain ⟨pa, pc, rfl, hp1, hp2⟩ := owned_len h.pen
  have hn0 := hI.pos
  have hn := hI.most
  have hsu := h.sure
  have i0 := h.box.cell 0
  simp only [List.getElem?_toArray, List.getElem?_cons_zero] at i0
  have HI := Lib.hid hI
  have H := Lib.hid h
  have hlt := h.box.lt
  have i0a : (w.alloc (.cells #[] 5)).cell? ⟨R, 0, none⟩ = some (.slice (some ⟨sg, 0, none⟩) n sc) := by
    have := (h.box.alloc (.cells #[] 5)).cell 0
    simpa using this
  clear h hI
  go_enter Try.func34, Try.ntmps34
  go_wp2_with (at_builtin; refine wpList_bytes rfl _ _ rfl rfl hsu rfl (by omega) hn ?_; intro g c w1 hown hB1)
  clear i0 i0a hsu
  go_loopw [4] (fun u4 wr => ∃ k : Nat, k ≤ D.pend.length ∧ u4 = .int .i64 k ∧ wr.ownsRow w.heap.size 5 1 (.slice (some ⟨g, 0, none⟩) n c) n (bcs ((D.pend.take k).foldl ontoW D.dur)) ∧ Below w.heap.size w wr) (fun u4 _ => (D.pend.length - intOf u4).toNat)
  case atStart => exact ⟨0, by omega, rfl, by rw [List.take_zero]; exact hown, hB1⟩
  case round =>
    obtain ⟨k, hk, rfl, hgk, hBr⟩ := hrel
    rename World => wr
    have i1 := (H.out.box.below hBr hlt).cell 1
    simp only [List.getElem?_toArray, List.getElem?_cons_succ, List.getElem?_cons_zero] at i1
    by_cases hkl : k < D.pend.length
    · have hx := List.getElem?_eq_getElem hkl
      generalize D.pend[k] = x at hx
      obtain ⟨q, qc, hq⟩ := Go.Joins.ownsRow_form (H.out.pen) (by omega)
      cases hq
      have hpr := owned_kept H.out.pen (fun i hi => hBr.block i (H.out.pen.lt i hi).2)
      obtain ⟨x1, x2⟩ := wcs_get hx
      have c1 := (hpr.cellAt (k * 2) (by omega)).trans x1
      have c2 := (hpr.cellAt (k * 2 + 1) (by omega)).trans x2
      have hki : (0 : Int) ≤ (k : Int) ∧ (k : Int) < (D.pend.length : Int) := by omega
      have hfit := HI.out.fit x (List.mem_of_getElem? hx)
      have hap := apply_any (w := wr.drew) (base := w.heap.size) hgk (take_len HI.out k) hn x.off x.s hfit
      rw [← foldl_step hx] at hap
      have HB := Lib.hid hBr
      obtain ⟨xo, xs⟩ := x
      simp only at c1 c2 hap
      have hgl := hgk.lt g rfl
      clear hx hpr x1 x2 hfit hgk
      go_wp2_with fail
      go_still_tail 17, (by kernel_rfl)
      change wpList _ _ _ _ _ wr.drew
      go_wp2_with fail
      refine hap.mono ?_
      rintro e w2 ⟨rfl, hg2, hf2⟩
      have hB2 := Lib.hid (HB.out.trans (((Below.refl _ wr).drew).trans (hf2.below (B := w.heap.size) (by have := HB.out.size; exact this) (fun i e => by subst e; exact hgl.1))) )
      clear hap i1 c1 c2
      go_wp2
      go_roundw
      case rel => exact ⟨k + 1, by omega, by go_num, hg2, hB2.out⟩
      case measure => simp [intOf]; omega
    · obtain rfl : k = D.pend.length := by omega
      have e : Hid ((D.pend.take D.pend.length).foldl ontoW D.dur = D.vis) := by show _ = _; rw [List.take_length, HI.out.vis]
      go_wp2
      go_ret
      exact ⟨g, c, rfl, by rw [← e.out]; exact hgk, hBr⟩
end Go.Proofs.Ytfmdpmcniccioaa
