/- nadirref33: Crash. -/
import Derived.Test.YtfmdpmcniccioaaRef4
namespace Go.Proofs.Ytfmdpmcniccioaa
open Go.RowKit Go.Shelf Lib

/-- The surviving ones among the first k writes. -/
def keptK (D : DiskD) (kl : List Int) (k : Nat) : List WrD := (keptI k kl).map fun i => D.pend.getD i dW
theorem keptK_yes {D : DiskD} {kl : List Int} {k : Nat} {x : WrD} (h : decide ((k : Int) ∈ kl) = true) (hx : D.pend[k]? = some x) : keptK D kl (k + 1) = keptK D kl k ++ [x] := by
  unfold keptK keptI
  rw [List.range_succ, List.filter_append, List.map_append]
  congr 1
  rw [List.filter_cons, h, if_pos rfl]
  simp [List.getD_eq_getElem?_getD, hx]
theorem keptK_no {D : DiskD} {kl : List Int} {k : Nat} (h : decide ((k : Int) ∈ kl) = false) : keptK D kl (k + 1) = keptK D kl k := by
  unfold keptK keptI
  rw [List.range_succ, List.filter_append, List.map_append, List.filter_cons, h]
  simp
theorem keptK_len (D : DiskD) (kl : List Int) (k : Nat) : (keptK D kl k).length ≤ k := by
  unfold keptK keptI
  rw [List.length_map]
  have := List.length_filter_le (fun i : Nat => decide ((i : Int) ∈ kl)) (List.range k)
  rw [List.length_range] at this
  exact this
theorem keptK_mem {D : DiskD} {kl : List Int} {k : Nat} (hk : k ≤ D.pend.length) : ∀ x ∈ keptK D kl k, x ∈ D.pend := by
  intro x hx
  unfold keptK keptI at hx
  obtain ⟨i, hi, rfl⟩ := List.mem_map.1 hx
  have hil : i < k := by have := (List.mem_filter.1 hi).1; simpa using this
  rw [List.getD_eq_getElem?_getD, List.getElem?_eq_getElem (show i < D.pend.length by omega)]
  exact List.getElem_mem _
theorem lastTorn_at (torn : Int) : ∀ (l : List WrD) (i : Nat) (x : WrD), l[i]? = some x → (lastTorn torn l)[i]? = some (if i + 1 = l.length then tornW torn x else x) := by
  intro l
  induction l with
  | nil => intro i x h; simp at h
  | cons w l ih =>
    intro i x h
    cases l with
    | nil =>
      cases i with
      | zero => simp at h; subst h; rfl
      | succ i => simp at h
    | cons y l =>
      cases i with
      | zero =>
        simp at h; subst h
        rw [if_neg (by simp)]; rfl
      | succ i =>
        have := ih i x (by simpa using h)
        show (lastTorn torn (y :: l))[i]? = _
        rw [this]
        simp
theorem lastTorn_ln (torn : Int) : ∀ l : List WrD, (lastTorn torn l).length = l.length := by
  intro l
  induction l with
  | nil => rfl
  | cons w l ih =>
    cases l with
    | nil => rfl
    | cons y l => show (lastTorn torn (y :: l)).length + 1 = _; rw [ih]; rfl
theorem tornW_same {torn : Int} {x : WrD} (h : ¬ (0 ≤ torn ∧ torn < x.s.size)) : tornW torn x = x := by
  unfold tornW
  split
  · obtain ⟨o, s⟩ := x
    simp only at h ⊢
    rw [show min torn.toNat s.size = s.size by omega, cutS_all]
  · rfl
theorem tornW_cut {t : Nat} {o : Nat} {s : ByteArray} (h : t < s.size) : tornW (t : Int) ⟨o, s⟩ = ⟨o, cutS s t⟩ := by
  unfold tornW
  rw [if_pos (by omega)]
  show WrD.mk o (cutS s (min (Int.toNat (t : Int)) s.size)) = _
  rw [Int.toNat_natCast, Nat.min_eq_left (by omega)]
theorem tornW_fits {n : Nat} {w : WrD} (h : w.off + w.s.size ≤ n) (torn : Int) : (tornW torn w).off + (tornW torn w).s.size ≤ n := by
  unfold tornW
  split
  · show w.off + (cutS w.s _).size ≤ n
    rw [cutS_size _ _ (by omega)]; omega
  · exact h
theorem lastTorn_fit {n : Nat} (torn : Int) : ∀ l : List WrD, (∀ w ∈ l, w.off + w.s.size ≤ n) → ∀ w ∈ lastTorn torn l, w.off + w.s.size ≤ n := by
  intro l
  induction l with
  | nil => intro _ w h; cases h
  | cons x l ih =>
    intro h w hw
    cases l with
    | nil =>
      have : w = tornW torn x := by simpa [lastTorn] using hw
      rw [this]
      exact tornW_fits (h x (by simp)) torn
    | cons y l =>
      have hw2 : w = x ∨ w ∈ lastTorn torn (y :: l) := by simpa [lastTorn] using hw
      rcases hw2 with rfl | hw
      · exact h _ (by simp)
      · exact ih (fun z hz => h z (by simp [hz])) w hw
set_option maxRecDepth 100000 in
set_option maxHeartbeats 4000000 in
theorem crash_ref {W : World} {R n : Nat} {D : DiskD} {F : Nat → Prop} (h : RefF W R n D F) (hp : D.pend.length ≤ 1000000) (vk : Value) (kl : List Int) (hkl : IntsAt W vk kl) (torn : Int) :
    Calls Try.prog 33 #[.pointer (some ⟨R, 0, none⟩), vk, .int .i64 torn] W fun e w' => e = .returned (.tuple #[]) ∧ RefF w' R n (crashD D kl torn) F ∧ Frm F W w' := by
  obtain ⟨vs, vl, hA, hI, hFt⟩ := h
  have hn := hI.most
  obtain ⟨sg, sc, rfl⟩ := Go.Joins.ownsRow_form hA.sure hI.pos
  obtain ⟨pa, pc, rfl, hp1, hp2⟩ := owned_len hA.pen
  have hlt := hA.box.lt
  have H := Lib.hid (And.intro hA (And.intro hI hFt))
  have HK := Lib.hid hkl
  clear hA hI hFt hkl
  go_enter Try.func33, Try.ntmps33
  go_wp2
  go_loopw [6, 7] (fun u6 u7 wr => ∃ k : Nat, k ≤ D.pend.length ∧ u7 = .int .i64 k ∧ wr.ownsRow W.heap.size 80 2 u6 (keptK D kl k).length (wcs (keptK D kl k)) ∧ Below W.heap.size W wr) (fun _ u7 _ => (D.pend.length - intOf u7).toNat)
  case atStart => exact ⟨0, by omega, rfl, World.ownsRow_nil _ _ _ _, Below.refl _ _⟩
  case round =>
    obtain ⟨k, hk, rfl, hrow, hBr⟩ := hrel
    rename World => wr
    have i1 := (H.out.1.box.below hBr hlt).cell 1
    simp only [List.getElem?_toArray, List.getElem?_cons_succ, List.getElem?_cons_zero] at i1
    by_cases hkl : k < D.pend.length
    · have hhas := has_any vk kl (HK.out.below hBr) (k : Int)
      have hx := List.getElem?_eq_getElem hkl
      generalize D.pend[k] = x at hx
      obtain ⟨q, qc, hq⟩ := Go.Joins.ownsRow_form (H.out.1.pen) (by omega)
      cases hq
      have hpr := owned_kept H.out.1.pen (fun i hi => hBr.block i (H.out.1.pen.lt i hi).2)
      obtain ⟨x1, x2⟩ := wcs_get hx
      have c1 := (hpr.cellAt (k * 2) (by omega)).trans x1
      have c2 := (hpr.cellAt (k * 2 + 1) (by omega)).trans x2
      have hki : (0 : Int) ≤ (k : Int) ∧ (k : Int) < (D.pend.length : Int) := by omega
      cases hm : decide ((k : Int) ∈ kl) with
      | true =>
        have HY := Lib.hid (keptK_yes hm hx)
        have hkl2 := keptK_len D kl k
        rw [hm] at hhas
        obtain ⟨xo, xs⟩ := x
        simp only at c1 c2
        have hus : ∀ u ∈ ([.int .i64 (xo : Nat), .string xs] : List Value), u.oneCell' = true := by intro u hu; simp at hu; rcases hu with rfl | rfl <;> rfl
        have hbs := hBr.size
        clear hpr x1 x2 hm hx
        go_wp2_with fail
        refine hhas.mono ?_
        rintro e wq ⟨rfl, rfl⟩
        clear hhas
        go_wp2_with (at_builtin; refine wpList_pushW E41 rfl _ _ rfl W.heap.size hrow rfl rfl rfl hus (by unfold maxLen; omega) (by omega) hbs ?_; intro v' w5 hown' hgrow hwh)
        have hB5 := (hBr.alloc hbs (.cells #[.int .i64 (xo : Nat), .string xs] 80)).grown hgrow (by simp; omega) (fun i hi => (hrow.lt i hi).1)
        have hr5 : w5.ownsRow W.heap.size 80 2 v' (keptK D kl (k + 1)).length (wcs (keptK D kl (k + 1))) := by
          rw [HY.out, List.length_append, wcs_app]; exact hown'
        clear hgrow hwh hown' hrow hus i1 c1 c2
        go_roundw
        case rel => exact ⟨k + 1, by omega, by go_num, hr5, hB5⟩
        case measure => simp [intOf]; omega
      | false =>
        have HY := Lib.hid (keptK_no (D := D) hm)
        rw [hm] at hhas
        clear hpr x1 x2 hm hx c1 c2
        go_wp2_with fail
        refine hhas.mono ?_
        rintro e wq ⟨rfl, rfl⟩
        clear hhas
        go_wp2
        go_roundw
        case rel => exact ⟨k + 1, by omega, by go_num, by rw [HY.out]; exact hrow, hBr⟩
        case measure => simp [intOf]; omega
    · obtain rfl : k = D.pend.length := by omega
      have hmK := keptK_len D kl D.pend.length
      have hKm := keptK_mem (D := D) (kl := kl) (Nat.le_refl D.pend.length)
      have hKW : keptK D kl D.pend.length = keptW D kl := rfl
      have hcb : Hid (crashB D kl torn = (lastTorn torn (keptK D kl D.pend.length)).foldl ontoW D.dur) := rfl
      obtain ⟨la, lc, rfl, hl1, hl2⟩ := owned_len hrow
      have HKM := Lib.hid (fun w hw => H.out.2.1.fit w (hKm w hw))
      have hsg : sg < W.heap.size := (H.out.1.sure.lt sg rfl).2
      have hsR : sg ≠ R := H.out.1.neS sg rfl
      have hw0 : (wr.ownsRow 0 5 1 (.slice (some ⟨sg, 0, none⟩) n sc) n (bcs D.dur)) := owned_kept H.out.1.sure (fun i hi => hBr.block i (H.out.1.sure.lt i hi).2)
      have hbR := H.out.1.box.below hBr hlt
      have HBR := Lib.hid (And.intro hbR hrow)
      have hrs := hBr.size
      clear hKm hKW hbR
      generalize keptK D kl D.pend.length = K at *
      go_wp2
      clear i1
      go_loopw [8, 9] (fun u8 u9 wt => ∃ j : Nat, j ≤ K.length ∧ u8 = .int .i64 j ∧ wt.ownsRow 0 5 1 (.slice (some ⟨sg, 0, none⟩) n sc) n (bcs (((lastTorn torn K).take j).foldl ontoW D.dur)) ∧ Frm (fun i => i = sg) wr wt) (fun u8 _ _ => (K.length - intOf u8).toNat)
      case atStart => exact ⟨0, by omega, rfl, by rw [List.take_zero]; exact hw0, Frm.refl _ _⟩
      case round =>
        obtain ⟨j, hj, rfl, hsj, hfj⟩ := hrel
        rename World => wt
        by_cases hjl : j < K.length
        · have hx := List.getElem?_eq_getElem hjl
          generalize K[j] = x at hx
          have hxt := lastTorn_at torn K j x hx
          obtain ⟨q, qc, hq⟩ := Go.Joins.ownsRow_form (HBR.out.2) (by omega)
          cases hq
          have hql := HBR.out.2.lt q rfl
          have hpr := owned_kept HBR.out.2 (fun i hi => hfj.block i (HBR.out.2.lt i hi).2 (fun e => by have := (HBR.out.2.lt i hi).1; omega))
          obtain ⟨x1, x2⟩ := wcs_get hx
          have c1 := (hpr.cellAt (j * 2) (by omega)).trans x1
          have c2 := (hpr.cellAt (j * 2 + 1) (by omega)).trans x2
          have i0 := (HBR.out.1.frm hfj (fun e => hsR e.symm)).cell 0
          simp only [List.getElem?_toArray, List.getElem?_cons_zero] at i0
          have hji : (0 : Int) ≤ (j : Int) ∧ (j : Int) < (K.length : Int) := by omega
          have hlw : IntKind.i64.wrap ((K.length : Int) - 1) = (K.length : Int) - 1 := wrapS _ (by omega) (by omega)
          have hlen : (((lastTorn torn K).take j).foldl ontoW D.dur).length = n := foldl_len _ _ H.out.2.1.dur (fun w hw => lastTorn_fit torn K HKM.out w (List.mem_of_mem_take hw))
          have hfx := HKM.out x (List.mem_of_getElem? hx)
          have hfy := lastTorn_fit torn K HKM.out _ (List.mem_of_getElem? hxt)
          have HBX := Lib.hid (And.intro hlen hsj)
          have hap := Lib.hid (fun (y : WrD) (hy : (lastTorn torn K)[j]? = some y) (hf : y.off + y.s.size ≤ n) => by
            have := apply_any (w := wt.drew) (base := 0) hsj hlen hn y.off y.s hf
            rw [← foldl_step hy] at this
            exact this)
          have HF := Lib.hid hfj
          obtain ⟨xo, xs⟩ := x
          simp only at c1 c2 hfx
          clear hpr x1 x2 hx hlen hsj hfj
          by_cases hl : j + 1 = K.length
          · have q0 : ((j : Int) == (K.length : Int) - 1) = true := by rw [beq_iff_eq]; omega
            rw [if_pos hl] at hxt hfy
            by_cases ht0 : 0 ≤ torn
            · have t0 : ((0 : Int) ≤ torn) = True := eq_true ht0
              obtain ⟨t, rfl⟩ := Int.eq_ofNat_of_zero_le ht0
              by_cases ht1 : t < xs.size
              · have t1 : decide ((t : Int) < (xs.size : Int)) = true := decide_eq_true (by omega)
                have t2 : (0 : Int) ≤ (t : Int) ∧ (t : Int) ≤ (xs.size : Int) := by omega
                rw [tornW_cut ht1] at hxt hfy
                have hz := hap.out _ hxt hfy
                unfold cutS at hz
                simp only at hz
                clear hxt hfy
                go_wp2_with fail
                go_still_tail 10, (by kernel_rfl)
                change wpList _ _ _ _ _ wt.drew
                go_wp2_with fail
                refine hz.mono ?_
                rintro e w2 ⟨rfl, hg2, hf2⟩
                have hF2 := HF.out.trans (((Frm.refl (fun i => i = sg) wt).drew).trans hf2 (fun i _ e => e)) (fun i _ e => e)
                clear hz i0 c1 c2 hap
                go_wp2
                go_roundw
                case rel => exact ⟨j + 1, by omega, by go_num, hg2, hF2⟩
                case measure => simp [intOf]; omega
              · have t1 : decide ((t : Int) < (xs.size : Int)) = false := decide_eq_false (by omega)
                rw [tornW_same (by simp only; omega)] at hxt
                have hz := hap.out _ hxt hfx
                simp only at hz
                clear hxt hfy
                go_wp2_with fail
                go_still_tail 10, (by kernel_rfl)
                change wpList _ _ _ _ _ wt.drew
                go_wp2_with fail
                refine hz.mono ?_
                rintro e w2 ⟨rfl, hg2, hf2⟩
                have hF2 := HF.out.trans (((Frm.refl (fun i => i = sg) wt).drew).trans hf2 (fun i _ e => e)) (fun i _ e => e)
                clear hz i0 c1 c2 hap
                go_wp2
                go_roundw
                case rel => exact ⟨j + 1, by omega, by go_num, hg2, hF2⟩
                case measure => simp [intOf]; omega
            · have t0 : ((0 : Int) ≤ torn) = False := eq_false ht0
              rw [tornW_same (by omega)] at hxt
              have hz := hap.out _ hxt hfx
              simp only at hz
              clear hxt hfy
              go_wp2_with fail
              go_still_tail 10, (by kernel_rfl)
              change wpList _ _ _ _ _ wt.drew
              go_wp2_with fail
              refine hz.mono ?_
              rintro e w2 ⟨rfl, hg2, hf2⟩
              have hF2 := HF.out.trans (((Frm.refl (fun i => i = sg) wt).drew).trans hf2 (fun i _ e => e)) (fun i _ e => e)
              clear hz i0 c1 c2 hap
              go_wp2
              go_roundw
              case rel => exact ⟨j + 1, by omega, by go_num, hg2, hF2⟩
              case measure => simp [intOf]; omega
          · have q0 : ((j : Int) == (K.length : Int) - 1) = false := by rw [beq_eq_false_iff_ne]; omega
            rw [if_neg hl] at hxt hfy
            have hz := hap.out _ hxt hfx
            simp only at hz
            clear hxt hfy
            go_wp2_with fail
            go_still_tail 10, (by kernel_rfl)
            change wpList _ _ _ _ _ wt.drew
            go_wp2_with fail
            refine hz.mono ?_
            rintro e w2 ⟨rfl, hg2, hf2⟩
            have hF2 := HF.out.trans (((Frm.refl (fun i => i = sg) wt).drew).trans hf2 (fun i _ e => e)) (fun i _ e => e)
            clear hz i0 c1 c2 hap
            go_wp2
            go_roundw
            case rel => exact ⟨j + 1, by omega, by go_num, hg2, hF2⟩
            case measure => simp [intOf]; omega
        · obtain rfl : j = K.length := by omega
          have hall : Hid (((lastTorn torn K).take K.length).foldl ontoW D.dur = crashB D kl torn) := by show _ = _; rw [hcb.out, List.take_of_length_le (by rw [lastTorn_ln]; exact Nat.le_refl _)]
          have hb := HBR.out.1.frm hfj (fun e => hsR e.symm)
          have j1 := hb.cell 1
          have f1 := hb.frozen 1
          have j2 := hb.cell 2
          have f2 := hb.frozen 2
          have j3 := hb.cell 3
          have f3 := hb.frozen 3
          simp only [List.getElem?_toArray, List.getElem?_cons_succ, List.getElem?_cons_zero] at j1 j2 j3
          have HS := Lib.hid (And.intro hb (And.intro hsj hfj))
          clear hb hsj hfj
          go_wp2
          go_end0
          have hfr : Frm (fun i => i = R) wt (((wt.setCell ⟨R, 1, none⟩ (.slice none 0 0)).setCell ⟨R, 2, none⟩ (.bool false)).setCell ⟨R, 3, none⟩ (.int .i64 0)) := (((Frm.refl (fun i => i = R) _).setCell (fun _ => rfl) _).setCell (fun _ => rfl) _).setCell (fun _ => rfl) _
          have hR : F R := H.out.2.2 R (.inl rfl)
          have hS : F sg := H.out.2.2 sg (.inr (.inl rfl))
          refine ⟨rfl, ⟨.slice (some ⟨sg, 0, none⟩) n sc, .slice none 0 0, ⟨((HS.out.1.set 1 (.slice none 0 0)).set 2 (.bool false)).set 3 (.int .i64 0), ?_, World.ownsRow_nil _ _ _ _⟩, H.out.2.1.crash kl torn, ?_⟩, ((Frm.of_below hBr).trans HS.out.2.2 (fun i _ e => e ▸ hS)).trans hfr (fun i _ e => e ▸ hR)⟩
          · show World.ownsRow _ 0 5 1 _ n (bcs (crashB D kl torn))
            rw [← hall.out]
            exact owned_kept HS.out.2.1 (fun i hi => hfr.block i (HS.out.2.1.lt i hi).2 (fun e => by cases hi; exact hsR e))
          · rintro i (rfl | hi | hi)
            · exact hR
            · cases hi; exact hS
            · cases hi
end Go.Proofs.Ytfmdpmcniccioaa
