/- package loss: the closures of Worst: is an option bad; the passes of some options; may they be lost. -/
import Derived.Test.YtmajkagmcdlncaaE2
namespace Go.Proofs.Ytmajkagmcdlncaa
open Go.RowKit
open L18 (Pass Slot noPass noSlot validB ownI passesV ownV mostV goneV accW)

def dOpt : OptD := ⟨⟨0, 0, 0, 0, 0, 0, 0, 0⟩, []⟩
def slotsL (os : List OptD) : List (List Slot) := os.map (·.slots)
theorem slotsL_get (os : List OptD) (i : Nat) : (slotsL os).getD i [] = (os.getD i dOpt).slots := by
  unfold slotsL
  rw [List.getD_eq_getElem?_getD, List.getElem?_map, List.getD_eq_getElem?_getD]
  cases os[i]? <;> rfl
def flatS (os : List OptD) (L : List Nat) : List Slot := L.flatMap fun i => (os.getD i dOpt).slots
theorem gone_eq (os : List OptD) (L : List Nat) : ownV (flatS os L) = goneV (slotsL os) L := by
  unfold ownV goneV flatS passesV
  rw [List.map_flatMap]
  congr 1
  congr 1
  funext i
  rw [slotsL_get]
theorem flatS_snoc (os : List OptD) (L : List Nat) (i : Nat) : flatS os (L ++ [i]) = flatS os L ++ (os.getD i dOpt).slots := by unfold flatS; simp
/-- Options that may be valid: as to their slots' number. -/
def SixOK (os : List OptD) : Prop := ∀ i, i < os.length → 1 ≤ (os.getD i dOpt).slots.length ∧ (os.getD i dOpt).slots.length ≤ 6
theorem flatS_len {os : List OptD} (h : SixOK os) : ∀ {L : List Nat}, (∀ i ∈ L, i < os.length) → (flatS os L).length ≤ 6 * L.length
  | [], _ => by simp [flatS]
  | i :: L, hL => by
    have h1 := flatS_len h (L := L) fun j hj => hL j (List.mem_cons_of_mem _ hj)
    have h2 := h i (hL i List.mem_cons_self)
    have e : flatS os (i :: L) = (os.getD i dOpt).slots ++ flatS os L := by unfold flatS; simp
    rw [e, List.length_append, List.length_cons]; omega
def nI (L : List Nat) : List Int := L.map fun n : Nat => (n : Int)
theorem nI_get (L : List Nat) (k : Nat) (h : k < L.length) : (nI L).getD k 0 = (L.getD k 0 : Nat) := by
  unfold nI
  rw [List.getD_eq_getElem?_getD, List.getElem?_map, List.getElem?_eq_getElem h, List.getD_eq_getElem?_getD, List.getElem?_eq_getElem h]; rfl
theorem nI_len (L : List Nat) : (nI L).length = L.length := by unfold nI; simp
theorem flat_app {α : Type} (f : α → List Value) (a b : List α) : flat f (a ++ b) = flat f a ++ flat f b := by unfold flat; simp
theorem flat_inv {α : Type} {f : α → List Value} {n : Nat} (hf : ∀ y, (f y).length = n) : ∀ (l : List α) (j : Nat) (u : Value), (flat f l)[j]? = some u → ∃ q r y, j = q * n + r ∧ l[q]? = some y ∧ (f y)[r]? = some u
  | [], j, u, h => by simp [flat] at h
  | x :: l, j, u, h => by
    have e : flat f (x :: l) = f x ++ flat f l := by unfold flat; simp
    rw [e] at h
    by_cases hj : j < n
    · rw [List.getElem?_append_left (by rw [hf]; exact hj)] at h
      exact ⟨0, j, x, by omega, rfl, h⟩
    · rw [List.getElem?_append_right (by rw [hf]; omega), hf] at h
      obtain ⟨q, r, y, h1, h2, h3⟩ := flat_inv hf l _ u h
      exact ⟨q + 1, r, y, by rw [Nat.add_mul, Nat.one_mul]; omega, h2, h3⟩
theorem slots_news {W : World} {b off n c : Nat} {l : List Slot} (h : SlotsAt W (.slice (some ⟨b, off, none⟩) n c) l) : ∀ j u, (flat slotCs l)[j]? = some u → W.cell? ((⟨b, off, none⟩ : Addr).add j) = some u := by
  intro j u hj
  obtain ⟨q, r, y, rfl, h2, h3⟩ := flat_inv (f := slotCs) (n := 3) (fun _ => rfl) l j u hj
  obtain ⟨b', off', cs, e, -, h5, rfl⟩ := h.at h2
  cases e
  rw [addr_add, ← Nat.add_assoc]
  exact h5 r u h3
theorem slots_one (l : List Slot) : ∀ u ∈ flat slotCs l, u.oneCell' = true := by
  intro u hu
  unfold flat at hu
  obtain ⟨y, -, hy⟩ := List.mem_flatMap.1 hu
  unfold slotCs at hy
  simp at hy
  rcases hy with rfl | rfl | rfl <;> rfl
set_option maxRecDepth 100000 in
set_option maxHeartbeats 1000000 in
theorem gone55 (v : Value) (p : Addr) (vo : Value) (os : List OptD) (L : List Nat) (w : World) (hc : w.cell? p = some vo) (ho : OptsAt w vo os) (hv : IntsAt w v (nI L)) (h6 : SixOK os) (hL : ∀ i ∈ L, i < os.length) (hLl : L.length ≤ 12) :
    Calls Try.prog 55 #[v, .pointer (some p)] w fun e w' => ∃ v', e = .returned v' ∧ OwnI w' w.heap.size v' (goneV (slotsL os) L) ∧ Below w.heap.size w w' := by
  have hpl := World.block_lt_of_cell? _ _ hc
  have HV := Lib.hid hv
  have HO := Lib.hid ho
  have H6 := Lib.hid h6
  have HL := Lib.hid hL
  have HC := Lib.hid (fun W (hW : Below w.heap.size w W) => (hW.cell (p := p) hpl).trans hc)
  obtain ⟨a, cap, rfl, hle, hcm⟩ := hv.len
  obtain ⟨oa, oc, rfl, ole, ocm⟩ := ho.len
  rw [nI_len] at hle ⊢
  unfold maxLen at hcm ocm
  rw [← gone_eq]
  clear hv ho h6 hL hc
  go_enter Try.func55, Try.ntmps55
  go_wp2
  go_loopw [4, 6, 9] (fun u4 _ u9 wr => ∃ k : Nat, k ≤ L.length ∧ u9 = .int .i64 k ∧ OwnS wr w.heap.size u4 (flatS os (L.take k)) ∧ Below w.heap.size w wr) (fun _ _ u9 _ => (L.length - intOf u9).toNat)
  case atStart => exact ⟨0, by omega, rfl, World.ownsRow_nil _ _ _ _, Below.refl _ _⟩
  case round =>
    obtain ⟨k, hk, rfl, hown, hBr⟩ := hrel
    by_cases hkl : k < L.length
    · obtain ⟨b, off, rfl, c0⟩ := (HV.out.below hBr).get (getD_some 0 (show k < (nI L).length by rw [nI_len]; exact hkl))
      rw [nI_get L k hkl] at c0
      obtain ⟨i, hi⟩ : ∃ i, L.getD k 0 = i := ⟨_, rfl⟩
      have hio := HL.out _ (L18.getD_mem 0 hkl)
      have HTK := Lib.hid (show flatS os (L.take (k + 1)) = flatS os (L.take k) ++ (os.getD i dOpt).slots by rw [List.take_add_one, getD_some 0 hkl, hi]; exact flatS_snoc _ _ _)
      rw [hi] at c0 hio
      have h6i := H6.out i hio
      have hfl := flatS_len H6.out (L := L.take k) (fun j hj => HL.out j (List.mem_of_mem_take hj))
      rw [List.length_take] at hfl
      have j1 : (0 : Int) ≤ (i : Int) ∧ (i : Int) < (os.length : Int) := by omega
      obtain ⟨ob, ooff, vs, rfl, -, -, -, -, -, -, -, -, k8, hsl⟩ := (OptsAt.later HO.out hBr).get (getD_some dOpt hio)
      have hcp := HC.out _ hBr
      generalize (os.getD i dOpt).slots = sl at h6i HTK hsl
      obtain ⟨sa, sc, rfl, s1, s2⟩ := hsl.len
      obtain ⟨sb, soff, rfl⟩ : ∃ sb soff, sa = some ⟨sb, soff, none⟩ := by
        obtain ⟨a', c', e, -, -, h3⟩ := hsl
        cases e
        obtain ⟨b', off', e2, -⟩ := h3 (by omega)
        exact ⟨b', off', e2⟩
      have HNW := Lib.hid (slots_news hsl)
      have HON := Lib.hid (slots_one sl)
      have HFL := Lib.hid (flat_len (f := slotCs) (n := 3) (fun _ => rfl) sl)
      unfold OwnS at hown
      obtain ⟨ti, hti, hz0, hz1, hz2⟩ := info_parts E26.info
      have HTI := Lib.hid hti
      have HZ0 := Lib.hid hz0
      have HZ1 := Lib.hid hz1
      have HZ2 := Lib.hid hz2
      clear hi hsl hti hz0 hz1 hz2
      go_wp2_with (at_builtin; refine wpList_append_own _ rfl _ _ 26 rfl w.heap.size 63 ti _ 3 24 E26.und HTI.out HZ0.out HZ1.out HZ2.out E26.zs E26.pos _ _ _ rfl hown ⟨sb, soff, none⟩ sl.length sc (flat slotCs sl) rfl HFL.out HNW.out HON.out (by unfold maxLen; omega) (by omega) hBr.size ?_; intro v' w3 hown' hgrow hnl)
      go_roundw
      case rel => exact ⟨k + 1, by omega, by go_num, by
        rw [HTK.out]; unfold OwnS
        rw [List.length_append, flat_app]
        exact hown', hBr.grown hgrow hBr.size (fun j hj => (hown.lt j hj).1)⟩
      case measure => simp [intOf]; omega
    · obtain rfl : k = L.length := by omega
      rw [List.take_length] at hown
      have hfl := flatS_len H6.out (L := L) HL.out
      have hP := passesOf40 _ (flatS os L) wr hown.slots (by omega)
      clear hown
      go_wp2_with fail
      refine hP.mono ?_
      rintro e w2 ⟨v2, rfl, hI, hB2⟩
      go_wp2
      go_ret
      exact ⟨_, rfl, ownsRow_base hI hBr.size, hBr.trans (hB2.mono hBr.size)⟩
set_option maxRecDepth 100000 in
theorem bad53 (v : Value) (od : OptD) (p : Addr) (vp : Value) (l : List Pass) (w : World) (hc : w.cell? p = some vp) (hp : PassesAt w vp l) (ho : OptV w v od) :
    Calls Try.prog 53 #[v, .pointer (some p)] w fun e w' => e = .returned (.bool (!validB l od.slots)) ∧ Below w.heap.size w w' := by
  have hpl := World.block_lt_of_cell? _ _ hc
  have HO := Lib.hid ho
  obtain ⟨vs, rfl, hs⟩ := ho
  obtain ⟨⟨i0, i1, i2, i3, i4, i5, i6, i7⟩, o⟩ := od
  dsimp only at hs ⊢
  have hB1 : Below w.heap.size w (w.alloc (.cells #[.int .i64 i0, .int .i64 i1, .int .i64 i2, .int .i64 i3, .int .i64 i4, .int .i64 i5, .int .i64 i6, .int .i64 i7, vs] 28)) := (Below.refl _ _).alloc (Nat.le_refl _) _
  have hx := valid17 _ vp _ l _ (HO.out.below hB1) (hp.later hB1)
  have hcp := (hB1.cell (p := p) hpl).trans hc
  dsimp only at hx
  obtain ⟨a, cap, rfl, hle, hcm⟩ := hs.len
  obtain ⟨pa, pc, rfl, ple, pcm⟩ := hp.len
  unfold maxLen at hcm pcm
  clear hs hp hc
  generalize validB l o = y at hx ⊢
  go_enter Try.func53, Try.ntmps53
  go_wp2_with fail
  refine hx.mono ?_
  rintro e w1 ⟨rfl, hB2⟩
  go_wp2
  go_ret
  exact ⟨rfl, hB1.trans (hB2.mono (by simp))⟩
theorem bad53_ans (w : World) (os : List OptD) (p : Addr) (vp : Value) (l : List Pass) (hc : w.cell? p = some vp) (hp : PassesAt w vp l) : Ans OptV w (.func (.func 53) #[] #[.pointer (some p)]) os (fun o => !validB l o.slots) :=
  ⟨53, _, rfl, Try.call53, fun _ x _ W hW v hv => bad53 v x p vp l W ((hW.cell (p := p) (World.block_lt_of_cell? _ _ hc)).trans hc) (hp.later hW) hv⟩
/-- The boxes that Worst's closures read. -/
structure Env3 (W : World) (pP pG pK pO : Addr) (vp vo : Value) (l : List Pass) (os : List OptD) (k : Int) : Prop where
  cp : W.cell? pP = some vp
  cg : W.cell? pG = some (.func (.func 55) #[] #[.pointer (some pO)])
  ck : W.cell? pK = some (.int .i64 k)
  co : W.cell? pO = some vo
  passes : PassesAt W vp l
  opts : OptsAt W vo os
theorem Env3.later {W W' : World} {pP pG pK pO : Addr} {vp vo : Value} {l : List Pass} {os : List OptD} {k : Int} (h : Env3 W pP pG pK pO vp vo l os k) (hb : Below W.heap.size W W') : Env3 W' pP pG pK pO vp vo l os k :=
  ⟨(hb.cell (World.block_lt_of_cell? _ _ h.cp)).trans h.cp, (hb.cell (World.block_lt_of_cell? _ _ h.cg)).trans h.cg, (hb.cell (World.block_lt_of_cell? _ _ h.ck)).trans h.ck, (hb.cell (World.block_lt_of_cell? _ _ h.co)).trans h.co, h.passes.later hb, h.opts.later hb⟩
/-- Passes and options of which all are valid. -/
structure AllOK (l : List Pass) (os : List OptD) : Prop where
  can : CanOK l
  six : SixOK os
  inn : ∀ i, i < os.length → InI l.length (passesV (os.getD i dOpt).slots)
theorem all_ok {l : List Pass} {os : List OptD} (hp : CanOK l) (h : ∀ o ∈ os, validB l o.slots = true) : AllOK l os :=
  ⟨hp, fun i hi => by have := valid_parts (h _ (L18.getD_mem dOpt hi)); exact ⟨this.2.1, this.2.2.1⟩, fun i hi => (valid_parts (h _ (L18.getD_mem dOpt hi))).2.2.2⟩
theorem gone_in {l : List Pass} {os : List OptD} (h : AllOK l os) {L : List Nat} (hL : ∀ i ∈ L, i < os.length) : InI l.length (goneV (slotsL os) L) := fun x hx => by
  obtain ⟨i, hi, h2⟩ := L18.gone_mem.1 hx
  rw [slotsL_get] at h2
  unfold ownV at h2
  rw [L18.ownI_mem] at h2
  exact h.inn i (hL i hi) x h2
theorem gone_len {l : List Pass} {os : List OptD} (h : AllOK l os) {L : List Nat} (hL : ∀ i ∈ L, i < os.length) (hl : L.length ≤ 12) : (goneV (slotsL os) L).length ≤ 72 := by
  rw [← gone_eq]
  have := own_len (flatS os L)
  have := flatS_len h.six hL
  omega
set_option maxRecDepth 100000 in
set_option maxHeartbeats 1000000 in
theorem acc56 (v : Value) (pP pG pK pO : Addr) (vp vo : Value) (l : List Pass) (os : List OptD) (k : Int) (L : List Nat) (w : World) (hE : Env3 w pP pG pK pO vp vo l os k) (hA : AllOK l os) (hv : IntsAt w v (nI L)) (hL : ∀ i ∈ L, i < os.length) (hLl : L.length ≤ 12) :
    Calls Try.prog 56 #[v, .pointer (some pP), .pointer (some pG), .pointer (some pK)] w fun e w' => e = .returned (.bool (accW l (slotsL os) k L)) ∧ Below w.heap.size w w' := by
  have HE := Lib.hid (fun W (hW : Below w.heap.size w W) => show W.cell? pP = some vp ∧ W.cell? pG = some (.func (.func 55) #[] #[.pointer (some pO)]) ∧ W.cell? pK = some (.int .i64 k) from ⟨(hE.later hW).cp, (hE.later hW).cg, (hE.later hW).ck⟩)
  have HG := Lib.hid (fun W (hW : Below w.heap.size w W) => gone55 v pO vo os L W (hE.later hW).co (hE.later hW).opts (hv.below hW) hA.six hL hLl)
  have HM := Lib.hid (fun v2 W W2 (hW : Below w.heap.size w W) (h2 : OwnI W2 W.heap.size v2 (goneV (slotsL os) L)) (hb : Below W.heap.size W W2) => most39 vp v2 l _ W2 (hE.later (hW.trans (hb.mono hW.size))).passes h2.ints hA.can (gone_in hA hL) (by have := gone_len hA hL hLl; omega))
  unfold accW
  clear hE hv hA
  generalize goneV (slotsL os) L = gl at HG HM ⊢
  generalize mostV l gl = mm at HM ⊢
  go_enter Try.func56, Try.ntmps56
  go_upto_region 1 with (fail)
  go_region_held3 (fun w' => Below w.heap.size w w' ∧ w'.cell? pP = some vp ∧ w'.cell? pG = some (.func (.func 55) #[] #[.pointer (some pO)]) ∧ w'.cell? pK = some (.int .i64 k))
    (first | exact ⟨(Below.refl _ _).drew, HE.out _ (Below.refl _ _).drew⟩ | (have hh := (‹Below w.heap.size w _ ∧ _›).1; have hb := hh.trans (hB9.mono hh.size); exact ⟨hb, HE.out _ hb⟩) | (have hh := (‹Below w.heap.size w _ ∧ _›).1; have hb := hh.trans (hBq.mono hh.size); exact ⟨hb, HE.out _ hb⟩))
    (first
      | (go_at_call 39; (with_reducible refine (HM.out v2 w.drew wq (Below.refl _ _).drew HI.out hBq).mono ?_); rintro e w9 ⟨rfl, hB9⟩)
      | (go_at_call 55; (with_reducible refine (HG.out _ (Below.refl _ _).drew).mono ?_); rintro e wq ⟨v2, rfl, hI, hBq⟩; have HI := Lib.hid hI; clear hI))
  all_goals (
    have hX := (‹Below w.heap.size w _ ∧ _›).1
    go_wp2
    go_ret
    exact ⟨rfl, hX⟩)
end Go.Proofs.Ytmajkagmcdlncaa
