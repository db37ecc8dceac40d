/- package rational: Down, Up. -/
import Derived.Test.YtjnpenljgfdaiaaGreatDoorQ5
namespace Go.Proofs.YtjnpenljgfdaiaaGreatDoor
open Go.RowKit Go.Shelf Lib

def tenS (p : Nat) : ByteArray := ⟨#[49]⟩ ++ ⟨(Lib.repeatL [48] p).toArray⟩
def badP (p : Int) : Bool := decide (p < 0) || decide (30 < p)
def roundG (rn rd : ByteArray) (p : Nat) (up : Bool) : Option (ByteArray × ByteArray) :=
  let n := doS false (N3.outS (N3.mulO rn (tenS p))); let b := doB false (N3.outE (N3.mulO rn (tenS p)))
  if b = true then none else
  let q := N3.outS (N3.quoO n rd); let b2 := doB false (N3.outE (N3.quoO n rd)); let rest := N3.outS (N3.remO n rd)
  if up = true ∧ rest.data.toList ≠ [48] then redU (doB b2 (N3.outE (N3.addO q ⟨#[49]⟩))) (doS b2 (N3.outS (N3.addO q ⟨#[49]⟩))) (tenS p)
  else redU b2 q (tenS p)
def roundR (rn rd : ByteArray) (p : Int) (up : Bool) : Option (ByteArray × ByteArray) :=
  if chkL (badP p) [(rn, rd)] = true then none else roundG rn rd p.toNat up
theorem repeat_len (p : Nat) : (Lib.repeatL [48] p).length = p := by rw [N3.repeat_zero, List.length_replicate]
theorem ten_size (p : Nat) : (tenS p).size = p + 1 := by
  have : (tenS p).size = (tenS p).data.toList.length := Lib.size_eq _
  rw [this]
  unfold tenS
  rw [ByteArray.data_append, Array.toList_append, List.length_append, repeat_len]
  show 1 + p = p + 1
  omega
theorem four_blocks (w : World) (an ad : ByteArray) (b : Bool) : ∃ W, ((((w.alloc (.cells #[.string an, .string ad] 26)).alloc (.cells #[.string ⟨#[]⟩, .string ⟨#[]⟩] 26)).alloc (.cells #[.bool b] 81)).alloc (.cells #[.string an, .string ad] 26)) = W ∧
    BlkT W w.heap.size #[.string an, .string ad] 26 ∧ BlkT W (w.heap.size + 1) #[.string ⟨#[]⟩, .string ⟨#[]⟩] 26 ∧ BlkT W (w.heap.size + 1 + 1) #[.bool b] 81 ∧ BlkT W (w.heap.size + 1 + 1 + 1) #[.string an, .string ad] 26 ∧ Below w.heap.size w W :=
  ⟨_, rfl, (((BlkT.newAt w _ _ rfl).alloc _).alloc _).alloc _, ((BlkT.newAt _ _ _ (by simp)).alloc _).alloc _, (BlkT.newAt _ _ _ (by simp)).alloc _, BlkT.newAt _ _ _ (by simp),
    ((((Below.refl _ _).alloc (Nat.le_refl _) _).alloc (by simp) _).alloc (by simp; omega) _).alloc (by simp; omega) _⟩

set_option maxRecDepth 100000 in
set_option maxHeartbeats 8000000 in
theorem round_bad (rn rd : ByteArray) (p : Int) (up b : Bool) (w : World) (s1 : rn.size ≤ 1000000) (s2 : rd.size ≤ 1000000) (he : EnvW w) (hb : badP p = b) (hc0 : chkL b [(rn, rd)] = true) :
    Calls Tryz.prog 81 #[ratV rn rd, .int .i64 p, .bool up] w fun r w' => r = .returned (.tuple #[ratV ⟨#[]⟩ ⟨#[]⟩, .int .i64 40]) ∧ Below w.heap.size w w' := by
  obtain ⟨W, hW, k1, k2, k3, k4, hB⟩ := four_blocks w rn rd b
  have HE := Lib.hid he
  have hc := check_u [(rn, rd)] (w.heap.size + 1 + 1) (w.heap.size + 1 + 1 + 1) b W (by simp) (by
    intro r hr
    simp only [List.mem_cons, List.not_mem_nil, or_false] at hr
    subst hr
    exact ⟨by show rn.size ≤ _; omega, by show rd.size ≤ _; omega⟩) w he hB (by omega) k3 k4 (by omega)
  have hne1 : w.heap.size ≠ (w.heap.size + 1 + 1) := by omega
  have hne2 : w.heap.size + 1 ≠ (w.heap.size + 1 + 1) := by omega
  have x0 := k1.cell 0
  have x1 := k1.cell 1
  simp only [List.getElem?_toArray, List.getElem?_cons_succ, List.getElem?_cons_zero] at x0 x1
  have K1 := Lib.hid k1
  have K2 := Lib.hid k2
  rw [hc0] at hc
  have HC := Lib.hid hc
  have hcase : (p < 0 ∧ b = true) ∨ (¬ p < 0 ∧ 30 < p ∧ b = true) ∨ (¬ p < 0 ∧ ¬ 30 < p ∧ b = false) := by
    unfold badP at hb
    by_cases h1 : p < 0
    · rw [decide_eq_true h1] at hb; exact .inl ⟨h1, hb.symm⟩
    · by_cases h2 : 30 < p
      · rw [decide_eq_false h1, decide_eq_true h2] at hb; exact .inr (.inl ⟨h1, h2, hb.symm⟩)
      · rw [decide_eq_false h1, decide_eq_false h2] at hb; exact .inr (.inr ⟨h1, h2, hb.symm⟩)
  clear hc hc0 he k1 k2 k3 k4 hb
  rcases hcase with ⟨h1, rfl⟩ | ⟨h1, h2, rfl⟩ | ⟨h1, h2, rfl⟩
  · skip
    go_enter Tryz.func81, Tryz.ntmps81
    go_wp2_with (simp only [hW])
    refine HC.out.mono ?_
    rintro r V1 ⟨rfl, hg1, hO1⟩
    have hB1 := hO1.below hB (by omega)
    have HK2 := Lib.hid (hO1.blk K2.out hne2)
    have c0 := hg1.cell 0
    have c1 := hg1.frozen 0
    simp only [List.getElem?_toArray, List.getElem?_cons_zero] at c0
    clear x0 x1 hW
    have f0 := HK2.out.frozen 0
    have f1 := HK2.out.frozen 1
    have x0 := HK2.out.cell 0
    have x1 := HK2.out.cell 1
    simp only [List.getElem?_toArray, List.getElem?_cons_succ, List.getElem?_cons_zero] at x0 x1
    go_wp2_with fail
    have hz : BlkT _ _ #[.string ⟨#[]⟩, .string ⟨#[]⟩] 26 := (HK2.out.set 0 (.string ⟨#[]⟩)).set 1 (.string ⟨#[]⟩)
    have z0 := hz.cell 0
    have z1 := hz.cell 1
    simp only [List.getElem?_toArray, List.getElem?_cons_succ, List.getElem?_cons_zero] at z0 z1
    refine bodyPost_ret (v := .tuple #[ratV ⟨#[]⟩ ⟨#[]⟩, .int .i64 40]) (by simp [results, Tryz.results81, go_sem, z0, z1]) rfl ?_
    exact ⟨by first | rfl | (rw [EG.out]; rfl), (hB1.setCell (by show w.heap.size ≤ w.heap.size + 1; omega) _).setCell (by show w.heap.size ≤ w.heap.size + 1; omega) _⟩
  · have h3 : 0 ≤ p := by omega
    go_enter Tryz.func81, Tryz.ntmps81
    go_wp2_with (simp only [hW])
    refine HC.out.mono ?_
    rintro r V1 ⟨rfl, hg1, hO1⟩
    have hB1 := hO1.below hB (by omega)
    have HK2 := Lib.hid (hO1.blk K2.out hne2)
    have c0 := hg1.cell 0
    have c1 := hg1.frozen 0
    simp only [List.getElem?_toArray, List.getElem?_cons_zero] at c0
    clear x0 x1 hW
    have f0 := HK2.out.frozen 0
    have f1 := HK2.out.frozen 1
    have x0 := HK2.out.cell 0
    have x1 := HK2.out.cell 1
    simp only [List.getElem?_toArray, List.getElem?_cons_succ, List.getElem?_cons_zero] at x0 x1
    go_wp2_with fail
    have hz : BlkT _ _ #[.string ⟨#[]⟩, .string ⟨#[]⟩] 26 := (HK2.out.set 0 (.string ⟨#[]⟩)).set 1 (.string ⟨#[]⟩)
    have z0 := hz.cell 0
    have z1 := hz.cell 1
    simp only [List.getElem?_toArray, List.getElem?_cons_succ, List.getElem?_cons_zero] at z0 z1
    refine bodyPost_ret (v := .tuple #[ratV ⟨#[]⟩ ⟨#[]⟩, .int .i64 40]) (by simp [results, Tryz.results81, go_sem, z0, z1]) rfl ?_
    exact ⟨by first | rfl | (rw [EG.out]; rfl), (hB1.setCell (by show w.heap.size ≤ w.heap.size + 1; omega) _).setCell (by show w.heap.size ≤ w.heap.size + 1; omega) _⟩
  · have h3 : 0 ≤ p ∧ p ≤ 30 := by omega
    go_enter Tryz.func81, Tryz.ntmps81
    go_wp2_with (simp only [hW])
    refine HC.out.mono ?_
    rintro r V1 ⟨rfl, hg1, hO1⟩
    have hB1 := hO1.below hB (by omega)
    have HK2 := Lib.hid (hO1.blk K2.out hne2)
    have c0 := hg1.cell 0
    have c1 := hg1.frozen 0
    simp only [List.getElem?_toArray, List.getElem?_cons_zero] at c0
    clear x0 x1 hW
    have f0 := HK2.out.frozen 0
    have f1 := HK2.out.frozen 1
    have x0 := HK2.out.cell 0
    have x1 := HK2.out.cell 1
    simp only [List.getElem?_toArray, List.getElem?_cons_succ, List.getElem?_cons_zero] at x0 x1
    go_wp2_with fail
    have hz : BlkT _ _ #[.string ⟨#[]⟩, .string ⟨#[]⟩] 26 := (HK2.out.set 0 (.string ⟨#[]⟩)).set 1 (.string ⟨#[]⟩)
    have z0 := hz.cell 0
    have z1 := hz.cell 1
    simp only [List.getElem?_toArray, List.getElem?_cons_succ, List.getElem?_cons_zero] at z0 z1
    refine bodyPost_ret (v := .tuple #[ratV ⟨#[]⟩ ⟨#[]⟩, .int .i64 40]) (by simp [results, Tryz.results81, go_sem, z0, z1]) rfl ?_
    exact ⟨by first | rfl | (rw [EG.out]; rfl), (hB1.setCell (by show w.heap.size ≤ w.heap.size + 1; omega) _).setCell (by show w.heap.size ≤ w.heap.size + 1; omega) _⟩

set_option maxRecDepth 100000 in
set_option maxHeartbeats 8000000 in
theorem round_good (rn rd : ByteArray) (p : Nat) (up : Bool) (w : World) (s1 : rn.size ≤ 1000000) (s2 : rd.size ≤ 1000000) (he : EnvW w) (hp : p ≤ 30) (hc0 : chkL false [(rn, rd)] = false) :
    Calls Tryz.prog 81 #[ratV rn rd, .int .i64 (p : Nat), .bool up] w fun r w' => r = .returned (.tuple #[valR (roundG rn rd p up), .int .i64 (errR (roundG rn rd p up))]) ∧ Below w.heap.size w w' := by
  obtain ⟨W, hW, k1, k2, k3, k4, hB⟩ := four_blocks w rn rd false
  have HE := Lib.hid he
  have hc := check_u [(rn, rd)] (w.heap.size + 1 + 1) (w.heap.size + 1 + 1 + 1) false W (by simp) (by
    intro r hr
    simp only [List.mem_cons, List.not_mem_nil, or_false] at hr
    subst hr
    exact ⟨by show rn.size ≤ _; omega, by show rd.size ≤ _; omega⟩) w he hB (by omega) k3 k4 (by omega)
  have hne1 : w.heap.size ≠ (w.heap.size + 1 + 1) := by omega
  have hne2 : w.heap.size + 1 ≠ (w.heap.size + 1 + 1) := by omega
  have x0 := k1.cell 0
  have x1 := k1.cell 1
  simp only [List.getElem?_toArray, List.getElem?_cons_succ, List.getElem?_cons_zero] at x0 x1
  have K1 := Lib.hid k1
  have K2 := Lib.hid k2
  rw [hc0] at hc
  have HC := Lib.hid hc
  have h1 : ¬ (p : Int) < 0 := by omega
  have h2 : ¬ 30 < (p : Int) := by omega
  have h3 : (p : Int) ≤ 30 := by omega
  have hrp := Lib.hid (fun V => Tryz.strings_Repeat ⟨#[48]⟩ p V (by omega) (by show 1 * p ≤ _; omega))
  have htl : (Lib.repeatL [48] p).length = p := repeat_len p
  have hTs := ten_size p
  have hT : (⟨#[49]⟩ : ByteArray) ++ ⟨(Lib.repeatL [48] p).toArray⟩ = tenS p := rfl
  have hT2 : (⟨(Lib.repeatL (⟨#[48]⟩ : ByteArray).data.toList p).toArray⟩ : ByteArray) = ⟨(Lib.repeatL [48] p).toArray⟩ := rfl
  rw [hT2] at hrp
  obtain ⟨z, hz⟩ : ∃ z : ByteArray, z = ⟨(Lib.repeatL [48] p).toArray⟩ := ⟨_, rfl⟩
  have hzs : z.size = p := by rw [hz, Lib.size_eq]; exact htl
  rw [← hz] at hrp hT
  have hq1 : ¬ 9223372036854775807 < 1 + z.size := by omega
  have hq2 : ¬ 9223372036854775807 < (⟨#[49]⟩ : ByteArray).size + z.size := by show ¬ 9223372036854775807 < 1 + z.size; omega
  obtain ⟨t, ht⟩ : ∃ t, t = tenS p := ⟨_, rfl⟩
  rw [← ht] at hT hTs
  obtain ⟨n, hn⟩ : ∃ s, s = doS false (N3.outS (N3.mulO rn t)) := ⟨_, rfl⟩
  obtain ⟨b, hb⟩ : ∃ s, s = doB false (N3.outE (N3.mulO rn t)) := ⟨_, rfl⟩
  have M1 : Hid (∀ V, EnvW V → WkB V (w.heap.size + 1 + 1) false → _) := Lib.hid (fun V hV hg => by have q := mul_u rn t (w.heap.size + 1 + 1) false V (by omega) (by omega) hV hg; rw [← hn, ← hb] at q; exact q)
  have zn : n.size ≤ 300 := by rw [hn]; exact doS_size _ _
  obtain ⟨q, hq⟩ : ∃ s, s = N3.outS (N3.quoO n rd) := ⟨_, rfl⟩
  obtain ⟨e, hee⟩ : ∃ s, s = N3.outE (N3.quoO n rd) := ⟨_, rfl⟩
  obtain ⟨rest, hrest⟩ : ∃ s, s = N3.outS (N3.remO n rd) := ⟨_, rfl⟩
  obtain ⟨b2, hb2⟩ : ∃ s : Bool, s = (e != 0) := ⟨_, rfl⟩
  have D1 : Hid (∀ V, EnvW V → _) := Lib.hid (fun V hV => by have k := div_f n rd V (by omega) (by omega) hV; rw [← hq, ← hee, ← hrest] at k; exact k)
  have zq : q.size ≤ 300 := by rw [hq]; exact out_size _
  have EG : Hid (roundG rn rd p up = if b = true then none else if up = true ∧ rest.data.toList ≠ [48] then redU (doB b2 (N3.outE (N3.addO q ⟨#[49]⟩))) (doS b2 (N3.outS (N3.addO q ⟨#[49]⟩))) t else redU b2 q t) := Lib.hid (by
    unfold roundG
    rw [hb2, hee, hrest, hq, hb, hn, ht]; rfl)
  clear hc hc0 he k1 k2 k3 k4 hz htl hT2 hn hb hq hee hrest ht
  go_enter Tryz.func81, Tryz.ntmps81
  go_wp2_with (simp only [hW])
  refine HC.out.mono ?_
  rintro r V1 ⟨rfl, hg1, hO1⟩
  have hB1 := hO1.below hB (by omega)
  have l1 := hO1.blk K1.out hne1
  have l2 := hO1.blk K2.out hne2
  have c0 := hg1.cell 0
  simp only [List.getElem?_toArray, List.getElem?_cons_zero] at c0
  have HG1 := Lib.hid hg1
  clear x0 x1 hW hg1
  go_wp2_with fail
  refine (hrp.out _).mono ?_
  rintro r V2 ⟨rfl, hb2'⟩
  have hB2 := hB1.trans (hb2'.mono hB1.size)
  have hg2 := BlkT.keep HG1.out hb2'
  have l1 := BlkT.keep l1 hb2'
  have l2 := BlkT.keep l2 hb2'
  have x0 := l1.cell 0
  have x1 := l1.cell 1
  simp only [List.getElem?_toArray, List.getElem?_cons_succ, List.getElem?_cons_zero] at x0 x1
  clear c0 hb2'
  go_wp2_with (simp only)
  refine (M1.out _ (HE.out.below hB2) hg2).mono ?_
  rintro r V3 ⟨rfl, hg3, hO3⟩
  have hB3 := hO3.below hB2 (by omega)
  have l1 := hO3.blk l1 hne1
  have l2 := hO3.blk l2 hne2
  clear x0 x1 hg2
  have x0 := l1.cell 0
  have x1 := l1.cell 1
  have c0 := hg3.cell 0
  have c1 := hg3.frozen 0
  simp only [List.getElem?_toArray, List.getElem?_cons_succ, List.getElem?_cons_zero] at x0 x1 c0
  have HK2 := Lib.hid l2
  have HG3 := Lib.hid hg3
  have L1 := Lib.hid l1
  clear l1 l2 hg3
  cases b with
  | true =>
    rw [if_pos rfl] at EG
    clear x0 x1
    have f0 := HK2.out.frozen 0
    have f1 := HK2.out.frozen 1
    have x0 := HK2.out.cell 0
    have x1 := HK2.out.cell 1
    simp only [List.getElem?_toArray, List.getElem?_cons_succ, List.getElem?_cons_zero] at x0 x1
    go_wp2_with fail
    have hz : BlkT _ _ #[.string ⟨#[]⟩, .string ⟨#[]⟩] 26 := (HK2.out.set 0 (.string ⟨#[]⟩)).set 1 (.string ⟨#[]⟩)
    have z0 := hz.cell 0
    have z1 := hz.cell 1
    simp only [List.getElem?_toArray, List.getElem?_cons_succ, List.getElem?_cons_zero] at z0 z1
    refine bodyPost_ret (v := .tuple #[ratV ⟨#[]⟩ ⟨#[]⟩, .int .i64 40]) (by simp [results, Tryz.results81, go_sem, z0, z1]) rfl ?_
    exact ⟨by first | rfl | (rw [EG.out]; rfl), (hB3.setCell (by show w.heap.size ≤ w.heap.size + 1; omega) _).setCell (by show w.heap.size ≤ w.heap.size + 1; omega) _⟩
  | false =>
    rw [if_neg (by decide)] at EG
    go_wp2_with fail
    refine (D1.out _ (HE.out.below hB3)).mono ?_
    rintro r V4 ⟨rfl, hb4⟩
    have hB4 := hB3.trans (hb4.mono hB3.size)
    have hg4 := BlkT.keep HG3.out hb4
    have l2 := BlkT.keep HK2.out hb4
    clear x0 x1 c0 c1
    have c0 := hg4.cell 0
    have c1 := hg4.frozen 0
    simp only [List.getElem?_toArray, List.getElem?_cons_zero] at c0
    have hb2s := hb2.symm
    have HG4 := Lib.hid (show WkB (V4.setCell ⟨w.heap.size + 1 + 1, 0, none⟩ (.bool b2)) (w.heap.size + 1 + 1) b2 from hg4.set 0 _)
    have HL4 := Lib.hid (show BlkT (V4.setCell ⟨w.heap.size + 1 + 1, 0, none⟩ (.bool b2)) (w.heap.size + 1) _ _ from l2.other _ (by simp))
    have hB5 : Below w.heap.size w (V4.setCell ⟨w.heap.size + 1 + 1, 0, none⟩ (.bool b2)) := hB4.setCell (by show w.heap.size ≤ w.heap.size + 1 + 1; omega) _
    clear hg4 l2 hb2
    cases up with
    | false =>
      rw [if_neg (by simp)] at EG
      obtain ⟨R, hR⟩ : ∃ R, redU b2 q t = R := ⟨_, rfl⟩
      rw [hR] at EG
      have RD := Lib.hid (by have k := reduced_u q t (w.heap.size + 1 + 1) b2 _ w (by omega) (by omega) HE.out hB5 (by omega) HG4.out; rw [hR] at k; exact k)
      go_wp2_with (simp only)
      refine RD.out.mono ?_
      rintro r V9 ⟨rfl, hO9⟩
      have hB9 := hO9.below hB5 (by omega)
      have l9 := hO9.blk HL4.out hne2
      clear c0 c1
      have x0 := l9.cell 0
      have x1 := l9.cell 1
      have f0 := l9.frozen 0
      have f1 := l9.frozen 1
      simp only [List.getElem?_toArray, List.getElem?_cons_succ, List.getElem?_cons_zero] at x0 x1
      have HK := Lib.hid l9
      clear l9
      cases R with
      | none =>
        dsimp only [valR, errR]
        go_wp2_with fail
        have hz : BlkT _ _ #[.string ⟨#[]⟩, .string ⟨#[]⟩] 26 := (HK.out.set 0 (.string ⟨#[]⟩)).set 1 (.string ⟨#[]⟩)
        have z0 := hz.cell 0
        have z1 := hz.cell 1
        simp only [List.getElem?_toArray, List.getElem?_cons_succ, List.getElem?_cons_zero] at z0 z1
        refine bodyPost_ret (v := .tuple #[ratV ⟨#[]⟩ ⟨#[]⟩, .int .i64 40]) (by simp [results, Tryz.results81, go_sem, z0, z1]) rfl ?_
        exact ⟨by first | rfl | (rw [EG.out]; rfl), (hB9.setCell (by show w.heap.size ≤ w.heap.size + 1; omega) _).setCell (by show w.heap.size ≤ w.heap.size + 1; omega) _⟩
      | some R =>
        obtain ⟨x, y⟩ := R
        dsimp only [valR, errR]
        go_wp2_with fail
        have hz : BlkT _ _ #[.string x, .string y] 26 := (HK.out.set 0 (.string x)).set 1 (.string y)
        have z0 := hz.cell 0
        have z1 := hz.cell 1
        simp only [List.getElem?_toArray, List.getElem?_cons_succ, List.getElem?_cons_zero] at z0 z1
        refine bodyPost_ret (v := .tuple #[ratV x y, .int .i64 0]) (by simp [results, Tryz.results81, go_sem, z0, z1]) rfl ?_
        exact ⟨by first | rfl | (rw [EG.out]; rfl), (hB9.setCell (by show w.heap.size ≤ w.heap.size + 1; omega) _).setCell (by show w.heap.size ≤ w.heap.size + 1; omega) _⟩
    | true =>
      by_cases hr0 : rest.data.toList = [48]
      · have hst := str_eq48 hr0
        have hst2 : (rest.toList != [48]) = false := by rw [bne, hst]; rfl
        rw [if_neg (fun k => k.2 hr0)] at EG
        obtain ⟨R, hR⟩ : ∃ R, redU b2 q t = R := ⟨_, rfl⟩
        rw [hR] at EG
        have RD := Lib.hid (by have k := reduced_u q t (w.heap.size + 1 + 1) b2 _ w (by omega) (by omega) HE.out hB5 (by omega) HG4.out; rw [hR] at k; exact k)
        clear hr0
        go_wp2_with (simp only)
        refine RD.out.mono ?_
        rintro r V9 ⟨rfl, hO9⟩
        have hB9 := hO9.below hB5 (by omega)
        have l9 := hO9.blk HL4.out hne2
        clear c0 c1
        have x0 := l9.cell 0
        have x1 := l9.cell 1
        have f0 := l9.frozen 0
        have f1 := l9.frozen 1
        simp only [List.getElem?_toArray, List.getElem?_cons_succ, List.getElem?_cons_zero] at x0 x1
        have HK := Lib.hid l9
        clear l9
        cases R with
        | none =>
          dsimp only [valR, errR]
          go_wp2_with fail
          have hz : BlkT _ _ #[.string ⟨#[]⟩, .string ⟨#[]⟩] 26 := (HK.out.set 0 (.string ⟨#[]⟩)).set 1 (.string ⟨#[]⟩)
          have z0 := hz.cell 0
          have z1 := hz.cell 1
          simp only [List.getElem?_toArray, List.getElem?_cons_succ, List.getElem?_cons_zero] at z0 z1
          refine bodyPost_ret (v := .tuple #[ratV ⟨#[]⟩ ⟨#[]⟩, .int .i64 40]) (by simp [results, Tryz.results81, go_sem, z0, z1]) rfl ?_
          exact ⟨by first | rfl | (rw [EG.out]; rfl), (hB9.setCell (by show w.heap.size ≤ w.heap.size + 1; omega) _).setCell (by show w.heap.size ≤ w.heap.size + 1; omega) _⟩
        | some R =>
          obtain ⟨x, y⟩ := R
          dsimp only [valR, errR]
          go_wp2_with fail
          have hz : BlkT _ _ #[.string x, .string y] 26 := (HK.out.set 0 (.string x)).set 1 (.string y)
          have z0 := hz.cell 0
          have z1 := hz.cell 1
          simp only [List.getElem?_toArray, List.getElem?_cons_succ, List.getElem?_cons_zero] at z0 z1
          refine bodyPost_ret (v := .tuple #[ratV x y, .int .i64 0]) (by simp [results, Tryz.results81, go_sem, z0, z1]) rfl ?_
          exact ⟨by first | rfl | (rw [EG.out]; rfl), (hB9.setCell (by show w.heap.size ≤ w.heap.size + 1; omega) _).setCell (by show w.heap.size ≤ w.heap.size + 1; omega) _⟩
      · have hst := str_ne48 hr0
        have hst2 : (rest.toList != [48]) = true := by rw [bne, hst]; rfl
        rw [if_pos ⟨rfl, hr0⟩] at EG
        have A1 := do_u 34 q ⟨#[49]⟩ _ _ (w.heap.size + 1 + 1) b2 _ Tryz.call34 (add_f q ⟨#[49]⟩ _ (by omega) (by decide) (HE.out.below hB5)) HG4.out
        have zd := doS_size b2 (N3.addO q ⟨#[49]⟩)
        generalize doS b2 (N3.outS (N3.addO q ⟨#[49]⟩)) = q2 at *
        generalize doB b2 (N3.outE (N3.addO q ⟨#[49]⟩)) = b3 at *
        have A := Lib.hid A1
        obtain ⟨R, hR⟩ : ∃ R, redU b3 q2 t = R := ⟨_, rfl⟩
        rw [hR] at EG
        clear hr0 A1
        go_wp2_with (simp only)
        refine A.out.mono ?_
        rintro r V5 ⟨rfl, hg5, hO5⟩
        have hB6 := hO5.below hB5 (by omega)
        have HL5 := Lib.hid (hO5.blk HL4.out hne2)
        have RD := Lib.hid (by have k := reduced_u q2 t (w.heap.size + 1 + 1) b3 _ w (by omega) (by omega) HE.out hB6 (by omega) hg5; rw [hR] at k; exact k)
        clear hg5
        go_wp2_with fail
        refine RD.out.mono ?_
        rintro r V9 ⟨rfl, hO9⟩
        have hB9 := hO9.below hB6 (by omega)
        have l9 := hO9.blk HL5.out hne2
        clear c0 c1
        have x0 := l9.cell 0
        have x1 := l9.cell 1
        have f0 := l9.frozen 0
        have f1 := l9.frozen 1
        simp only [List.getElem?_toArray, List.getElem?_cons_succ, List.getElem?_cons_zero] at x0 x1
        have HK := Lib.hid l9
        clear l9
        cases R with
        | none =>
          dsimp only [valR, errR]
          go_wp2_with fail
          have hz : BlkT _ _ #[.string ⟨#[]⟩, .string ⟨#[]⟩] 26 := (HK.out.set 0 (.string ⟨#[]⟩)).set 1 (.string ⟨#[]⟩)
          have z0 := hz.cell 0
          have z1 := hz.cell 1
          simp only [List.getElem?_toArray, List.getElem?_cons_succ, List.getElem?_cons_zero] at z0 z1
          refine bodyPost_ret (v := .tuple #[ratV ⟨#[]⟩ ⟨#[]⟩, .int .i64 40]) (by simp [results, Tryz.results81, go_sem, z0, z1]) rfl ?_
          exact ⟨by first | rfl | (rw [EG.out]; rfl), (hB9.setCell (by show w.heap.size ≤ w.heap.size + 1; omega) _).setCell (by show w.heap.size ≤ w.heap.size + 1; omega) _⟩
        | some R =>
          obtain ⟨x, y⟩ := R
          dsimp only [valR, errR]
          go_wp2_with fail
          have hz : BlkT _ _ #[.string x, .string y] 26 := (HK.out.set 0 (.string x)).set 1 (.string y)
          have z0 := hz.cell 0
          have z1 := hz.cell 1
          simp only [List.getElem?_toArray, List.getElem?_cons_succ, List.getElem?_cons_zero] at z0 z1
          refine bodyPost_ret (v := .tuple #[ratV x y, .int .i64 0]) (by simp [results, Tryz.results81, go_sem, z0, z1]) rfl ?_
          exact ⟨by first | rfl | (rw [EG.out]; rfl), (hB9.setCell (by show w.heap.size ≤ w.heap.size + 1; omega) _).setCell (by show w.heap.size ≤ w.heap.size + 1; omega) _⟩

set_option maxRecDepth 100000 in
theorem round_u (rn rd : ByteArray) (p : Int) (up : Bool) (w : World) (s1 : rn.size ≤ 1000000) (s2 : rd.size ≤ 1000000) (he : EnvW w) :
    Calls Tryz.prog 81 #[ratV rn rd, .int .i64 p, .bool up] w fun r w' => r = .returned (.tuple #[valR (roundR rn rd p up), .int .i64 (errR (roundR rn rd p up))]) ∧ Below w.heap.size w w' := by
  cases hc : chkL (badP p) [(rn, rd)] with
  | true =>
    have e : roundR rn rd p up = none := by unfold roundR; rw [if_pos hc]
    rw [e]
    exact round_bad rn rd p up _ w s1 s2 he rfl hc
  | false =>
    have e : roundR rn rd p up = roundG rn rd p.toNat up := by unfold roundR; rw [if_neg (by rw [hc]; decide)]
    rw [e]
    have hb : badP p = false := by
      cases hb : badP p with
      | false => rfl
      | true => rw [hb] at hc; cases hc
    have hp : 0 ≤ p ∧ p ≤ 30 := by
      unfold badP at hb
      simp only [Bool.or_eq_false_iff, decide_eq_false_iff_not] at hb
      omega
    rw [hb] at hc
    have k := round_good rn rd p.toNat up w s1 s2 he (by omega) hc
    rw [show ((p.toNat : Nat) : Int) = p by omega] at k
    exact k
set_option maxRecDepth 100000 in
set_option maxHeartbeats 8000000 in
theorem down04 (rn rd : ByteArray) (p : Int) (w : World) (s1 : rn.size ≤ 1000000) (s2 : rd.size ≤ 1000000) (he : EnvW w) :
    Calls Tryz.prog 29 #[ratV rn rd, .int .i64 p] w fun r w' => r = .returned (.tuple #[valR (roundR rn rd p false), .int .i64 (errR (roundR rn rd p false))]) ∧ Below w.heap.size w w' := by
  obtain ⟨W, hW⟩ : ∃ W, (w.alloc (.cells #[.string rn, .string rd] 26)).alloc (.cells #[.string ⟨#[]⟩, .string ⟨#[]⟩] 26) = W := ⟨_, rfl⟩
  have k1 : BlkT W w.heap.size #[.string rn, .string rd] 26 := hW ▸ (BlkT.newAt w _ _ rfl).alloc _
  have k2 : BlkT W (w.heap.size + 1) #[.string ⟨#[]⟩, .string ⟨#[]⟩] 26 := hW ▸ BlkT.newAt _ _ _ (by simp)
  have hB : Below w.heap.size w W := hW ▸ (((Below.refl _ _).alloc (Nat.le_refl _) _).alloc (by simp) _)
  have HE := Lib.hid he
  have HS := Lib.hid (fun V (hV : EnvW V) => round_u rn rd p false V s1 s2 hV)
  obtain ⟨R, hR⟩ : ∃ R, roundR rn rd p false = R := ⟨_, rfl⟩
  rw [hR] at HS ⊢
  have x0 := k1.cell 0
  have x1 := k1.cell 1
  simp only [List.getElem?_toArray, List.getElem?_cons_succ, List.getElem?_cons_zero] at x0 x1
  have K2 := Lib.hid k2
  clear hR he k1 k2
  go_enter Tryz.func29, Tryz.ntmps29
  go_wp2_with (simp only [hW])
  refine (HS.out _ (HE.out.below hB)).mono ?_
  rintro r V1 ⟨rfl, hb1⟩
  have hB1 := hB.trans (hb1.mono hB.size)
  have l4 := BlkT.keep K2.out hb1
  clear x0 x1
  have x0 := l4.cell 0
  have x1 := l4.cell 1
  have f0 := l4.frozen 0
  have f1 := l4.frozen 1
  simp only [List.getElem?_toArray, List.getElem?_cons_succ, List.getElem?_cons_zero] at x0 x1
  have HK := Lib.hid l4
  clear l4 hW
  cases R with
  | none =>
    dsimp only [valR, errR]
    go_wp2_with fail
    have hz : BlkT _ _ #[.string ⟨#[]⟩, .string ⟨#[]⟩] 26 := (HK.out.set 0 (.string ⟨#[]⟩)).set 1 (.string ⟨#[]⟩)
    have z0 := hz.cell 0
    have z1 := hz.cell 1
    simp only [List.getElem?_toArray, List.getElem?_cons_succ, List.getElem?_cons_zero] at z0 z1
    refine bodyPost_ret (v := .tuple #[ratV ⟨#[]⟩ ⟨#[]⟩, .int .i64 40]) (by simp [results, Tryz.results29, go_sem, z0, z1]) rfl ?_
    exact ⟨by first | rfl | (rw [EG.out]; rfl), (hB1.setCell (by show w.heap.size ≤ w.heap.size + 1; omega) _).setCell (by show w.heap.size ≤ w.heap.size + 1; omega) _⟩
  | some R =>
    obtain ⟨x, y⟩ := R
    dsimp only [valR, errR]
    go_wp2_with fail
    have hz : BlkT _ _ #[.string x, .string y] 26 := (HK.out.set 0 (.string x)).set 1 (.string y)
    have z0 := hz.cell 0
    have z1 := hz.cell 1
    simp only [List.getElem?_toArray, List.getElem?_cons_succ, List.getElem?_cons_zero] at z0 z1
    refine bodyPost_ret (v := .tuple #[ratV x y, .int .i64 0]) (by simp [results, Tryz.results29, go_sem, z0, z1]) rfl ?_
    exact ⟨by first | rfl | (rw [EG.out]; rfl), (hB1.setCell (by show w.heap.size ≤ w.heap.size + 1; omega) _).setCell (by show w.heap.size ≤ w.heap.size + 1; omega) _⟩
set_option maxRecDepth 100000 in
set_option maxHeartbeats 8000000 in
theorem up04 (rn rd : ByteArray) (p : Int) (w : World) (s1 : rn.size ≤ 1000000) (s2 : rd.size ≤ 1000000) (he : EnvW w) :
    Calls Tryz.prog 30 #[ratV rn rd, .int .i64 p] w fun r w' => r = .returned (.tuple #[valR (roundR rn rd p true), .int .i64 (errR (roundR rn rd p true))]) ∧ Below w.heap.size w w' := by
  obtain ⟨W, hW⟩ : ∃ W, (w.alloc (.cells #[.string rn, .string rd] 26)).alloc (.cells #[.string ⟨#[]⟩, .string ⟨#[]⟩] 26) = W := ⟨_, rfl⟩
  have k1 : BlkT W w.heap.size #[.string rn, .string rd] 26 := hW ▸ (BlkT.newAt w _ _ rfl).alloc _
  have k2 : BlkT W (w.heap.size + 1) #[.string ⟨#[]⟩, .string ⟨#[]⟩] 26 := hW ▸ BlkT.newAt _ _ _ (by simp)
  have hB : Below w.heap.size w W := hW ▸ (((Below.refl _ _).alloc (Nat.le_refl _) _).alloc (by simp) _)
  have HE := Lib.hid he
  have HS := Lib.hid (fun V (hV : EnvW V) => round_u rn rd p true V s1 s2 hV)
  obtain ⟨R, hR⟩ : ∃ R, roundR rn rd p true = R := ⟨_, rfl⟩
  rw [hR] at HS ⊢
  have x0 := k1.cell 0
  have x1 := k1.cell 1
  simp only [List.getElem?_toArray, List.getElem?_cons_succ, List.getElem?_cons_zero] at x0 x1
  have K2 := Lib.hid k2
  clear hR he k1 k2
  go_enter Tryz.func30, Tryz.ntmps30
  go_wp2_with (simp only [hW])
  refine (HS.out _ (HE.out.below hB)).mono ?_
  rintro r V1 ⟨rfl, hb1⟩
  have hB1 := hB.trans (hb1.mono hB.size)
  have l4 := BlkT.keep K2.out hb1
  clear x0 x1
  have x0 := l4.cell 0
  have x1 := l4.cell 1
  have f0 := l4.frozen 0
  have f1 := l4.frozen 1
  simp only [List.getElem?_toArray, List.getElem?_cons_succ, List.getElem?_cons_zero] at x0 x1
  have HK := Lib.hid l4
  clear l4 hW
  cases R with
  | none =>
    dsimp only [valR, errR]
    go_wp2_with fail
    have hz : BlkT _ _ #[.string ⟨#[]⟩, .string ⟨#[]⟩] 26 := (HK.out.set 0 (.string ⟨#[]⟩)).set 1 (.string ⟨#[]⟩)
    have z0 := hz.cell 0
    have z1 := hz.cell 1
    simp only [List.getElem?_toArray, List.getElem?_cons_succ, List.getElem?_cons_zero] at z0 z1
    refine bodyPost_ret (v := .tuple #[ratV ⟨#[]⟩ ⟨#[]⟩, .int .i64 40]) (by simp [results, Tryz.results30, go_sem, z0, z1]) rfl ?_
    exact ⟨by first | rfl | (rw [EG.out]; rfl), (hB1.setCell (by show w.heap.size ≤ w.heap.size + 1; omega) _).setCell (by show w.heap.size ≤ w.heap.size + 1; omega) _⟩
  | some R =>
    obtain ⟨x, y⟩ := R
    dsimp only [valR, errR]
    go_wp2_with fail
    have hz : BlkT _ _ #[.string x, .string y] 26 := (HK.out.set 0 (.string x)).set 1 (.string y)
    have z0 := hz.cell 0
    have z1 := hz.cell 1
    simp only [List.getElem?_toArray, List.getElem?_cons_succ, List.getElem?_cons_zero] at z0 z1
    refine bodyPost_ret (v := .tuple #[ratV x y, .int .i64 0]) (by simp [results, Tryz.results30, go_sem, z0, z1]) rfl ?_
    exact ⟨by first | rfl | (rw [EG.out]; rfl), (hB1.setCell (by show w.heap.size ≤ w.heap.size + 1; omega) _).setCell (by show w.heap.size ≤ w.heap.size + 1; omega) _⟩
end Go.Proofs.YtjnpenljgfdaiaaGreatDoor
