/- package rational's answers, in numbers: what the functions return for fractions in lowest terms. -/
import Derived.Test.YtjnpenljgfdaiaaGreatDoorQ7
namespace Go.Proofs.YtjnpenljgfdaiaaGreatDoor
open Go.RowKit Go.Shelf Lib

theorem sub0_S {x : Int} (hx : x.natAbs < N3.lim) : N3.subO ⟨#[48]⟩ (N3.S x) = some (-x) := by rw [← S_zero, N3.subO_S lim0 hx, Int.zero_sub]
theorem S_eq48 {x : Int} : (N3.S x).data.toList = [48] ↔ x = 0 := by
  constructor
  · intro h
    have : N3.S x = N3.S 0 := bytes_ext (by rw [h]; unfold N3.S; rw [N3.itoa_zero])
    exact N3.S_inj this
  · rintro rfl; unfold N3.S; rw [N3.itoa_zero]
theorem redT_S {n d : Int} (hn : n.natAbs < N3.lim) (hd : d.natAbs < N3.lim) (h0 : d ≠ 0) : redT false (N3.S n) (N3.S d) = some (N3.S (n / N3.gcdI n d), N3.S (d / N3.gcdI n d)) := by
  have hg := N3.gcd_natAbs_lt hn hd
  have hg0 : N3.gcdI n d ≠ 0 := fun e => h0 (N3.gcdI_zero.1 e).2
  have h1 : (n / N3.gcdI n d).natAbs < N3.lim := Nat.lt_of_le_of_lt (N3.div_natAbs_le _ _) hn
  have h2 : (d / N3.gcdI n d).natAbs < N3.lim := Nat.lt_of_le_of_lt (N3.div_natAbs_le _ _) hd
  unfold redT
  simp only [N3.gcdO_S hn hd, N3.outS_some hg, N3.outE_some hg, doS_false, show doB false 0 = false from rfl, N3.quoO_S hn hg hg0, N3.quoO_S hd hg hg0, N3.outS_some h1, N3.outE_some h1, N3.outS_some h2, N3.outE_some h2]
  rfl
def strR (r : Int × Int) : ByteArray × ByteArray := (N3.S r.1, N3.S r.2)
theorem red_S {n d : Int} (hn : n.natAbs < N3.lim) (hd : d.natAbs < N3.lim) (h0 : d ≠ 0) : redU false (N3.S n) (N3.S d) = some (strR (N3.mk n d)) := by
  unfold redU
  rw [if_neg (by decide), if_neg (fun h => h0 (S_eq48.1 h))]
  have hc : N3.cmpS (N3.S d) ⟨#[48]⟩ = N3.cmpI d 0 := by rw [← S_zero, N3.cmpS_S hd lim0]
  rw [hc]
  by_cases hneg : d < 0
  · rw [if_pos ((N3.cmpI_lt d 0).2 hneg), sub0_S hn, sub0_S hd]
    have hn' : (-n).natAbs < N3.lim := by rw [Int.natAbs_neg]; exact hn
    have hd' : (-d).natAbs < N3.lim := by rw [Int.natAbs_neg]; exact hd
    rw [N3.outS_some hn', N3.outE_some hn', N3.outS_some hd', N3.outE_some hd', show doB false 0 = false from rfl, show doB false 0 = false from rfl, doS_false, doS_false, redT_S hn' hd' (by omega)]
    unfold strR N3.mk N3.gcdI
    simp only [Int.natAbs_neg, if_pos hneg]
  · rw [if_neg (fun h => hneg ((N3.cmpI_lt d 0).1 h)), redT_S hn hd h0]
    unfold strR N3.mk N3.gcdI
    simp only [if_neg hneg]
theorem red_bad (n d : ByteArray) : redU true n d = none := rfl
theorem red_zero (n : ByteArray) : redU false n (N3.S 0) = none := by
  unfold redU
  rw [if_neg (by decide), if_pos (S_eq48.2 rfl)]
/-- A fraction whose numbers have their places. -/
structure Fit (r : Int × Int) : Prop where
  low : N3.Low r
  num : r.1.natAbs < N3.lim
  den : r.2.natAbs < N3.lim
theorem valid_S {r : Int × Int} (h : Fit r) : validR (N3.S r.1) (N3.S r.2) = true := by
  unfold validR gcd1
  rw [N3.okS_S h.num, N3.okS_S h.den, N3.iV_S, N3.iV_S, decide_eq_true h.low.1]
  have : N3.gcdI r.1 r.2 = 1 := by unfold N3.gcdI; rw [h.low.2]; rfl
  rw [decide_eq_true this]; rfl
theorem chk_S2 {r s : Int × Int} (h : Fit r) (k : Fit s) : chkL false [(N3.S r.1, N3.S r.2), (N3.S s.1, N3.S s.2)] = false := by
  unfold chkL chk
  simp only [List.foldl_cons, List.foldl_nil, valid_S h, valid_S k]; rfl
theorem chk_S1 {r : Int × Int} (h : Fit r) : chkL false [(N3.S r.1, N3.S r.2)] = false := by
  unfold chkL chk
  simp only [List.foldl_cons, List.foldl_nil, valid_S h]; rfl
theorem doB_false0 : doB false 0 = false := rfl
theorem doB_false30 : doB false 30 = true := rfl
theorem doB_true' (e : Int) : doB true e = true := rfl
theorem cmp_S {r s : Int × Int} (h : Fit r) (k : Fit s) : cmpR (N3.S r.1) (N3.S r.2) (N3.S s.1) (N3.S s.2) = N3.cmpF r s := by
  unfold cmpR N3.cmpF
  rw [valid_S h, valid_S k, N3.iV_S, N3.iV_S, N3.iV_S, N3.iV_S]; rfl
/-- The product, if what is multiplied has its places. -/
theorem mulR_S {r s : Int × Int} (h : Fit r) (k : Fit s) : mulR (N3.S r.1) (N3.S r.2) (N3.S s.1) (N3.S s.2) = if (r.1 * s.1).natAbs < N3.lim ∧ (r.2 * s.2).natAbs < N3.lim then some (strR (N3.mulF r s)) else none := by
  unfold mulR
  simp only [chk_S2 h k, N3.mulO_S h.num k.num, N3.mulO_S h.den k.den]
  by_cases h1 : (r.1 * s.1).natAbs < N3.lim
  · rw [N3.outS_some h1, N3.outE_some h1, doB_false0, doS_false]
    by_cases h2 : (r.2 * s.2).natAbs < N3.lim
    · rw [N3.outS_some h2, N3.outE_some h2, doB_false0, doS_false, if_pos ⟨h1, h2⟩, red_S h1 h2 (Int.mul_ne_zero (N3.low_ne h.low) (N3.low_ne k.low))]; rfl
    · rw [N3.outE_big h2, doB_false30, if_neg (fun q => h2 q.2)]; rfl
  · rw [N3.outE_big h1, doB_false30, if_neg (fun q => h1 q.1), doB_true']; rfl
theorem divR_S {r s : Int × Int} (h : Fit r) (k : Fit s) (h0 : s.1 ≠ 0) : divR (N3.S r.1) (N3.S r.2) (N3.S s.1) (N3.S s.2) = if (r.1 * s.2).natAbs < N3.lim ∧ (r.2 * s.1).natAbs < N3.lim then some (strR (N3.divF r s)) else none := by
  unfold divR
  simp only [chk_S2 h k, N3.mulO_S h.num k.den, N3.mulO_S h.den k.num]
  by_cases h1 : (r.1 * s.2).natAbs < N3.lim
  · rw [N3.outS_some h1, N3.outE_some h1, doB_false0, doS_false]
    by_cases h2 : (r.2 * s.1).natAbs < N3.lim
    · rw [N3.outS_some h2, N3.outE_some h2, doB_false0, doS_false, if_pos ⟨h1, h2⟩, red_S h1 h2 (Int.mul_ne_zero (N3.low_ne h.low) h0)]; rfl
    · rw [N3.outE_big h2, doB_false30, if_neg (fun q => h2 q.2)]; rfl
  · rw [N3.outE_big h1, doB_false30, if_neg (fun q => h1 q.1), doB_true']; rfl
theorem divR_S0 {r s : Int × Int} (h : Fit r) (k : Fit s) (h0 : s.1 = 0) : divR (N3.S r.1) (N3.S r.2) (N3.S s.1) (N3.S s.2) = none := by
  unfold divR
  simp only [chk_S2 h k, N3.mulO_S h.num k.den, N3.mulO_S h.den k.num]
  have h2 : (r.2 * s.1).natAbs < N3.lim := by rw [h0, Int.mul_zero]; exact lim0
  by_cases h1 : (r.1 * s.2).natAbs < N3.lim
  · rw [N3.outS_some h1, N3.outE_some h1, doB_false0, doS_false, N3.outS_some h2, N3.outE_some h2, doB_false0, doS_false, h0, Int.mul_zero, red_zero]
  · rw [N3.outE_big h1, doB_false30, doB_true']; rfl
theorem sumR_S {r s : Int × Int} (op : ByteArray → ByteArray → Option Int) (f : Int → Int → Int) (hop : ∀ x y : Int, x.natAbs < N3.lim → y.natAbs < N3.lim → op (N3.S x) (N3.S y) = some (f x y)) (h : Fit r) (k : Fit s) :
    sumR op (N3.S r.1) (N3.S r.2) (N3.S s.1) (N3.S s.2) = if (r.1 * s.2).natAbs < N3.lim ∧ (s.1 * r.2).natAbs < N3.lim ∧ (f (r.1 * s.2) (s.1 * r.2)).natAbs < N3.lim ∧ (r.2 * s.2).natAbs < N3.lim then some (strR (N3.mk (f (r.1 * s.2) (s.1 * r.2)) (r.2 * s.2))) else none := by
  unfold sumR
  simp only [chk_S2 h k, N3.mulO_S h.num k.den, N3.mulO_S k.num h.den, N3.mulO_S h.den k.den]
  by_cases h1 : (r.1 * s.2).natAbs < N3.lim
  · rw [N3.outS_some h1, N3.outE_some h1, doB_false0, doS_false]
    by_cases h2 : (s.1 * r.2).natAbs < N3.lim
    · rw [N3.outS_some h2, N3.outE_some h2, doB_false0, doS_false, hop _ _ h1 h2]
      by_cases h3 : (f (r.1 * s.2) (s.1 * r.2)).natAbs < N3.lim
      · rw [N3.outS_some h3, N3.outE_some h3, doB_false0, doS_false]
        by_cases h4 : (r.2 * s.2).natAbs < N3.lim
        · rw [N3.outS_some h4, N3.outE_some h4, doB_false0, doS_false, if_pos ⟨h1, h2, h3, h4⟩, red_S h3 h4 (Int.mul_ne_zero (N3.low_ne h.low) (N3.low_ne k.low))]
        · rw [N3.outE_big h4, doB_false30, if_neg (fun q => h4 q.2.2.2)]; rfl
      · rw [N3.outE_big h3, doB_false30, if_neg (fun q => h3 q.2.2.1), doB_true']; rfl
    · rw [N3.outE_big h2, doB_false30, if_neg (fun q => h2 q.2.1), doB_true', doB_true']; rfl
  · rw [N3.outE_big h1, doB_false30, if_neg (fun q => h1 q.1), doB_true', doB_true', doB_true']; rfl
theorem addR_S {r s : Int × Int} (h : Fit r) (k : Fit s) : sumR N3.addO (N3.S r.1) (N3.S r.2) (N3.S s.1) (N3.S s.2) = if (r.1 * s.2).natAbs < N3.lim ∧ (s.1 * r.2).natAbs < N3.lim ∧ (r.1 * s.2 + s.1 * r.2).natAbs < N3.lim ∧ (r.2 * s.2).natAbs < N3.lim then some (strR (N3.addF r s)) else none :=
  sumR_S N3.addO (fun x y => x + y) (fun _ _ hx hy => N3.addO_S hx hy) h k
theorem subR_S {r s : Int × Int} (h : Fit r) (k : Fit s) : sumR N3.subO (N3.S r.1) (N3.S r.2) (N3.S s.1) (N3.S s.2) = if (r.1 * s.2).natAbs < N3.lim ∧ (s.1 * r.2).natAbs < N3.lim ∧ (r.1 * s.2 - s.1 * r.2).natAbs < N3.lim ∧ (r.2 * s.2).natAbs < N3.lim then some (strR (N3.subF r s)) else none :=
  sumR_S N3.subO (fun x y => x - y) (fun _ _ hx hy => N3.subO_S hx hy) h k
theorem mk_natAbs {n d : Int} (_h0 : d ≠ 0) : (N3.mk n d).1.natAbs ≤ n.natAbs ∧ (N3.mk n d).2.natAbs ≤ d.natAbs := by
  unfold N3.mk
  simp only
  split
  · exact ⟨Nat.le_trans (N3.div_natAbs_le _ _) (by rw [Int.natAbs_neg]; exact Nat.le_refl _), Nat.le_trans (N3.div_natAbs_le _ _) (by rw [Int.natAbs_neg]; exact Nat.le_refl _)⟩
  · exact ⟨N3.div_natAbs_le _ _, N3.div_natAbs_le _ _⟩
theorem mk_fit {n d : Int} (hn : n.natAbs < N3.lim) (hd : d.natAbs < N3.lim) (h0 : d ≠ 0) : Fit (N3.mk n d) :=
  ⟨N3.mk_low h0, Nat.lt_of_le_of_lt (mk_natAbs h0).1 hn, Nat.lt_of_le_of_lt (mk_natAbs h0).2 hd⟩
theorem int_fit {n : Int} (hn : n.natAbs < N3.lim) : Fit (n, 1) := ⟨N3.low_int n, hn, lim1⟩
end Go.Proofs.YtjnpenljgfdaiaaGreatDoor
