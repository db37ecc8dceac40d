/- package rational in numbers: the operations at fractions whose numbers have their places, four, small numbers. -/
import Derived.Test.YtjnpenljgfdaiaaGreatDoorQ8
import Derived.Test.YtjnpenljgfdaiaaGreatDoorPK
import Derived.Test.YtjnpenljgfdaiaaGreatDoorGA
/- package rational's functions at fractions whose numbers have their places: what they answer, as Calls. -/
namespace Go.Proofs.YtjnpenljgfdaiaaGreatDoor
open Go.RowKit Go.Shelf Lib

theorem errR_some (r : ByteArray × ByteArray) : errR (some r) = 0 := rfl
theorem errR_none : errR none = 40 := rfl
theorem valR_some (r : ByteArray × ByteArray) : valR (some r) = ratV r.1 r.2 := rfl
theorem valR_none : valR none = ratV ⟨#[]⟩ ⟨#[]⟩ := rfl
/-- A fraction, if there is one, as a value. -/
def qV : Option (Int × Int) → Value
  | some r => ratV (N3.S r.1) (N3.S r.2)
  | none => ratV ⟨#[]⟩ ⟨#[]⟩
def qE : Option (Int × Int) → Int
  | some _ => 0
  | none => 40
def addQ (r s : Int × Int) : Option (Int × Int) := if (r.1 * s.2).natAbs < N3.lim ∧ (s.1 * r.2).natAbs < N3.lim ∧ (r.1 * s.2 + s.1 * r.2).natAbs < N3.lim ∧ (r.2 * s.2).natAbs < N3.lim then some (N3.addF r s) else none
def subQ (r s : Int × Int) : Option (Int × Int) := if (r.1 * s.2).natAbs < N3.lim ∧ (s.1 * r.2).natAbs < N3.lim ∧ (r.1 * s.2 - s.1 * r.2).natAbs < N3.lim ∧ (r.2 * s.2).natAbs < N3.lim then some (N3.subF r s) else none
def mulQ (r s : Int × Int) : Option (Int × Int) := if (r.1 * s.1).natAbs < N3.lim ∧ (r.2 * s.2).natAbs < N3.lim then some (N3.mulF r s) else none
def divQ (r s : Int × Int) : Option (Int × Int) := if s.1 ≠ 0 ∧ (r.1 * s.2).natAbs < N3.lim ∧ (r.2 * s.1).natAbs < N3.lim then some (N3.divF r s) else none
theorem qV_if (c : Prop) [Decidable c] (r : Int × Int) : valR (if c then some (strR r) else none) = qV (if c then some r else none) := by split <;> rfl
theorem qE_if (c : Prop) [Decidable c] (r : Int × Int) : errR (if c then some (strR r) else none) = qE (if c then some r else none) := by split <;> rfl
section
variable {r s : Int × Int} (h : Fit r) (k : Fit s) (V : World) (hV : EnvR V)
include h k hV
theorem cmp_q : Calls Tryz.prog 23 #[ratV (N3.S r.1) (N3.S r.2), ratV (N3.S s.1) (N3.S s.2)] V fun e w' => e = .returned (.int .i64 (N3.cmpF r s)) ∧ Below V.heap.size V w' := by
  have z1 := S_size h.num; have z2 := S_size h.den; have z3 := S_size k.num; have z4 := S_size k.den
  have q := compare04 (N3.S r.1) (N3.S r.2) (N3.S s.1) (N3.S s.2) V (by omega) (by omega) (by omega) (by omega) hV.env
  rw [cmp_S h k] at q; exact q
theorem add_q : Calls Tryz.prog 26 #[ratV (N3.S r.1) (N3.S r.2), ratV (N3.S s.1) (N3.S s.2)] V fun e w' => e = .returned (.tuple #[qV (addQ r s), .int .i64 (qE (addQ r s))]) ∧ Below V.heap.size V w' := by
  have z1 := S_size h.num; have z2 := S_size h.den; have z3 := S_size k.num; have z4 := S_size k.den
  have q := add04 (N3.S r.1) (N3.S r.2) (N3.S s.1) (N3.S s.2) V (by omega) (by omega) (by omega) (by omega) hV.env
  rw [addR_S h k, qV_if, qE_if] at q; exact q
theorem sub_q : Calls Tryz.prog 24 #[ratV (N3.S r.1) (N3.S r.2), ratV (N3.S s.1) (N3.S s.2)] V fun e w' => e = .returned (.tuple #[qV (subQ r s), .int .i64 (qE (subQ r s))]) ∧ Below V.heap.size V w' := by
  have z1 := S_size h.num; have z2 := S_size h.den; have z3 := S_size k.num; have z4 := S_size k.den
  have q := sub04 (N3.S r.1) (N3.S r.2) (N3.S s.1) (N3.S s.2) V (by omega) (by omega) (by omega) (by omega) hV.env
  rw [subR_S h k, qV_if, qE_if] at q; exact q
theorem mul_q : Calls Tryz.prog 27 #[ratV (N3.S r.1) (N3.S r.2), ratV (N3.S s.1) (N3.S s.2)] V fun e w' => e = .returned (.tuple #[qV (mulQ r s), .int .i64 (qE (mulQ r s))]) ∧ Below V.heap.size V w' := by
  have z1 := S_size h.num; have z2 := S_size h.den; have z3 := S_size k.num; have z4 := S_size k.den
  have q := mul04 (N3.S r.1) (N3.S r.2) (N3.S s.1) (N3.S s.2) V (by omega) (by omega) (by omega) (by omega) hV.env
  rw [mulR_S h k, qV_if, qE_if] at q; exact q
theorem div_q : Calls Tryz.prog 63 #[ratV (N3.S r.1) (N3.S r.2), ratV (N3.S s.1) (N3.S s.2)] V fun e w' => e = .returned (.tuple #[qV (divQ r s), .int .i64 (qE (divQ r s))]) ∧ Below V.heap.size V w' := by
  have z1 := S_size h.num; have z2 := S_size h.den; have z3 := S_size k.num; have z4 := S_size k.den
  have q := div04 (N3.S r.1) (N3.S r.2) (N3.S s.1) (N3.S s.2) V (by omega) (by omega) (by omega) (by omega) hV.env
  by_cases h0 : s.1 = 0
  · rw [divR_S0 h k h0] at q
    rw [show divQ r s = none from if_neg (fun hh => hh.1 h0)]; exact q
  · rw [divR_S h k h0, qV_if, qE_if] at q
    rw [show divQ r s = (if (r.1 * s.2).natAbs < N3.lim ∧ (r.2 * s.1).natAbs < N3.lim then some (N3.divF r s) else none) from by simp only [divQ, h0, ne_eq, not_false_eq_true, true_and]]; exact q
end
section
variable {r s : Int × Int} (h : Fit r) (k : Fit s)
include h k
theorem addQ_fit {t : Int × Int} (e : addQ r s = some t) : t = N3.addF r s ∧ Fit t := by
  unfold addQ at e
  split at e
  · rename_i hc
    obtain rfl := (Option.some.inj e).symm
    exact ⟨rfl, mk_fit hc.2.2.1 hc.2.2.2 (Int.mul_ne_zero (N3.low_ne h.low) (N3.low_ne k.low))⟩
  · cases e
theorem subQ_fit {t : Int × Int} (e : subQ r s = some t) : t = N3.subF r s ∧ Fit t := by
  unfold subQ at e
  split at e
  · rename_i hc
    obtain rfl := (Option.some.inj e).symm
    exact ⟨rfl, mk_fit hc.2.2.1 hc.2.2.2 (Int.mul_ne_zero (N3.low_ne h.low) (N3.low_ne k.low))⟩
  · cases e
theorem mulQ_fit {t : Int × Int} (e : mulQ r s = some t) : t = N3.mulF r s ∧ Fit t := by
  unfold mulQ at e
  split at e
  · rename_i hc
    obtain rfl := (Option.some.inj e).symm
    exact ⟨rfl, mk_fit hc.1 hc.2 (Int.mul_ne_zero (N3.low_ne h.low) (N3.low_ne k.low))⟩
  · cases e
omit k in
theorem divQ_fit {t : Int × Int} (e : divQ r s = some t) : s.1 ≠ 0 ∧ t = N3.divF r s ∧ Fit t := by
  unfold divQ at e
  split at e
  · rename_i hc
    obtain rfl := (Option.some.inj e).symm
    exact ⟨hc.1, rfl, mk_fit hc.2.1 hc.2.2 (Int.mul_ne_zero (N3.low_ne h.low) hc.1)⟩
  · cases e
end
theorem addQ_ok {r s : Int × Int} {a b : Nat} (h1 : r.1.natAbs < 10 ^ a) (h2 : r.2.natAbs < 10 ^ a) (h3 : s.1.natAbs < 10 ^ b) (h4 : s.2.natAbs < 10 ^ b) (hab : a + b + 1 ≤ 200) : addQ r s = some (N3.addF r s) := by
  have q1 := N3.natAbs_lt (k := a + b) h1 h4 (Nat.le_refl _)
  have q2 := N3.natAbs_lt (k := a + b) h3 h2 (by omega)
  have q3 := N3.natAbs_lt (k := a + b) h2 h4 (Nat.le_refl _)
  have q4 : (r.1 * s.2 + s.1 * r.2).natAbs < 10 ^ (a + b + 1) := by rw [Nat.pow_succ]; omega
  exact if_pos ⟨N3.lim_of q1 (by omega), N3.lim_of q2 (by omega), N3.lim_of q4 hab, N3.lim_of q3 (by omega)⟩
theorem subQ_ok {r s : Int × Int} {a b : Nat} (h1 : r.1.natAbs < 10 ^ a) (h2 : r.2.natAbs < 10 ^ a) (h3 : s.1.natAbs < 10 ^ b) (h4 : s.2.natAbs < 10 ^ b) (hab : a + b + 1 ≤ 200) : subQ r s = some (N3.subF r s) := by
  have q1 := N3.natAbs_lt (k := a + b) h1 h4 (Nat.le_refl _)
  have q2 := N3.natAbs_lt (k := a + b) h3 h2 (by omega)
  have q3 := N3.natAbs_lt (k := a + b) h2 h4 (Nat.le_refl _)
  have q4 : (r.1 * s.2 - s.1 * r.2).natAbs < 10 ^ (a + b + 1) := by rw [Nat.pow_succ]; omega
  exact if_pos ⟨N3.lim_of q1 (by omega), N3.lim_of q2 (by omega), N3.lim_of q4 hab, N3.lim_of q3 (by omega)⟩
theorem mulQ_ok {r s : Int × Int} {a b : Nat} (h1 : r.1.natAbs < 10 ^ a) (h2 : r.2.natAbs < 10 ^ a) (h3 : s.1.natAbs < 10 ^ b) (h4 : s.2.natAbs < 10 ^ b) (hab : a + b ≤ 200) : mulQ r s = some (N3.mulF r s) :=
  if_pos ⟨N3.lim_of (N3.natAbs_lt (k := a + b) h1 h3 (Nat.le_refl _)) hab, N3.lim_of (N3.natAbs_lt (k := a + b) h2 h4 (Nat.le_refl _)) hab⟩
theorem divQ_ok {r s : Int × Int} {a b : Nat} (h1 : r.1.natAbs < 10 ^ a) (h2 : r.2.natAbs < 10 ^ a) (h3 : s.1.natAbs < 10 ^ b) (h4 : s.2.natAbs < 10 ^ b) (hab : a + b ≤ 200) (h0 : s.1 ≠ 0) : divQ r s = some (N3.divF r s) :=
  if_pos ⟨h0, N3.lim_of (N3.natAbs_lt (k := a + b) h1 h4 (Nat.le_refl _)) hab, N3.lim_of (N3.natAbs_lt (k := a + b) h2 h3 (Nat.le_refl _)) hab⟩
theorem divQ_0 {r s : Int × Int} (h0 : s.1 = 0) : divQ r s = none := if_neg (fun h => h.1 h0)
theorem qE_bad {o : Option (Int × Int)} (h : o = none) : qE o = 40 := by rw [h]; rfl
end Go.Proofs.YtjnpenljgfdaiaaGreatDoor

/- nadirlaw04: four: the results of the four operations. -/
namespace Go.Proofs.YtjnpenljgfdaiaaGreatDoor
open Go.RowKit Go.Shelf Lib

def fstR : Option (ByteArray × ByteArray) → ByteArray
  | some r => r.1
  | none => ⟨#[]⟩
def sndR : Option (ByteArray × ByteArray) → ByteArray
  | some r => r.2
  | none => ⟨#[]⟩
theorem valR_parts (x : Option (ByteArray × ByteArray)) : valR x = ratV (fstR x) (sndR x) := by cases x <;> rfl

theorem six_blocks (w : World) (an ad bn bd : ByteArray) : ∃ W, ((((((w.alloc (.cells #[(.string an), (.string ad)] 26)).alloc (.cells #[(.string bn), (.string bd)] 26)).alloc (.cells #[(.string ⟨#[]⟩), (.string ⟨#[]⟩), (.string ⟨#[]⟩), (.string ⟨#[]⟩), (.string ⟨#[]⟩), (.string ⟨#[]⟩), (.string ⟨#[]⟩), (.string ⟨#[]⟩)] 68)).alloc (.cells #[(.int .i64 0), (.int .i64 0), (.int .i64 0), (.int .i64 0)] 69)).alloc (.cells #[(.string ⟨#[]⟩), (.string ⟨#[]⟩), (.string ⟨#[]⟩), (.string ⟨#[]⟩), (.string ⟨#[]⟩), (.string ⟨#[]⟩), (.string ⟨#[]⟩), (.string ⟨#[]⟩)] 68)).alloc (.cells #[(.int .i64 0), (.int .i64 0), (.int .i64 0), (.int .i64 0)] 69)) = W ∧ BlkT W (w.heap.size) #[(.string an), (.string ad)] 26 ∧ BlkT W (w.heap.size + 1) #[(.string bn), (.string bd)] 26 ∧ BlkT W (w.heap.size + 1 + 1) #[(.string ⟨#[]⟩), (.string ⟨#[]⟩), (.string ⟨#[]⟩), (.string ⟨#[]⟩), (.string ⟨#[]⟩), (.string ⟨#[]⟩), (.string ⟨#[]⟩), (.string ⟨#[]⟩)] 68 ∧ BlkT W (w.heap.size + 1 + 1 + 1) #[(.int .i64 0), (.int .i64 0), (.int .i64 0), (.int .i64 0)] 69 ∧ BlkT W (w.heap.size + 1 + 1 + 1 + 1) #[(.string ⟨#[]⟩), (.string ⟨#[]⟩), (.string ⟨#[]⟩), (.string ⟨#[]⟩), (.string ⟨#[]⟩), (.string ⟨#[]⟩), (.string ⟨#[]⟩), (.string ⟨#[]⟩)] 68 ∧ BlkT W (w.heap.size + 1 + 1 + 1 + 1 + 1) #[(.int .i64 0), (.int .i64 0), (.int .i64 0), (.int .i64 0)] 69 ∧ Below w.heap.size w W :=
  ⟨_, rfl, ((((((BlkT.newAt w _ _ rfl).alloc _).alloc _).alloc _).alloc _).alloc _), (((((BlkT.newAt _ _ _ (by simp)).alloc _).alloc _).alloc _).alloc _), ((((BlkT.newAt _ _ _ (by simp)).alloc _).alloc _).alloc _), (((BlkT.newAt _ _ _ (by simp)).alloc _).alloc _), ((BlkT.newAt _ _ _ (by simp)).alloc _), (BlkT.newAt _ _ _ (by simp)), (((((((Below.refl _ _).alloc (Nat.le_refl _) _).alloc (by simp) _).alloc (by simp; omega) _).alloc (by simp; omega) _).alloc (by simp; omega) _).alloc (by simp; omega) _)⟩
set_option maxRecDepth 100000 in
set_option maxHeartbeats 8000000 in
theorem four64 (an ad bn bd : ByteArray) (w : World) (s1 : an.size ≤ 1000000) (s2 : ad.size ≤ 1000000) (s3 : bn.size ≤ 1000000) (s4 : bd.size ≤ 1000000) (he : EnvW w) :
    Calls Tryz.prog 64 #[ratV an ad, ratV bn bd] w fun r w' => r = .returned (.tuple #[.agg #[.string (fstR (sumR N3.addO an ad bn bd)), .string (sndR (sumR N3.addO an ad bn bd)), .string (fstR (sumR N3.subO an ad bn bd)), .string (sndR (sumR N3.subO an ad bn bd)), .string (fstR (mulR an ad bn bd)), .string (sndR (mulR an ad bn bd)), .string (fstR (divR an ad bn bd)), .string (sndR (divR an ad bn bd))], .agg #[.int .i64 (errR (sumR N3.addO an ad bn bd)), .int .i64 (errR (sumR N3.subO an ad bn bd)), .int .i64 (errR (mulR an ad bn bd)), .int .i64 (errR (divR an ad bn bd))]]) ∧ Below w.heap.size w w' := by
  have HE := Lib.hid he
  clear he
  have F0 := Lib.hid (fun V (hV : EnvW V) => add04 an ad bn bd V s1 s2 s3 s4 hV)
  have F1 := Lib.hid (fun V (hV : EnvW V) => sub04 an ad bn bd V s1 s2 s3 s4 hV)
  have F2 := Lib.hid (fun V (hV : EnvW V) => mul04 an ad bn bd V s1 s2 s3 s4 hV)
  have F3 := Lib.hid (fun V (hV : EnvW V) => div04 an ad bn bd V s1 s2 s3 s4 hV)
  simp only [valR_parts] at F0 F1 F2 F3
  clear s1 s2 s3 s4
  generalize fstR (sumR N3.addO an ad bn bd) = p0 at *
  generalize sndR (sumR N3.addO an ad bn bd) = q0 at *
  generalize errR (sumR N3.addO an ad bn bd) = e0 at *
  generalize fstR (sumR N3.subO an ad bn bd) = p1 at *
  generalize sndR (sumR N3.subO an ad bn bd) = q1 at *
  generalize errR (sumR N3.subO an ad bn bd) = e1 at *
  generalize fstR (mulR an ad bn bd) = p2 at *
  generalize sndR (mulR an ad bn bd) = q2 at *
  generalize errR (mulR an ad bn bd) = e2 at *
  generalize fstR (divR an ad bn bd) = p3 at *
  generalize sndR (divR an ad bn bd) = q3 at *
  generalize errR (divR an ad bn bd) = e3 at *
  obtain ⟨W, hW, a, b, r4, r5, r6, r7, hBW⟩ := six_blocks w an ad bn bd
  go_enter Tryz.func64, Tryz.ntmps64
  have ac0 := a.cell 0
  have ac1 := a.cell 1
  have bc0 := b.cell 0
  have bc1 := b.cell 1
  simp only [List.getElem?_toArray, List.getElem?_cons_succ, List.getElem?_cons_zero] at ac0 ac1 bc0 bc1
  have r6c0 := r6.cell 0
  have r6c1 := r6.cell 1
  have r7c0 := r7.cell 0
  simp only [List.getElem?_toArray, List.getElem?_cons_succ, List.getElem?_cons_zero] at r6c0 r6c1 r7c0
  have r6f0 := r6.frozen 0
  have r6f1 := r6.frozen 1
  have r7f0 := r7.frozen 0
  go_wp2_with (simp only [hW])
  refine (F0.out _ (HE.out.below hBW)).mono ?_
  rintro r V1 ⟨rfl, hb1⟩
  have hB1 := hBW.trans (hb1.mono hBW.size)
  have a := BlkT.keep a hb1
  have b := BlkT.keep b hb1
  have r4 := BlkT.keep r4 hb1
  have r5 := BlkT.keep r5 hb1
  have r6 := BlkT.keep r6 hb1
  have r7 := BlkT.keep r7 hb1
  clear ac0 ac1 bc0 bc1 r6c0 r6c1 r7c0 r6f0 r6f1 r7f0
  have r6c0 := r6.cell 0
  have r6c1 := r6.cell 1
  have r7c0 := r7.cell 0
  simp only [List.getElem?_toArray, List.getElem?_cons_succ, List.getElem?_cons_zero] at r6c0 r6c1 r7c0
  have r6f0 := r6.frozen 0
  have r6f1 := r6.frozen 1
  have r7f0 := r7.frozen 0
  go_upto_region 4 with (fail)
  clear r6c0 r6c1 r7c0 r6f0 r6f1 r7f0
  have a : BlkT (((V1.setCell ⟨w.heap.size + 1 + 1 + 1 + 1, 0, none⟩ (.string p0)).setCell ⟨w.heap.size + 1 + 1 + 1 + 1, 1, none⟩ (.string q0)).setCell ⟨w.heap.size + 1 + 1 + 1 + 1 + 1, 0, none⟩ (.int .i64 e0)) (w.heap.size) #[(.string an), (.string ad)] 26 := (((a.other (a := ⟨w.heap.size + 1 + 1 + 1 + 1, 0, none⟩) (.string p0) (by dsimp only; omega)).other (a := ⟨w.heap.size + 1 + 1 + 1 + 1, 1, none⟩) (.string q0) (by dsimp only; omega)).other (a := ⟨w.heap.size + 1 + 1 + 1 + 1 + 1, 0, none⟩) (.int .i64 e0) (by dsimp only; omega))
  have b : BlkT (((V1.setCell ⟨w.heap.size + 1 + 1 + 1 + 1, 0, none⟩ (.string p0)).setCell ⟨w.heap.size + 1 + 1 + 1 + 1, 1, none⟩ (.string q0)).setCell ⟨w.heap.size + 1 + 1 + 1 + 1 + 1, 0, none⟩ (.int .i64 e0)) (w.heap.size + 1) #[(.string bn), (.string bd)] 26 := (((b.other (a := ⟨w.heap.size + 1 + 1 + 1 + 1, 0, none⟩) (.string p0) (by dsimp only; omega)).other (a := ⟨w.heap.size + 1 + 1 + 1 + 1, 1, none⟩) (.string q0) (by dsimp only; omega)).other (a := ⟨w.heap.size + 1 + 1 + 1 + 1 + 1, 0, none⟩) (.int .i64 e0) (by dsimp only; omega))
  have r4 : BlkT (((V1.setCell ⟨w.heap.size + 1 + 1 + 1 + 1, 0, none⟩ (.string p0)).setCell ⟨w.heap.size + 1 + 1 + 1 + 1, 1, none⟩ (.string q0)).setCell ⟨w.heap.size + 1 + 1 + 1 + 1 + 1, 0, none⟩ (.int .i64 e0)) (w.heap.size + 1 + 1) #[(.string ⟨#[]⟩), (.string ⟨#[]⟩), (.string ⟨#[]⟩), (.string ⟨#[]⟩), (.string ⟨#[]⟩), (.string ⟨#[]⟩), (.string ⟨#[]⟩), (.string ⟨#[]⟩)] 68 := (((r4.other (a := ⟨w.heap.size + 1 + 1 + 1 + 1, 0, none⟩) (.string p0) (by dsimp only; omega)).other (a := ⟨w.heap.size + 1 + 1 + 1 + 1, 1, none⟩) (.string q0) (by dsimp only; omega)).other (a := ⟨w.heap.size + 1 + 1 + 1 + 1 + 1, 0, none⟩) (.int .i64 e0) (by dsimp only; omega))
  have r5 : BlkT (((V1.setCell ⟨w.heap.size + 1 + 1 + 1 + 1, 0, none⟩ (.string p0)).setCell ⟨w.heap.size + 1 + 1 + 1 + 1, 1, none⟩ (.string q0)).setCell ⟨w.heap.size + 1 + 1 + 1 + 1 + 1, 0, none⟩ (.int .i64 e0)) (w.heap.size + 1 + 1 + 1) #[(.int .i64 0), (.int .i64 0), (.int .i64 0), (.int .i64 0)] 69 := (((r5.other (a := ⟨w.heap.size + 1 + 1 + 1 + 1, 0, none⟩) (.string p0) (by dsimp only; omega)).other (a := ⟨w.heap.size + 1 + 1 + 1 + 1, 1, none⟩) (.string q0) (by dsimp only; omega)).other (a := ⟨w.heap.size + 1 + 1 + 1 + 1 + 1, 0, none⟩) (.int .i64 e0) (by dsimp only; omega))
  have r6 : BlkT (((V1.setCell ⟨w.heap.size + 1 + 1 + 1 + 1, 0, none⟩ (.string p0)).setCell ⟨w.heap.size + 1 + 1 + 1 + 1, 1, none⟩ (.string q0)).setCell ⟨w.heap.size + 1 + 1 + 1 + 1 + 1, 0, none⟩ (.int .i64 e0)) (w.heap.size + 1 + 1 + 1 + 1) #[(.string p0), (.string q0), (.string ⟨#[]⟩), (.string ⟨#[]⟩), (.string ⟨#[]⟩), (.string ⟨#[]⟩), (.string ⟨#[]⟩), (.string ⟨#[]⟩)] 68 := (((r6.set 0 (.string p0)).set 1 (.string q0)).other (a := ⟨w.heap.size + 1 + 1 + 1 + 1 + 1, 0, none⟩) (.int .i64 e0) (by dsimp only; omega))
  have r7 : BlkT (((V1.setCell ⟨w.heap.size + 1 + 1 + 1 + 1, 0, none⟩ (.string p0)).setCell ⟨w.heap.size + 1 + 1 + 1 + 1, 1, none⟩ (.string q0)).setCell ⟨w.heap.size + 1 + 1 + 1 + 1 + 1, 0, none⟩ (.int .i64 e0)) (w.heap.size + 1 + 1 + 1 + 1 + 1) #[(.int .i64 e0), (.int .i64 0), (.int .i64 0), (.int .i64 0)] 69 := (((r7.other (a := ⟨w.heap.size + 1 + 1 + 1 + 1, 0, none⟩) (.string p0) (by dsimp only; omega)).other (a := ⟨w.heap.size + 1 + 1 + 1 + 1, 1, none⟩) (.string q0) (by dsimp only; omega)).set 0 (.int .i64 e0))
  have hBu1 : Below w.heap.size w (((V1.setCell ⟨w.heap.size + 1 + 1 + 1 + 1, 0, none⟩ (.string p0)).setCell ⟨w.heap.size + 1 + 1 + 1 + 1, 1, none⟩ (.string q0)).setCell ⟨w.heap.size + 1 + 1 + 1 + 1 + 1, 0, none⟩ (.int .i64 e0)) := (((hB1.setCell (by dsimp only; omega) _).setCell (by dsimp only; omega) _).setCell (by dsimp only; omega) _)
  generalize (((V1.setCell ⟨w.heap.size + 1 + 1 + 1 + 1, 0, none⟩ (.string p0)).setCell ⟨w.heap.size + 1 + 1 + 1 + 1, 1, none⟩ (.string q0)).setCell ⟨w.heap.size + 1 + 1 + 1 + 1 + 1, 0, none⟩ (.int .i64 e0)) = U1 at *
  have ac0 := a.cell 0
  have ac1 := a.cell 1
  have bc0 := b.cell 0
  have bc1 := b.cell 1
  simp only [List.getElem?_toArray, List.getElem?_cons_succ, List.getElem?_cons_zero] at ac0 ac1 bc0 bc1
  have r6c2 := r6.cell 2
  have r6c3 := r6.cell 3
  have r7c1 := r7.cell 1
  simp only [List.getElem?_toArray, List.getElem?_cons_succ, List.getElem?_cons_zero] at r6c2 r6c3 r7c1
  have r6f2 := r6.frozen 2
  have r6f3 := r6.frozen 3
  have r7f1 := r7.frozen 1
  go_wp2_with fail
  refine (F1.out _ (HE.out.below hBu1)).mono ?_
  rintro r V2 ⟨rfl, hb2⟩
  have hB2 := hBu1.trans (hb2.mono hBu1.size)
  have a := BlkT.keep a hb2
  have b := BlkT.keep b hb2
  have r4 := BlkT.keep r4 hb2
  have r5 := BlkT.keep r5 hb2
  have r6 := BlkT.keep r6 hb2
  have r7 := BlkT.keep r7 hb2
  clear ac0 ac1 bc0 bc1 r6c2 r6c3 r7c1 r6f2 r6f3 r7f1
  have r6c2 := r6.cell 2
  have r6c3 := r6.cell 3
  have r7c1 := r7.cell 1
  simp only [List.getElem?_toArray, List.getElem?_cons_succ, List.getElem?_cons_zero] at r6c2 r6c3 r7c1
  have r6f2 := r6.frozen 2
  have r6f3 := r6.frozen 3
  have r7f1 := r7.frozen 1
  go_upto_region 5 with (fail)
  clear r6c2 r6c3 r7c1 r6f2 r6f3 r7f1
  have a : BlkT (((V2.setCell ⟨w.heap.size + 1 + 1 + 1 + 1, 2, none⟩ (.string p1)).setCell ⟨w.heap.size + 1 + 1 + 1 + 1, 3, none⟩ (.string q1)).setCell ⟨w.heap.size + 1 + 1 + 1 + 1 + 1, 1, none⟩ (.int .i64 e1)) (w.heap.size) #[(.string an), (.string ad)] 26 := (((a.other (a := ⟨w.heap.size + 1 + 1 + 1 + 1, 2, none⟩) (.string p1) (by dsimp only; omega)).other (a := ⟨w.heap.size + 1 + 1 + 1 + 1, 3, none⟩) (.string q1) (by dsimp only; omega)).other (a := ⟨w.heap.size + 1 + 1 + 1 + 1 + 1, 1, none⟩) (.int .i64 e1) (by dsimp only; omega))
  have b : BlkT (((V2.setCell ⟨w.heap.size + 1 + 1 + 1 + 1, 2, none⟩ (.string p1)).setCell ⟨w.heap.size + 1 + 1 + 1 + 1, 3, none⟩ (.string q1)).setCell ⟨w.heap.size + 1 + 1 + 1 + 1 + 1, 1, none⟩ (.int .i64 e1)) (w.heap.size + 1) #[(.string bn), (.string bd)] 26 := (((b.other (a := ⟨w.heap.size + 1 + 1 + 1 + 1, 2, none⟩) (.string p1) (by dsimp only; omega)).other (a := ⟨w.heap.size + 1 + 1 + 1 + 1, 3, none⟩) (.string q1) (by dsimp only; omega)).other (a := ⟨w.heap.size + 1 + 1 + 1 + 1 + 1, 1, none⟩) (.int .i64 e1) (by dsimp only; omega))
  have r4 : BlkT (((V2.setCell ⟨w.heap.size + 1 + 1 + 1 + 1, 2, none⟩ (.string p1)).setCell ⟨w.heap.size + 1 + 1 + 1 + 1, 3, none⟩ (.string q1)).setCell ⟨w.heap.size + 1 + 1 + 1 + 1 + 1, 1, none⟩ (.int .i64 e1)) (w.heap.size + 1 + 1) #[(.string ⟨#[]⟩), (.string ⟨#[]⟩), (.string ⟨#[]⟩), (.string ⟨#[]⟩), (.string ⟨#[]⟩), (.string ⟨#[]⟩), (.string ⟨#[]⟩), (.string ⟨#[]⟩)] 68 := (((r4.other (a := ⟨w.heap.size + 1 + 1 + 1 + 1, 2, none⟩) (.string p1) (by dsimp only; omega)).other (a := ⟨w.heap.size + 1 + 1 + 1 + 1, 3, none⟩) (.string q1) (by dsimp only; omega)).other (a := ⟨w.heap.size + 1 + 1 + 1 + 1 + 1, 1, none⟩) (.int .i64 e1) (by dsimp only; omega))
  have r5 : BlkT (((V2.setCell ⟨w.heap.size + 1 + 1 + 1 + 1, 2, none⟩ (.string p1)).setCell ⟨w.heap.size + 1 + 1 + 1 + 1, 3, none⟩ (.string q1)).setCell ⟨w.heap.size + 1 + 1 + 1 + 1 + 1, 1, none⟩ (.int .i64 e1)) (w.heap.size + 1 + 1 + 1) #[(.int .i64 0), (.int .i64 0), (.int .i64 0), (.int .i64 0)] 69 := (((r5.other (a := ⟨w.heap.size + 1 + 1 + 1 + 1, 2, none⟩) (.string p1) (by dsimp only; omega)).other (a := ⟨w.heap.size + 1 + 1 + 1 + 1, 3, none⟩) (.string q1) (by dsimp only; omega)).other (a := ⟨w.heap.size + 1 + 1 + 1 + 1 + 1, 1, none⟩) (.int .i64 e1) (by dsimp only; omega))
  have r6 : BlkT (((V2.setCell ⟨w.heap.size + 1 + 1 + 1 + 1, 2, none⟩ (.string p1)).setCell ⟨w.heap.size + 1 + 1 + 1 + 1, 3, none⟩ (.string q1)).setCell ⟨w.heap.size + 1 + 1 + 1 + 1 + 1, 1, none⟩ (.int .i64 e1)) (w.heap.size + 1 + 1 + 1 + 1) #[(.string p0), (.string q0), (.string p1), (.string q1), (.string ⟨#[]⟩), (.string ⟨#[]⟩), (.string ⟨#[]⟩), (.string ⟨#[]⟩)] 68 := (((r6.set 2 (.string p1)).set 3 (.string q1)).other (a := ⟨w.heap.size + 1 + 1 + 1 + 1 + 1, 1, none⟩) (.int .i64 e1) (by dsimp only; omega))
  have r7 : BlkT (((V2.setCell ⟨w.heap.size + 1 + 1 + 1 + 1, 2, none⟩ (.string p1)).setCell ⟨w.heap.size + 1 + 1 + 1 + 1, 3, none⟩ (.string q1)).setCell ⟨w.heap.size + 1 + 1 + 1 + 1 + 1, 1, none⟩ (.int .i64 e1)) (w.heap.size + 1 + 1 + 1 + 1 + 1) #[(.int .i64 e0), (.int .i64 e1), (.int .i64 0), (.int .i64 0)] 69 := (((r7.other (a := ⟨w.heap.size + 1 + 1 + 1 + 1, 2, none⟩) (.string p1) (by dsimp only; omega)).other (a := ⟨w.heap.size + 1 + 1 + 1 + 1, 3, none⟩) (.string q1) (by dsimp only; omega)).set 1 (.int .i64 e1))
  have hBu2 : Below w.heap.size w (((V2.setCell ⟨w.heap.size + 1 + 1 + 1 + 1, 2, none⟩ (.string p1)).setCell ⟨w.heap.size + 1 + 1 + 1 + 1, 3, none⟩ (.string q1)).setCell ⟨w.heap.size + 1 + 1 + 1 + 1 + 1, 1, none⟩ (.int .i64 e1)) := (((hB2.setCell (by dsimp only; omega) _).setCell (by dsimp only; omega) _).setCell (by dsimp only; omega) _)
  generalize (((V2.setCell ⟨w.heap.size + 1 + 1 + 1 + 1, 2, none⟩ (.string p1)).setCell ⟨w.heap.size + 1 + 1 + 1 + 1, 3, none⟩ (.string q1)).setCell ⟨w.heap.size + 1 + 1 + 1 + 1 + 1, 1, none⟩ (.int .i64 e1)) = U2 at *
  have ac0 := a.cell 0
  have ac1 := a.cell 1
  have bc0 := b.cell 0
  have bc1 := b.cell 1
  simp only [List.getElem?_toArray, List.getElem?_cons_succ, List.getElem?_cons_zero] at ac0 ac1 bc0 bc1
  have r6c4 := r6.cell 4
  have r6c5 := r6.cell 5
  have r7c2 := r7.cell 2
  simp only [List.getElem?_toArray, List.getElem?_cons_succ, List.getElem?_cons_zero] at r6c4 r6c5 r7c2
  have r6f4 := r6.frozen 4
  have r6f5 := r6.frozen 5
  have r7f2 := r7.frozen 2
  go_wp2_with fail
  refine (F2.out _ (HE.out.below hBu2)).mono ?_
  rintro r V3 ⟨rfl, hb3⟩
  have hB3 := hBu2.trans (hb3.mono hBu2.size)
  have a := BlkT.keep a hb3
  have b := BlkT.keep b hb3
  have r4 := BlkT.keep r4 hb3
  have r5 := BlkT.keep r5 hb3
  have r6 := BlkT.keep r6 hb3
  have r7 := BlkT.keep r7 hb3
  clear ac0 ac1 bc0 bc1 r6c4 r6c5 r7c2 r6f4 r6f5 r7f2
  have r6c4 := r6.cell 4
  have r6c5 := r6.cell 5
  have r7c2 := r7.cell 2
  simp only [List.getElem?_toArray, List.getElem?_cons_succ, List.getElem?_cons_zero] at r6c4 r6c5 r7c2
  have r6f4 := r6.frozen 4
  have r6f5 := r6.frozen 5
  have r7f2 := r7.frozen 2
  go_upto_region 6 with (fail)
  clear r6c4 r6c5 r7c2 r6f4 r6f5 r7f2
  have a : BlkT (((V3.setCell ⟨w.heap.size + 1 + 1 + 1 + 1, 4, none⟩ (.string p2)).setCell ⟨w.heap.size + 1 + 1 + 1 + 1, 5, none⟩ (.string q2)).setCell ⟨w.heap.size + 1 + 1 + 1 + 1 + 1, 2, none⟩ (.int .i64 e2)) (w.heap.size) #[(.string an), (.string ad)] 26 := (((a.other (a := ⟨w.heap.size + 1 + 1 + 1 + 1, 4, none⟩) (.string p2) (by dsimp only; omega)).other (a := ⟨w.heap.size + 1 + 1 + 1 + 1, 5, none⟩) (.string q2) (by dsimp only; omega)).other (a := ⟨w.heap.size + 1 + 1 + 1 + 1 + 1, 2, none⟩) (.int .i64 e2) (by dsimp only; omega))
  have b : BlkT (((V3.setCell ⟨w.heap.size + 1 + 1 + 1 + 1, 4, none⟩ (.string p2)).setCell ⟨w.heap.size + 1 + 1 + 1 + 1, 5, none⟩ (.string q2)).setCell ⟨w.heap.size + 1 + 1 + 1 + 1 + 1, 2, none⟩ (.int .i64 e2)) (w.heap.size + 1) #[(.string bn), (.string bd)] 26 := (((b.other (a := ⟨w.heap.size + 1 + 1 + 1 + 1, 4, none⟩) (.string p2) (by dsimp only; omega)).other (a := ⟨w.heap.size + 1 + 1 + 1 + 1, 5, none⟩) (.string q2) (by dsimp only; omega)).other (a := ⟨w.heap.size + 1 + 1 + 1 + 1 + 1, 2, none⟩) (.int .i64 e2) (by dsimp only; omega))
  have r4 : BlkT (((V3.setCell ⟨w.heap.size + 1 + 1 + 1 + 1, 4, none⟩ (.string p2)).setCell ⟨w.heap.size + 1 + 1 + 1 + 1, 5, none⟩ (.string q2)).setCell ⟨w.heap.size + 1 + 1 + 1 + 1 + 1, 2, none⟩ (.int .i64 e2)) (w.heap.size + 1 + 1) #[(.string ⟨#[]⟩), (.string ⟨#[]⟩), (.string ⟨#[]⟩), (.string ⟨#[]⟩), (.string ⟨#[]⟩), (.string ⟨#[]⟩), (.string ⟨#[]⟩), (.string ⟨#[]⟩)] 68 := (((r4.other (a := ⟨w.heap.size + 1 + 1 + 1 + 1, 4, none⟩) (.string p2) (by dsimp only; omega)).other (a := ⟨w.heap.size + 1 + 1 + 1 + 1, 5, none⟩) (.string q2) (by dsimp only; omega)).other (a := ⟨w.heap.size + 1 + 1 + 1 + 1 + 1, 2, none⟩) (.int .i64 e2) (by dsimp only; omega))
  have r5 : BlkT (((V3.setCell ⟨w.heap.size + 1 + 1 + 1 + 1, 4, none⟩ (.string p2)).setCell ⟨w.heap.size + 1 + 1 + 1 + 1, 5, none⟩ (.string q2)).setCell ⟨w.heap.size + 1 + 1 + 1 + 1 + 1, 2, none⟩ (.int .i64 e2)) (w.heap.size + 1 + 1 + 1) #[(.int .i64 0), (.int .i64 0), (.int .i64 0), (.int .i64 0)] 69 := (((r5.other (a := ⟨w.heap.size + 1 + 1 + 1 + 1, 4, none⟩) (.string p2) (by dsimp only; omega)).other (a := ⟨w.heap.size + 1 + 1 + 1 + 1, 5, none⟩) (.string q2) (by dsimp only; omega)).other (a := ⟨w.heap.size + 1 + 1 + 1 + 1 + 1, 2, none⟩) (.int .i64 e2) (by dsimp only; omega))
  have r6 : BlkT (((V3.setCell ⟨w.heap.size + 1 + 1 + 1 + 1, 4, none⟩ (.string p2)).setCell ⟨w.heap.size + 1 + 1 + 1 + 1, 5, none⟩ (.string q2)).setCell ⟨w.heap.size + 1 + 1 + 1 + 1 + 1, 2, none⟩ (.int .i64 e2)) (w.heap.size + 1 + 1 + 1 + 1) #[(.string p0), (.string q0), (.string p1), (.string q1), (.string p2), (.string q2), (.string ⟨#[]⟩), (.string ⟨#[]⟩)] 68 := (((r6.set 4 (.string p2)).set 5 (.string q2)).other (a := ⟨w.heap.size + 1 + 1 + 1 + 1 + 1, 2, none⟩) (.int .i64 e2) (by dsimp only; omega))
  have r7 : BlkT (((V3.setCell ⟨w.heap.size + 1 + 1 + 1 + 1, 4, none⟩ (.string p2)).setCell ⟨w.heap.size + 1 + 1 + 1 + 1, 5, none⟩ (.string q2)).setCell ⟨w.heap.size + 1 + 1 + 1 + 1 + 1, 2, none⟩ (.int .i64 e2)) (w.heap.size + 1 + 1 + 1 + 1 + 1) #[(.int .i64 e0), (.int .i64 e1), (.int .i64 e2), (.int .i64 0)] 69 := (((r7.other (a := ⟨w.heap.size + 1 + 1 + 1 + 1, 4, none⟩) (.string p2) (by dsimp only; omega)).other (a := ⟨w.heap.size + 1 + 1 + 1 + 1, 5, none⟩) (.string q2) (by dsimp only; omega)).set 2 (.int .i64 e2))
  have hBu3 : Below w.heap.size w (((V3.setCell ⟨w.heap.size + 1 + 1 + 1 + 1, 4, none⟩ (.string p2)).setCell ⟨w.heap.size + 1 + 1 + 1 + 1, 5, none⟩ (.string q2)).setCell ⟨w.heap.size + 1 + 1 + 1 + 1 + 1, 2, none⟩ (.int .i64 e2)) := (((hB3.setCell (by dsimp only; omega) _).setCell (by dsimp only; omega) _).setCell (by dsimp only; omega) _)
  generalize (((V3.setCell ⟨w.heap.size + 1 + 1 + 1 + 1, 4, none⟩ (.string p2)).setCell ⟨w.heap.size + 1 + 1 + 1 + 1, 5, none⟩ (.string q2)).setCell ⟨w.heap.size + 1 + 1 + 1 + 1 + 1, 2, none⟩ (.int .i64 e2)) = U3 at *
  have ac0 := a.cell 0
  have ac1 := a.cell 1
  have bc0 := b.cell 0
  have bc1 := b.cell 1
  simp only [List.getElem?_toArray, List.getElem?_cons_succ, List.getElem?_cons_zero] at ac0 ac1 bc0 bc1
  have r6c6 := r6.cell 6
  have r6c7 := r6.cell 7
  have r7c3 := r7.cell 3
  simp only [List.getElem?_toArray, List.getElem?_cons_succ, List.getElem?_cons_zero] at r6c6 r6c7 r7c3
  have r6f6 := r6.frozen 6
  have r6f7 := r6.frozen 7
  have r7f3 := r7.frozen 3
  go_wp2_with fail
  refine (F3.out _ (HE.out.below hBu3)).mono ?_
  rintro r V4 ⟨rfl, hb4⟩
  have hB4 := hBu3.trans (hb4.mono hBu3.size)
  have a := BlkT.keep a hb4
  have b := BlkT.keep b hb4
  have r4 := BlkT.keep r4 hb4
  have r5 := BlkT.keep r5 hb4
  have r6 := BlkT.keep r6 hb4
  have r7 := BlkT.keep r7 hb4
  clear ac0 ac1 bc0 bc1 r6c6 r6c7 r7c3 r6f6 r6f7 r7f3
  have r6c6 := r6.cell 6
  have r6c7 := r6.cell 7
  have r7c3 := r7.cell 3
  simp only [List.getElem?_toArray, List.getElem?_cons_succ, List.getElem?_cons_zero] at r6c6 r6c7 r7c3
  have r6f6 := r6.frozen 6
  have r6f7 := r6.frozen 7
  have r7f3 := r7.frozen 3
  have K4 := Lib.hid (show BlkT V4 _ _ _ from r4)
  have K5 := Lib.hid (show BlkT V4 _ _ _ from r5)
  have hBd : Below w.heap.size w V4 := hB4
  have hBd := Lib.hid hBd
  have r6c0 := r6.cell 0
  have r6c1 := r6.cell 1
  have r6c2 := r6.cell 2
  have r6c3 := r6.cell 3
  have r6c4 := r6.cell 4
  have r6c5 := r6.cell 5
  have r7c0 := r7.cell 0
  have r7c1 := r7.cell 1
  have r7c2 := r7.cell 2
  simp only [List.getElem?_toArray, List.getElem?_cons_succ, List.getElem?_cons_zero] at r6c0 r6c1 r6c2 r6c3 r6c4 r6c5 r7c0 r7c1 r7c2
  have r4c0 := r4.cell 0
  have r4c1 := r4.cell 1
  have r4c2 := r4.cell 2
  have r4c3 := r4.cell 3
  have r4c4 := r4.cell 4
  have r4c5 := r4.cell 5
  have r4c6 := r4.cell 6
  have r4c7 := r4.cell 7
  have r5c0 := r5.cell 0
  have r5c1 := r5.cell 1
  have r5c2 := r5.cell 2
  have r5c3 := r5.cell 3
  simp only [List.getElem?_toArray, List.getElem?_cons_succ, List.getElem?_cons_zero] at r4c0 r4c1 r4c2 r4c3 r4c4 r4c5 r4c6 r4c7 r5c0 r5c1 r5c2 r5c3
  have r4f0 := r4.frozen 0
  have r4f1 := r4.frozen 1
  have r4f2 := r4.frozen 2
  have r4f3 := r4.frozen 3
  have r4f4 := r4.frozen 4
  have r4f5 := r4.frozen 5
  have r4f6 := r4.frozen 6
  have r4f7 := r4.frozen 7
  have r5f0 := r5.frozen 0
  have r5f1 := r5.frozen 1
  have r5f2 := r5.frozen 2
  have r5f3 := r5.frozen 3
  clear r4 r5 r6 r7 a b
  go_wp2_with fail
  go_region
  (try go_wp2_with fail)
  have hB5 : Below w.heap.size w (((((((((((((((V4.setCell ⟨w.heap.size + 1 + 1 + 1 + 1, 6, none⟩ (.string p3)).setCell ⟨w.heap.size + 1 + 1 + 1 + 1, 7, none⟩ (.string q3)).setCell ⟨w.heap.size + 1 + 1 + 1 + 1 + 1, 3, none⟩ (.int .i64 e3)).setCell ⟨w.heap.size + 1 + 1, 0, none⟩ (.string p0)).setCell ⟨w.heap.size + 1 + 1, 1, none⟩ (.string q0)).setCell ⟨w.heap.size + 1 + 1, 2, none⟩ (.string p1)).setCell ⟨w.heap.size + 1 + 1, 3, none⟩ (.string q1)).setCell ⟨w.heap.size + 1 + 1, 4, none⟩ (.string p2)).setCell ⟨w.heap.size + 1 + 1, 5, none⟩ (.string q2)).setCell ⟨w.heap.size + 1 + 1, 6, none⟩ (.string p3)).setCell ⟨w.heap.size + 1 + 1, 7, none⟩ (.string q3)).setCell ⟨w.heap.size + 1 + 1 + 1, 0, none⟩ (.int .i64 e0)).setCell ⟨w.heap.size + 1 + 1 + 1, 1, none⟩ (.int .i64 e1)).setCell ⟨w.heap.size + 1 + 1 + 1, 2, none⟩ (.int .i64 e2)).setCell ⟨w.heap.size + 1 + 1 + 1, 3, none⟩ (.int .i64 e3)) := (((((((((((((((hBd.out.setCell (by dsimp only; omega) _).setCell (by dsimp only; omega) _).setCell (by dsimp only; omega) _).setCell (by dsimp only; omega) _).setCell (by dsimp only; omega) _).setCell (by dsimp only; omega) _).setCell (by dsimp only; omega) _).setCell (by dsimp only; omega) _).setCell (by dsimp only; omega) _).setCell (by dsimp only; omega) _).setCell (by dsimp only; omega) _).setCell (by dsimp only; omega) _).setCell (by dsimp only; omega) _).setCell (by dsimp only; omega) _).setCell (by dsimp only; omega) _)
  have hz4 : BlkT (((((((((((((((V4.setCell ⟨w.heap.size + 1 + 1 + 1 + 1, 6, none⟩ (.string p3)).setCell ⟨w.heap.size + 1 + 1 + 1 + 1, 7, none⟩ (.string q3)).setCell ⟨w.heap.size + 1 + 1 + 1 + 1 + 1, 3, none⟩ (.int .i64 e3)).setCell ⟨w.heap.size + 1 + 1, 0, none⟩ (.string p0)).setCell ⟨w.heap.size + 1 + 1, 1, none⟩ (.string q0)).setCell ⟨w.heap.size + 1 + 1, 2, none⟩ (.string p1)).setCell ⟨w.heap.size + 1 + 1, 3, none⟩ (.string q1)).setCell ⟨w.heap.size + 1 + 1, 4, none⟩ (.string p2)).setCell ⟨w.heap.size + 1 + 1, 5, none⟩ (.string q2)).setCell ⟨w.heap.size + 1 + 1, 6, none⟩ (.string p3)).setCell ⟨w.heap.size + 1 + 1, 7, none⟩ (.string q3)).setCell ⟨w.heap.size + 1 + 1 + 1, 0, none⟩ (.int .i64 e0)).setCell ⟨w.heap.size + 1 + 1 + 1, 1, none⟩ (.int .i64 e1)).setCell ⟨w.heap.size + 1 + 1 + 1, 2, none⟩ (.int .i64 e2)).setCell ⟨w.heap.size + 1 + 1 + 1, 3, none⟩ (.int .i64 e3)) (w.heap.size + 1 + 1) #[(.string p0), (.string q0), (.string p1), (.string q1), (.string p2), (.string q2), (.string p3), (.string q3)] 68 := (((((((((((((((K4.out.other (a := ⟨w.heap.size + 1 + 1 + 1 + 1, 6, none⟩) (.string p3) (by dsimp only; omega)).other (a := ⟨w.heap.size + 1 + 1 + 1 + 1, 7, none⟩) (.string q3) (by dsimp only; omega)).other (a := ⟨w.heap.size + 1 + 1 + 1 + 1 + 1, 3, none⟩) (.int .i64 e3) (by dsimp only; omega)).set 0 (.string p0)).set 1 (.string q0)).set 2 (.string p1)).set 3 (.string q1)).set 4 (.string p2)).set 5 (.string q2)).set 6 (.string p3)).set 7 (.string q3)).other (a := ⟨w.heap.size + 1 + 1 + 1, 0, none⟩) (.int .i64 e0) (by dsimp only; omega)).other (a := ⟨w.heap.size + 1 + 1 + 1, 1, none⟩) (.int .i64 e1) (by dsimp only; omega)).other (a := ⟨w.heap.size + 1 + 1 + 1, 2, none⟩) (.int .i64 e2) (by dsimp only; omega)).other (a := ⟨w.heap.size + 1 + 1 + 1, 3, none⟩) (.int .i64 e3) (by dsimp only; omega))
  have hz5 : BlkT (((((((((((((((V4.setCell ⟨w.heap.size + 1 + 1 + 1 + 1, 6, none⟩ (.string p3)).setCell ⟨w.heap.size + 1 + 1 + 1 + 1, 7, none⟩ (.string q3)).setCell ⟨w.heap.size + 1 + 1 + 1 + 1 + 1, 3, none⟩ (.int .i64 e3)).setCell ⟨w.heap.size + 1 + 1, 0, none⟩ (.string p0)).setCell ⟨w.heap.size + 1 + 1, 1, none⟩ (.string q0)).setCell ⟨w.heap.size + 1 + 1, 2, none⟩ (.string p1)).setCell ⟨w.heap.size + 1 + 1, 3, none⟩ (.string q1)).setCell ⟨w.heap.size + 1 + 1, 4, none⟩ (.string p2)).setCell ⟨w.heap.size + 1 + 1, 5, none⟩ (.string q2)).setCell ⟨w.heap.size + 1 + 1, 6, none⟩ (.string p3)).setCell ⟨w.heap.size + 1 + 1, 7, none⟩ (.string q3)).setCell ⟨w.heap.size + 1 + 1 + 1, 0, none⟩ (.int .i64 e0)).setCell ⟨w.heap.size + 1 + 1 + 1, 1, none⟩ (.int .i64 e1)).setCell ⟨w.heap.size + 1 + 1 + 1, 2, none⟩ (.int .i64 e2)).setCell ⟨w.heap.size + 1 + 1 + 1, 3, none⟩ (.int .i64 e3)) (w.heap.size + 1 + 1 + 1) #[(.int .i64 e0), (.int .i64 e1), (.int .i64 e2), (.int .i64 e3)] 69 := (((((((((((((((K5.out.other (a := ⟨w.heap.size + 1 + 1 + 1 + 1, 6, none⟩) (.string p3) (by dsimp only; omega)).other (a := ⟨w.heap.size + 1 + 1 + 1 + 1, 7, none⟩) (.string q3) (by dsimp only; omega)).other (a := ⟨w.heap.size + 1 + 1 + 1 + 1 + 1, 3, none⟩) (.int .i64 e3) (by dsimp only; omega)).other (a := ⟨w.heap.size + 1 + 1, 0, none⟩) (.string p0) (by dsimp only; omega)).other (a := ⟨w.heap.size + 1 + 1, 1, none⟩) (.string q0) (by dsimp only; omega)).other (a := ⟨w.heap.size + 1 + 1, 2, none⟩) (.string p1) (by dsimp only; omega)).other (a := ⟨w.heap.size + 1 + 1, 3, none⟩) (.string q1) (by dsimp only; omega)).other (a := ⟨w.heap.size + 1 + 1, 4, none⟩) (.string p2) (by dsimp only; omega)).other (a := ⟨w.heap.size + 1 + 1, 5, none⟩) (.string q2) (by dsimp only; omega)).other (a := ⟨w.heap.size + 1 + 1, 6, none⟩) (.string p3) (by dsimp only; omega)).other (a := ⟨w.heap.size + 1 + 1, 7, none⟩) (.string q3) (by dsimp only; omega)).set 0 (.int .i64 e0)).set 1 (.int .i64 e1)).set 2 (.int .i64 e2)).set 3 (.int .i64 e3))
  generalize (((((((((((((((V4.setCell ⟨w.heap.size + 1 + 1 + 1 + 1, 6, none⟩ (.string p3)).setCell ⟨w.heap.size + 1 + 1 + 1 + 1, 7, none⟩ (.string q3)).setCell ⟨w.heap.size + 1 + 1 + 1 + 1 + 1, 3, none⟩ (.int .i64 e3)).setCell ⟨w.heap.size + 1 + 1, 0, none⟩ (.string p0)).setCell ⟨w.heap.size + 1 + 1, 1, none⟩ (.string q0)).setCell ⟨w.heap.size + 1 + 1, 2, none⟩ (.string p1)).setCell ⟨w.heap.size + 1 + 1, 3, none⟩ (.string q1)).setCell ⟨w.heap.size + 1 + 1, 4, none⟩ (.string p2)).setCell ⟨w.heap.size + 1 + 1, 5, none⟩ (.string q2)).setCell ⟨w.heap.size + 1 + 1, 6, none⟩ (.string p3)).setCell ⟨w.heap.size + 1 + 1, 7, none⟩ (.string q3)).setCell ⟨w.heap.size + 1 + 1 + 1, 0, none⟩ (.int .i64 e0)).setCell ⟨w.heap.size + 1 + 1 + 1, 1, none⟩ (.int .i64 e1)).setCell ⟨w.heap.size + 1 + 1 + 1, 2, none⟩ (.int .i64 e2)).setCell ⟨w.heap.size + 1 + 1 + 1, 3, none⟩ (.int .i64 e3)) = Z at *
  have y0 := hz4.cell 0
  have y1 := hz4.cell 1
  have y2 := hz4.cell 2
  have y3 := hz4.cell 3
  have y4 := hz4.cell 4
  have y5 := hz4.cell 5
  have y6 := hz4.cell 6
  have y7 := hz4.cell 7
  have z0 := hz5.cell 0
  have z1 := hz5.cell 1
  have z2 := hz5.cell 2
  have z3 := hz5.cell 3
  simp only [List.getElem?_toArray, List.getElem?_cons_succ, List.getElem?_cons_zero] at y0 y1 y2 y3 y4 y5 y6 y7 z0 z1 z2 z3
  refine bodyPost_ret (v := .tuple #[.agg #[(.string p0), (.string q0), (.string p1), (.string q1), (.string p2), (.string q2), (.string p3), (.string q3)], .agg #[(.int .i64 e0), (.int .i64 e1), (.int .i64 e2), (.int .i64 e3)]]) (by simp [results, Tryz.results64, go_sem, y0, y1, y2, y3, y4, y5, y6, y7, z0, z1, z2, z3]) rfl ?_
  exact ⟨rfl, hB5.drew⟩
end Go.Proofs.YtjnpenljgfdaiaaGreatDoor

/- package rational with small numbers: the four operations, in numbers of the machine. -/
namespace Go.Proofs.YtjnpenljgfdaiaaGreatDoor
open Go.RowKit Go.Shelf Lib

def nQ : Option (Int × Int) → ByteArray
  | some r => N3.S r.1
  | none => ⟨#[]⟩
def dQ : Option (Int × Int) → ByteArray
  | some r => N3.S r.2
  | none => ⟨#[]⟩
theorem qV_parts (x : Option (Int × Int)) : qV x = ratV (nQ x) (dQ x) := by cases x <;> rfl
theorem fst_if (c : Prop) [Decidable c] (r : Int × Int) : fstR (if c then some (strR r) else none) = nQ (if c then some r else none) := by split <;> rfl
theorem snd_if (c : Prop) [Decidable c] (r : Int × Int) : sndR (if c then some (strR r) else none) = dQ (if c then some r else none) := by split <;> rfl
theorem four_Q {r s : Int × Int} (h : Fit r) (k : Fit s) (V : World) (hV : EnvR V) :
    Calls Tryz.prog 64 #[ratV (N3.S r.1) (N3.S r.2), ratV (N3.S s.1) (N3.S s.2)] V fun e w' => e = .returned (.tuple #[.agg #[.string (nQ (addQ r s)), .string (dQ (addQ r s)), .string (nQ (subQ r s)), .string (dQ (subQ r s)), .string (nQ (mulQ r s)), .string (dQ (mulQ r s)), .string (nQ (divQ r s)), .string (dQ (divQ r s))], .agg #[.int .i64 (qE (addQ r s)), .int .i64 (qE (subQ r s)), .int .i64 (qE (mulQ r s)), .int .i64 (qE (divQ r s))]]) ∧ Below V.heap.size V w' := by
  have z1 := S_size h.num; have z2 := S_size h.den; have z3 := S_size k.num; have z4 := S_size k.den
  have q := four64 (N3.S r.1) (N3.S r.2) (N3.S s.1) (N3.S s.2) V (by omega) (by omega) (by omega) (by omega) hV.env
  have e1 : fstR (divR (N3.S r.1) (N3.S r.2) (N3.S s.1) (N3.S s.2)) = nQ (divQ r s) ∧ sndR (divR (N3.S r.1) (N3.S r.2) (N3.S s.1) (N3.S s.2)) = dQ (divQ r s) ∧ errR (divR (N3.S r.1) (N3.S r.2) (N3.S s.1) (N3.S s.2)) = qE (divQ r s) := by
    by_cases h0 : s.1 = 0
    · rw [divR_S0 h k h0, divQ_0 h0]; exact ⟨rfl, rfl, rfl⟩
    · rw [divR_S h k h0, fst_if, snd_if, qE_if]
      rw [show divQ r s = (if (r.1 * s.2).natAbs < N3.lim ∧ (r.2 * s.1).natAbs < N3.lim then some (N3.divF r s) else none) from by simp only [divQ, h0, ne_eq, not_false_eq_true, true_and]]
      exact ⟨rfl, rfl, rfl⟩
  rw [addR_S h k, subR_S h k, mulR_S h k, e1.1, e1.2.1, e1.2.2] at q
  simp only [fst_if, snd_if, qE_if] at q
  exact q
theorem valid_q {r : Int × Int} (h : Fit r) (V : World) (hV : EnvR V) : Calls Tryz.prog 60 #[ratV (N3.S r.1) (N3.S r.2)] V fun e w' => e = .returned (.bool true) ∧ Below V.heap.size V w' := by
  have z1 := S_size h.num; have z2 := S_size h.den
  have q := valid04 (N3.S r.1) (N3.S r.2) V (by omega) (by omega) hV.env
  rw [valid_S h] at q; exact q
theorem fit_small {R : Int × Int} {N D : Int} (hv : N3.Val R N D) (h1 : R.1.natAbs ≤ 1800000000) (h2 : R.2.natAbs ≤ 900000000) : Fit R := by
  have hl : (1800000000 : Nat) < N3.lim := by decide
  exact ⟨hv.1, by omega, by omega⟩
theorem toInt10_S {x : Int} (h : x.natAbs < 9223372036854775808) (w : World) : Calls Tryz.prog 52 #[.string (N3.S x)] w fun e w' => e = .returned (.tuple #[.int .i64 x, .int .i64 0]) ∧ Below w.heap.size w w' := by
  have hl : x.natAbs < N3.lim := Nat.lt_trans h (by decide)
  have k := toInt10 (N3.S x) w (by have := S_size hl; omega)
  have hb : (N3.okS (N3.S x) && N3.inM (N3.iV (N3.S x))) = true := by
    rw [N3.okS_S hl, N3.iV_S]
    unfold N3.inM
    rw [decide_eq_true (by omega), decide_eq_true (by omega)]; rfl
  unfold N3.toM N3.toE at k
  rw [if_pos hb, if_pos hb, N3.iV_S] at k
  exact k
theorem of_q {n d : Int} (l0 : -9223372036854775808 ≤ n) (u0 : n ≤ 9223372036854775807) (l1 : -9223372036854775808 ≤ d) (u1 : d ≤ 9223372036854775807) (h0 : d ≠ 0) (V : World) (hV : EnvR V) :
    Calls Tryz.prog 74 #[.int .i64 n, .int .i64 d] V fun r w' => r = .returned (.tuple #[ratV (N3.S (N3.mk n d).1) (N3.S (N3.mk n d).2), .int .i64 0]) ∧ Below V.heap.size V w' := by
  have hbig : (9223372036854775808 : Nat) < N3.lim := by decide
  have k := of_u n d V l0 u0 l1 u1 hV.env
  rw [red_S (by omega) (by omega) h0] at k
  exact k
theorem abs_mul {x y : Int} {a b k : Nat} (hx : x.natAbs ≤ a) (hy : y.natAbs ≤ b) (h : a * b ≤ k) : (x * y).natAbs ≤ k := by
  rw [Int.natAbs_mul]; exact Nat.le_trans (Nat.mul_le_mul hx hy) h
theorem mach {R : Int × Int} {N D : Int} (hv : N3.Val R N D) (h1 : R.1.natAbs ≤ 1800000000) (_h2 : R.2.natAbs ≤ 900000000) (_hN : N.natAbs ≤ 1800000000) (hD : D.natAbs ≤ 900000000) :
    (∃ P, IntKind.i64.wrap (R.1 * D) = P ∧ IntKind.i64.wrap (N * R.2) = P) ∧ decide (R.2 < 1) = false := by
  have a1 := abs_mul h1 hD (k := 1620000000000000000) (by decide)
  refine ⟨⟨R.1 * D, by rw [IntKind.wrap_i64]; omega, ?_⟩, decide_eq_false (by have := hv.1.1; omega)⟩
  rw [← hv.2.2, IntKind.wrap_i64]; omega
theorem abs_add9 {x y : Int} (hx : x.natAbs ≤ 900000000) (hy : y.natAbs ≤ 900000000) : (x + y).natAbs ≤ 1800000000 := by omega
theorem abs_sub9 {x y : Int} (hx : x.natAbs ≤ 900000000) (hy : y.natAbs ≤ 900000000) : (x - y).natAbs ≤ 1800000000 := by omega
theorem mach_bounds {A B : Int × Int} {m : Int} (a1 : A.1.natAbs ≤ 30000) (a2 : A.2.natAbs ≤ 30000) (a3 : B.1.natAbs ≤ 30000) (a4 : B.2.natAbs ≤ 30000) (h1 : A.2 ≠ 0) (h2 : B.2 ≠ 0) (h3 : m ≠ 0 → B.1 ≠ 0) :
    (N3.addF A B).1.natAbs ≤ 1800000000 ∧ (N3.addF A B).2.natAbs ≤ 900000000 ∧ (N3.subF A B).1.natAbs ≤ 1800000000 ∧ (N3.subF A B).2.natAbs ≤ 900000000 ∧ (N3.mulF A B).1.natAbs ≤ 1800000000 ∧ (N3.mulF A B).2.natAbs ≤ 900000000 ∧ (m ≠ 0 → (N3.divF A B).1.natAbs ≤ 1800000000 ∧ (N3.divF A B).2.natAbs ≤ 900000000) := by
  have p1 := abs_mul a1 a4 (k := 900000000) (by decide)
  have p2 := abs_mul a3 a2 (k := 900000000) (by decide)
  have p3 := abs_mul a2 a4 (k := 900000000) (by decide)
  have p4 := abs_mul a1 a3 (k := 900000000) (by decide)
  have p5 := abs_mul a2 a3 (k := 900000000) (by decide)
  have hne : A.2 * B.2 ≠ 0 := Int.mul_ne_zero h1 h2
  have r1 := mk_natAbs (n := A.1 * B.2 + B.1 * A.2) hne
  have r2 := mk_natAbs (n := A.1 * B.2 - B.1 * A.2) hne
  have r3 := mk_natAbs (n := A.1 * B.1) hne
  have s1 : (A.1 * B.2 + B.1 * A.2).natAbs ≤ 1800000000 := abs_add9 p1 p2
  have s2 : (A.1 * B.2 - B.1 * A.2).natAbs ≤ 1800000000 := abs_sub9 p1 p2
  exact ⟨Nat.le_trans r1.1 s1, Nat.le_trans r1.2 p3, Nat.le_trans r2.1 s2, Nat.le_trans r2.2 p3, Nat.le_trans r3.1 (Nat.le_trans p4 (by decide)), Nat.le_trans r3.2 p3, fun h0 => by
    have r4 := mk_natAbs (n := A.1 * B.2) (d := A.2 * B.1) (Int.mul_ne_zero h1 (h3 h0))
    exact ⟨Nat.le_trans r4.1 (Nat.le_trans p1 (by decide)), Nat.le_trans r4.2 p5⟩⟩
structure Mach (n d m c : Int) : Prop where
  n : n.natAbs ≤ 30000
  m : m.natAbs ≤ 30000
  d : 1 ≤ d ∧ d ≤ 30000
  c : 1 ≤ c ∧ c ≤ 30000
section
variable {n d m c : Int} (h : Mach n d m c)
include h
theorem Mach.wraps : IntKind.i64.wrap (n * c) = n * c ∧ IntKind.i64.wrap (m * d) = m * d ∧ IntKind.i64.wrap (n * c + m * d) = n * c + m * d ∧ IntKind.i64.wrap (n * c - m * d) = n * c - m * d ∧ IntKind.i64.wrap (d * c) = d * c ∧ IntKind.i64.wrap (n * m) = n * m ∧ IntKind.i64.wrap (d * m) = d * m := by
  have hd : d.natAbs ≤ 30000 := by have := h.d; omega
  have hc : c.natAbs ≤ 30000 := by have := h.c; omega
  have q1 := abs_mul h.n hc (k := 900000000) (by decide)
  have q2 := abs_mul h.m hd (k := 900000000) (by decide)
  have q3 := abs_mul hd hc (k := 900000000) (by decide)
  have q4 := abs_mul h.n h.m (k := 900000000) (by decide)
  have q5 := abs_mul hd h.m (k := 900000000) (by decide)
  refine ⟨?_, ?_, ?_, ?_, ?_, ?_, ?_⟩ <;> rw [IntKind.wrap_i64] <;> omega
theorem Mach.fits : Fit (N3.mk n d) ∧ Fit (N3.mk m c) := by
  have hl : (30000 : Nat) < N3.lim := by decide
  have := h.n; have := h.m; have := h.d; have := h.c
  exact ⟨mk_fit (by omega) (by omega) (by omega), mk_fit (by omega) (by omega) (by omega)⟩
theorem Mach.abs : (N3.mk n d).1.natAbs ≤ 30000 ∧ (N3.mk n d).2.natAbs ≤ 30000 ∧ (N3.mk m c).1.natAbs ≤ 30000 ∧ (N3.mk m c).2.natAbs ≤ 30000 := by
  have := h.n; have := h.m; have := h.d; have := h.c
  have q1 := mk_natAbs (n := n) (d := d) (by omega)
  have q2 := mk_natAbs (n := m) (d := c) (by omega)
  omega
theorem Mach.oks : addQ (N3.mk n d) (N3.mk m c) = some (N3.addF (N3.mk n d) (N3.mk m c)) ∧ subQ (N3.mk n d) (N3.mk m c) = some (N3.subF (N3.mk n d) (N3.mk m c)) ∧ mulQ (N3.mk n d) (N3.mk m c) = some (N3.mulF (N3.mk n d) (N3.mk m c)) ∧ (m ≠ 0 → divQ (N3.mk n d) (N3.mk m c) = some (N3.divF (N3.mk n d) (N3.mk m c))) ∧ (m = 0 → divQ (N3.mk n d) (N3.mk m c) = none) := by
  obtain ⟨a1, a2, a3, a4⟩ := h.abs
  have e : (10 : Nat) ^ 5 = 100000 := rfl
  have b1 : (N3.mk n d).1.natAbs < 10 ^ 5 := by omega
  have b2 : (N3.mk n d).2.natAbs < 10 ^ 5 := by omega
  have b3 : (N3.mk m c).1.natAbs < 10 ^ 5 := by omega
  have b4 : (N3.mk m c).2.natAbs < 10 ^ 5 := by omega
  have vm : N3.Val (N3.mk m c) m c := N3.Val.mk (by have := h.c; omega)
  generalize N3.mk n d = A at *
  generalize N3.mk m c = B at *
  exact ⟨addQ_ok (a := 5) (b := 5) b1 b2 b3 b4 (by decide), subQ_ok (a := 5) (b := 5) b1 b2 b3 b4 (by decide), mulQ_ok (a := 5) (b := 5) b1 b2 b3 b4 (by decide), fun h0 => divQ_ok (a := 5) (b := 5) b1 b2 b3 b4 (by decide) (fun k => h0 (vm.num.1 k)), fun h0 => divQ_0 (vm.num.2 h0)⟩
theorem Mach.bounds : (N3.addF (N3.mk n d) (N3.mk m c)).1.natAbs ≤ 1800000000 ∧ (N3.addF (N3.mk n d) (N3.mk m c)).2.natAbs ≤ 900000000 ∧ (N3.subF (N3.mk n d) (N3.mk m c)).1.natAbs ≤ 1800000000 ∧ (N3.subF (N3.mk n d) (N3.mk m c)).2.natAbs ≤ 900000000 ∧ (N3.mulF (N3.mk n d) (N3.mk m c)).1.natAbs ≤ 1800000000 ∧ (N3.mulF (N3.mk n d) (N3.mk m c)).2.natAbs ≤ 900000000 ∧ (m ≠ 0 → (N3.divF (N3.mk n d) (N3.mk m c)).1.natAbs ≤ 1800000000 ∧ (N3.divF (N3.mk n d) (N3.mk m c)).2.natAbs ≤ 900000000) := by
  obtain ⟨a1, a2, a3, a4⟩ := h.abs
  have fs := h.fits
  have vm : N3.Val (N3.mk m c) m c := N3.Val.mk (by have := h.c; omega)
  exact mach_bounds a1 a2 a3 a4 (N3.low_ne fs.1.low) (N3.low_ne fs.2.low) (fun h0 k => h0 (vm.num.1 k))
theorem Mach.vals : N3.Val (N3.addF (N3.mk n d) (N3.mk m c)) (n * c + m * d) (d * c) ∧ N3.Val (N3.subF (N3.mk n d) (N3.mk m c)) (n * c - m * d) (d * c) ∧ N3.Val (N3.mulF (N3.mk n d) (N3.mk m c)) (n * m) (d * c) ∧ (m ≠ 0 → N3.Val (N3.divF (N3.mk n d) (N3.mk m c)) (n * c) (d * m)) := by
  have vn : N3.Val (N3.mk n d) n d := N3.Val.mk (by have := h.d; omega)
  have vm : N3.Val (N3.mk m c) m c := N3.Val.mk (by have := h.c; omega)
  exact ⟨vn.add vm, vn.sub vm, vn.mul vm, fun h0 => vn.div vm h0⟩
theorem Mach.cmp : N3.cmpF (N3.mk n d) (N3.mk m c) = N3.cmpI (n * c) (m * d) := by
  have vn : N3.Val (N3.mk n d) n d := N3.Val.mk (by have := h.d; omega)
  have vm : N3.Val (N3.mk m c) m c := N3.Val.mk (by have := h.c; omega)
  exact vn.cmp vm (by have := h.d; omega) (by have := h.c; omega)
theorem Mach.size : (n * c + m * d).natAbs ≤ 1800000000 ∧ (n * c - m * d).natAbs ≤ 1800000000 ∧ (d * c).natAbs ≤ 900000000 ∧ (n * m).natAbs ≤ 1800000000 ∧ (d * m).natAbs ≤ 900000000 ∧ (n * c).natAbs ≤ 1800000000 := by
  have hd : d.natAbs ≤ 30000 := by have := h.d; omega
  have hc : c.natAbs ≤ 30000 := by have := h.c; omega
  have q1 := abs_mul h.n hc (k := 900000000) (by decide)
  have q2 := abs_mul h.m hd (k := 900000000) (by decide)
  have q3 := abs_mul hd hc (k := 900000000) (by decide)
  have q4 := abs_mul h.n h.m (k := 900000000) (by decide)
  have q5 := abs_mul hd h.m (k := 900000000) (by decide)
  omega
end
end Go.Proofs.YtjnpenljgfdaiaaGreatDoor
