/- nadirlaw04: RationalGrid: what it asks of the numbers, minus, and its walk. -/
import Derived.Test.YtjnpenljgfdaiaaGreatDoorNB
import Derived.Deep.RegionHeld3
import Derived.Test.YtjnpenljgfdaiaaGreatDoorHA
/- package rational at the multiples of a grid, in numbers: Down, Up. -/
namespace Go.Proofs.YtjnpenljgfdaiaaGreatDoor
open Go.RowKit Go.Shelf Lib

theorem ten_cast (p : Nat) : N3.ten p = ((10 ^ p : Nat) : Int) := by unfold N3.ten; rw [Int.natCast_pow]; rfl
theorem ten_abs (p : Nat) : (N3.ten p).natAbs < 10 ^ (p + 1) := by
  rw [ten_cast, Int.natAbs_natCast]
  exact Nat.pow_lt_pow_right (by decide) (by omega)
theorem tenS_eq (p : Nat) : tenS p = N3.S (N3.ten p) := bytes_ext (by
  rw [ten_cast, S_ten]
  unfold tenS
  rw [ByteArray.data_append, Array.toList_append, N3.repeat_zero]; rfl)
theorem badP_ok {p : Nat} (h : p ≤ 30) : badP (p : Int) = false := by
  unfold badP
  rw [decide_eq_false (by omega), decide_eq_false (by omega)]; rfl
section
variable {r : Int × Int} (h : Fit r) {a p : Nat} (ha : r.1.natAbs < 10 ^ a) (hp : p ≤ 30) (hap : a + p + 2 ≤ 200)
include h ha hp hap
theorem grid_lim : (r.1 * N3.ten p).natAbs < N3.lim := by
  have _ := h; have _ := hp
  exact N3.lim_of (N3.natAbs_lt (k := a + p + 1) ha (ten_abs p) (by omega)) (by omega)
theorem grid_q : (r.1 * N3.ten p / r.2).natAbs < 10 ^ (a + p + 1) := by
  have _ := h; have _ := hp; have _ := hap
  exact Nat.lt_of_le_of_lt (N3.div_natAbs_le _ _) (N3.natAbs_lt (k := a + p + 1) ha (ten_abs p) (by omega))
theorem grid_q1 : (r.1 * N3.ten p / r.2 + 1).natAbs < 10 ^ (a + p + 2) := by
  have := grid_q h ha hp hap
  rw [Nat.pow_succ _ (a + p + 1)]
  have h1 := Nat.pow_pos (n := a + p + 1) (show 0 < 10 by decide)
  omega
theorem upN_abs : (N3.upN r p).natAbs < 10 ^ (a + p + 2) := by
  unfold N3.upN
  split
  · rw [Int.add_zero]
    exact Nat.lt_of_lt_of_le (grid_q h ha hp hap) (Nat.pow_le_pow_right (by decide) (by omega))
  · exact grid_q1 h ha hp hap
theorem ten_ne : N3.ten p ≠ 0 := by have _ := h; have _ := ha; have _ := hp; have _ := hap; have := N3.ten_pos p; omega
theorem upF_abs : (N3.upF r p).1.natAbs < 10 ^ (a + p + 2) ∧ (N3.upF r p).2.natAbs < 10 ^ (p + 1) :=
  ⟨Nat.lt_of_le_of_lt (mk_natAbs (ten_ne h ha hp hap)).1 (upN_abs h ha hp hap), Nat.lt_of_le_of_lt (mk_natAbs (ten_ne h ha hp hap)).2 (ten_abs p)⟩
theorem downF_abs : (N3.downF r p).1.natAbs < 10 ^ (a + p + 1) ∧ (N3.downF r p).2.natAbs < 10 ^ (p + 1) :=
  ⟨Nat.lt_of_le_of_lt (mk_natAbs (ten_ne h ha hp hap)).1 (grid_q h ha hp hap), Nat.lt_of_le_of_lt (mk_natAbs (ten_ne h ha hp hap)).2 (ten_abs p)⟩
theorem upF_fit : Fit (N3.upF r p) := mk_fit (N3.lim_of (upN_abs h ha hp hap) hap) (N3.lim_of (ten_abs p) (by omega)) (ten_ne h ha hp hap)
theorem downF_fit : Fit (N3.downF r p) := mk_fit (N3.lim_of (grid_q h ha hp hap) (by omega)) (N3.lim_of (ten_abs p) (by omega)) (ten_ne h ha hp hap)
theorem round_S (up : Bool) : roundR (N3.S r.1) (N3.S r.2) (p : Int) up = some (strR (if up = true then N3.upF r p else N3.downF r p)) := by
  have l1 := grid_lim h ha hp hap
  have l2 := N3.lim_of (grid_q h ha hp hap) (by omega)
  have l3 := N3.lim_of (grid_q1 h ha hp hap) hap
  have lt : (N3.ten p).natAbs < N3.lim := N3.lim_of (ten_abs p) (by omega)
  have hd0 := N3.low_ne h.low
  have l4 : (r.1 * N3.ten p % r.2).natAbs < N3.lim := Nat.lt_trans (N3.mod_natAbs_lt hd0) h.den
  have l5 : ((1 : Int)).natAbs < N3.lim := lim1
  unfold roundR
  rw [badP_ok hp, chk_S1 h, if_neg (by decide), Int.toNat_natCast]
  unfold roundG
  rw [tenS_eq]
  simp only [N3.mulO_S h.num lt, N3.outS_some l1, N3.outE_some l1, doS_false, doB_false0, N3.quoO_S l1 h.den hd0, N3.remO_S l1 h.den hd0, N3.outS_some l2, N3.outE_some l2, N3.outS_some l4]
  rw [if_neg (by decide)]
  cases up
  · rw [if_neg (by rintro ⟨h, -⟩; cases h), red_S l2 lt (ten_ne h ha hp hap), if_neg (by decide)]; rfl
  · rw [if_pos rfl]
    by_cases h0 : r.1 * N3.ten p % r.2 = 0
    · rw [if_neg (by rintro ⟨-, hh⟩; exact hh (S_eq48.2 h0)), red_S l2 lt (ten_ne h ha hp hap)]
      unfold N3.upF N3.upN
      rw [if_pos h0, Int.add_zero]
    · rw [if_pos ⟨rfl, fun hh => h0 (S_eq48.1 hh)⟩, ← S_one, N3.addO_S l2 l5, N3.outS_some l3, N3.outE_some l3, doB_false0, red_S l3 lt (ten_ne h ha hp hap)]
      unfold N3.upF N3.upN
      rw [if_neg h0]
theorem down_q (V : World) (hV : EnvR V) : Calls Tryz.prog 29 #[ratV (N3.S r.1) (N3.S r.2), .int .i64 (p : Int)] V fun e w' => e = .returned (.tuple #[ratV (N3.S (N3.downF r p).1) (N3.S (N3.downF r p).2), .int .i64 0]) ∧ Below V.heap.size V w' := by
  have z1 := S_size h.num; have z2 := S_size h.den
  have q := down04 (N3.S r.1) (N3.S r.2) (p : Int) V (by omega) (by omega) hV.env
  rw [round_S h ha hp hap, if_neg (by decide)] at q; exact q
theorem up_q (V : World) (hV : EnvR V) : Calls Tryz.prog 30 #[ratV (N3.S r.1) (N3.S r.2), .int .i64 (p : Int)] V fun e w' => e = .returned (.tuple #[ratV (N3.S (N3.upF r p).1) (N3.S (N3.upF r p).2), .int .i64 0]) ∧ Below V.heap.size V w' := by
  have z1 := S_size h.num; have z2 := S_size h.den
  have q := up04 (N3.S r.1) (N3.S r.2) (p : Int) V (by omega) (by omega) hV.env
  rw [round_S h ha hp hap, if_pos rfl] at q; exact q
end
/-! ### What RationalGrid asks -/
theorem neg_fit {r : Int × Int} (h : Fit r) : Fit (N3.negF r) := ⟨N3.negF_low h.low, by show (-r.1).natAbs < _; rw [Int.natAbs_neg]; exact h.num, h.den⟩
theorem neg_q {r : Int × Int} (h : Fit r) (V : World) (hV : EnvR V) : Calls Tryz.prog 24 #[ratV ⟨#[48]⟩ ⟨#[49]⟩, ratV (N3.S r.1) (N3.S r.2)] V fun e w' => e = .returned (.tuple #[ratV (N3.S (N3.negF r).1) (N3.S (N3.negF r).2), .int .i64 0]) ∧ Below V.heap.size V w' := by
  have q0 : Fit (0, 1) := int_fit lim0
  have q := sub_q q0 h V hV
  have e : subQ (0, 1) r = some (N3.negF r) := by
    have hn : (r.1 * 1).natAbs < N3.lim := by rw [Int.mul_one]; exact h.num
    have h0 : ((0 : Int) * r.2).natAbs < N3.lim := by rw [Int.zero_mul]; exact lim0
    have h1 : ((0 : Int) * r.2 - r.1 * 1).natAbs < N3.lim := by rw [Int.zero_mul, Int.mul_one, Int.zero_sub, Int.natAbs_neg]; exact h.num
    have h2 : ((1 : Int) * r.2).natAbs < N3.lim := by rw [Int.one_mul]; exact h.den
    rw [show subQ (0, 1) r = some (N3.subF (0, 1) r) from if_pos ⟨h0, hn, h1, h2⟩, N3.zero_sub h.low]
  rw [e] at q
  dsimp only [qV, qE] at q
  rw [S_zero, S_one] at q; exact q
theorem grid_mul {r : Int × Int} {p : Nat} : N3.mulF (N3.downF r p) (N3.ten p, 1) = (N3.downN r p, 1) := by
  have ht := N3.ten_pos p
  have hl : N3.Low (N3.ten p, 1) := N3.low_int _
  refine N3.Val.unique ((N3.Val.downF r p).mul (N3.Val.self hl)) (N3.Val.self (N3.low_int _)) ?_
  show N3.downN r p * N3.ten p * 1 = N3.downN r p * (N3.ten p * 1)
  rw [Int.mul_one, Int.mul_one]
end Go.Proofs.YtjnpenljgfdaiaaGreatDoor

/- nadirlaw04: minus. -/
namespace Go.Proofs.YtjnpenljgfdaiaaGreatDoor
open Go.RowKit Go.Shelf Lib

set_option maxRecDepth 100000 in
set_option maxHeartbeats 8000000 in
theorem minus31 {r : Int × Int} (h : Fit r) (w : World) (he : EnvR w) :
    Calls Tryz.prog 31 #[ratV (N3.S r.1) (N3.S r.2)] w fun e w' => e = .returned (ratV (N3.S (N3.negF r).1) (N3.S (N3.negF r).2)) ∧ Below w.heap.size w w' := by
  have HE := Lib.hid he
  have NQ := Lib.hid (fun V (hV : EnvR V) => neg_q h V hV)
  clear he h
  generalize N3.S (N3.negF r).1 = q1 at *
  generalize N3.S (N3.negF r).2 = q2 at *
  generalize N3.S r.1 = rn at *
  generalize N3.S r.2 = rd at *
  obtain ⟨W, hW, ka, kr, hBW⟩ := two_rats w rn rd ⟨#[]⟩ ⟨#[]⟩
  go_enter Tryz.func31, Tryz.ntmps31
  go_wp2_with (simp only [hW])
  (try rw [hW])
  have HK6 := Lib.hid (fun V (hV : Below W.heap.size W V) => And.intro ((BlkT.keep ka hV).cell 0) ((BlkT.keep ka hV).cell 1))
  simp only [List.getElem?_toArray, List.getElem?_cons_succ, List.getElem?_cons_zero] at HK6
  have HEV := Lib.hid (fun V (hV : Below W.heap.size W V) => HE.out.below (hBW.trans (hV.mono hBW.size)))
  apply wp_suchC (w0 := W) #[.string q1, .string q2]
  · go_region_held3 (fun w' => Below W.heap.size W w' ∧ (w'.cell? ⟨w.heap.size, 0, none⟩ = some (.string rn) ∧ w'.cell? ⟨w.heap.size, 1, none⟩ = some (.string rd)))
      (first | exact ⟨(Below.refl _ _).drew, HK6.out _ (Below.refl _ _).drew⟩ | (have hh := (‹Below W.heap.size W _ ∧ _›).1; have hb := hh.trans (hBq.mono hh.size); exact ⟨hb, HK6.out _ hb⟩) | (have hh := (‹Below W.heap.size W _ ∧ _›).1; have hb := hh.trans (hBr.mono hh.size); exact ⟨hb, HK6.out _ hb⟩) | (have hh := (‹Below W.heap.size W _ ∧ _›).1; exact ⟨hh.alloc hh.size _, HK6.out _ (hh.alloc hh.size _)⟩) | (have hh := (‹Below W.heap.size W _ ∧ _›).1; exact ⟨(hh.setCell (by dsimp only; omega) _).setCell (by dsimp only; omega) _, HK6.out _ ((hh.setCell (by dsimp only; omega) _).setCell (by dsimp only; omega) _)⟩) | (exact ⟨hSr.alloc hSz _, HK6.out _ (hSr.alloc hSz _)⟩) | go_keep)
      (first
        | (go_at_call 25; (with_reducible refine (is_any _ _ _).mono ?_); rintro r wq ⟨rfl, hBq⟩; have hSq := Nat.le_trans (‹Below W.heap.size W _ ∧ _›).1.size hBq.size; have hblk := BlkT.keep (BlkT.newAt (World.drew W) #[.string ⟨#[]⟩, .string ⟨#[]⟩] 26 (n := W.heap.size) rfl) hBq)
        | (go_at_call 25; (with_reducible refine (is_any _ _ _).mono ?_); rintro r wq ⟨rfl, hBq⟩; have hSq := Nat.le_trans (‹Below W.heap.size W _ ∧ _›).1.size hBq.size)
        | (go_at_call 24; (with_reducible refine (NQ.out _ (HEV.out _ (‹Below W.heap.size W _ ∧ _›).1)).mono ?_); rintro r wr ⟨rfl, hBr⟩; have hSz := Nat.le_trans (‹Below W.heap.size W _ ∧ _›).1.size hBr.size; have hSr := (‹Below W.heap.size W _ ∧ _›).1.trans (hBr.mono (‹Below W.heap.size W _ ∧ _›).1.size); have hblk2 := BlkT.keep hblk hBr; have u0 := hblk2.cell 0; have u1 := hblk2.cell 1; have v0 := hblk2.frozen 0; have v1 := hblk2.frozen 1; simp only [List.getElem?_toArray, List.getElem?_cons_succ, List.getElem?_cons_zero] at u0 u1)
        | (go_at_call 24; (with_reducible refine (NQ.out _ (HEV.out _ (‹Below W.heap.size W _ ∧ _›).1)).mono ?_); rintro r wr ⟨rfl, hBr⟩; have hSz := Nat.le_trans (‹Below W.heap.size W _ ∧ _›).1.size hBr.size; have hSr := (‹Below W.heap.size W _ ∧ _›).1.trans (hBr.mono (‹Below W.heap.size W _ ∧ _›).1.size); have hblk2 := BlkT.keep (BlkT.newAt wq #[.string ⟨#[]⟩, .string ⟨#[]⟩] 26 rfl) hBr; have u0 := hblk2.cell 0; have u1 := hblk2.cell 1; have v0 := hblk2.frozen 0; have v1 := hblk2.frozen 1; simp only [List.getElem?_toArray, List.getElem?_cons_succ, List.getElem?_cons_zero] at u0 u1)
        | (go_at_call 24; (with_reducible refine (NQ.out _ (HEV.out _ (‹Below W.heap.size W _ ∧ _›).1)).mono ?_); rintro r wr ⟨rfl, hBr⟩; have hSz := Nat.le_trans (‹Below W.heap.size W _ ∧ _›).1.size hBr.size; have hSr := (‹Below W.heap.size W _ ∧ _›).1.trans (hBr.mono (‹Below W.heap.size W _ ∧ _›).1.size); have hblk2 := BlkT.newAt wr #[.string ⟨#[]⟩, .string ⟨#[]⟩] 26 rfl; have u0 := hblk2.cell 0; have u1 := hblk2.cell 1; have v0 := hblk2.frozen 0; have v1 := hblk2.frozen 1; simp only [List.getElem?_toArray, List.getElem?_cons_succ, List.getElem?_cons_zero] at u0 u1))
    all_goals (
      refine NoPanic.normal ?_
      have hh := (‹Below W.heap.size W _ ∧ _›).1
      first
        | (have hz : BlkT _ _ #[.string q1, .string q2] 26 := (hblk2.set 0 (.string q1)).set 1 (.string q2); generalize wr.heap.size = gx at *; exact ⟨rfl, gx, rfl, hh, hz⟩)
        | (have hz : BlkT _ _ #[.string q1, .string q2] 26 := (hblk2.set 0 (.string q1)).set 1 (.string q2); generalize wq.heap.size = gx at *; exact ⟨rfl, gx, rfl, hh, hz⟩)
        | (have hz : BlkT _ _ #[.string q1, .string q2] 26 := (hblk2.set 0 (.string q1)).set 1 (.string q2); obtain ⟨gx, hgx⟩ : ∃ g, wq.heap.size = g := ⟨_, rfl⟩; rw [hgx]; exact ⟨rfl, gx, rfl, hh, by rw [← hgx]; exact hz⟩)
        | (have hz : BlkT (wr.alloc (.cells #[.string q1, .string q2] 26)) wr.heap.size #[.string q1, .string q2] 26 := BlkT.newAt _ _ _ rfl; obtain ⟨gx, hgx⟩ : ∃ g, wr.heap.size = g := ⟨_, rfl⟩; rw [hgx] at hz; rw [hgx]; exact ⟨rfl, gx, rfl, hh, hz⟩)
        | (have hz : BlkT _ _ #[.string q1, .string q2] 26 := (hblk2.set 0 (.string q1)).set 1 (.string q2); exact ⟨rfl, _, rfl, hh, hz⟩)
        | (trace_state; fail))
  rintro g5 W5 ⟨hbw5, k5⟩
  have hBw5 := hBW.trans (hbw5.mono hBW.size)
  clear HK6 HEV
  have ka := BlkT.keep ka hbw5
  have kr := BlkT.keep kr hbw5
  have kz := k5
  have krc0 := kr.cell 0
  have krc1 := kr.cell 1
  simp only [List.getElem?_toArray, List.getElem?_cons_succ, List.getElem?_cons_zero] at krc0 krc1
  have krf0 := kr.frozen 0
  have krf1 := kr.frozen 1
  have kzc0 := kz.cell 0
  have kzc1 := kz.cell 1
  simp only [List.getElem?_toArray, List.getElem?_cons_succ, List.getElem?_cons_zero] at kzc0 kzc1
  have HK := Lib.hid kr
  go_wp2_with fail
  have hz : BlkT _ _ #[.string q1, .string q2] 26 := (HK.out.set 0 (.string q1)).set 1 (.string q2)
  have z0 := hz.cell 0
  have z1 := hz.cell 1
  simp only [List.getElem?_toArray, List.getElem?_cons_succ, List.getElem?_cons_zero] at z0 z1
  refine bodyPost_ret (v := ratV q1 q2) (by simp [results, Tryz.results31, go_sem, z0, z1]) rfl ?_
  exact ⟨rfl, (hBw5.setCell (by simp) _).setCell (by simp) _⟩
end Go.Proofs.YtjnpenljgfdaiaaGreatDoor

/- nadirlaw04: RationalGrid. -/
namespace Go.Proofs.YtjnpenljgfdaiaaGreatDoor
open Go.RowKit Go.Shelf Lib

theorem subQ_ok4 {r s : Int × Int} {a b c d k : Nat} (h1 : r.1.natAbs < 10 ^ a) (h2 : r.2.natAbs < 10 ^ b) (h3 : s.1.natAbs < 10 ^ c) (h4 : s.2.natAbs < 10 ^ d) (e1 : a + d ≤ k) (e2 : c + b ≤ k) (e3 : b + d ≤ k) (hk : k + 1 ≤ 200) : subQ r s = some (N3.subF r s) := by
  have q1 := N3.natAbs_lt (k := k) h1 h4 e1
  have q2 := N3.natAbs_lt (k := k) h3 h2 e2
  have q3 := N3.natAbs_lt (k := k) h2 h4 e3
  have q4 : (r.1 * s.2 - s.1 * r.2).natAbs < 10 ^ (k + 1) := by rw [Nat.pow_succ]; omega
  exact if_pos ⟨N3.lim_of q1 (by omega), N3.lim_of q2 (by omega), N3.lim_of q4 hk, N3.lim_of q3 (by omega)⟩
def tenC (n : Nat) : ByteArray := N3.S (N3.ten n)
theorem tc_zero : tenC 0 = ⟨#[49]⟩ := by unfold tenC N3.ten; rw [Int.pow_zero, S_one]
theorem tc_size (n : Nat) : (tenC n).size = n + 1 := by unfold tenC; rw [ten_cast]; exact S_ten_size n
theorem tc_succ (n : Nat) : tenC n ++ ⟨#[48]⟩ = tenC (n + 1) := by unfold tenC; rw [ten_cast, ten_cast]; exact S_ten_succ n
structure GridF (r : Int × Int) (p : Nat) (rn rd mn md an ad bn bd cn cd nn wn wd tb : ByteArray) (ca cb : Int) : Prop where
  DR : ∀ V, EnvR V → Calls Tryz.prog 29 #[ratV rn rd, .int .i64 (p : Int)] V fun e w' => e = .returned (.tuple #[ratV an ad, .int .i64 0]) ∧ Below V.heap.size V w'
  UR : ∀ V, EnvR V → Calls Tryz.prog 30 #[ratV rn rd, .int .i64 (p : Int)] V fun e w' => e = .returned (.tuple #[ratV bn bd, .int .i64 0]) ∧ Below V.heap.size V w'
  MR : ∀ V, EnvR V → Calls Tryz.prog 31 #[ratV rn rd] V fun e w' => e = .returned (ratV mn md) ∧ Below V.heap.size V w'
  DC : ∀ V, EnvR V → Calls Tryz.prog 29 #[ratV mn md, .int .i64 (p : Int)] V fun e w' => e = .returned (.tuple #[ratV cn cd, .int .i64 0]) ∧ Below V.heap.size V w'
  MC : ∀ V, EnvR V → Calls Tryz.prog 31 #[ratV cn cd] V fun e w' => e = .returned (ratV bn bd) ∧ Below V.heap.size V w'
  CA : ∀ V, EnvR V → Calls Tryz.prog 23 #[ratV an ad, ratV rn rd] V fun e w' => e = .returned (.int .i64 ca) ∧ Below V.heap.size V w'
  CB : ∀ V, EnvR V → Calls Tryz.prog 23 #[ratV bn bd, ratV rn rd] V fun e w' => e = .returned (.int .i64 cb) ∧ Below V.heap.size V w'
  DB : ∀ V, EnvR V → Calls Tryz.prog 29 #[ratV bn bd, .int .i64 (p : Int)] V fun e w' => e = .returned (.tuple #[ratV bn bd, .int .i64 0]) ∧ Below V.heap.size V w'
  UA : ∀ V, EnvR V → Calls Tryz.prog 30 #[ratV an ad, .int .i64 (p : Int)] V fun e w' => e = .returned (.tuple #[ratV an ad, .int .i64 0]) ∧ Below V.heap.size V w'
  MU : ∀ V, EnvR V → Calls Tryz.prog 27 #[ratV an ad, ratV tb ⟨#[49]⟩] V fun e w' => e = .returned (.tuple #[ratV nn ⟨#[49]⟩, .int .i64 0]) ∧ Below V.heap.size V w'
  SW : ∀ V, EnvR V → Calls Tryz.prog 24 #[ratV bn bd, ratV an ad] V fun e w' => e = .returned (.tuple #[ratV wn wd, .int .i64 0]) ∧ Below V.heap.size V w'
theorem grid_facts {r : Int × Int} (h : Fit r) (ha : r.1.natAbs < 10 ^ 100) {p : Nat} (hp : p ≤ 30) :
    ∃ mn md an ad bn bd cn cd nn wn wd ca cb, GridF r p (N3.S r.1) (N3.S r.2) mn md an ad bn bd cn cd nn wn wd (tenC p) ca cb ∧ (r.1 * N3.ten p % r.2 = 0 → ca = 0 ∧ cb = 0 ∧ wn = ⟨#[48]⟩ ∧ wd = ⟨#[49]⟩) ∧ (r.1 * N3.ten p % r.2 ≠ 0 → ca < 0 ∧ 0 < cb ∧ wn = ⟨#[49]⟩ ∧ wd = tenC p) := by
  have hn := neg_fit h
  have hna : (N3.negF r).1.natAbs < 10 ^ 100 := by show (-r.1).natAbs < _; rw [Int.natAbs_neg]; exact ha
  have fd := downF_fit h ha hp (by omega)
  have fu := upF_fit h ha hp (by omega)
  have fc := downF_fit hn hna hp (by omega)
  have bd' := downF_abs h ha hp (by omega)
  have bu := upF_abs h ha hp (by omega)
  have ft : Fit (N3.ten p, 1) := int_fit (N3.lim_of (ten_abs p) (by omega))
  have x1 := N3.exact_iff h.low p
  have x2 := N3.down_le h.low p
  have x3 := N3.up_ge h.low p
  have hlt : (1 : Int).natAbs < 10 ^ (p + 1) := Nat.one_lt_pow (by omega) (by decide)
  have hw : subQ (N3.upF r p) (N3.downF r p) = some (if r.1 * N3.ten p % r.2 = 0 then (0, 1) else (1, N3.ten p)) := by
    rw [subQ_ok4 (a := 100 + p + 2) (b := p + 1) (c := 100 + p + 1) (d := p + 1) (k := 100 + p + 2 + (p + 1)) bu.1 bu.2 bd'.1 bd'.2 (by omega) (by omega) (by omega) (by omega), N3.up_sub_down]
    split
    · rfl
    · rw [N3.mk_one_ten]
  refine ⟨N3.S (N3.negF r).1, N3.S (N3.negF r).2, N3.S (N3.downF r p).1, N3.S (N3.downF r p).2, N3.S (N3.upF r p).1, N3.S (N3.upF r p).2, N3.S (N3.downF (N3.negF r) p).1, N3.S (N3.downF (N3.negF r) p).2, N3.S (N3.downN r p), N3.S (if r.1 * N3.ten p % r.2 = 0 then (0, 1) else (1, N3.ten p) : Int × Int).1, N3.S (if r.1 * N3.ten p % r.2 = 0 then (0, 1) else (1, N3.ten p) : Int × Int).2, N3.cmpF (N3.downF r p) r, N3.cmpF (N3.upF r p) r, ?_, ?_, ?_⟩
  · constructor
    · exact fun V hV => down_q h ha hp (by omega) V hV
    · exact fun V hV => up_q h ha hp (by omega) V hV
    · exact fun V hV => minus31 h V hV
    · exact fun V hV => down_q hn hna hp (by omega) V hV
    · intro V hV
      have q := minus31 fc V hV
      rw [N3.up_down_neg h.low] at q; exact q
    · exact fun V hV => cmp_q fd h V hV
    · exact fun V hV => cmp_q fu h V hV
    · intro V hV
      have q := down_q fu bu.1 hp (by omega) V hV
      rw [(N3.round_fix (N3.Val.upF r p)).1] at q; exact q
    · intro V hV
      have q := up_q fd bd'.1 hp (by omega) V hV
      rw [(N3.round_fix (N3.Val.downF r p)).2] at q; exact q
    · intro V hV
      have q := mul_q fd ft V hV
      rw [mulQ_ok (a := 100 + p + 1) (b := p + 1) bd'.1 (Nat.lt_of_lt_of_le bd'.2 (Nat.pow_le_pow_right (by decide) (by omega))) (ten_abs p) hlt (by omega), grid_mul] at q
      dsimp only [qV, qE] at q
      rw [S_one] at q
      exact q
    · intro V hV
      have q := sub_q fu fd V hV
      rw [hw] at q
      dsimp only [qV, qE] at q
      exact q
  · intro h0
    rw [if_pos h0]
    exact ⟨x1.1.2 h0, x1.2.2 h0, S_zero, S_one⟩
  · intro h0
    rw [if_neg h0]
    have y1 : N3.cmpF (N3.downF r p) r ≠ 0 := fun e => h0 (x1.1.1 e)
    have y2 : N3.cmpF (N3.upF r p) r ≠ 0 := fun e => h0 (x1.2.1 e)
    exact ⟨by omega, by omega, S_one, rfl⟩
theorem bytes_same (s : ByteArray) : (s.toList == s.toList) = true := beq_self_eq_true _

set_option maxRecDepth 100000 in
set_option maxHeartbeats 16000000 in
theorem law_grid4 (x0 x1 x2 x3 y : Int) (w : World) (he : EnvR w) (m0 : -9223372036854775808 ≤ x0 ∧ x0 ≤ 9223372036854775807) (m1 : -9223372036854775808 ≤ x1 ∧ x1 ≤ 9223372036854775807) (m2 : -9223372036854775808 ≤ x2 ∧ x2 ≤ 9223372036854775807) (m3 : -9223372036854775808 ≤ x3 ∧ x3 ≤ 9223372036854775807) (my : -9223372036854775808 ≤ y ∧ y ≤ 9223372036854775807) :
    Calls Tryz.prog 4 #[.agg #[.int .i64 x0, .int .i64 x1, .int .i64 x2, .int .i64 x3], .int .i64 y] w fun e w' => e = .returned (.bool true) ∧ Below w.heap.size w w' := by
  have PK' := fun V : World => pick28 y 31 V my.1 my.2 (by decide) (by decide)
  have hb := pickN_bd y (show (0 : Int) < 31 by decide)
  obtain ⟨p, hp⟩ : ∃ p : Nat, pickN y 31 = (p : Int) := ⟨(pickN y 31).toNat, by omega⟩
  rw [hp] at PK' hb
  have hp30 : p ≤ 30 := by omega
  have PK := Lib.hid PK'
  have LG := Lib.hid (fun V => long21 x0 x1 x2 x3 V m0.1 m0.2 m1.1 m1.2 m2.1 m2.2 m3.1 m3.2)
  clear PK' hb hp my m0 m1 m2 m3
  have HE := Lib.hid he
  clear he
  obtain ⟨W0, hW0⟩ : ∃ W, w.alloc (.cells #[.int .i64 x0, .int .i64 x1, .int .i64 x2, .int .i64 x3] 22) = W := ⟨_, rfl⟩
  have b0 : BlkT W0 w.heap.size #[.int .i64 x0, .int .i64 x1, .int .i64 x2, .int .i64 x3] 22 := hW0 ▸ BlkT.newAt w _ _ rfl
  have hBw0 : Below w.heap.size w W0 := hW0 ▸ (Below.refl _ _).alloc (Nat.le_refl _) _
  have same := bytes_same
  go_enter Tryz.func4, Tryz.ntmps4
  go_wp2_with (simp only [hW0])
  refine (sane04 _ (HE.out.below hBw0)).mono ?_
  rintro r V1 ⟨rfl, hb1⟩
  have hB1 := hBw0.trans (hb1.mono hBw0.size)
  have b0 := BlkT.keep b0 hb1
  have b0c0 := b0.cell 0
  have b0c1 := b0.cell 1
  have b0c2 := b0.cell 2
  have b0c3 := b0.cell 3
  simp only [List.getElem?_toArray, List.getElem?_cons_succ, List.getElem?_cons_zero] at b0c0 b0c1 b0c2 b0c3
  go_wp2_with fail
  refine (LG.out _).mono ?_
  rintro r V2 ⟨ra, rfl, hf, ha, hden, hb2⟩
  have hB2 := hB1.trans (hb2.mono hB1.size)
  clear b0c0 b0c1 b0c2 b0c3
  have b0 := BlkT.keep b0 hb2
  dsimp only [strR]
  obtain ⟨mn, md, an, ad, bn, bd, cn, cd, nn, wn, wd, ca, cb, G, g1, g2⟩ := grid_facts hf ha hp30
  clear hf ha hden
  generalize N3.S ra.1 = rn at *
  generalize N3.S ra.2 = rd at *
  have DR := Lib.hid G.DR
  have UR := Lib.hid G.UR
  have MR := Lib.hid G.MR
  have DC := Lib.hid G.DC
  have MC := Lib.hid G.MC
  have CA := Lib.hid G.CA
  have CB := Lib.hid G.CB
  have DB := Lib.hid G.DB
  have UA := Lib.hid G.UA
  have MU := Lib.hid G.MU
  have SW := Lib.hid G.SW
  clear G
  go_upto_region 3 with (fail)
  generalize hW2 : World.alloc V2 _ = W2
  have hw2 : Below V2.heap.size V2 W2 := hW2 ▸ (Below.refl _ _).alloc (Nat.le_refl _) _
  have hBw2 := hB2.trans (hw2.mono hB2.size)
  have k6 : BlkT W2 V2.heap.size #[(.string rn), (.string rd)] 26 := hW2 ▸ BlkT.newAt _ _ _ rfl
  clear hW2
  by_cases hx : ra.1 * N3.ten p % ra.2 = 0
  · have hx := g1 hx
    clear g1 g2
    obtain ⟨rfl, rfl, rfl, rfl⟩ := hx
    go_wp2_with fail
    refine (PK.out _).mono ?_
    rintro r V ⟨rfl, rfl⟩
    have K6 := Lib.hid k6
    clear k6
    have hz0 := tc_zero
    go_wp2_with fail
    go_loopw [7, 8] (fun u7 u8 wr => ∃ k : Nat, k ≤ p ∧ u7 = .string (tenC k) ∧ u8 = .int .i64 (k : Int) ∧ W2 = wr) (fun _ u8 _ => (p - Go.RowKit.intOf u8).toNat)
    case atStart => exact ⟨0, Nat.zero_le _, by rw [hz0], rfl, rfl⟩
    case round =>
      obtain ⟨k, hk, rfl, rfl, rfl⟩ := hrel
      clear hz0
      by_cases hkn : k < p
      · have hki : (k : Int) < (p : Int) := by omega
        have hw1 : IntKind.i64.wrap ((k : Int) + 1) = ((k + 1 : Nat) : Int) := by rw [IntKind.wrap_i64]; omega
        have hs := tc_size k
        have q1 : ¬ 9223372036854775807 < (tenC k).size + 1 := by omega
        have q2 : ¬ 9223372036854775807 < (tenC k).size + (⟨#[48]⟩ : ByteArray).size := by rw [hs]; show ¬ 9223372036854775807 < k + 1 + 1; omega
        have hs' := tc_succ k
        go_wp2_with fail
        go_roundw
        case rel => exact ⟨k + 1, by omega, by first | rfl | trivial, by first | rfl | trivial, by first | rfl | trivial⟩
        case measure => simp only [Go.RowKit.intOf]; omega
      · have hki : ¬ (k : Int) < (p : Int) := by omega
        have hki2 : decide ((k : Int) < (p : Int)) = false := decide_eq_false hki
        obtain rfl : k = p := by omega
        have k6 := K6.out
        clear K6
        have htz : k = 0 → tenC k = ⟨#[49]⟩ := fun e => by rw [e]; exact tc_zero
        have HTZ := Lib.hid htz
        clear htz hk
        generalize tenC k = tb at *
        have k6c0 := k6.cell 0
        have k6c1 := k6.cell 1
        simp only [List.getElem?_toArray, List.getElem?_cons_succ, List.getElem?_cons_zero] at k6c0 k6c1
        go_wp2_with fail
        refine (DR.out _ (HE.out.below hBw2)).mono ?_
        rintro r V3 ⟨rfl, hb3⟩
        have hB3 := hBw2.trans (hb3.mono hBw2.size)
        clear k6c0 k6c1
        have k6 := BlkT.keep k6 hb3
        go_upto_region 10 with (fail)
        have lk6k9 := Lib.hid k6.lt
        generalize hW3 : World.alloc V3 _ = W3
        have hw3 : Below V3.heap.size V3 W3 := hW3 ▸ (Below.refl _ _).alloc (Nat.le_refl _) _
        have hBw3 := hB3.trans (hw3.mono hB3.size)
        have k6 := BlkT.keep k6 hw3
        have k9 : BlkT W3 V3.heap.size #[(.string an), (.string ad)] 26 := hW3 ▸ BlkT.newAt _ _ _ rfl
        clear hW3
        have k6c0 := k6.cell 0
        have k6c1 := k6.cell 1
        simp only [List.getElem?_toArray, List.getElem?_cons_succ, List.getElem?_cons_zero] at k6c0 k6c1
        go_wp2_with fail
        refine (UR.out _ (HE.out.below hBw3)).mono ?_
        rintro r V4 ⟨rfl, hb4⟩
        have hB4 := hBw3.trans (hb4.mono hBw3.size)
        clear k6c0 k6c1
        have k6 := BlkT.keep k6 hb4
        have k9 := BlkT.keep k9 hb4
        go_upto_region 11 with (fail)
        have lk6k11 := Lib.hid k6.lt
        have lk9k11 := Lib.hid k9.lt
        generalize hW4 : World.alloc V4 _ = W4
        have hw4 : Below V4.heap.size V4 W4 := hW4 ▸ (Below.refl _ _).alloc (Nat.le_refl _) _
        have hBw4 := hB4.trans (hw4.mono hB4.size)
        have k6 := BlkT.keep k6 hw4
        have k9 := BlkT.keep k9 hw4
        have k11 : BlkT W4 V4.heap.size #[(.string bn), (.string bd)] 26 := hW4 ▸ BlkT.newAt _ _ _ rfl
        clear hW4
        have k6c0 := k6.cell 0
        have k6c1 := k6.cell 1
        simp only [List.getElem?_toArray, List.getElem?_cons_succ, List.getElem?_cons_zero] at k6c0 k6c1
        go_wp2_with fail
        refine (MR.out _ (HE.out.below hBw4)).mono ?_
        rintro r V5 ⟨rfl, hb5⟩
        have hB5 := hBw4.trans (hb5.mono hBw4.size)
        clear k6c0 k6c1
        have k6 := BlkT.keep k6 hb5
        have k9 := BlkT.keep k9 hb5
        have k11 := BlkT.keep k11 hb5
        go_wp2_with fail
        refine (DC.out _ (HE.out.below hB5)).mono ?_
        rintro r V6 ⟨rfl, hb6⟩
        have hB6 := hB5.trans (hb6.mono hB5.size)
        have k6 := BlkT.keep k6 hb6
        have k9 := BlkT.keep k9 hb6
        have k11 := BlkT.keep k11 hb6
        go_upto_region 12 with (fail)
        have lk6k13 := Lib.hid k6.lt
        have lk9k13 := Lib.hid k9.lt
        have lk11k13 := Lib.hid k11.lt
        generalize hW6 : World.alloc V6 _ = W6
        have hw6 : Below V6.heap.size V6 W6 := hW6 ▸ (Below.refl _ _).alloc (Nat.le_refl _) _
        have hBw6 := hB6.trans (hw6.mono hB6.size)
        have k6 := BlkT.keep k6 hw6
        have k9 := BlkT.keep k9 hw6
        have k11 := BlkT.keep k11 hw6
        have k13 : BlkT W6 V6.heap.size #[(.string cn), (.string cd)] 26 := hW6 ▸ BlkT.newAt _ _ _ rfl
        clear hW6
        have HKS : Hid (∀ w', Below W6.heap.size W6 w' → w'.cell? ⟨V6.heap.size, 0, none⟩ = some (.string cn) ∧ w'.cell? ⟨V6.heap.size, 1, none⟩ = some (.string cd) ∧ w'.cell? ⟨V4.heap.size, 0, none⟩ = some (.string bn) ∧ w'.cell? ⟨V4.heap.size, 1, none⟩ = some (.string bd) ∧ w'.cell? ⟨V3.heap.size, 0, none⟩ = some (.string an) ∧ w'.cell? ⟨V3.heap.size, 1, none⟩ = some (.string ad) ∧ w'.cell? ⟨V2.heap.size, 0, none⟩ = some (.string rn) ∧ w'.cell? ⟨V2.heap.size, 1, none⟩ = some (.string rd)) := Lib.hid (fun V hV => (And.intro ((BlkT.keep k13 hV).cell 0) (And.intro ((BlkT.keep k13 hV).cell 1) (And.intro ((BlkT.keep k11 hV).cell 0) (And.intro ((BlkT.keep k11 hV).cell 1) (And.intro ((BlkT.keep k9 hV).cell 0) (And.intro ((BlkT.keep k9 hV).cell 1) (And.intro ((BlkT.keep k6 hV).cell 0) ((BlkT.keep k6 hV).cell 1)))))))))
        have HKE := Lib.hid (fun V (hV : Below W6.heap.size W6 V) => HE.out.below (hBw6.trans (hV.mono hBw6.size)))
        go_cut [83] from 56 to 83 (fun c wx => c = .bool false ∧ Below W6.heap.size W6 wx)
        case first =>
          go_region_held3 (fun w' => Below W6.heap.size W6 w' ∧ w'.cell? ⟨V6.heap.size, 0, none⟩ = some (.string cn) ∧ w'.cell? ⟨V6.heap.size, 1, none⟩ = some (.string cd) ∧ w'.cell? ⟨V4.heap.size, 0, none⟩ = some (.string bn) ∧ w'.cell? ⟨V4.heap.size, 1, none⟩ = some (.string bd) ∧ w'.cell? ⟨V3.heap.size, 0, none⟩ = some (.string an) ∧ w'.cell? ⟨V3.heap.size, 1, none⟩ = some (.string ad) ∧ w'.cell? ⟨V2.heap.size, 0, none⟩ = some (.string rn) ∧ w'.cell? ⟨V2.heap.size, 1, none⟩ = some (.string rd))
            (first | exact ⟨(Below.refl _ _).drew, HKS.out _ (Below.refl _ _).drew⟩ | (have hh := (‹Below W6.heap.size W6 _ ∧ _›).1; have hb := hh.trans (hBq.mono hh.size); exact ⟨hb, HKS.out _ hb⟩))
            (first
            | (go_at_call 31; (with_reducible refine (MC.out _ (HKE.out _ (‹Below W6.heap.size W6 _ ∧ _›).1)).mono ?_); rintro r wq ⟨rfl, hBq⟩)
            | (go_at_call 23; (with_reducible refine (CA.out _ (HKE.out _ (‹Below W6.heap.size W6 _ ∧ _›).1)).mono ?_); rintro r wq ⟨rfl, hBq⟩)
            | (go_at_call 23; (with_reducible refine (CB.out _ (HKE.out _ (‹Below W6.heap.size W6 _ ∧ _›).1)).mono ?_); rintro r wq ⟨rfl, hBq⟩))
          all_goals (
            have hh := (‹Below W6.heap.size W6 _ ∧ _›).1
            go_wp2_with fail
            go_meet
            exact ⟨rfl, hh⟩)
        case rest =>
          rename World => V20
          obtain ⟨rfl, hb20⟩ := hcut
          clear HKS HKE
          have hB20 := hBw6.trans (hb20.mono hBw6.size)
          have k6 := BlkT.keep k6 hb20
          have k9 := BlkT.keep k9 hb20
          have k11 := BlkT.keep k11 hb20
          have k13 := BlkT.keep k13 hb20
          go_upto_region 14 with (fail)
          have k11c0 := k11.cell 0
          have k11c1 := k11.cell 1
          simp only [List.getElem?_toArray, List.getElem?_cons_succ, List.getElem?_cons_zero] at k11c0 k11c1
          go_wp2_with fail
          refine (DB.out _ (HE.out.below hB20)).mono ?_
          rintro r V21 ⟨rfl, hb21⟩
          have hB21 := hB20.trans (hb21.mono hB20.size)
          clear k11c0 k11c1
          have k6 := BlkT.keep k6 hb21
          have k9 := BlkT.keep k9 hb21
          have k11 := BlkT.keep k11 hb21
          go_upto_region 15 with (fail)
          have lk6k15 := Lib.hid k6.lt
          have lk9k15 := Lib.hid k9.lt
          have lk11k15 := Lib.hid k11.lt
          generalize hW21 : World.alloc V21 _ = W21
          have hw21 : Below V21.heap.size V21 W21 := hW21 ▸ (Below.refl _ _).alloc (Nat.le_refl _) _
          have hBw21 := hB21.trans (hw21.mono hB21.size)
          have k6 := BlkT.keep k6 hw21
          have k9 := BlkT.keep k9 hw21
          have k11 := BlkT.keep k11 hw21
          have k15 : BlkT W21 V21.heap.size #[(.string bn), (.string bd)] 26 := hW21 ▸ BlkT.newAt _ _ _ rfl
          clear hW21
          have k9c0 := k9.cell 0
          have k9c1 := k9.cell 1
          simp only [List.getElem?_toArray, List.getElem?_cons_succ, List.getElem?_cons_zero] at k9c0 k9c1
          go_wp2_with fail
          refine (UA.out _ (HE.out.below hBw21)).mono ?_
          rintro r V22 ⟨rfl, hb22⟩
          have hB22 := hBw21.trans (hb22.mono hBw21.size)
          clear k9c0 k9c1
          have k6 := BlkT.keep k6 hb22
          have k9 := BlkT.keep k9 hb22
          have k11 := BlkT.keep k11 hb22
          have k15 := BlkT.keep k15 hb22
          go_upto_region 16 with (fail)
          have lk6k17 := Lib.hid k6.lt
          have lk9k17 := Lib.hid k9.lt
          have lk11k17 := Lib.hid k11.lt
          have lk15k17 := Lib.hid k15.lt
          generalize hW22 : World.alloc V22 _ = W22
          have hw22 : Below V22.heap.size V22 W22 := hW22 ▸ (Below.refl _ _).alloc (Nat.le_refl _) _
          have hBw22 := hB22.trans (hw22.mono hB22.size)
          have k6 := BlkT.keep k6 hw22
          have k9 := BlkT.keep k9 hw22
          have k11 := BlkT.keep k11 hw22
          have k15 := BlkT.keep k15 hw22
          have k17 : BlkT W22 V22.heap.size #[(.string an), (.string ad)] 26 := hW22 ▸ BlkT.newAt _ _ _ rfl
          clear hW22
          have HK6 := Lib.hid (fun V (hV : Below W22.heap.size W22 V) => And.intro ((BlkT.keep k9 hV).cell 0) ((BlkT.keep k9 hV).cell 1))
          simp only [List.getElem?_toArray, List.getElem?_cons_succ, List.getElem?_cons_zero] at HK6
          have HEV := Lib.hid (fun V (hV : Below W22.heap.size W22 V) => HE.out.below (hBw22.trans (hV.mono hBw22.size)))
          apply wp_suchC (w0 := W22) #[.string nn, .string ⟨#[49]⟩]
          · go_region_held3 (fun w' => Below W22.heap.size W22 w' ∧ (w'.cell? ⟨V3.heap.size, 0, none⟩ = some (.string an) ∧ w'.cell? ⟨V3.heap.size, 1, none⟩ = some (.string ad)))
              (first | exact ⟨(Below.refl _ _).drew, HK6.out _ (Below.refl _ _).drew⟩ | (have hh := (‹Below W22.heap.size W22 _ ∧ _›).1; have hb := hh.trans (hBq.mono hh.size); exact ⟨hb, HK6.out _ hb⟩) | (have hh := (‹Below W22.heap.size W22 _ ∧ _›).1; have hb := hh.trans (hBr.mono hh.size); exact ⟨hb, HK6.out _ hb⟩) | (have hh := (‹Below W22.heap.size W22 _ ∧ _›).1; exact ⟨hh.alloc hh.size _, HK6.out _ (hh.alloc hh.size _)⟩) | (have hh := (‹Below W22.heap.size W22 _ ∧ _›).1; exact ⟨(hh.setCell (by dsimp only; omega) _).setCell (by dsimp only; omega) _, HK6.out _ ((hh.setCell (by dsimp only; omega) _).setCell (by dsimp only; omega) _)⟩) | (exact ⟨hSr.alloc hSz _, HK6.out _ (hSr.alloc hSz _)⟩) | go_keep)
              (first
                | (go_at_call 25; (with_reducible refine (is_any _ _ _).mono ?_); rintro r wq ⟨rfl, hBq⟩; have hSq := Nat.le_trans (‹Below W22.heap.size W22 _ ∧ _›).1.size hBq.size; have hblk := BlkT.keep (BlkT.newAt (World.drew W22) #[.string ⟨#[]⟩, .string ⟨#[]⟩] 26 (n := W22.heap.size) rfl) hBq)
                | (go_at_call 25; (with_reducible refine (is_any _ _ _).mono ?_); rintro r wq ⟨rfl, hBq⟩; have hSq := Nat.le_trans (‹Below W22.heap.size W22 _ ∧ _›).1.size hBq.size)
                | (go_at_call 27; (with_reducible refine (MU.out _ (HEV.out _ (‹Below W22.heap.size W22 _ ∧ _›).1)).mono ?_); rintro r wr ⟨rfl, hBr⟩; have hSz := Nat.le_trans (‹Below W22.heap.size W22 _ ∧ _›).1.size hBr.size; have hSr := (‹Below W22.heap.size W22 _ ∧ _›).1.trans (hBr.mono (‹Below W22.heap.size W22 _ ∧ _›).1.size); have hblk2 := BlkT.keep hblk hBr; have u0 := hblk2.cell 0; have u1 := hblk2.cell 1; have v0 := hblk2.frozen 0; have v1 := hblk2.frozen 1; simp only [List.getElem?_toArray, List.getElem?_cons_succ, List.getElem?_cons_zero] at u0 u1)
                | (go_at_call 27; (with_reducible refine (MU.out _ (HEV.out _ (‹Below W22.heap.size W22 _ ∧ _›).1)).mono ?_); rintro r wr ⟨rfl, hBr⟩; have hSz := Nat.le_trans (‹Below W22.heap.size W22 _ ∧ _›).1.size hBr.size; have hSr := (‹Below W22.heap.size W22 _ ∧ _›).1.trans (hBr.mono (‹Below W22.heap.size W22 _ ∧ _›).1.size); have hblk2 := BlkT.keep (BlkT.newAt wq #[.string ⟨#[]⟩, .string ⟨#[]⟩] 26 rfl) hBr; have u0 := hblk2.cell 0; have u1 := hblk2.cell 1; have v0 := hblk2.frozen 0; have v1 := hblk2.frozen 1; simp only [List.getElem?_toArray, List.getElem?_cons_succ, List.getElem?_cons_zero] at u0 u1)
                | (go_at_call 27; (with_reducible refine (MU.out _ (HEV.out _ (‹Below W22.heap.size W22 _ ∧ _›).1)).mono ?_); rintro r wr ⟨rfl, hBr⟩; have hSz := Nat.le_trans (‹Below W22.heap.size W22 _ ∧ _›).1.size hBr.size; have hSr := (‹Below W22.heap.size W22 _ ∧ _›).1.trans (hBr.mono (‹Below W22.heap.size W22 _ ∧ _›).1.size); have hblk2 := BlkT.newAt wr #[.string ⟨#[]⟩, .string ⟨#[]⟩] 26 rfl; have u0 := hblk2.cell 0; have u1 := hblk2.cell 1; have v0 := hblk2.frozen 0; have v1 := hblk2.frozen 1; simp only [List.getElem?_toArray, List.getElem?_cons_succ, List.getElem?_cons_zero] at u0 u1))
            all_goals (
              refine NoPanic.normal ?_
              have hh := (‹Below W22.heap.size W22 _ ∧ _›).1
              first
                | (have hz : BlkT _ _ #[.string nn, .string ⟨#[49]⟩] 26 := (hblk2.set 0 (.string nn)).set 1 (.string ⟨#[49]⟩); generalize wr.heap.size = gx at *; exact ⟨rfl, gx, rfl, hh, hz⟩)
                | (have hz : BlkT _ _ #[.string nn, .string ⟨#[49]⟩] 26 := (hblk2.set 0 (.string nn)).set 1 (.string ⟨#[49]⟩); generalize wq.heap.size = gx at *; exact ⟨rfl, gx, rfl, hh, hz⟩)
                | (have hz : BlkT _ _ #[.string nn, .string ⟨#[49]⟩] 26 := (hblk2.set 0 (.string nn)).set 1 (.string ⟨#[49]⟩); obtain ⟨gx, hgx⟩ : ∃ g, wq.heap.size = g := ⟨_, rfl⟩; rw [hgx]; exact ⟨rfl, gx, rfl, hh, by rw [← hgx]; exact hz⟩)
                | (have hz : BlkT (wr.alloc (.cells #[.string nn, .string ⟨#[49]⟩] 26)) wr.heap.size #[.string nn, .string ⟨#[49]⟩] 26 := BlkT.newAt _ _ _ rfl; obtain ⟨gx, hgx⟩ : ∃ g, wr.heap.size = g := ⟨_, rfl⟩; rw [hgx] at hz; rw [hgx]; exact ⟨rfl, gx, rfl, hh, hz⟩)
                | (have hz : BlkT _ _ #[.string nn, .string ⟨#[49]⟩] 26 := (hblk2.set 0 (.string nn)).set 1 (.string ⟨#[49]⟩); exact ⟨rfl, _, rfl, hh, hz⟩)
                | (trace_state; fail))
          rintro g30 W30 ⟨hbw30, k30⟩
          have hBw30 := hBw22.trans (hbw30.mono hBw22.size)
          clear HK6 HEV
          have k6 := BlkT.keep k6 hbw30
          have k9 := BlkT.keep k9 hbw30
          have k11 := BlkT.keep k11 hbw30
          have k15 := BlkT.keep k15 hbw30
          have k17 := BlkT.keep k17 hbw30
          have k19 := k30
          have k11c0 := k11.cell 0
          have k11c1 := k11.cell 1
          have k9c0 := k9.cell 0
          have k9c1 := k9.cell 1
          simp only [List.getElem?_toArray, List.getElem?_cons_succ, List.getElem?_cons_zero] at k11c0 k11c1 k9c0 k9c1
          go_wp2_with fail
          refine (SW.out _ (HE.out.below hBw30)).mono ?_
          rintro r V31 ⟨rfl, hb31⟩
          have hB31 := hBw30.trans (hb31.mono hBw30.size)
          clear k11c0 k11c1 k9c0 k9c1
          have k6 := BlkT.keep k6 hb31
          have k9 := BlkT.keep k9 hb31
          have k11 := BlkT.keep k11 hb31
          have k15 := BlkT.keep k15 hb31
          have k17 := BlkT.keep k17 hb31
          have k19 := BlkT.keep k19 hb31
          go_upto_region 18 with (fail)
          have lk6k21 := Lib.hid k6.lt
          have lk9k21 := Lib.hid k9.lt
          have lk11k21 := Lib.hid k11.lt
          have lk15k21 := Lib.hid k15.lt
          have lk17k21 := Lib.hid k17.lt
          have lk19k21 := Lib.hid k19.lt
          generalize hW31 : World.alloc V31 _ = W31
          have hw31 : Below V31.heap.size V31 W31 := hW31 ▸ (Below.refl _ _).alloc (Nat.le_refl _) _
          have hBw31 := hB31.trans (hw31.mono hB31.size)
          have k6 := BlkT.keep k6 hw31
          have k9 := BlkT.keep k9 hw31
          have k11 := BlkT.keep k11 hw31
          have k15 := BlkT.keep k15 hw31
          have k17 := BlkT.keep k17 hw31
          have k19 := BlkT.keep k19 hw31
          have k21 : BlkT W31 V31.heap.size #[(.string ⟨#[48]⟩), (.string ⟨#[49]⟩)] 26 := hW31 ▸ BlkT.newAt _ _ _ rfl
          clear hW31
          have k9c0 := k9.cell 0
          have k9c1 := k9.cell 1
          have k6c0 := k6.cell 0
          have k6c1 := k6.cell 1
          simp only [List.getElem?_toArray, List.getElem?_cons_succ, List.getElem?_cons_zero] at k9c0 k9c1 k6c0 k6c1
          go_wp2_with fail
          refine (CA.out _ (HE.out.below hBw31)).mono ?_
          rintro r V32 ⟨rfl, hb32⟩
          have hB32 := hBw31.trans (hb32.mono hBw31.size)
          clear k9c0 k9c1 k6c0 k6c1
          have k6 := BlkT.keep k6 hb32
          have k9 := BlkT.keep k9 hb32
          have k11 := BlkT.keep k11 hb32
          have k15 := BlkT.keep k15 hb32
          have k17 := BlkT.keep k17 hb32
          have k19 := BlkT.keep k19 hb32
          have k21 := BlkT.keep k21 hb32
          go_upto_region 19 with (fail)
          go_wp2_with fail
          refine (is_any _ _ _).mono ?_
          rintro r V33 ⟨rfl, hb33⟩
          have hB33 := hB32.trans (hb33.mono hB32.size)
          have k6 := BlkT.keep k6 hb33
          have k9 := BlkT.keep k9 hb33
          have k11 := BlkT.keep k11 hb33
          have k15 := BlkT.keep k15 hb33
          have k17 := BlkT.keep k17 hb33
          have k19 := BlkT.keep k19 hb33
          have k21 := BlkT.keep k21 hb33
          go_upto_region 20 with (fail)
          have lk6k24 := Lib.hid k6.lt
          have lk9k24 := Lib.hid k9.lt
          have lk11k24 := Lib.hid k11.lt
          have lk15k24 := Lib.hid k15.lt
          have lk17k24 := Lib.hid k17.lt
          have lk19k24 := Lib.hid k19.lt
          have lk21k24 := Lib.hid k21.lt
          generalize hW33 : World.alloc V33 _ = W33
          have hw33 : Below V33.heap.size V33 W33 := hW33 ▸ (Below.refl _ _).alloc (Nat.le_refl _) _
          have hBw33 := hB33.trans (hw33.mono hB33.size)
          have k6 := BlkT.keep k6 hw33
          have k9 := BlkT.keep k9 hw33
          have k11 := BlkT.keep k11 hw33
          have k15 := BlkT.keep k15 hw33
          have k17 := BlkT.keep k17 hw33
          have k19 := BlkT.keep k19 hw33
          have k21 := BlkT.keep k21 hw33
          have k24 : BlkT W33 V33.heap.size #[(.string ⟨#[49]⟩), (.string tb)] 26 := hW33 ▸ BlkT.newAt _ _ _ rfl
          clear hW33
          by_cases hk0 : k = 0
          · skip
            obtain rfl := HTZ.out hk0
            have k0b : ((k : Int) == 0) = true := beq_iff_eq.2 (by omega)
            have k0d : decide ((k : Int) = 0) = true := decide_eq_true (by omega)
            clear hk0
            go_wp2_with fail
            refine (is_any _ _ _).mono ?_
            rintro r V34 ⟨rfl, hb34⟩
            have hB34 := hBw33.trans (hb34.mono hBw33.size)
            have k6 := BlkT.keep k6 hb34
            have k9 := BlkT.keep k9 hb34
            have k11 := BlkT.keep k11 hb34
            have k15 := BlkT.keep k15 hb34
            have k17 := BlkT.keep k17 hb34
            have k19 := BlkT.keep k19 hb34
            have k21 := BlkT.keep k21 hb34
            have k24 := BlkT.keep k24 hb34
            have k24c0 := k24.cell 0
            have k24c1 := k24.cell 1
            simp only [List.getElem?_toArray, List.getElem?_cons_succ, List.getElem?_cons_zero] at k24c0 k24c1
            have k24f0 := k24.frozen 0
            have k24f1 := k24.frozen 1
            go_upto_region 22 with (fail)
            clear k24c0 k24c1 k24f0 k24f1
            have k6 : BlkT ((V34.setCell ⟨V33.heap.size, 0, none⟩ (.string ⟨#[49]⟩)).setCell ⟨V33.heap.size, 1, none⟩ (.string ⟨#[49]⟩)) (V2.heap.size) #[(.string rn), (.string rd)] 26 := ((k6.other (a := ⟨V33.heap.size, 0, none⟩) (.string ⟨#[49]⟩) (Nat.ne_of_lt lk6k24.out)).other (a := ⟨V33.heap.size, 1, none⟩) (.string ⟨#[49]⟩) (Nat.ne_of_lt lk6k24.out))
            have k9 : BlkT ((V34.setCell ⟨V33.heap.size, 0, none⟩ (.string ⟨#[49]⟩)).setCell ⟨V33.heap.size, 1, none⟩ (.string ⟨#[49]⟩)) (V3.heap.size) #[(.string an), (.string ad)] 26 := ((k9.other (a := ⟨V33.heap.size, 0, none⟩) (.string ⟨#[49]⟩) (Nat.ne_of_lt lk9k24.out)).other (a := ⟨V33.heap.size, 1, none⟩) (.string ⟨#[49]⟩) (Nat.ne_of_lt lk9k24.out))
            have k11 : BlkT ((V34.setCell ⟨V33.heap.size, 0, none⟩ (.string ⟨#[49]⟩)).setCell ⟨V33.heap.size, 1, none⟩ (.string ⟨#[49]⟩)) (V4.heap.size) #[(.string bn), (.string bd)] 26 := ((k11.other (a := ⟨V33.heap.size, 0, none⟩) (.string ⟨#[49]⟩) (Nat.ne_of_lt lk11k24.out)).other (a := ⟨V33.heap.size, 1, none⟩) (.string ⟨#[49]⟩) (Nat.ne_of_lt lk11k24.out))
            have k15 : BlkT ((V34.setCell ⟨V33.heap.size, 0, none⟩ (.string ⟨#[49]⟩)).setCell ⟨V33.heap.size, 1, none⟩ (.string ⟨#[49]⟩)) (V21.heap.size) #[(.string bn), (.string bd)] 26 := ((k15.other (a := ⟨V33.heap.size, 0, none⟩) (.string ⟨#[49]⟩) (Nat.ne_of_lt lk15k24.out)).other (a := ⟨V33.heap.size, 1, none⟩) (.string ⟨#[49]⟩) (Nat.ne_of_lt lk15k24.out))
            have k17 : BlkT ((V34.setCell ⟨V33.heap.size, 0, none⟩ (.string ⟨#[49]⟩)).setCell ⟨V33.heap.size, 1, none⟩ (.string ⟨#[49]⟩)) (V22.heap.size) #[(.string an), (.string ad)] 26 := ((k17.other (a := ⟨V33.heap.size, 0, none⟩) (.string ⟨#[49]⟩) (Nat.ne_of_lt lk17k24.out)).other (a := ⟨V33.heap.size, 1, none⟩) (.string ⟨#[49]⟩) (Nat.ne_of_lt lk17k24.out))
            have k19 : BlkT ((V34.setCell ⟨V33.heap.size, 0, none⟩ (.string ⟨#[49]⟩)).setCell ⟨V33.heap.size, 1, none⟩ (.string ⟨#[49]⟩)) (g30) #[(.string nn), (.string ⟨#[49]⟩)] 26 := ((k19.other (a := ⟨V33.heap.size, 0, none⟩) (.string ⟨#[49]⟩) (Nat.ne_of_lt lk19k24.out)).other (a := ⟨V33.heap.size, 1, none⟩) (.string ⟨#[49]⟩) (Nat.ne_of_lt lk19k24.out))
            have k21 : BlkT ((V34.setCell ⟨V33.heap.size, 0, none⟩ (.string ⟨#[49]⟩)).setCell ⟨V33.heap.size, 1, none⟩ (.string ⟨#[49]⟩)) (V31.heap.size) #[(.string ⟨#[48]⟩), (.string ⟨#[49]⟩)] 26 := ((k21.other (a := ⟨V33.heap.size, 0, none⟩) (.string ⟨#[49]⟩) (Nat.ne_of_lt lk21k24.out)).other (a := ⟨V33.heap.size, 1, none⟩) (.string ⟨#[49]⟩) (Nat.ne_of_lt lk21k24.out))
            have k24 : BlkT ((V34.setCell ⟨V33.heap.size, 0, none⟩ (.string ⟨#[49]⟩)).setCell ⟨V33.heap.size, 1, none⟩ (.string ⟨#[49]⟩)) (V33.heap.size) #[(.string ⟨#[49]⟩), (.string ⟨#[49]⟩)] 26 := ((k24.set 0 (.string ⟨#[49]⟩)).set 1 (.string ⟨#[49]⟩))
            have hBu34 : Below w.heap.size w ((V34.setCell ⟨V33.heap.size, 0, none⟩ (.string ⟨#[49]⟩)).setCell ⟨V33.heap.size, 1, none⟩ (.string ⟨#[49]⟩)) := ((hB34.setCell (by have := hB33.size; dsimp only; omega) _).setCell (by have := hB33.size; dsimp only; omega) _)
            generalize ((V34.setCell ⟨V33.heap.size, 0, none⟩ (.string ⟨#[49]⟩)).setCell ⟨V33.heap.size, 1, none⟩ (.string ⟨#[49]⟩)) = U34 at *
            go_wp2_with fail
            refine (is_any _ _ _).mono ?_
            rintro r V35 ⟨rfl, hb35⟩
            have hB35 := hBu34.trans (hb35.mono hBu34.size)
            have k6 := BlkT.keep k6 hb35
            have k9 := BlkT.keep k9 hb35
            have k11 := BlkT.keep k11 hb35
            have k15 := BlkT.keep k15 hb35
            have k17 := BlkT.keep k17 hb35
            have k19 := BlkT.keep k19 hb35
            have k21 := BlkT.keep k21 hb35
            have k24 := BlkT.keep k24 hb35
            have k24c0 := k24.cell 0
            have k24c1 := k24.cell 1
            simp only [List.getElem?_toArray, List.getElem?_cons_succ, List.getElem?_cons_zero] at k24c0 k24c1
            have k24f0 := k24.frozen 0
            have k24f1 := k24.frozen 1
            go_upto_region 24 with (fail)
            clear k24c0 k24c1 k24f0 k24f1
            have k6 : BlkT ((V35.setCell ⟨V33.heap.size, 0, none⟩ (.string ⟨#[48]⟩)).setCell ⟨V33.heap.size, 1, none⟩ (.string ⟨#[49]⟩)) (V2.heap.size) #[(.string rn), (.string rd)] 26 := ((k6.other (a := ⟨V33.heap.size, 0, none⟩) (.string ⟨#[48]⟩) (Nat.ne_of_lt lk6k24.out)).other (a := ⟨V33.heap.size, 1, none⟩) (.string ⟨#[49]⟩) (Nat.ne_of_lt lk6k24.out))
            have k9 : BlkT ((V35.setCell ⟨V33.heap.size, 0, none⟩ (.string ⟨#[48]⟩)).setCell ⟨V33.heap.size, 1, none⟩ (.string ⟨#[49]⟩)) (V3.heap.size) #[(.string an), (.string ad)] 26 := ((k9.other (a := ⟨V33.heap.size, 0, none⟩) (.string ⟨#[48]⟩) (Nat.ne_of_lt lk9k24.out)).other (a := ⟨V33.heap.size, 1, none⟩) (.string ⟨#[49]⟩) (Nat.ne_of_lt lk9k24.out))
            have k11 : BlkT ((V35.setCell ⟨V33.heap.size, 0, none⟩ (.string ⟨#[48]⟩)).setCell ⟨V33.heap.size, 1, none⟩ (.string ⟨#[49]⟩)) (V4.heap.size) #[(.string bn), (.string bd)] 26 := ((k11.other (a := ⟨V33.heap.size, 0, none⟩) (.string ⟨#[48]⟩) (Nat.ne_of_lt lk11k24.out)).other (a := ⟨V33.heap.size, 1, none⟩) (.string ⟨#[49]⟩) (Nat.ne_of_lt lk11k24.out))
            have k15 : BlkT ((V35.setCell ⟨V33.heap.size, 0, none⟩ (.string ⟨#[48]⟩)).setCell ⟨V33.heap.size, 1, none⟩ (.string ⟨#[49]⟩)) (V21.heap.size) #[(.string bn), (.string bd)] 26 := ((k15.other (a := ⟨V33.heap.size, 0, none⟩) (.string ⟨#[48]⟩) (Nat.ne_of_lt lk15k24.out)).other (a := ⟨V33.heap.size, 1, none⟩) (.string ⟨#[49]⟩) (Nat.ne_of_lt lk15k24.out))
            have k17 : BlkT ((V35.setCell ⟨V33.heap.size, 0, none⟩ (.string ⟨#[48]⟩)).setCell ⟨V33.heap.size, 1, none⟩ (.string ⟨#[49]⟩)) (V22.heap.size) #[(.string an), (.string ad)] 26 := ((k17.other (a := ⟨V33.heap.size, 0, none⟩) (.string ⟨#[48]⟩) (Nat.ne_of_lt lk17k24.out)).other (a := ⟨V33.heap.size, 1, none⟩) (.string ⟨#[49]⟩) (Nat.ne_of_lt lk17k24.out))
            have k19 : BlkT ((V35.setCell ⟨V33.heap.size, 0, none⟩ (.string ⟨#[48]⟩)).setCell ⟨V33.heap.size, 1, none⟩ (.string ⟨#[49]⟩)) (g30) #[(.string nn), (.string ⟨#[49]⟩)] 26 := ((k19.other (a := ⟨V33.heap.size, 0, none⟩) (.string ⟨#[48]⟩) (Nat.ne_of_lt lk19k24.out)).other (a := ⟨V33.heap.size, 1, none⟩) (.string ⟨#[49]⟩) (Nat.ne_of_lt lk19k24.out))
            have k21 : BlkT ((V35.setCell ⟨V33.heap.size, 0, none⟩ (.string ⟨#[48]⟩)).setCell ⟨V33.heap.size, 1, none⟩ (.string ⟨#[49]⟩)) (V31.heap.size) #[(.string ⟨#[48]⟩), (.string ⟨#[49]⟩)] 26 := ((k21.other (a := ⟨V33.heap.size, 0, none⟩) (.string ⟨#[48]⟩) (Nat.ne_of_lt lk21k24.out)).other (a := ⟨V33.heap.size, 1, none⟩) (.string ⟨#[49]⟩) (Nat.ne_of_lt lk21k24.out))
            have k24 : BlkT ((V35.setCell ⟨V33.heap.size, 0, none⟩ (.string ⟨#[48]⟩)).setCell ⟨V33.heap.size, 1, none⟩ (.string ⟨#[49]⟩)) (V33.heap.size) #[(.string ⟨#[48]⟩), (.string ⟨#[49]⟩)] 26 := ((k24.set 0 (.string ⟨#[48]⟩)).set 1 (.string ⟨#[49]⟩))
            have hBu35 : Below w.heap.size w ((V35.setCell ⟨V33.heap.size, 0, none⟩ (.string ⟨#[48]⟩)).setCell ⟨V33.heap.size, 1, none⟩ (.string ⟨#[49]⟩)) := ((hB35.setCell (by have := hB33.size; dsimp only; omega) _).setCell (by have := hB33.size; dsimp only; omega) _)
            generalize ((V35.setCell ⟨V33.heap.size, 0, none⟩ (.string ⟨#[48]⟩)).setCell ⟨V33.heap.size, 1, none⟩ (.string ⟨#[49]⟩)) = U35 at *
            have k15c0 := k15.cell 0
            have k15c1 := k15.cell 1
            have k11c0 := k11.cell 0
            have k11c1 := k11.cell 1
            have k17c0 := k17.cell 0
            have k17c1 := k17.cell 1
            have k9c0 := k9.cell 0
            have k9c1 := k9.cell 1
            have k19c0 := k19.cell 0
            have k19c1 := k19.cell 1
            have k21c0 := k21.cell 0
            have k21c1 := k21.cell 1
            have k24c0 := k24.cell 0
            have k24c1 := k24.cell 1
            have k6c0 := k6.cell 0
            have k6c1 := k6.cell 1
            simp only [List.getElem?_toArray, List.getElem?_cons_succ, List.getElem?_cons_zero] at k15c0 k15c1 k11c0 k11c1 k17c0 k17c1 k9c0 k9c1 k19c0 k19c1 k21c0 k21c1 k24c0 k24c1 k6c0 k6c1
            go_wp2_with fail
            refine (CB.out _ (HE.out.below hBu35)).mono ?_
            rintro r V36 ⟨rfl, hb36⟩
            have hB36 := hBu35.trans (hb36.mono hBu35.size)
            clear k15c0 k15c1 k11c0 k11c1 k17c0 k17c1 k9c0 k9c1 k19c0 k19c1 k21c0 k21c1 k24c0 k24c1 k6c0 k6c1
            have k6 := BlkT.keep k6 hb36
            have k9 := BlkT.keep k9 hb36
            have k11 := BlkT.keep k11 hb36
            have k15 := BlkT.keep k15 hb36
            have k17 := BlkT.keep k17 hb36
            have k19 := BlkT.keep k19 hb36
            have k21 := BlkT.keep k21 hb36
            have k24 := BlkT.keep k24 hb36
            go_wp2_with fail
            go_ret
            exact ⟨rfl, hB36⟩
          · skip
            have k0b : ((k : Int) == 0) = false := beq_eq_false_iff_ne.2 (by omega)
            have k0d : decide ((k : Int) = 0) = false := decide_eq_false (by omega)
            clear hk0
            go_upto_region 22 with (fail)
            go_wp2_with fail
            refine (is_any _ _ _).mono ?_
            rintro r V34 ⟨rfl, hb34⟩
            have hB34 := hBw33.trans (hb34.mono hBw33.size)
            have k6 := BlkT.keep k6 hb34
            have k9 := BlkT.keep k9 hb34
            have k11 := BlkT.keep k11 hb34
            have k15 := BlkT.keep k15 hb34
            have k17 := BlkT.keep k17 hb34
            have k19 := BlkT.keep k19 hb34
            have k21 := BlkT.keep k21 hb34
            have k24 := BlkT.keep k24 hb34
            have k24c0 := k24.cell 0
            have k24c1 := k24.cell 1
            simp only [List.getElem?_toArray, List.getElem?_cons_succ, List.getElem?_cons_zero] at k24c0 k24c1
            have k24f0 := k24.frozen 0
            have k24f1 := k24.frozen 1
            go_upto_region 24 with (fail)
            clear k24c0 k24c1 k24f0 k24f1
            have k6 : BlkT ((V34.setCell ⟨V33.heap.size, 0, none⟩ (.string ⟨#[48]⟩)).setCell ⟨V33.heap.size, 1, none⟩ (.string ⟨#[49]⟩)) (V2.heap.size) #[(.string rn), (.string rd)] 26 := ((k6.other (a := ⟨V33.heap.size, 0, none⟩) (.string ⟨#[48]⟩) (Nat.ne_of_lt lk6k24.out)).other (a := ⟨V33.heap.size, 1, none⟩) (.string ⟨#[49]⟩) (Nat.ne_of_lt lk6k24.out))
            have k9 : BlkT ((V34.setCell ⟨V33.heap.size, 0, none⟩ (.string ⟨#[48]⟩)).setCell ⟨V33.heap.size, 1, none⟩ (.string ⟨#[49]⟩)) (V3.heap.size) #[(.string an), (.string ad)] 26 := ((k9.other (a := ⟨V33.heap.size, 0, none⟩) (.string ⟨#[48]⟩) (Nat.ne_of_lt lk9k24.out)).other (a := ⟨V33.heap.size, 1, none⟩) (.string ⟨#[49]⟩) (Nat.ne_of_lt lk9k24.out))
            have k11 : BlkT ((V34.setCell ⟨V33.heap.size, 0, none⟩ (.string ⟨#[48]⟩)).setCell ⟨V33.heap.size, 1, none⟩ (.string ⟨#[49]⟩)) (V4.heap.size) #[(.string bn), (.string bd)] 26 := ((k11.other (a := ⟨V33.heap.size, 0, none⟩) (.string ⟨#[48]⟩) (Nat.ne_of_lt lk11k24.out)).other (a := ⟨V33.heap.size, 1, none⟩) (.string ⟨#[49]⟩) (Nat.ne_of_lt lk11k24.out))
            have k15 : BlkT ((V34.setCell ⟨V33.heap.size, 0, none⟩ (.string ⟨#[48]⟩)).setCell ⟨V33.heap.size, 1, none⟩ (.string ⟨#[49]⟩)) (V21.heap.size) #[(.string bn), (.string bd)] 26 := ((k15.other (a := ⟨V33.heap.size, 0, none⟩) (.string ⟨#[48]⟩) (Nat.ne_of_lt lk15k24.out)).other (a := ⟨V33.heap.size, 1, none⟩) (.string ⟨#[49]⟩) (Nat.ne_of_lt lk15k24.out))
            have k17 : BlkT ((V34.setCell ⟨V33.heap.size, 0, none⟩ (.string ⟨#[48]⟩)).setCell ⟨V33.heap.size, 1, none⟩ (.string ⟨#[49]⟩)) (V22.heap.size) #[(.string an), (.string ad)] 26 := ((k17.other (a := ⟨V33.heap.size, 0, none⟩) (.string ⟨#[48]⟩) (Nat.ne_of_lt lk17k24.out)).other (a := ⟨V33.heap.size, 1, none⟩) (.string ⟨#[49]⟩) (Nat.ne_of_lt lk17k24.out))
            have k19 : BlkT ((V34.setCell ⟨V33.heap.size, 0, none⟩ (.string ⟨#[48]⟩)).setCell ⟨V33.heap.size, 1, none⟩ (.string ⟨#[49]⟩)) (g30) #[(.string nn), (.string ⟨#[49]⟩)] 26 := ((k19.other (a := ⟨V33.heap.size, 0, none⟩) (.string ⟨#[48]⟩) (Nat.ne_of_lt lk19k24.out)).other (a := ⟨V33.heap.size, 1, none⟩) (.string ⟨#[49]⟩) (Nat.ne_of_lt lk19k24.out))
            have k21 : BlkT ((V34.setCell ⟨V33.heap.size, 0, none⟩ (.string ⟨#[48]⟩)).setCell ⟨V33.heap.size, 1, none⟩ (.string ⟨#[49]⟩)) (V31.heap.size) #[(.string ⟨#[48]⟩), (.string ⟨#[49]⟩)] 26 := ((k21.other (a := ⟨V33.heap.size, 0, none⟩) (.string ⟨#[48]⟩) (Nat.ne_of_lt lk21k24.out)).other (a := ⟨V33.heap.size, 1, none⟩) (.string ⟨#[49]⟩) (Nat.ne_of_lt lk21k24.out))
            have k24 : BlkT ((V34.setCell ⟨V33.heap.size, 0, none⟩ (.string ⟨#[48]⟩)).setCell ⟨V33.heap.size, 1, none⟩ (.string ⟨#[49]⟩)) (V33.heap.size) #[(.string ⟨#[48]⟩), (.string ⟨#[49]⟩)] 26 := ((k24.set 0 (.string ⟨#[48]⟩)).set 1 (.string ⟨#[49]⟩))
            have hBu34 : Below w.heap.size w ((V34.setCell ⟨V33.heap.size, 0, none⟩ (.string ⟨#[48]⟩)).setCell ⟨V33.heap.size, 1, none⟩ (.string ⟨#[49]⟩)) := ((hB34.setCell (by have := hB33.size; dsimp only; omega) _).setCell (by have := hB33.size; dsimp only; omega) _)
            generalize ((V34.setCell ⟨V33.heap.size, 0, none⟩ (.string ⟨#[48]⟩)).setCell ⟨V33.heap.size, 1, none⟩ (.string ⟨#[49]⟩)) = U34 at *
            have k15c0 := k15.cell 0
            have k15c1 := k15.cell 1
            have k11c0 := k11.cell 0
            have k11c1 := k11.cell 1
            have k17c0 := k17.cell 0
            have k17c1 := k17.cell 1
            have k9c0 := k9.cell 0
            have k9c1 := k9.cell 1
            have k19c0 := k19.cell 0
            have k19c1 := k19.cell 1
            have k21c0 := k21.cell 0
            have k21c1 := k21.cell 1
            have k24c0 := k24.cell 0
            have k24c1 := k24.cell 1
            have k6c0 := k6.cell 0
            have k6c1 := k6.cell 1
            simp only [List.getElem?_toArray, List.getElem?_cons_succ, List.getElem?_cons_zero] at k15c0 k15c1 k11c0 k11c1 k17c0 k17c1 k9c0 k9c1 k19c0 k19c1 k21c0 k21c1 k24c0 k24c1 k6c0 k6c1
            go_wp2_with fail
            refine (CB.out _ (HE.out.below hBu34)).mono ?_
            rintro r V35 ⟨rfl, hb35⟩
            have hB35 := hBu34.trans (hb35.mono hBu34.size)
            clear k15c0 k15c1 k11c0 k11c1 k17c0 k17c1 k9c0 k9c1 k19c0 k19c1 k21c0 k21c1 k24c0 k24c1 k6c0 k6c1
            have k6 := BlkT.keep k6 hb35
            have k9 := BlkT.keep k9 hb35
            have k11 := BlkT.keep k11 hb35
            have k15 := BlkT.keep k15 hb35
            have k17 := BlkT.keep k17 hb35
            have k19 := BlkT.keep k19 hb35
            have k21 := BlkT.keep k21 hb35
            have k24 := BlkT.keep k24 hb35
            go_wp2_with fail
            go_ret
            exact ⟨rfl, hB35⟩
  · have hx := g2 hx
    clear g1 g2
    obtain ⟨hca, hcb, rfl, rfl⟩ := hx
    have z1 : decide (0 < ca) = false := decide_eq_false (by omega)
    have z2 : decide (cb < 0) = false := decide_eq_false (by omega)
    have z3 : (ca == 0) = false := beq_eq_false_iff_ne.2 (by omega)
    have z4 : (cb == 0) = false := beq_eq_false_iff_ne.2 (by omega)
    have z5 : decide (ca = 0) = false := decide_eq_false (by omega)
    have z6 : decide (cb = 0) = false := decide_eq_false (by omega)
    clear hca hcb
    go_wp2_with fail
    refine (PK.out _).mono ?_
    rintro r V ⟨rfl, rfl⟩
    have K6 := Lib.hid k6
    clear k6
    have hz0 := tc_zero
    go_wp2_with fail
    go_loopw [7, 8] (fun u7 u8 wr => ∃ k : Nat, k ≤ p ∧ u7 = .string (tenC k) ∧ u8 = .int .i64 (k : Int) ∧ W2 = wr) (fun _ u8 _ => (p - Go.RowKit.intOf u8).toNat)
    case atStart => exact ⟨0, Nat.zero_le _, by rw [hz0], rfl, rfl⟩
    case round =>
      obtain ⟨k, hk, rfl, rfl, rfl⟩ := hrel
      clear hz0
      by_cases hkn : k < p
      · have hki : (k : Int) < (p : Int) := by omega
        have hw1 : IntKind.i64.wrap ((k : Int) + 1) = ((k + 1 : Nat) : Int) := by rw [IntKind.wrap_i64]; omega
        have hs := tc_size k
        have q1 : ¬ 9223372036854775807 < (tenC k).size + 1 := by omega
        have q2 : ¬ 9223372036854775807 < (tenC k).size + (⟨#[48]⟩ : ByteArray).size := by rw [hs]; show ¬ 9223372036854775807 < k + 1 + 1; omega
        have hs' := tc_succ k
        go_wp2_with fail
        go_roundw
        case rel => exact ⟨k + 1, by omega, by first | rfl | trivial, by first | rfl | trivial, by first | rfl | trivial⟩
        case measure => simp only [Go.RowKit.intOf]; omega
      · have hki : ¬ (k : Int) < (p : Int) := by omega
        have hki2 : decide ((k : Int) < (p : Int)) = false := decide_eq_false hki
        obtain rfl : k = p := by omega
        have k6 := K6.out
        clear K6
        have htz : k = 0 → tenC k = ⟨#[49]⟩ := fun e => by rw [e]; exact tc_zero
        have HTZ := Lib.hid htz
        clear htz hk
        generalize tenC k = tb at *
        have k6c0 := k6.cell 0
        have k6c1 := k6.cell 1
        simp only [List.getElem?_toArray, List.getElem?_cons_succ, List.getElem?_cons_zero] at k6c0 k6c1
        go_wp2_with fail
        refine (DR.out _ (HE.out.below hBw2)).mono ?_
        rintro r V3 ⟨rfl, hb3⟩
        have hB3 := hBw2.trans (hb3.mono hBw2.size)
        clear k6c0 k6c1
        have k6 := BlkT.keep k6 hb3
        go_upto_region 10 with (fail)
        have lk6k9 := Lib.hid k6.lt
        generalize hW3 : World.alloc V3 _ = W3
        have hw3 : Below V3.heap.size V3 W3 := hW3 ▸ (Below.refl _ _).alloc (Nat.le_refl _) _
        have hBw3 := hB3.trans (hw3.mono hB3.size)
        have k6 := BlkT.keep k6 hw3
        have k9 : BlkT W3 V3.heap.size #[(.string an), (.string ad)] 26 := hW3 ▸ BlkT.newAt _ _ _ rfl
        clear hW3
        have k6c0 := k6.cell 0
        have k6c1 := k6.cell 1
        simp only [List.getElem?_toArray, List.getElem?_cons_succ, List.getElem?_cons_zero] at k6c0 k6c1
        go_wp2_with fail
        refine (UR.out _ (HE.out.below hBw3)).mono ?_
        rintro r V4 ⟨rfl, hb4⟩
        have hB4 := hBw3.trans (hb4.mono hBw3.size)
        clear k6c0 k6c1
        have k6 := BlkT.keep k6 hb4
        have k9 := BlkT.keep k9 hb4
        go_upto_region 11 with (fail)
        have lk6k11 := Lib.hid k6.lt
        have lk9k11 := Lib.hid k9.lt
        generalize hW4 : World.alloc V4 _ = W4
        have hw4 : Below V4.heap.size V4 W4 := hW4 ▸ (Below.refl _ _).alloc (Nat.le_refl _) _
        have hBw4 := hB4.trans (hw4.mono hB4.size)
        have k6 := BlkT.keep k6 hw4
        have k9 := BlkT.keep k9 hw4
        have k11 : BlkT W4 V4.heap.size #[(.string bn), (.string bd)] 26 := hW4 ▸ BlkT.newAt _ _ _ rfl
        clear hW4
        have k6c0 := k6.cell 0
        have k6c1 := k6.cell 1
        simp only [List.getElem?_toArray, List.getElem?_cons_succ, List.getElem?_cons_zero] at k6c0 k6c1
        go_wp2_with fail
        refine (MR.out _ (HE.out.below hBw4)).mono ?_
        rintro r V5 ⟨rfl, hb5⟩
        have hB5 := hBw4.trans (hb5.mono hBw4.size)
        clear k6c0 k6c1
        have k6 := BlkT.keep k6 hb5
        have k9 := BlkT.keep k9 hb5
        have k11 := BlkT.keep k11 hb5
        go_wp2_with fail
        refine (DC.out _ (HE.out.below hB5)).mono ?_
        rintro r V6 ⟨rfl, hb6⟩
        have hB6 := hB5.trans (hb6.mono hB5.size)
        have k6 := BlkT.keep k6 hb6
        have k9 := BlkT.keep k9 hb6
        have k11 := BlkT.keep k11 hb6
        go_upto_region 12 with (fail)
        have lk6k13 := Lib.hid k6.lt
        have lk9k13 := Lib.hid k9.lt
        have lk11k13 := Lib.hid k11.lt
        generalize hW6 : World.alloc V6 _ = W6
        have hw6 : Below V6.heap.size V6 W6 := hW6 ▸ (Below.refl _ _).alloc (Nat.le_refl _) _
        have hBw6 := hB6.trans (hw6.mono hB6.size)
        have k6 := BlkT.keep k6 hw6
        have k9 := BlkT.keep k9 hw6
        have k11 := BlkT.keep k11 hw6
        have k13 : BlkT W6 V6.heap.size #[(.string cn), (.string cd)] 26 := hW6 ▸ BlkT.newAt _ _ _ rfl
        clear hW6
        have HKS : Hid (∀ w', Below W6.heap.size W6 w' → w'.cell? ⟨V6.heap.size, 0, none⟩ = some (.string cn) ∧ w'.cell? ⟨V6.heap.size, 1, none⟩ = some (.string cd) ∧ w'.cell? ⟨V4.heap.size, 0, none⟩ = some (.string bn) ∧ w'.cell? ⟨V4.heap.size, 1, none⟩ = some (.string bd) ∧ w'.cell? ⟨V3.heap.size, 0, none⟩ = some (.string an) ∧ w'.cell? ⟨V3.heap.size, 1, none⟩ = some (.string ad) ∧ w'.cell? ⟨V2.heap.size, 0, none⟩ = some (.string rn) ∧ w'.cell? ⟨V2.heap.size, 1, none⟩ = some (.string rd)) := Lib.hid (fun V hV => (And.intro ((BlkT.keep k13 hV).cell 0) (And.intro ((BlkT.keep k13 hV).cell 1) (And.intro ((BlkT.keep k11 hV).cell 0) (And.intro ((BlkT.keep k11 hV).cell 1) (And.intro ((BlkT.keep k9 hV).cell 0) (And.intro ((BlkT.keep k9 hV).cell 1) (And.intro ((BlkT.keep k6 hV).cell 0) ((BlkT.keep k6 hV).cell 1)))))))))
        have HKE := Lib.hid (fun V (hV : Below W6.heap.size W6 V) => HE.out.below (hBw6.trans (hV.mono hBw6.size)))
        go_cut [83] from 56 to 83 (fun c wx => c = .bool false ∧ Below W6.heap.size W6 wx)
        case first =>
          go_region_held3 (fun w' => Below W6.heap.size W6 w' ∧ w'.cell? ⟨V6.heap.size, 0, none⟩ = some (.string cn) ∧ w'.cell? ⟨V6.heap.size, 1, none⟩ = some (.string cd) ∧ w'.cell? ⟨V4.heap.size, 0, none⟩ = some (.string bn) ∧ w'.cell? ⟨V4.heap.size, 1, none⟩ = some (.string bd) ∧ w'.cell? ⟨V3.heap.size, 0, none⟩ = some (.string an) ∧ w'.cell? ⟨V3.heap.size, 1, none⟩ = some (.string ad) ∧ w'.cell? ⟨V2.heap.size, 0, none⟩ = some (.string rn) ∧ w'.cell? ⟨V2.heap.size, 1, none⟩ = some (.string rd))
            (first | exact ⟨(Below.refl _ _).drew, HKS.out _ (Below.refl _ _).drew⟩ | (have hh := (‹Below W6.heap.size W6 _ ∧ _›).1; have hb := hh.trans (hBq.mono hh.size); exact ⟨hb, HKS.out _ hb⟩))
            (first
            | (go_at_call 31; (with_reducible refine (MC.out _ (HKE.out _ (‹Below W6.heap.size W6 _ ∧ _›).1)).mono ?_); rintro r wq ⟨rfl, hBq⟩)
            | (go_at_call 23; (with_reducible refine (CA.out _ (HKE.out _ (‹Below W6.heap.size W6 _ ∧ _›).1)).mono ?_); rintro r wq ⟨rfl, hBq⟩)
            | (go_at_call 23; (with_reducible refine (CB.out _ (HKE.out _ (‹Below W6.heap.size W6 _ ∧ _›).1)).mono ?_); rintro r wq ⟨rfl, hBq⟩))
          all_goals (
            have hh := (‹Below W6.heap.size W6 _ ∧ _›).1
            go_wp2_with fail
            go_meet
            exact ⟨rfl, hh⟩)
        case rest =>
          rename World => V20
          obtain ⟨rfl, hb20⟩ := hcut
          clear HKS HKE
          have hB20 := hBw6.trans (hb20.mono hBw6.size)
          have k6 := BlkT.keep k6 hb20
          have k9 := BlkT.keep k9 hb20
          have k11 := BlkT.keep k11 hb20
          have k13 := BlkT.keep k13 hb20
          go_upto_region 14 with (fail)
          have k11c0 := k11.cell 0
          have k11c1 := k11.cell 1
          simp only [List.getElem?_toArray, List.getElem?_cons_succ, List.getElem?_cons_zero] at k11c0 k11c1
          go_wp2_with fail
          refine (DB.out _ (HE.out.below hB20)).mono ?_
          rintro r V21 ⟨rfl, hb21⟩
          have hB21 := hB20.trans (hb21.mono hB20.size)
          clear k11c0 k11c1
          have k6 := BlkT.keep k6 hb21
          have k9 := BlkT.keep k9 hb21
          have k11 := BlkT.keep k11 hb21
          go_upto_region 15 with (fail)
          have lk6k15 := Lib.hid k6.lt
          have lk9k15 := Lib.hid k9.lt
          have lk11k15 := Lib.hid k11.lt
          generalize hW21 : World.alloc V21 _ = W21
          have hw21 : Below V21.heap.size V21 W21 := hW21 ▸ (Below.refl _ _).alloc (Nat.le_refl _) _
          have hBw21 := hB21.trans (hw21.mono hB21.size)
          have k6 := BlkT.keep k6 hw21
          have k9 := BlkT.keep k9 hw21
          have k11 := BlkT.keep k11 hw21
          have k15 : BlkT W21 V21.heap.size #[(.string bn), (.string bd)] 26 := hW21 ▸ BlkT.newAt _ _ _ rfl
          clear hW21
          have k9c0 := k9.cell 0
          have k9c1 := k9.cell 1
          simp only [List.getElem?_toArray, List.getElem?_cons_succ, List.getElem?_cons_zero] at k9c0 k9c1
          go_wp2_with fail
          refine (UA.out _ (HE.out.below hBw21)).mono ?_
          rintro r V22 ⟨rfl, hb22⟩
          have hB22 := hBw21.trans (hb22.mono hBw21.size)
          clear k9c0 k9c1
          have k6 := BlkT.keep k6 hb22
          have k9 := BlkT.keep k9 hb22
          have k11 := BlkT.keep k11 hb22
          have k15 := BlkT.keep k15 hb22
          go_upto_region 16 with (fail)
          have lk6k17 := Lib.hid k6.lt
          have lk9k17 := Lib.hid k9.lt
          have lk11k17 := Lib.hid k11.lt
          have lk15k17 := Lib.hid k15.lt
          generalize hW22 : World.alloc V22 _ = W22
          have hw22 : Below V22.heap.size V22 W22 := hW22 ▸ (Below.refl _ _).alloc (Nat.le_refl _) _
          have hBw22 := hB22.trans (hw22.mono hB22.size)
          have k6 := BlkT.keep k6 hw22
          have k9 := BlkT.keep k9 hw22
          have k11 := BlkT.keep k11 hw22
          have k15 := BlkT.keep k15 hw22
          have k17 : BlkT W22 V22.heap.size #[(.string an), (.string ad)] 26 := hW22 ▸ BlkT.newAt _ _ _ rfl
          clear hW22
          have HK6 := Lib.hid (fun V (hV : Below W22.heap.size W22 V) => And.intro ((BlkT.keep k9 hV).cell 0) ((BlkT.keep k9 hV).cell 1))
          simp only [List.getElem?_toArray, List.getElem?_cons_succ, List.getElem?_cons_zero] at HK6
          have HEV := Lib.hid (fun V (hV : Below W22.heap.size W22 V) => HE.out.below (hBw22.trans (hV.mono hBw22.size)))
          apply wp_suchC (w0 := W22) #[.string nn, .string ⟨#[49]⟩]
          · go_region_held3 (fun w' => Below W22.heap.size W22 w' ∧ (w'.cell? ⟨V3.heap.size, 0, none⟩ = some (.string an) ∧ w'.cell? ⟨V3.heap.size, 1, none⟩ = some (.string ad)))
              (first | exact ⟨(Below.refl _ _).drew, HK6.out _ (Below.refl _ _).drew⟩ | (have hh := (‹Below W22.heap.size W22 _ ∧ _›).1; have hb := hh.trans (hBq.mono hh.size); exact ⟨hb, HK6.out _ hb⟩) | (have hh := (‹Below W22.heap.size W22 _ ∧ _›).1; have hb := hh.trans (hBr.mono hh.size); exact ⟨hb, HK6.out _ hb⟩) | (have hh := (‹Below W22.heap.size W22 _ ∧ _›).1; exact ⟨hh.alloc hh.size _, HK6.out _ (hh.alloc hh.size _)⟩) | (have hh := (‹Below W22.heap.size W22 _ ∧ _›).1; exact ⟨(hh.setCell (by dsimp only; omega) _).setCell (by dsimp only; omega) _, HK6.out _ ((hh.setCell (by dsimp only; omega) _).setCell (by dsimp only; omega) _)⟩) | (exact ⟨hSr.alloc hSz _, HK6.out _ (hSr.alloc hSz _)⟩) | go_keep)
              (first
                | (go_at_call 25; (with_reducible refine (is_any _ _ _).mono ?_); rintro r wq ⟨rfl, hBq⟩; have hSq := Nat.le_trans (‹Below W22.heap.size W22 _ ∧ _›).1.size hBq.size; have hblk := BlkT.keep (BlkT.newAt (World.drew W22) #[.string ⟨#[]⟩, .string ⟨#[]⟩] 26 (n := W22.heap.size) rfl) hBq)
                | (go_at_call 25; (with_reducible refine (is_any _ _ _).mono ?_); rintro r wq ⟨rfl, hBq⟩; have hSq := Nat.le_trans (‹Below W22.heap.size W22 _ ∧ _›).1.size hBq.size)
                | (go_at_call 27; (with_reducible refine (MU.out _ (HEV.out _ (‹Below W22.heap.size W22 _ ∧ _›).1)).mono ?_); rintro r wr ⟨rfl, hBr⟩; have hSz := Nat.le_trans (‹Below W22.heap.size W22 _ ∧ _›).1.size hBr.size; have hSr := (‹Below W22.heap.size W22 _ ∧ _›).1.trans (hBr.mono (‹Below W22.heap.size W22 _ ∧ _›).1.size); have hblk2 := BlkT.keep hblk hBr; have u0 := hblk2.cell 0; have u1 := hblk2.cell 1; have v0 := hblk2.frozen 0; have v1 := hblk2.frozen 1; simp only [List.getElem?_toArray, List.getElem?_cons_succ, List.getElem?_cons_zero] at u0 u1)
                | (go_at_call 27; (with_reducible refine (MU.out _ (HEV.out _ (‹Below W22.heap.size W22 _ ∧ _›).1)).mono ?_); rintro r wr ⟨rfl, hBr⟩; have hSz := Nat.le_trans (‹Below W22.heap.size W22 _ ∧ _›).1.size hBr.size; have hSr := (‹Below W22.heap.size W22 _ ∧ _›).1.trans (hBr.mono (‹Below W22.heap.size W22 _ ∧ _›).1.size); have hblk2 := BlkT.keep (BlkT.newAt wq #[.string ⟨#[]⟩, .string ⟨#[]⟩] 26 rfl) hBr; have u0 := hblk2.cell 0; have u1 := hblk2.cell 1; have v0 := hblk2.frozen 0; have v1 := hblk2.frozen 1; simp only [List.getElem?_toArray, List.getElem?_cons_succ, List.getElem?_cons_zero] at u0 u1)
                | (go_at_call 27; (with_reducible refine (MU.out _ (HEV.out _ (‹Below W22.heap.size W22 _ ∧ _›).1)).mono ?_); rintro r wr ⟨rfl, hBr⟩; have hSz := Nat.le_trans (‹Below W22.heap.size W22 _ ∧ _›).1.size hBr.size; have hSr := (‹Below W22.heap.size W22 _ ∧ _›).1.trans (hBr.mono (‹Below W22.heap.size W22 _ ∧ _›).1.size); have hblk2 := BlkT.newAt wr #[.string ⟨#[]⟩, .string ⟨#[]⟩] 26 rfl; have u0 := hblk2.cell 0; have u1 := hblk2.cell 1; have v0 := hblk2.frozen 0; have v1 := hblk2.frozen 1; simp only [List.getElem?_toArray, List.getElem?_cons_succ, List.getElem?_cons_zero] at u0 u1))
            all_goals (
              refine NoPanic.normal ?_
              have hh := (‹Below W22.heap.size W22 _ ∧ _›).1
              first
                | (have hz : BlkT _ _ #[.string nn, .string ⟨#[49]⟩] 26 := (hblk2.set 0 (.string nn)).set 1 (.string ⟨#[49]⟩); generalize wr.heap.size = gx at *; exact ⟨rfl, gx, rfl, hh, hz⟩)
                | (have hz : BlkT _ _ #[.string nn, .string ⟨#[49]⟩] 26 := (hblk2.set 0 (.string nn)).set 1 (.string ⟨#[49]⟩); generalize wq.heap.size = gx at *; exact ⟨rfl, gx, rfl, hh, hz⟩)
                | (have hz : BlkT _ _ #[.string nn, .string ⟨#[49]⟩] 26 := (hblk2.set 0 (.string nn)).set 1 (.string ⟨#[49]⟩); obtain ⟨gx, hgx⟩ : ∃ g, wq.heap.size = g := ⟨_, rfl⟩; rw [hgx]; exact ⟨rfl, gx, rfl, hh, by rw [← hgx]; exact hz⟩)
                | (have hz : BlkT (wr.alloc (.cells #[.string nn, .string ⟨#[49]⟩] 26)) wr.heap.size #[.string nn, .string ⟨#[49]⟩] 26 := BlkT.newAt _ _ _ rfl; obtain ⟨gx, hgx⟩ : ∃ g, wr.heap.size = g := ⟨_, rfl⟩; rw [hgx] at hz; rw [hgx]; exact ⟨rfl, gx, rfl, hh, hz⟩)
                | (have hz : BlkT _ _ #[.string nn, .string ⟨#[49]⟩] 26 := (hblk2.set 0 (.string nn)).set 1 (.string ⟨#[49]⟩); exact ⟨rfl, _, rfl, hh, hz⟩)
                | (trace_state; fail))
          rintro g30 W30 ⟨hbw30, k30⟩
          have hBw30 := hBw22.trans (hbw30.mono hBw22.size)
          clear HK6 HEV
          have k6 := BlkT.keep k6 hbw30
          have k9 := BlkT.keep k9 hbw30
          have k11 := BlkT.keep k11 hbw30
          have k15 := BlkT.keep k15 hbw30
          have k17 := BlkT.keep k17 hbw30
          have k19 := k30
          have k11c0 := k11.cell 0
          have k11c1 := k11.cell 1
          have k9c0 := k9.cell 0
          have k9c1 := k9.cell 1
          simp only [List.getElem?_toArray, List.getElem?_cons_succ, List.getElem?_cons_zero] at k11c0 k11c1 k9c0 k9c1
          go_wp2_with fail
          refine (SW.out _ (HE.out.below hBw30)).mono ?_
          rintro r V31 ⟨rfl, hb31⟩
          have hB31 := hBw30.trans (hb31.mono hBw30.size)
          clear k11c0 k11c1 k9c0 k9c1
          have k6 := BlkT.keep k6 hb31
          have k9 := BlkT.keep k9 hb31
          have k11 := BlkT.keep k11 hb31
          have k15 := BlkT.keep k15 hb31
          have k17 := BlkT.keep k17 hb31
          have k19 := BlkT.keep k19 hb31
          go_upto_region 18 with (fail)
          have lk6k21 := Lib.hid k6.lt
          have lk9k21 := Lib.hid k9.lt
          have lk11k21 := Lib.hid k11.lt
          have lk15k21 := Lib.hid k15.lt
          have lk17k21 := Lib.hid k17.lt
          have lk19k21 := Lib.hid k19.lt
          generalize hW31 : World.alloc V31 _ = W31
          have hw31 : Below V31.heap.size V31 W31 := hW31 ▸ (Below.refl _ _).alloc (Nat.le_refl _) _
          have hBw31 := hB31.trans (hw31.mono hB31.size)
          have k6 := BlkT.keep k6 hw31
          have k9 := BlkT.keep k9 hw31
          have k11 := BlkT.keep k11 hw31
          have k15 := BlkT.keep k15 hw31
          have k17 := BlkT.keep k17 hw31
          have k19 := BlkT.keep k19 hw31
          have k21 : BlkT W31 V31.heap.size #[(.string ⟨#[49]⟩), (.string tb)] 26 := hW31 ▸ BlkT.newAt _ _ _ rfl
          clear hW31
          have k9c0 := k9.cell 0
          have k9c1 := k9.cell 1
          have k6c0 := k6.cell 0
          have k6c1 := k6.cell 1
          simp only [List.getElem?_toArray, List.getElem?_cons_succ, List.getElem?_cons_zero] at k9c0 k9c1 k6c0 k6c1
          go_wp2_with fail
          refine (CA.out _ (HE.out.below hBw31)).mono ?_
          rintro r V32 ⟨rfl, hb32⟩
          have hB32 := hBw31.trans (hb32.mono hBw31.size)
          clear k9c0 k9c1 k6c0 k6c1
          have k6 := BlkT.keep k6 hb32
          have k9 := BlkT.keep k9 hb32
          have k11 := BlkT.keep k11 hb32
          have k15 := BlkT.keep k15 hb32
          have k17 := BlkT.keep k17 hb32
          have k19 := BlkT.keep k19 hb32
          have k21 := BlkT.keep k21 hb32
          go_upto_region 19 with (fail)
          go_wp2_with fail
          refine (is_any _ _ _).mono ?_
          rintro r V33 ⟨rfl, hb33⟩
          have hB33 := hB32.trans (hb33.mono hB32.size)
          have k6 := BlkT.keep k6 hb33
          have k9 := BlkT.keep k9 hb33
          have k11 := BlkT.keep k11 hb33
          have k15 := BlkT.keep k15 hb33
          have k17 := BlkT.keep k17 hb33
          have k19 := BlkT.keep k19 hb33
          have k21 := BlkT.keep k21 hb33
          go_upto_region 20 with (fail)
          have lk6k24 := Lib.hid k6.lt
          have lk9k24 := Lib.hid k9.lt
          have lk11k24 := Lib.hid k11.lt
          have lk15k24 := Lib.hid k15.lt
          have lk17k24 := Lib.hid k17.lt
          have lk19k24 := Lib.hid k19.lt
          have lk21k24 := Lib.hid k21.lt
          generalize hW33 : World.alloc V33 _ = W33
          have hw33 : Below V33.heap.size V33 W33 := hW33 ▸ (Below.refl _ _).alloc (Nat.le_refl _) _
          have hBw33 := hB33.trans (hw33.mono hB33.size)
          have k6 := BlkT.keep k6 hw33
          have k9 := BlkT.keep k9 hw33
          have k11 := BlkT.keep k11 hw33
          have k15 := BlkT.keep k15 hw33
          have k17 := BlkT.keep k17 hw33
          have k19 := BlkT.keep k19 hw33
          have k21 := BlkT.keep k21 hw33
          have k24 : BlkT W33 V33.heap.size #[(.string ⟨#[49]⟩), (.string tb)] 26 := hW33 ▸ BlkT.newAt _ _ _ rfl
          clear hW33
          by_cases hk0 : k = 0
          · skip
            obtain rfl := HTZ.out hk0
            have k0b : ((k : Int) == 0) = true := beq_iff_eq.2 (by omega)
            have k0d : decide ((k : Int) = 0) = true := decide_eq_true (by omega)
            clear hk0
            go_wp2_with fail
            refine (is_any _ _ _).mono ?_
            rintro r V34 ⟨rfl, hb34⟩
            have hB34 := hBw33.trans (hb34.mono hBw33.size)
            have k6 := BlkT.keep k6 hb34
            have k9 := BlkT.keep k9 hb34
            have k11 := BlkT.keep k11 hb34
            have k15 := BlkT.keep k15 hb34
            have k17 := BlkT.keep k17 hb34
            have k19 := BlkT.keep k19 hb34
            have k21 := BlkT.keep k21 hb34
            have k24 := BlkT.keep k24 hb34
            have k24c0 := k24.cell 0
            have k24c1 := k24.cell 1
            simp only [List.getElem?_toArray, List.getElem?_cons_succ, List.getElem?_cons_zero] at k24c0 k24c1
            have k24f0 := k24.frozen 0
            have k24f1 := k24.frozen 1
            go_upto_region 22 with (fail)
            clear k24c0 k24c1 k24f0 k24f1
            have k6 : BlkT ((V34.setCell ⟨V33.heap.size, 0, none⟩ (.string ⟨#[49]⟩)).setCell ⟨V33.heap.size, 1, none⟩ (.string ⟨#[49]⟩)) (V2.heap.size) #[(.string rn), (.string rd)] 26 := ((k6.other (a := ⟨V33.heap.size, 0, none⟩) (.string ⟨#[49]⟩) (Nat.ne_of_lt lk6k24.out)).other (a := ⟨V33.heap.size, 1, none⟩) (.string ⟨#[49]⟩) (Nat.ne_of_lt lk6k24.out))
            have k9 : BlkT ((V34.setCell ⟨V33.heap.size, 0, none⟩ (.string ⟨#[49]⟩)).setCell ⟨V33.heap.size, 1, none⟩ (.string ⟨#[49]⟩)) (V3.heap.size) #[(.string an), (.string ad)] 26 := ((k9.other (a := ⟨V33.heap.size, 0, none⟩) (.string ⟨#[49]⟩) (Nat.ne_of_lt lk9k24.out)).other (a := ⟨V33.heap.size, 1, none⟩) (.string ⟨#[49]⟩) (Nat.ne_of_lt lk9k24.out))
            have k11 : BlkT ((V34.setCell ⟨V33.heap.size, 0, none⟩ (.string ⟨#[49]⟩)).setCell ⟨V33.heap.size, 1, none⟩ (.string ⟨#[49]⟩)) (V4.heap.size) #[(.string bn), (.string bd)] 26 := ((k11.other (a := ⟨V33.heap.size, 0, none⟩) (.string ⟨#[49]⟩) (Nat.ne_of_lt lk11k24.out)).other (a := ⟨V33.heap.size, 1, none⟩) (.string ⟨#[49]⟩) (Nat.ne_of_lt lk11k24.out))
            have k15 : BlkT ((V34.setCell ⟨V33.heap.size, 0, none⟩ (.string ⟨#[49]⟩)).setCell ⟨V33.heap.size, 1, none⟩ (.string ⟨#[49]⟩)) (V21.heap.size) #[(.string bn), (.string bd)] 26 := ((k15.other (a := ⟨V33.heap.size, 0, none⟩) (.string ⟨#[49]⟩) (Nat.ne_of_lt lk15k24.out)).other (a := ⟨V33.heap.size, 1, none⟩) (.string ⟨#[49]⟩) (Nat.ne_of_lt lk15k24.out))
            have k17 : BlkT ((V34.setCell ⟨V33.heap.size, 0, none⟩ (.string ⟨#[49]⟩)).setCell ⟨V33.heap.size, 1, none⟩ (.string ⟨#[49]⟩)) (V22.heap.size) #[(.string an), (.string ad)] 26 := ((k17.other (a := ⟨V33.heap.size, 0, none⟩) (.string ⟨#[49]⟩) (Nat.ne_of_lt lk17k24.out)).other (a := ⟨V33.heap.size, 1, none⟩) (.string ⟨#[49]⟩) (Nat.ne_of_lt lk17k24.out))
            have k19 : BlkT ((V34.setCell ⟨V33.heap.size, 0, none⟩ (.string ⟨#[49]⟩)).setCell ⟨V33.heap.size, 1, none⟩ (.string ⟨#[49]⟩)) (g30) #[(.string nn), (.string ⟨#[49]⟩)] 26 := ((k19.other (a := ⟨V33.heap.size, 0, none⟩) (.string ⟨#[49]⟩) (Nat.ne_of_lt lk19k24.out)).other (a := ⟨V33.heap.size, 1, none⟩) (.string ⟨#[49]⟩) (Nat.ne_of_lt lk19k24.out))
            have k21 : BlkT ((V34.setCell ⟨V33.heap.size, 0, none⟩ (.string ⟨#[49]⟩)).setCell ⟨V33.heap.size, 1, none⟩ (.string ⟨#[49]⟩)) (V31.heap.size) #[(.string ⟨#[49]⟩), (.string ⟨#[49]⟩)] 26 := ((k21.other (a := ⟨V33.heap.size, 0, none⟩) (.string ⟨#[49]⟩) (Nat.ne_of_lt lk21k24.out)).other (a := ⟨V33.heap.size, 1, none⟩) (.string ⟨#[49]⟩) (Nat.ne_of_lt lk21k24.out))
            have k24 : BlkT ((V34.setCell ⟨V33.heap.size, 0, none⟩ (.string ⟨#[49]⟩)).setCell ⟨V33.heap.size, 1, none⟩ (.string ⟨#[49]⟩)) (V33.heap.size) #[(.string ⟨#[49]⟩), (.string ⟨#[49]⟩)] 26 := ((k24.set 0 (.string ⟨#[49]⟩)).set 1 (.string ⟨#[49]⟩))
            have hBu34 : Below w.heap.size w ((V34.setCell ⟨V33.heap.size, 0, none⟩ (.string ⟨#[49]⟩)).setCell ⟨V33.heap.size, 1, none⟩ (.string ⟨#[49]⟩)) := ((hB34.setCell (by have := hB33.size; dsimp only; omega) _).setCell (by have := hB33.size; dsimp only; omega) _)
            generalize ((V34.setCell ⟨V33.heap.size, 0, none⟩ (.string ⟨#[49]⟩)).setCell ⟨V33.heap.size, 1, none⟩ (.string ⟨#[49]⟩)) = U34 at *
            go_upto_region 24 with (fail)
            have k15c0 := k15.cell 0
            have k15c1 := k15.cell 1
            have k11c0 := k11.cell 0
            have k11c1 := k11.cell 1
            have k17c0 := k17.cell 0
            have k17c1 := k17.cell 1
            have k9c0 := k9.cell 0
            have k9c1 := k9.cell 1
            have k19c0 := k19.cell 0
            have k19c1 := k19.cell 1
            have k21c0 := k21.cell 0
            have k21c1 := k21.cell 1
            have k24c0 := k24.cell 0
            have k24c1 := k24.cell 1
            have k6c0 := k6.cell 0
            have k6c1 := k6.cell 1
            simp only [List.getElem?_toArray, List.getElem?_cons_succ, List.getElem?_cons_zero] at k15c0 k15c1 k11c0 k11c1 k17c0 k17c1 k9c0 k9c1 k19c0 k19c1 k21c0 k21c1 k24c0 k24c1 k6c0 k6c1
            go_wp2_with fail
            refine (CB.out _ (HE.out.below hBu34)).mono ?_
            rintro r V35 ⟨rfl, hb35⟩
            have hB35 := hBu34.trans (hb35.mono hBu34.size)
            clear k15c0 k15c1 k11c0 k11c1 k17c0 k17c1 k9c0 k9c1 k19c0 k19c1 k21c0 k21c1 k24c0 k24c1 k6c0 k6c1
            have k6 := BlkT.keep k6 hb35
            have k9 := BlkT.keep k9 hb35
            have k11 := BlkT.keep k11 hb35
            have k15 := BlkT.keep k15 hb35
            have k17 := BlkT.keep k17 hb35
            have k19 := BlkT.keep k19 hb35
            have k21 := BlkT.keep k21 hb35
            have k24 := BlkT.keep k24 hb35
            go_wp2_with fail
            go_ret
            exact ⟨rfl, hB35⟩
          · skip
            have k0b : ((k : Int) == 0) = false := beq_eq_false_iff_ne.2 (by omega)
            have k0d : decide ((k : Int) = 0) = false := decide_eq_false (by omega)
            clear hk0
            go_upto_region 22 with (fail)
            go_upto_region 24 with (fail)
            have k15c0 := k15.cell 0
            have k15c1 := k15.cell 1
            have k11c0 := k11.cell 0
            have k11c1 := k11.cell 1
            have k17c0 := k17.cell 0
            have k17c1 := k17.cell 1
            have k9c0 := k9.cell 0
            have k9c1 := k9.cell 1
            have k19c0 := k19.cell 0
            have k19c1 := k19.cell 1
            have k21c0 := k21.cell 0
            have k21c1 := k21.cell 1
            have k24c0 := k24.cell 0
            have k24c1 := k24.cell 1
            have k6c0 := k6.cell 0
            have k6c1 := k6.cell 1
            simp only [List.getElem?_toArray, List.getElem?_cons_succ, List.getElem?_cons_zero] at k15c0 k15c1 k11c0 k11c1 k17c0 k17c1 k9c0 k9c1 k19c0 k19c1 k21c0 k21c1 k24c0 k24c1 k6c0 k6c1
            go_wp2_with fail
            refine (CB.out _ (HE.out.below hBw33)).mono ?_
            rintro r V34 ⟨rfl, hb34⟩
            have hB34 := hBw33.trans (hb34.mono hBw33.size)
            clear k15c0 k15c1 k11c0 k11c1 k17c0 k17c1 k9c0 k9c1 k19c0 k19c1 k21c0 k21c1 k24c0 k24c1 k6c0 k6c1
            have k6 := BlkT.keep k6 hb34
            have k9 := BlkT.keep k9 hb34
            have k11 := BlkT.keep k11 hb34
            have k15 := BlkT.keep k15 hb34
            have k17 := BlkT.keep k17 hb34
            have k19 := BlkT.keep k19 hb34
            have k21 := BlkT.keep k21 hb34
            have k24 := BlkT.keep k24 hb34
            go_wp2_with fail
            go_ret
            exact ⟨rfl, hB34⟩
end Go.Proofs.YtjnpenljgfdaiaaGreatDoor
