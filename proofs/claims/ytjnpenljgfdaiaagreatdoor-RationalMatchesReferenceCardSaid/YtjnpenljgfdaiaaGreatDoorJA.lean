/- package nadirref04, whole: Valid, the operations, Compare, Down, Up, Print, Parse. -/
import Derived.Test.YtjnpenljgfdaiaaGreatDoorNB
import Derived.Test.YtjnpenljgfdaiaaGreatDoorHA
import Derived.Test.YtjnpenljgfdaiaaGreatDoorQ5
/- package rational at the multiples of a grid, in numbers: Down, Up. -/
namespace Go.Proofs.YtjnpenljgfdaiaaGreatDoor
open Go.RowKit Go.Shelf Lib

theorem ten_cast (p : Nat) : N3.ten p = ((10 ^ p : Nat) : Int) := by unfold N3.ten; rw [Int.natCast_pow]; rfl
theorem ten_abs (p : Nat) : (N3.ten p).natAbs < 10 ^ (p + 1) := by
  rw [ten_cast, Int.natAbs_natCast]
  exact Nat.pow_lt_pow_right (by decide) (by omega)
theorem tenS_eq (p : Nat) : tenS p = N3.S (N3.ten p) := bytes_ext (by
  rw [ten_cast, S_ten]
  unfold tenS
  rw [ByteArray.data_append, Array.toList_append, N3.repeat_zero]; rfl)
theorem badP_ok {p : Nat} (h : p ≤ 30) : badP (p : Int) = false := by
  unfold badP
  rw [decide_eq_false (by omega), decide_eq_false (by omega)]; rfl
section
variable {r : Int × Int} (h : Fit r) {a p : Nat} (ha : r.1.natAbs < 10 ^ a) (hp : p ≤ 30) (hap : a + p + 2 ≤ 200)
include h ha hp hap
theorem grid_lim : (r.1 * N3.ten p).natAbs < N3.lim := by
  have _ := h; have _ := hp
  exact N3.lim_of (N3.natAbs_lt (k := a + p + 1) ha (ten_abs p) (by omega)) (by omega)
theorem grid_q : (r.1 * N3.ten p / r.2).natAbs < 10 ^ (a + p + 1) := by
  have _ := h; have _ := hp; have _ := hap
  exact Nat.lt_of_le_of_lt (N3.div_natAbs_le _ _) (N3.natAbs_lt (k := a + p + 1) ha (ten_abs p) (by omega))
theorem grid_q1 : (r.1 * N3.ten p / r.2 + 1).natAbs < 10 ^ (a + p + 2) := by
  have := grid_q h ha hp hap
  rw [Nat.pow_succ _ (a + p + 1)]
  have h1 := Nat.pow_pos (n := a + p + 1) (show 0 < 10 by decide)
  omega
theorem upN_abs : (N3.upN r p).natAbs < 10 ^ (a + p + 2) := by
  unfold N3.upN
  split
  · rw [Int.add_zero]
    exact Nat.lt_of_lt_of_le (grid_q h ha hp hap) (Nat.pow_le_pow_right (by decide) (by omega))
  · exact grid_q1 h ha hp hap
theorem ten_ne : N3.ten p ≠ 0 := by have _ := h; have _ := ha; have _ := hp; have _ := hap; have := N3.ten_pos p; omega
theorem upF_abs : (N3.upF r p).1.natAbs < 10 ^ (a + p + 2) ∧ (N3.upF r p).2.natAbs < 10 ^ (p + 1) :=
  ⟨Nat.lt_of_le_of_lt (mk_natAbs (ten_ne h ha hp hap)).1 (upN_abs h ha hp hap), Nat.lt_of_le_of_lt (mk_natAbs (ten_ne h ha hp hap)).2 (ten_abs p)⟩
theorem downF_abs : (N3.downF r p).1.natAbs < 10 ^ (a + p + 1) ∧ (N3.downF r p).2.natAbs < 10 ^ (p + 1) :=
  ⟨Nat.lt_of_le_of_lt (mk_natAbs (ten_ne h ha hp hap)).1 (grid_q h ha hp hap), Nat.lt_of_le_of_lt (mk_natAbs (ten_ne h ha hp hap)).2 (ten_abs p)⟩
theorem upF_fit : Fit (N3.upF r p) := mk_fit (N3.lim_of (upN_abs h ha hp hap) hap) (N3.lim_of (ten_abs p) (by omega)) (ten_ne h ha hp hap)
theorem downF_fit : Fit (N3.downF r p) := mk_fit (N3.lim_of (grid_q h ha hp hap) (by omega)) (N3.lim_of (ten_abs p) (by omega)) (ten_ne h ha hp hap)
theorem round_S (up : Bool) : roundR (N3.S r.1) (N3.S r.2) (p : Int) up = some (strR (if up = true then N3.upF r p else N3.downF r p)) := by
  have l1 := grid_lim h ha hp hap
  have l2 := N3.lim_of (grid_q h ha hp hap) (by omega)
  have l3 := N3.lim_of (grid_q1 h ha hp hap) hap
  have lt : (N3.ten p).natAbs < N3.lim := N3.lim_of (ten_abs p) (by omega)
  have hd0 := N3.low_ne h.low
  have l4 : (r.1 * N3.ten p % r.2).natAbs < N3.lim := Nat.lt_trans (N3.mod_natAbs_lt hd0) h.den
  have l5 : ((1 : Int)).natAbs < N3.lim := lim1
  unfold roundR
  rw [badP_ok hp, chk_S1 h, if_neg (by decide), Int.toNat_natCast]
  unfold roundG
  rw [tenS_eq]
  simp only [N3.mulO_S h.num lt, N3.outS_some l1, N3.outE_some l1, doS_false, doB_false0, N3.quoO_S l1 h.den hd0, N3.remO_S l1 h.den hd0, N3.outS_some l2, N3.outE_some l2, N3.outS_some l4]
  rw [if_neg (by decide)]
  cases up
  · rw [if_neg (by rintro ⟨h, -⟩; cases h), red_S l2 lt (ten_ne h ha hp hap), if_neg (by decide)]; rfl
  · rw [if_pos rfl]
    by_cases h0 : r.1 * N3.ten p % r.2 = 0
    · rw [if_neg (by rintro ⟨-, hh⟩; exact hh (S_eq48.2 h0)), red_S l2 lt (ten_ne h ha hp hap)]
      unfold N3.upF N3.upN
      rw [if_pos h0, Int.add_zero]
    · rw [if_pos ⟨rfl, fun hh => h0 (S_eq48.1 hh)⟩, ← S_one, N3.addO_S l2 l5, N3.outS_some l3, N3.outE_some l3, doB_false0, red_S l3 lt (ten_ne h ha hp hap)]
      unfold N3.upF N3.upN
      rw [if_neg h0]
theorem down_q (V : World) (hV : EnvR V) : Calls Tryz.prog 29 #[ratV (N3.S r.1) (N3.S r.2), .int .i64 (p : Int)] V fun e w' => e = .returned (.tuple #[ratV (N3.S (N3.downF r p).1) (N3.S (N3.downF r p).2), .int .i64 0]) ∧ Below V.heap.size V w' := by
  have z1 := S_size h.num; have z2 := S_size h.den
  have q := down04 (N3.S r.1) (N3.S r.2) (p : Int) V (by omega) (by omega) hV.env
  rw [round_S h ha hp hap, if_neg (by decide)] at q; exact q
theorem up_q (V : World) (hV : EnvR V) : Calls Tryz.prog 30 #[ratV (N3.S r.1) (N3.S r.2), .int .i64 (p : Int)] V fun e w' => e = .returned (.tuple #[ratV (N3.S (N3.upF r p).1) (N3.S (N3.upF r p).2), .int .i64 0]) ∧ Below V.heap.size V w' := by
  have z1 := S_size h.num; have z2 := S_size h.den
  have q := up04 (N3.S r.1) (N3.S r.2) (p : Int) V (by omega) (by omega) hV.env
  rw [round_S h ha hp hap, if_pos rfl] at q; exact q
end
/-! ### What RationalGrid asks -/
theorem neg_fit {r : Int × Int} (h : Fit r) : Fit (N3.negF r) := ⟨N3.negF_low h.low, by show (-r.1).natAbs < _; rw [Int.natAbs_neg]; exact h.num, h.den⟩
theorem neg_q {r : Int × Int} (h : Fit r) (V : World) (hV : EnvR V) : Calls Tryz.prog 24 #[ratV ⟨#[48]⟩ ⟨#[49]⟩, ratV (N3.S r.1) (N3.S r.2)] V fun e w' => e = .returned (.tuple #[ratV (N3.S (N3.negF r).1) (N3.S (N3.negF r).2), .int .i64 0]) ∧ Below V.heap.size V w' := by
  have q0 : Fit (0, 1) := int_fit lim0
  have q := sub_q q0 h V hV
  have e : subQ (0, 1) r = some (N3.negF r) := by
    have hn : (r.1 * 1).natAbs < N3.lim := by rw [Int.mul_one]; exact h.num
    have h0 : ((0 : Int) * r.2).natAbs < N3.lim := by rw [Int.zero_mul]; exact lim0
    have h1 : ((0 : Int) * r.2 - r.1 * 1).natAbs < N3.lim := by rw [Int.zero_mul, Int.mul_one, Int.zero_sub, Int.natAbs_neg]; exact h.num
    have h2 : ((1 : Int) * r.2).natAbs < N3.lim := by rw [Int.one_mul]; exact h.den
    rw [show subQ (0, 1) r = some (N3.subF (0, 1) r) from if_pos ⟨h0, hn, h1, h2⟩, N3.zero_sub h.low]
  rw [e] at q
  dsimp only [qV, qE] at q
  rw [S_zero, S_one] at q; exact q
theorem grid_mul {r : Int × Int} {p : Nat} : N3.mulF (N3.downF r p) (N3.ten p, 1) = (N3.downN r p, 1) := by
  have ht := N3.ten_pos p
  have hl : N3.Low (N3.ten p, 1) := N3.low_int _
  refine N3.Val.unique ((N3.Val.downF r p).mul (N3.Val.self hl)) (N3.Val.self (N3.low_int _)) ?_
  show N3.downN r p * N3.ten p * 1 = N3.downN r p * (N3.ten p * 1)
  rw [Int.mul_one, Int.mul_one]
end Go.Proofs.YtjnpenljgfdaiaaGreatDoor

/- package nadirref04: Valid, cross, Add, Sub, Mul, Div. -/
namespace Go.Proofs.YtjnpenljgfdaiaaGreatDoor
open Go.RowKit Go.Shelf Lib

theorem fit_of_valid {n d : ByteArray} (h : validR n d = true) : ∃ r : Int × Int, Fit r ∧ n = N3.S r.1 ∧ d = N3.S r.2 := by
  obtain ⟨h1, h2, h3, h4⟩ := valid_parts h
  refine ⟨(N3.iV n, N3.iV d), ⟨⟨h3, ?_⟩, N3.iV_lim h1, N3.iV_lim h2⟩, (N3.S_iV h1).symm, (N3.S_iV h2).symm⟩
  unfold N3.gcdI at h4
  show Nat.gcd (N3.iV n).natAbs (N3.iV d).natAbs = 1
  omega
theorem chk2 (an ad bn bd : ByteArray) : chkL false [(an, ad), (bn, bd)] = !(validR an ad && validR bn bd) := by
  unfold chkL chk
  simp only [List.foldl_cons, List.foldl_nil]
  cases validR an ad <;> cases validR bn bd <;> rfl
theorem doB_t (e : Int) : doB true e = true := rfl
theorem sumR_bad (op : ByteArray → ByteArray → Option Int) {an ad bn bd : ByteArray} (h : (validR an ad && validR bn bd) = false) : sumR op an ad bn bd = none := by
  unfold sumR
  simp only [chk2, h, Bool.not_false, doB_t]
  rfl
theorem mulR_bad {an ad bn bd : ByteArray} (h : (validR an ad && validR bn bd) = false) : mulR an ad bn bd = none := by
  unfold mulR
  simp only [chk2, h, Bool.not_false, doB_t]
  rfl
theorem divR_bad {an ad bn bd : ByteArray} (h : (validR an ad && validR bn bd) = false) : divR an ad bn bd = none := by
  unfold divR
  simp only [chk2, h, Bool.not_false, doB_t]
  rfl
theorem three_new (w : World) (an ad bn bd : ByteArray) : ∃ W, ((w.alloc (.cells #[.string an, .string ad] 26)).alloc (.cells #[.string bn, .string bd] 26)).alloc (.cells #[.string ⟨#[]⟩, .string ⟨#[]⟩] 26) = W ∧
    BlkT W w.heap.size #[.string an, .string ad] 26 ∧ BlkT W (w.heap.size + 1) #[.string bn, .string bd] 26 ∧ BlkT W (w.heap.size + 1 + 1) #[.string ⟨#[]⟩, .string ⟨#[]⟩] 26 ∧ Below w.heap.size w W :=
  ⟨_, rfl, ((BlkT.newAt w _ _ rfl).alloc _).alloc _, (BlkT.newAt _ _ _ (by simp)).alloc _, BlkT.newAt _ _ _ (by simp),
    (((Below.refl _ _).alloc (Nat.le_refl _) _).alloc (by simp) _).alloc (by simp; omega) _⟩

set_option maxRecDepth 100000 in
set_option maxHeartbeats 4000000 in
theorem valid73 (n d : ByteArray) (w : World) (hn : n.size ≤ 1000000) (hd : d.size ≤ 1000000) :
    Calls Tryz.prog 73 #[ratV n d] w fun r w' => r = .returned (.bool (validR n d)) ∧ Below w.heap.size w w' := by
  have VN := Lib.hid (fun V => valid10 n V (by omega))
  have VD := Lib.hid (fun V => valid10 d V (by omega))
  have VC := Lib.hid (fun V => compare10 d ⟨#[48]⟩ V (by omega) (by decide))
  have VG := Lib.hid (fun V => gcd10 n d V (by omega) (by omega))
  obtain ⟨W, hW⟩ : ∃ W, w.alloc (.cells #[.string n, .string d] 26) = W := ⟨_, rfl⟩
  have hb : BlkT W w.heap.size #[.string n, .string d] 26 := hW ▸ BlkT.newAt _ _ _ rfl
  have hB : Below w.heap.size w W := hW ▸ (Below.refl _ _).alloc (Nat.le_refl _) _
  have x0 := hb.cell 0
  have x1 := hb.cell 1
  simp only [List.getElem?_toArray, List.getElem?_cons_succ, List.getElem?_cons_zero] at x0 x1
  clear hn hd
  cases h1 : N3.okS n with
  | false =>
    have e1 : validR n d = false := by unfold validR; rw [h1]; rfl
    rw [e1]
    rw [h1] at VN
    clear h1 e1
    generalize N3.okS d = bd at *
    go_enter Tryz.func73, Tryz.ntmps73
    go_wp2_with (simp only [hW])
    refine (VN.out _).mono ?_
    rintro r V ⟨rfl, rfl⟩
    go_wp2_with fail
    refine (VD.out _).mono ?_
    rintro r V ⟨rfl, rfl⟩
    go_wp2
    go_ret
    exact ⟨rfl, hB⟩
  | true =>
    rw [h1] at VN
    cases h2 : N3.okS d with
    | false =>
      have e1 : validR n d = false := by unfold validR; rw [h1, h2]; rfl
      rw [e1]
      rw [h2] at VD
      clear h1 h2 e1
      go_enter Tryz.func73, Tryz.ntmps73
      go_wp2_with (simp only [hW])
      refine (VN.out _).mono ?_
      rintro r V ⟨rfl, rfl⟩
      go_wp2_with fail
      refine (VD.out _).mono ?_
      rintro r V ⟨rfl, rfl⟩
      go_wp2
      go_ret
      exact ⟨rfl, hB⟩
    | true =>
      rw [h2] at VD
      rw [cmp0 h2] at VC
      obtain ⟨g1, g2⟩ := gcd_out h1 h2
      rw [g1, g2] at VG
      by_cases hp : 0 < N3.iV d
      · have hz : 0 < N3.cmpI (N3.iV d) 0 := by unfold N3.cmpI; (repeat' split) <;> omega
        have hz2 : ¬ N3.cmpI (N3.iV d) 0 ≤ 0 := by omega
        have e1 : validR n d = gcd1 n d := by unfold validR; rw [h1, h2, decide_eq_true hp]; rfl
        have HQ := Lib.hid (S_is1 (x := N3.gcdI (N3.iV n) (N3.iV d)))
        have HG : Hid (gcd1 n d = decide (N3.gcdI (N3.iV n) (N3.iV d) = 1)) := Lib.hid rfl
        rw [e1, HG.out, ← HQ.out]
        clear h1 h2 e1 g1 g2 HQ HG
        generalize N3.cmpI (N3.iV d) 0 = z at *
        generalize N3.S (N3.gcdI (N3.iV n) (N3.iV d)) = sg at *
        go_enter Tryz.func73, Tryz.ntmps73
        go_wp2_with (simp only [hW])
        refine (VN.out _).mono ?_
        rintro r V ⟨rfl, rfl⟩
        go_wp2_with fail
        refine (VD.out _).mono ?_
        rintro r V ⟨rfl, rfl⟩
        go_wp2_with fail
        refine (VC.out _).mono ?_
        rintro r w3 ⟨rfl, hb3⟩
        have hB3 := hB.trans (hb3.mono hB.size)
        have y0 := cell_keep hb3 x0
        have y1 := cell_keep hb3 x1
        clear x0 x1
        go_wp2_with fail
        refine (VG.out _).mono ?_
        rintro r w4 ⟨rfl, hb4⟩
        have hB4 := hB3.trans (hb4.mono hB3.size)
        go_wp2_with fail
        go_ret
        exact ⟨rfl, hB4⟩
      · have hz : N3.cmpI (N3.iV d) 0 ≤ 0 := by unfold N3.cmpI; (repeat' split) <;> omega
        have e1 : validR n d = false := by unfold validR; rw [h1, h2, decide_eq_false hp]; rfl
        rw [e1]
        clear h1 h2 e1 g1 g2
        generalize N3.cmpI (N3.iV d) 0 = z at *
        go_enter Tryz.func73, Tryz.ntmps73
        go_wp2_with (simp only [hW])
        refine (VN.out _).mono ?_
        rintro r V ⟨rfl, rfl⟩
        go_wp2_with fail
        refine (VD.out _).mono ?_
        rintro r V ⟨rfl, rfl⟩
        go_wp2_with fail
        refine (VC.out _).mono ?_
        rintro r w3 ⟨rfl, hb3⟩
        have hB3 := hB.trans (hb3.mono hB.size)
        go_wp2
        go_ret
        exact ⟨rfl, hB3⟩
def fit3 (r s : Int × Int) : Bool := decide ((r.1 * s.2).natAbs < N3.lim) && (decide ((s.1 * r.2).natAbs < N3.lim) && decide ((r.2 * s.2).natAbs < N3.lim))
theorem outE_or (x : Int) : (N3.outE (some x) = 0 ∧ decide (x.natAbs < N3.lim) = true) ∨ (N3.outE (some x) = 30 ∧ decide (x.natAbs < N3.lim) = false) := by
  by_cases h : x.natAbs < N3.lim
  · exact .inl ⟨N3.outE_some h, decide_eq_true h⟩
  · exact .inr ⟨N3.outE_big h, decide_eq_false h⟩
theorem mul10_R {x y : Int} (hx : x.natAbs < N3.lim) (hy : y.natAbs < N3.lim) (V : World) : Calls Tryz.prog 47 #[.string (N3.S x), .string (N3.S y)] V fun e w' => e = .returned (.tuple #[.string (N3.outS (some (x * y))), .int .i64 (N3.outE (some (x * y)))]) ∧ Below V.heap.size V w' := by
  have k := mul10 (N3.S x) (N3.S y) V (by have := S_size hx; omega) (by have := S_size hy; omega)
  rw [N3.mulO_S hx hy] at k; exact k
theorem add10_R {x y : Int} (hx : x.natAbs < N3.lim) (hy : y.natAbs < N3.lim) (V : World) : Calls Tryz.prog 45 #[.string (N3.S x), .string (N3.S y)] V fun e w' => e = .returned (.tuple #[.string (N3.outS (some (x + y))), .int .i64 (N3.outE (some (x + y)))]) ∧ Below V.heap.size V w' := by
  have k := add10 (N3.S x) (N3.S y) V (by have := S_size hx; omega) (by have := S_size hy; omega)
  rw [N3.addO_S hx hy] at k; exact k
theorem sub10_R {x y : Int} (hx : x.natAbs < N3.lim) (hy : y.natAbs < N3.lim) (V : World) : Calls Tryz.prog 46 #[.string (N3.S x), .string (N3.S y)] V fun e w' => e = .returned (.tuple #[.string (N3.outS (some (x - y))), .int .i64 (N3.outE (some (x - y)))]) ∧ Below V.heap.size V w' := by
  have k := sub10 (N3.S x) (N3.S y) V (by have := S_size hx; omega) (by have := S_size hy; omega)
  rw [N3.subO_S hx hy] at k; exact k
theorem valid73_S {r : Int × Int} (h : Fit r) (V : World) : Calls Tryz.prog 73 #[ratV (N3.S r.1) (N3.S r.2)] V fun e w' => e = .returned (.bool true) ∧ Below V.heap.size V w' := by
  have k := valid73 (N3.S r.1) (N3.S r.2) V (by have := S_size h.num; omega) (by have := S_size h.den; omega)
  rw [valid_S h] at k; exact k

set_option maxRecDepth 100000 in
set_option maxHeartbeats 4000000 in
theorem cross107 {r s : Int × Int} (h : Fit r) (k : Fit s) (w : World) :
    Calls Tryz.prog 107 #[ratV (N3.S r.1) (N3.S r.2), ratV (N3.S s.1) (N3.S s.2)] w fun e w' => e = .returned (.tuple #[.string (N3.outS (some (r.1 * s.2))), .string (N3.outS (some (s.1 * r.2))), .string (N3.outS (some (r.2 * s.2))), .bool (fit3 r s)]) ∧ Below w.heap.size w w' := by
  have VR := Lib.hid (fun V => valid73_S h V)
  have VS := Lib.hid (fun V => valid73_S k V)
  have M1 := Lib.hid (fun V => mul10_R h.num k.den V)
  have M2 := Lib.hid (fun V => mul10_R k.num h.den V)
  have M3 := Lib.hid (fun V => mul10_R h.den k.den V)
  have q1 := outE_or (r.1 * s.2)
  have q2 := outE_or (s.1 * r.2)
  have q3 := outE_or (r.2 * s.2)
  unfold fit3
  generalize N3.outE (some (r.1 * s.2)) = e1 at *
  generalize N3.outE (some (s.1 * r.2)) = e2 at *
  generalize N3.outE (some (r.2 * s.2)) = e3 at *
  generalize decide ((r.1 * s.2).natAbs < N3.lim) = d1 at *
  generalize decide ((s.1 * r.2).natAbs < N3.lim) = d2 at *
  generalize decide ((r.2 * s.2).natAbs < N3.lim) = d3 at *
  generalize N3.outS (some (r.1 * s.2)) = o1 at *
  generalize N3.outS (some (s.1 * r.2)) = o2 at *
  generalize N3.outS (some (r.2 * s.2)) = o3 at *
  obtain ⟨W, hW, k1, k2, hBW⟩ := two_rats w (N3.S r.1) (N3.S r.2) (N3.S s.1) (N3.S s.2)
  clear h k
  generalize N3.S r.1 = rn at *
  generalize N3.S r.2 = rd at *
  generalize N3.S s.1 = sn at *
  generalize N3.S s.2 = sd at *
  rcases q1 with ⟨rfl, rfl⟩ | ⟨rfl, rfl⟩
  · rcases q2 with ⟨rfl, rfl⟩ | ⟨rfl, rfl⟩
    · rcases q3 with ⟨rfl, rfl⟩ | ⟨rfl, rfl⟩
      · skip
        go_enter Tryz.func107, Tryz.ntmps107
        have k1c0 := k1.cell 0
        have k1c1 := k1.cell 1
        simp only [List.getElem?_toArray, List.getElem?_cons_succ, List.getElem?_cons_zero] at k1c0 k1c1
        have k2c0 := k2.cell 0
        have k2c1 := k2.cell 1
        simp only [List.getElem?_toArray, List.getElem?_cons_succ, List.getElem?_cons_zero] at k2c0 k2c1
        go_wp2_with (simp only [hW])
        refine (VR.out _).mono ?_
        rintro r V1 ⟨rfl, hb1⟩
        have hB1 := hBW.trans (hb1.mono hBW.size)
        have k1 := BlkT.keep k1 hb1
        have k2 := BlkT.keep k2 hb1
        clear k1c0 k1c1 k2c0 k2c1
        have k2c0 := k2.cell 0
        have k2c1 := k2.cell 1
        simp only [List.getElem?_toArray, List.getElem?_cons_succ, List.getElem?_cons_zero] at k2c0 k2c1
        go_wp2_with fail
        refine (VS.out _).mono ?_
        rintro r V2 ⟨rfl, hb2⟩
        have hB2 := hB1.trans (hb2.mono hB1.size)
        have k1 := BlkT.keep k1 hb2
        have k2 := BlkT.keep k2 hb2
        clear k2c0 k2c1
        have k1c0 := k1.cell 0
        have k1c1 := k1.cell 1
        simp only [List.getElem?_toArray, List.getElem?_cons_succ, List.getElem?_cons_zero] at k1c0 k1c1
        have k2c0 := k2.cell 0
        have k2c1 := k2.cell 1
        simp only [List.getElem?_toArray, List.getElem?_cons_succ, List.getElem?_cons_zero] at k2c0 k2c1
        go_wp2_with fail
        refine (M1.out _).mono ?_
        rintro r V3 ⟨rfl, hb3⟩
        have hB3 := hB2.trans (hb3.mono hB2.size)
        have k1 := BlkT.keep k1 hb3
        have k2 := BlkT.keep k2 hb3
        clear k1c0 k1c1
        clear k2c0 k2c1
        have k1c0 := k1.cell 0
        have k1c1 := k1.cell 1
        simp only [List.getElem?_toArray, List.getElem?_cons_succ, List.getElem?_cons_zero] at k1c0 k1c1
        have k2c0 := k2.cell 0
        have k2c1 := k2.cell 1
        simp only [List.getElem?_toArray, List.getElem?_cons_succ, List.getElem?_cons_zero] at k2c0 k2c1
        go_wp2_with fail
        refine (M2.out _).mono ?_
        rintro r V4 ⟨rfl, hb4⟩
        have hB4 := hB3.trans (hb4.mono hB3.size)
        have k1 := BlkT.keep k1 hb4
        have k2 := BlkT.keep k2 hb4
        clear k1c0 k1c1
        clear k2c0 k2c1
        have k1c0 := k1.cell 0
        have k1c1 := k1.cell 1
        simp only [List.getElem?_toArray, List.getElem?_cons_succ, List.getElem?_cons_zero] at k1c0 k1c1
        have k2c0 := k2.cell 0
        have k2c1 := k2.cell 1
        simp only [List.getElem?_toArray, List.getElem?_cons_succ, List.getElem?_cons_zero] at k2c0 k2c1
        go_wp2_with fail
        refine (M3.out _).mono ?_
        rintro r V5 ⟨rfl, hb5⟩
        have hB5 := hB4.trans (hb5.mono hB4.size)
        have k1 := BlkT.keep k1 hb5
        have k2 := BlkT.keep k2 hb5
        clear k1c0 k1c1
        clear k2c0 k2c1
        go_wp2_with fail
        refine bodyPost_ret (v := .tuple #[.string o1, .string o2, .string o3, .bool true]) (by simp [results, Tryz.results107, go_sem]) rfl ?_
        exact ⟨rfl, hB5⟩
      · skip
        go_enter Tryz.func107, Tryz.ntmps107
        have k1c0 := k1.cell 0
        have k1c1 := k1.cell 1
        simp only [List.getElem?_toArray, List.getElem?_cons_succ, List.getElem?_cons_zero] at k1c0 k1c1
        have k2c0 := k2.cell 0
        have k2c1 := k2.cell 1
        simp only [List.getElem?_toArray, List.getElem?_cons_succ, List.getElem?_cons_zero] at k2c0 k2c1
        go_wp2_with (simp only [hW])
        refine (VR.out _).mono ?_
        rintro r V1 ⟨rfl, hb1⟩
        have hB1 := hBW.trans (hb1.mono hBW.size)
        have k1 := BlkT.keep k1 hb1
        have k2 := BlkT.keep k2 hb1
        clear k1c0 k1c1 k2c0 k2c1
        have k2c0 := k2.cell 0
        have k2c1 := k2.cell 1
        simp only [List.getElem?_toArray, List.getElem?_cons_succ, List.getElem?_cons_zero] at k2c0 k2c1
        go_wp2_with fail
        refine (VS.out _).mono ?_
        rintro r V2 ⟨rfl, hb2⟩
        have hB2 := hB1.trans (hb2.mono hB1.size)
        have k1 := BlkT.keep k1 hb2
        have k2 := BlkT.keep k2 hb2
        clear k2c0 k2c1
        have k1c0 := k1.cell 0
        have k1c1 := k1.cell 1
        simp only [List.getElem?_toArray, List.getElem?_cons_succ, List.getElem?_cons_zero] at k1c0 k1c1
        have k2c0 := k2.cell 0
        have k2c1 := k2.cell 1
        simp only [List.getElem?_toArray, List.getElem?_cons_succ, List.getElem?_cons_zero] at k2c0 k2c1
        go_wp2_with fail
        refine (M1.out _).mono ?_
        rintro r V3 ⟨rfl, hb3⟩
        have hB3 := hB2.trans (hb3.mono hB2.size)
        have k1 := BlkT.keep k1 hb3
        have k2 := BlkT.keep k2 hb3
        clear k1c0 k1c1
        clear k2c0 k2c1
        have k1c0 := k1.cell 0
        have k1c1 := k1.cell 1
        simp only [List.getElem?_toArray, List.getElem?_cons_succ, List.getElem?_cons_zero] at k1c0 k1c1
        have k2c0 := k2.cell 0
        have k2c1 := k2.cell 1
        simp only [List.getElem?_toArray, List.getElem?_cons_succ, List.getElem?_cons_zero] at k2c0 k2c1
        go_wp2_with fail
        refine (M2.out _).mono ?_
        rintro r V4 ⟨rfl, hb4⟩
        have hB4 := hB3.trans (hb4.mono hB3.size)
        have k1 := BlkT.keep k1 hb4
        have k2 := BlkT.keep k2 hb4
        clear k1c0 k1c1
        clear k2c0 k2c1
        have k1c0 := k1.cell 0
        have k1c1 := k1.cell 1
        simp only [List.getElem?_toArray, List.getElem?_cons_succ, List.getElem?_cons_zero] at k1c0 k1c1
        have k2c0 := k2.cell 0
        have k2c1 := k2.cell 1
        simp only [List.getElem?_toArray, List.getElem?_cons_succ, List.getElem?_cons_zero] at k2c0 k2c1
        go_wp2_with fail
        refine (M3.out _).mono ?_
        rintro r V5 ⟨rfl, hb5⟩
        have hB5 := hB4.trans (hb5.mono hB4.size)
        have k1 := BlkT.keep k1 hb5
        have k2 := BlkT.keep k2 hb5
        clear k1c0 k1c1
        clear k2c0 k2c1
        go_wp2_with fail
        refine bodyPost_ret (v := .tuple #[.string o1, .string o2, .string o3, .bool false]) (by simp [results, Tryz.results107, go_sem]) rfl ?_
        exact ⟨rfl, hB5⟩
    · clear q3
      go_enter Tryz.func107, Tryz.ntmps107
      have k1c0 := k1.cell 0
      have k1c1 := k1.cell 1
      simp only [List.getElem?_toArray, List.getElem?_cons_succ, List.getElem?_cons_zero] at k1c0 k1c1
      have k2c0 := k2.cell 0
      have k2c1 := k2.cell 1
      simp only [List.getElem?_toArray, List.getElem?_cons_succ, List.getElem?_cons_zero] at k2c0 k2c1
      go_wp2_with (simp only [hW])
      refine (VR.out _).mono ?_
      rintro r V1 ⟨rfl, hb1⟩
      have hB1 := hBW.trans (hb1.mono hBW.size)
      have k1 := BlkT.keep k1 hb1
      have k2 := BlkT.keep k2 hb1
      clear k1c0 k1c1 k2c0 k2c1
      have k2c0 := k2.cell 0
      have k2c1 := k2.cell 1
      simp only [List.getElem?_toArray, List.getElem?_cons_succ, List.getElem?_cons_zero] at k2c0 k2c1
      go_wp2_with fail
      refine (VS.out _).mono ?_
      rintro r V2 ⟨rfl, hb2⟩
      have hB2 := hB1.trans (hb2.mono hB1.size)
      have k1 := BlkT.keep k1 hb2
      have k2 := BlkT.keep k2 hb2
      clear k2c0 k2c1
      have k1c0 := k1.cell 0
      have k1c1 := k1.cell 1
      simp only [List.getElem?_toArray, List.getElem?_cons_succ, List.getElem?_cons_zero] at k1c0 k1c1
      have k2c0 := k2.cell 0
      have k2c1 := k2.cell 1
      simp only [List.getElem?_toArray, List.getElem?_cons_succ, List.getElem?_cons_zero] at k2c0 k2c1
      go_wp2_with fail
      refine (M1.out _).mono ?_
      rintro r V3 ⟨rfl, hb3⟩
      have hB3 := hB2.trans (hb3.mono hB2.size)
      have k1 := BlkT.keep k1 hb3
      have k2 := BlkT.keep k2 hb3
      clear k1c0 k1c1
      clear k2c0 k2c1
      have k1c0 := k1.cell 0
      have k1c1 := k1.cell 1
      simp only [List.getElem?_toArray, List.getElem?_cons_succ, List.getElem?_cons_zero] at k1c0 k1c1
      have k2c0 := k2.cell 0
      have k2c1 := k2.cell 1
      simp only [List.getElem?_toArray, List.getElem?_cons_succ, List.getElem?_cons_zero] at k2c0 k2c1
      go_wp2_with fail
      refine (M2.out _).mono ?_
      rintro r V4 ⟨rfl, hb4⟩
      have hB4 := hB3.trans (hb4.mono hB3.size)
      have k1 := BlkT.keep k1 hb4
      have k2 := BlkT.keep k2 hb4
      clear k1c0 k1c1
      clear k2c0 k2c1
      have k1c0 := k1.cell 0
      have k1c1 := k1.cell 1
      simp only [List.getElem?_toArray, List.getElem?_cons_succ, List.getElem?_cons_zero] at k1c0 k1c1
      have k2c0 := k2.cell 0
      have k2c1 := k2.cell 1
      simp only [List.getElem?_toArray, List.getElem?_cons_succ, List.getElem?_cons_zero] at k2c0 k2c1
      go_wp2_with fail
      refine (M3.out _).mono ?_
      rintro r V5 ⟨rfl, hb5⟩
      have hB5 := hB4.trans (hb5.mono hB4.size)
      have k1 := BlkT.keep k1 hb5
      have k2 := BlkT.keep k2 hb5
      clear k1c0 k1c1
      clear k2c0 k2c1
      go_wp2_with fail
      refine bodyPost_ret (v := .tuple #[.string o1, .string o2, .string o3, .bool false]) (by simp [results, Tryz.results107, go_sem]) rfl ?_
      exact ⟨rfl, hB5⟩
  · clear q2 q3
    go_enter Tryz.func107, Tryz.ntmps107
    have k1c0 := k1.cell 0
    have k1c1 := k1.cell 1
    simp only [List.getElem?_toArray, List.getElem?_cons_succ, List.getElem?_cons_zero] at k1c0 k1c1
    have k2c0 := k2.cell 0
    have k2c1 := k2.cell 1
    simp only [List.getElem?_toArray, List.getElem?_cons_succ, List.getElem?_cons_zero] at k2c0 k2c1
    go_wp2_with (simp only [hW])
    refine (VR.out _).mono ?_
    rintro r V1 ⟨rfl, hb1⟩
    have hB1 := hBW.trans (hb1.mono hBW.size)
    have k1 := BlkT.keep k1 hb1
    have k2 := BlkT.keep k2 hb1
    clear k1c0 k1c1 k2c0 k2c1
    have k2c0 := k2.cell 0
    have k2c1 := k2.cell 1
    simp only [List.getElem?_toArray, List.getElem?_cons_succ, List.getElem?_cons_zero] at k2c0 k2c1
    go_wp2_with fail
    refine (VS.out _).mono ?_
    rintro r V2 ⟨rfl, hb2⟩
    have hB2 := hB1.trans (hb2.mono hB1.size)
    have k1 := BlkT.keep k1 hb2
    have k2 := BlkT.keep k2 hb2
    clear k2c0 k2c1
    have k1c0 := k1.cell 0
    have k1c1 := k1.cell 1
    simp only [List.getElem?_toArray, List.getElem?_cons_succ, List.getElem?_cons_zero] at k1c0 k1c1
    have k2c0 := k2.cell 0
    have k2c1 := k2.cell 1
    simp only [List.getElem?_toArray, List.getElem?_cons_succ, List.getElem?_cons_zero] at k2c0 k2c1
    go_wp2_with fail
    refine (M1.out _).mono ?_
    rintro r V3 ⟨rfl, hb3⟩
    have hB3 := hB2.trans (hb3.mono hB2.size)
    have k1 := BlkT.keep k1 hb3
    have k2 := BlkT.keep k2 hb3
    clear k1c0 k1c1
    clear k2c0 k2c1
    have k1c0 := k1.cell 0
    have k1c1 := k1.cell 1
    simp only [List.getElem?_toArray, List.getElem?_cons_succ, List.getElem?_cons_zero] at k1c0 k1c1
    have k2c0 := k2.cell 0
    have k2c1 := k2.cell 1
    simp only [List.getElem?_toArray, List.getElem?_cons_succ, List.getElem?_cons_zero] at k2c0 k2c1
    go_wp2_with fail
    refine (M2.out _).mono ?_
    rintro r V4 ⟨rfl, hb4⟩
    have hB4 := hB3.trans (hb4.mono hB3.size)
    have k1 := BlkT.keep k1 hb4
    have k2 := BlkT.keep k2 hb4
    clear k1c0 k1c1
    clear k2c0 k2c1
    have k1c0 := k1.cell 0
    have k1c1 := k1.cell 1
    simp only [List.getElem?_toArray, List.getElem?_cons_succ, List.getElem?_cons_zero] at k1c0 k1c1
    have k2c0 := k2.cell 0
    have k2c1 := k2.cell 1
    simp only [List.getElem?_toArray, List.getElem?_cons_succ, List.getElem?_cons_zero] at k2c0 k2c1
    go_wp2_with fail
    refine (M3.out _).mono ?_
    rintro r V5 ⟨rfl, hb5⟩
    have hB5 := hB4.trans (hb5.mono hB4.size)
    have k1 := BlkT.keep k1 hb5
    have k2 := BlkT.keep k2 hb5
    clear k1c0 k1c1
    clear k2c0 k2c1
    go_wp2_with fail
    refine bodyPost_ret (v := .tuple #[.string o1, .string o2, .string o3, .bool false]) (by simp [results, Tryz.results107, go_sem]) rfl ?_
    exact ⟨rfl, hB5⟩
set_option maxRecDepth 100000 in
set_option maxHeartbeats 4000000 in
theorem cross107_bad (an ad bn bd : ByteArray) (w : World) (s1 : an.size ≤ 1000000) (s2 : ad.size ≤ 1000000) (s3 : bn.size ≤ 1000000) (s4 : bd.size ≤ 1000000) (h : (validR an ad && validR bn bd) = false) :
    Calls Tryz.prog 107 #[ratV an ad, ratV bn bd] w fun e w' => e = .returned (.tuple #[.string ⟨#[]⟩, .string ⟨#[]⟩, .string ⟨#[]⟩, .bool false]) ∧ Below w.heap.size w w' := by
  have VR := Lib.hid (fun V => valid73 an ad V s1 s2)
  have VS := Lib.hid (fun V => valid73 bn bd V s3 s4)
  obtain ⟨W, hW, k1, k2, hBW⟩ := two_rats w an ad bn bd
  have q : validR an ad = false ∨ (validR an ad = true ∧ validR bn bd = false) := by
    cases h1 : validR an ad <;> cases h2 : validR bn bd <;> simp_all
  clear s1 s2 s3 s4 h
  generalize validR an ad = v1 at *
  generalize validR bn bd = v2 at *
  rcases q with rfl | ⟨rfl, rfl⟩
  · skip
    go_enter Tryz.func107, Tryz.ntmps107
    have k1c0 := k1.cell 0
    have k1c1 := k1.cell 1
    simp only [List.getElem?_toArray, List.getElem?_cons_succ, List.getElem?_cons_zero] at k1c0 k1c1
    have k2c0 := k2.cell 0
    have k2c1 := k2.cell 1
    simp only [List.getElem?_toArray, List.getElem?_cons_succ, List.getElem?_cons_zero] at k2c0 k2c1
    go_wp2_with (simp only [hW])
    refine (VR.out _).mono ?_
    rintro r V1 ⟨rfl, hb1⟩
    have hB1 := hBW.trans (hb1.mono hBW.size)
    have k1 := BlkT.keep k1 hb1
    have k2 := BlkT.keep k2 hb1
    clear k1c0 k1c1 k2c0 k2c1
    have k2c0 := k2.cell 0
    have k2c1 := k2.cell 1
    simp only [List.getElem?_toArray, List.getElem?_cons_succ, List.getElem?_cons_zero] at k2c0 k2c1
    go_wp2_with fail
    refine (VS.out _).mono ?_
    rintro r V2 ⟨rfl, hb2⟩
    have hB2 := hB1.trans (hb2.mono hB1.size)
    have k1 := BlkT.keep k1 hb2
    have k2 := BlkT.keep k2 hb2
    clear k2c0 k2c1
    go_wp2_with fail
    refine bodyPost_ret (v := .tuple #[.string ⟨#[]⟩, .string ⟨#[]⟩, .string ⟨#[]⟩, .bool false]) (by simp [results, Tryz.results107, go_sem]) rfl ?_
    exact ⟨rfl, hB2⟩
  · skip
    go_enter Tryz.func107, Tryz.ntmps107
    have k1c0 := k1.cell 0
    have k1c1 := k1.cell 1
    simp only [List.getElem?_toArray, List.getElem?_cons_succ, List.getElem?_cons_zero] at k1c0 k1c1
    have k2c0 := k2.cell 0
    have k2c1 := k2.cell 1
    simp only [List.getElem?_toArray, List.getElem?_cons_succ, List.getElem?_cons_zero] at k2c0 k2c1
    go_wp2_with (simp only [hW])
    refine (VR.out _).mono ?_
    rintro r V1 ⟨rfl, hb1⟩
    have hB1 := hBW.trans (hb1.mono hBW.size)
    have k1 := BlkT.keep k1 hb1
    have k2 := BlkT.keep k2 hb1
    clear k1c0 k1c1 k2c0 k2c1
    have k2c0 := k2.cell 0
    have k2c1 := k2.cell 1
    simp only [List.getElem?_toArray, List.getElem?_cons_succ, List.getElem?_cons_zero] at k2c0 k2c1
    go_wp2_with fail
    refine (VS.out _).mono ?_
    rintro r V2 ⟨rfl, hb2⟩
    have hB2 := hB1.trans (hb2.mono hB1.size)
    have k1 := BlkT.keep k1 hb2
    have k2 := BlkT.keep k2 hb2
    clear k2c0 k2c1
    go_wp2_with fail
    refine bodyPost_ret (v := .tuple #[.string ⟨#[]⟩, .string ⟨#[]⟩, .string ⟨#[]⟩, .bool false]) (by simp [results, Tryz.results107, go_sem]) rfl ?_
    exact ⟨rfl, hB2⟩
set_option maxRecDepth 100000 in
set_option maxHeartbeats 4000000 in
theorem add65_S {r s : Int × Int} (h : Fit r) (k : Fit s) (w : World) :
    Calls Tryz.prog 65 #[ratV (N3.S r.1) (N3.S r.2), ratV (N3.S s.1) (N3.S s.2)] w fun e w' => e = .returned (.tuple #[qV (addQ r s), .int .i64 (qE (addQ r s))]) ∧ Below w.heap.size w w' := by
  have CR := Lib.hid (fun V => cross107 h k V)
  obtain ⟨W, hW, k1, k2, k3, hBW⟩ := three_new w (N3.S r.1) (N3.S r.2) (N3.S s.1) (N3.S s.2)
  by_cases h3 : fit3 r s = true
  · rw [h3] at CR
    unfold fit3 at h3
    rw [Bool.and_eq_true, Bool.and_eq_true, decide_eq_true_eq, decide_eq_true_eq, decide_eq_true_eq] at h3
    obtain ⟨l1, l2, l3⟩ := h3
    rw [N3.outS_some l1, N3.outS_some l2, N3.outS_some l3] at CR
    have AD := Lib.hid (fun V => add10_R l1 l2 V)
    have hd0 : r.2 * s.2 ≠ 0 := Int.mul_ne_zero (N3.low_ne h.low) (N3.low_ne k.low)
    by_cases l4 : (r.1 * s.2 + s.1 * r.2).natAbs < N3.lim
    · skip
      rw [N3.outS_some l4, N3.outE_some l4] at AD
      have MK := Lib.hid (fun V => make72_S l4 l3 hd0 V)
      rw [show addQ r s = some (N3.addF r s) from if_pos ⟨l1, l2, l4, l3⟩]
      dsimp only [qV, qE]
      rw [show N3.mk (r.1 * s.2 + s.1 * r.2) (r.2 * s.2) = N3.addF r s from rfl] at MK
      dsimp only [strR] at MK
      generalize N3.S (N3.addF r s).1 = q1 at *
      generalize N3.S (N3.addF r s).2 = q2 at *
      clear l1 l2 l3 l4 hd0 h k
      generalize N3.S (r.1 * s.2) = m1 at *
      generalize N3.S (s.1 * r.2) = m2 at *
      generalize N3.S (r.2 * s.2) = m3 at *
      generalize N3.S (r.1 * s.2 + s.1 * r.2) = m4 at *
      generalize N3.S r.1 = rn at *
      generalize N3.S r.2 = rd at *
      generalize N3.S s.1 = sn at *
      generalize N3.S s.2 = sd at *
      go_enter Tryz.func65, Tryz.ntmps65
      have k1c0 := k1.cell 0
      have k1c1 := k1.cell 1
      simp only [List.getElem?_toArray, List.getElem?_cons_succ, List.getElem?_cons_zero] at k1c0 k1c1
      have k2c0 := k2.cell 0
      have k2c1 := k2.cell 1
      simp only [List.getElem?_toArray, List.getElem?_cons_succ, List.getElem?_cons_zero] at k2c0 k2c1
      go_wp2_with (simp only [hW])
      refine (CR.out _).mono ?_
      rintro r V1 ⟨rfl, hb1⟩
      have hB1 := hBW.trans (hb1.mono hBW.size)
      have k1 := BlkT.keep k1 hb1
      have k2 := BlkT.keep k2 hb1
      have k3 := BlkT.keep k3 hb1
      clear k1c0 k1c1 k2c0 k2c1
      go_wp2_with fail
      refine (AD.out _).mono ?_
      rintro r V2 ⟨rfl, hb2⟩
      have hB2 := hB1.trans (hb2.mono hB1.size)
      have k1 := BlkT.keep k1 hb2
      have k2 := BlkT.keep k2 hb2
      have k3 := BlkT.keep k3 hb2
      go_wp2_with fail
      refine (MK.out _).mono ?_
      rintro r V3 ⟨rfl, hb3⟩
      have hB3 := hB2.trans (hb3.mono hB2.size)
      have k1 := BlkT.keep k1 hb3
      have k2 := BlkT.keep k2 hb3
      have k3 := BlkT.keep k3 hb3
      have k3c0 := k3.cell 0
      have k3c1 := k3.cell 1
      simp only [List.getElem?_toArray, List.getElem?_cons_succ, List.getElem?_cons_zero] at k3c0 k3c1
      have f0 := k3.frozen 0
      have f1 := k3.frozen 1
      have HK := Lib.hid k3
      go_wp2_with fail
      have hz : BlkT _ _ #[.string q1, .string q2] 26 := (HK.out.set 0 (.string q1)).set 1 (.string q2)
      have z0 := hz.cell 0
      have z1 := hz.cell 1
      simp only [List.getElem?_toArray, List.getElem?_cons_succ, List.getElem?_cons_zero] at z0 z1
      refine bodyPost_ret (v := .tuple #[ratV q1 q2, .int .i64 0]) (by simp [results, Tryz.results65, go_sem, z0, z1]) rfl ?_
      exact ⟨rfl, (hB3.setCell (by dsimp only; omega) _).setCell (by dsimp only; omega) _⟩
    · skip
      rw [N3.outS_big l4, N3.outE_big l4] at AD
      rw [show addQ r s = none from if_neg fun hh => l4 hh.2.2.1]
      dsimp only [qV, qE]
      clear l1 l2 l3 l4 hd0 h k
      generalize N3.S (r.1 * s.2) = m1 at *
      generalize N3.S (s.1 * r.2) = m2 at *
      generalize N3.S (r.2 * s.2) = m3 at *
      generalize N3.S r.1 = rn at *
      generalize N3.S r.2 = rd at *
      generalize N3.S s.1 = sn at *
      generalize N3.S s.2 = sd at *
      go_enter Tryz.func65, Tryz.ntmps65
      have k1c0 := k1.cell 0
      have k1c1 := k1.cell 1
      simp only [List.getElem?_toArray, List.getElem?_cons_succ, List.getElem?_cons_zero] at k1c0 k1c1
      have k2c0 := k2.cell 0
      have k2c1 := k2.cell 1
      simp only [List.getElem?_toArray, List.getElem?_cons_succ, List.getElem?_cons_zero] at k2c0 k2c1
      go_wp2_with (simp only [hW])
      refine (CR.out _).mono ?_
      rintro r V1 ⟨rfl, hb1⟩
      have hB1 := hBW.trans (hb1.mono hBW.size)
      have k1 := BlkT.keep k1 hb1
      have k2 := BlkT.keep k2 hb1
      have k3 := BlkT.keep k3 hb1
      clear k1c0 k1c1 k2c0 k2c1
      go_wp2_with fail
      refine (AD.out _).mono ?_
      rintro r V2 ⟨rfl, hb2⟩
      have hB2 := hB1.trans (hb2.mono hB1.size)
      have k1 := BlkT.keep k1 hb2
      have k2 := BlkT.keep k2 hb2
      have k3 := BlkT.keep k3 hb2
      have k3c0 := k3.cell 0
      have k3c1 := k3.cell 1
      simp only [List.getElem?_toArray, List.getElem?_cons_succ, List.getElem?_cons_zero] at k3c0 k3c1
      have f0 := k3.frozen 0
      have f1 := k3.frozen 1
      have HK := Lib.hid k3
      go_wp2_with fail
      have hz : BlkT _ _ #[.string ⟨#[]⟩, .string ⟨#[]⟩] 26 := (HK.out.set 0 (.string ⟨#[]⟩)).set 1 (.string ⟨#[]⟩)
      have z0 := hz.cell 0
      have z1 := hz.cell 1
      simp only [List.getElem?_toArray, List.getElem?_cons_succ, List.getElem?_cons_zero] at z0 z1
      refine bodyPost_ret (v := .tuple #[ratV ⟨#[]⟩ ⟨#[]⟩, .int .i64 40]) (by simp [results, Tryz.results65, go_sem, z0, z1]) rfl ?_
      exact ⟨rfl, (hB2.setCell (by dsimp only; omega) _).setCell (by dsimp only; omega) _⟩
  · rw [Bool.not_eq_true] at h3
    have hn : addQ r s = none := by
      unfold fit3 at h3
      refine if_neg fun hh => ?_
      rw [decide_eq_true hh.1, decide_eq_true hh.2.1, decide_eq_true hh.2.2.2] at h3
      cases h3
    rw [h3] at CR
    rw [hn]
    dsimp only [qV, qE]
    clear hn h3 h k
    generalize N3.outS (some (r.1 * s.2)) = m1 at *
    generalize N3.outS (some (s.1 * r.2)) = m2 at *
    generalize N3.outS (some (r.2 * s.2)) = m3 at *
    generalize N3.S r.1 = rn at *
    generalize N3.S r.2 = rd at *
    generalize N3.S s.1 = sn at *
    generalize N3.S s.2 = sd at *
    go_enter Tryz.func65, Tryz.ntmps65
    have k1c0 := k1.cell 0
    have k1c1 := k1.cell 1
    simp only [List.getElem?_toArray, List.getElem?_cons_succ, List.getElem?_cons_zero] at k1c0 k1c1
    have k2c0 := k2.cell 0
    have k2c1 := k2.cell 1
    simp only [List.getElem?_toArray, List.getElem?_cons_succ, List.getElem?_cons_zero] at k2c0 k2c1
    go_wp2_with (simp only [hW])
    refine (CR.out _).mono ?_
    rintro r V1 ⟨rfl, hb1⟩
    have hB1 := hBW.trans (hb1.mono hBW.size)
    have k1 := BlkT.keep k1 hb1
    have k2 := BlkT.keep k2 hb1
    have k3 := BlkT.keep k3 hb1
    clear k1c0 k1c1 k2c0 k2c1
    have k3c0 := k3.cell 0
    have k3c1 := k3.cell 1
    simp only [List.getElem?_toArray, List.getElem?_cons_succ, List.getElem?_cons_zero] at k3c0 k3c1
    have f0 := k3.frozen 0
    have f1 := k3.frozen 1
    have HK := Lib.hid k3
    go_wp2_with fail
    have hz : BlkT _ _ #[.string ⟨#[]⟩, .string ⟨#[]⟩] 26 := (HK.out.set 0 (.string ⟨#[]⟩)).set 1 (.string ⟨#[]⟩)
    have z0 := hz.cell 0
    have z1 := hz.cell 1
    simp only [List.getElem?_toArray, List.getElem?_cons_succ, List.getElem?_cons_zero] at z0 z1
    refine bodyPost_ret (v := .tuple #[ratV ⟨#[]⟩ ⟨#[]⟩, .int .i64 40]) (by simp [results, Tryz.results65, go_sem, z0, z1]) rfl ?_
    exact ⟨rfl, (hB1.setCell (by dsimp only; omega) _).setCell (by dsimp only; omega) _⟩
set_option maxRecDepth 100000 in
set_option maxHeartbeats 4000000 in
theorem add65_bad (an ad bn bd : ByteArray) (w : World) (s1 : an.size ≤ 1000000) (s2 : ad.size ≤ 1000000) (s3 : bn.size ≤ 1000000) (s4 : bd.size ≤ 1000000) (h : (validR an ad && validR bn bd) = false) :
    Calls Tryz.prog 65 #[ratV an ad, ratV bn bd] w fun e w' => e = .returned (.tuple #[ratV ⟨#[]⟩ ⟨#[]⟩, .int .i64 40]) ∧ Below w.heap.size w w' := by
  have CR := Lib.hid (fun V => cross107_bad an ad bn bd V s1 s2 s3 s4 h)
  obtain ⟨W, hW, k1, k2, k3, hBW⟩ := three_new w an ad bn bd
  clear s1 s2 s3 s4 h
  go_enter Tryz.func65, Tryz.ntmps65
  have k1c0 := k1.cell 0
  have k1c1 := k1.cell 1
  simp only [List.getElem?_toArray, List.getElem?_cons_succ, List.getElem?_cons_zero] at k1c0 k1c1
  have k2c0 := k2.cell 0
  have k2c1 := k2.cell 1
  simp only [List.getElem?_toArray, List.getElem?_cons_succ, List.getElem?_cons_zero] at k2c0 k2c1
  go_wp2_with (simp only [hW])
  refine (CR.out _).mono ?_
  rintro r V1 ⟨rfl, hb1⟩
  have hB1 := hBW.trans (hb1.mono hBW.size)
  have k1 := BlkT.keep k1 hb1
  have k2 := BlkT.keep k2 hb1
  have k3 := BlkT.keep k3 hb1
  clear k1c0 k1c1 k2c0 k2c1
  have k3c0 := k3.cell 0
  have k3c1 := k3.cell 1
  simp only [List.getElem?_toArray, List.getElem?_cons_succ, List.getElem?_cons_zero] at k3c0 k3c1
  have f0 := k3.frozen 0
  have f1 := k3.frozen 1
  have HK := Lib.hid k3
  go_wp2_with fail
  have hz : BlkT _ _ #[.string ⟨#[]⟩, .string ⟨#[]⟩] 26 := (HK.out.set 0 (.string ⟨#[]⟩)).set 1 (.string ⟨#[]⟩)
  have z0 := hz.cell 0
  have z1 := hz.cell 1
  simp only [List.getElem?_toArray, List.getElem?_cons_succ, List.getElem?_cons_zero] at z0 z1
  refine bodyPost_ret (v := .tuple #[ratV ⟨#[]⟩ ⟨#[]⟩, .int .i64 40]) (by simp [results, Tryz.results65, go_sem, z0, z1]) rfl ?_
  exact ⟨rfl, (hB1.setCell (by dsimp only; omega) _).setCell (by dsimp only; omega) _⟩
theorem add65 (an ad bn bd : ByteArray) (w : World) (s1 : an.size ≤ 1000000) (s2 : ad.size ≤ 1000000) (s3 : bn.size ≤ 1000000) (s4 : bd.size ≤ 1000000) :
    Calls Tryz.prog 65 #[ratV an ad, ratV bn bd] w fun e w' => e = .returned (.tuple #[valR (sumR N3.addO an ad bn bd), .int .i64 (errR (sumR N3.addO an ad bn bd))]) ∧ Below w.heap.size w w' := by
  cases h : (validR an ad && validR bn bd) with
  | false => rw [sumR_bad _ h]; exact add65_bad an ad bn bd w s1 s2 s3 s4 h
  | true =>
    rw [Bool.and_eq_true] at h
    obtain ⟨r, hr, rfl, rfl⟩ := fit_of_valid h.1
    obtain ⟨s, hs, rfl, rfl⟩ := fit_of_valid h.2
    have q := add65_S hr hs w
    rw [addR_S hr hs, qV_if, qE_if]
    exact q
set_option maxRecDepth 100000 in
set_option maxHeartbeats 4000000 in
theorem sub66_S {r s : Int × Int} (h : Fit r) (k : Fit s) (w : World) :
    Calls Tryz.prog 66 #[ratV (N3.S r.1) (N3.S r.2), ratV (N3.S s.1) (N3.S s.2)] w fun e w' => e = .returned (.tuple #[qV (subQ r s), .int .i64 (qE (subQ r s))]) ∧ Below w.heap.size w w' := by
  have CR := Lib.hid (fun V => cross107 h k V)
  obtain ⟨W, hW, k1, k2, k3, hBW⟩ := three_new w (N3.S r.1) (N3.S r.2) (N3.S s.1) (N3.S s.2)
  by_cases h3 : fit3 r s = true
  · rw [h3] at CR
    unfold fit3 at h3
    rw [Bool.and_eq_true, Bool.and_eq_true, decide_eq_true_eq, decide_eq_true_eq, decide_eq_true_eq] at h3
    obtain ⟨l1, l2, l3⟩ := h3
    rw [N3.outS_some l1, N3.outS_some l2, N3.outS_some l3] at CR
    have AD := Lib.hid (fun V => sub10_R l1 l2 V)
    have hd0 : r.2 * s.2 ≠ 0 := Int.mul_ne_zero (N3.low_ne h.low) (N3.low_ne k.low)
    by_cases l4 : (r.1 * s.2 - s.1 * r.2).natAbs < N3.lim
    · skip
      rw [N3.outS_some l4, N3.outE_some l4] at AD
      have MK := Lib.hid (fun V => make72_S l4 l3 hd0 V)
      rw [show subQ r s = some (N3.subF r s) from if_pos ⟨l1, l2, l4, l3⟩]
      dsimp only [qV, qE]
      rw [show N3.mk (r.1 * s.2 - s.1 * r.2) (r.2 * s.2) = N3.subF r s from rfl] at MK
      dsimp only [strR] at MK
      generalize N3.S (N3.subF r s).1 = q1 at *
      generalize N3.S (N3.subF r s).2 = q2 at *
      clear l1 l2 l3 l4 hd0 h k
      generalize N3.S (r.1 * s.2) = m1 at *
      generalize N3.S (s.1 * r.2) = m2 at *
      generalize N3.S (r.2 * s.2) = m3 at *
      generalize N3.S (r.1 * s.2 - s.1 * r.2) = m4 at *
      generalize N3.S r.1 = rn at *
      generalize N3.S r.2 = rd at *
      generalize N3.S s.1 = sn at *
      generalize N3.S s.2 = sd at *
      go_enter Tryz.func66, Tryz.ntmps66
      have k1c0 := k1.cell 0
      have k1c1 := k1.cell 1
      simp only [List.getElem?_toArray, List.getElem?_cons_succ, List.getElem?_cons_zero] at k1c0 k1c1
      have k2c0 := k2.cell 0
      have k2c1 := k2.cell 1
      simp only [List.getElem?_toArray, List.getElem?_cons_succ, List.getElem?_cons_zero] at k2c0 k2c1
      go_wp2_with (simp only [hW])
      refine (CR.out _).mono ?_
      rintro r V1 ⟨rfl, hb1⟩
      have hB1 := hBW.trans (hb1.mono hBW.size)
      have k1 := BlkT.keep k1 hb1
      have k2 := BlkT.keep k2 hb1
      have k3 := BlkT.keep k3 hb1
      clear k1c0 k1c1 k2c0 k2c1
      go_wp2_with fail
      refine (AD.out _).mono ?_
      rintro r V2 ⟨rfl, hb2⟩
      have hB2 := hB1.trans (hb2.mono hB1.size)
      have k1 := BlkT.keep k1 hb2
      have k2 := BlkT.keep k2 hb2
      have k3 := BlkT.keep k3 hb2
      go_wp2_with fail
      refine (MK.out _).mono ?_
      rintro r V3 ⟨rfl, hb3⟩
      have hB3 := hB2.trans (hb3.mono hB2.size)
      have k1 := BlkT.keep k1 hb3
      have k2 := BlkT.keep k2 hb3
      have k3 := BlkT.keep k3 hb3
      have k3c0 := k3.cell 0
      have k3c1 := k3.cell 1
      simp only [List.getElem?_toArray, List.getElem?_cons_succ, List.getElem?_cons_zero] at k3c0 k3c1
      have f0 := k3.frozen 0
      have f1 := k3.frozen 1
      have HK := Lib.hid k3
      go_wp2_with fail
      have hz : BlkT _ _ #[.string q1, .string q2] 26 := (HK.out.set 0 (.string q1)).set 1 (.string q2)
      have z0 := hz.cell 0
      have z1 := hz.cell 1
      simp only [List.getElem?_toArray, List.getElem?_cons_succ, List.getElem?_cons_zero] at z0 z1
      refine bodyPost_ret (v := .tuple #[ratV q1 q2, .int .i64 0]) (by simp [results, Tryz.results66, go_sem, z0, z1]) rfl ?_
      exact ⟨rfl, (hB3.setCell (by dsimp only; omega) _).setCell (by dsimp only; omega) _⟩
    · skip
      rw [N3.outS_big l4, N3.outE_big l4] at AD
      rw [show subQ r s = none from if_neg fun hh => l4 hh.2.2.1]
      dsimp only [qV, qE]
      clear l1 l2 l3 l4 hd0 h k
      generalize N3.S (r.1 * s.2) = m1 at *
      generalize N3.S (s.1 * r.2) = m2 at *
      generalize N3.S (r.2 * s.2) = m3 at *
      generalize N3.S r.1 = rn at *
      generalize N3.S r.2 = rd at *
      generalize N3.S s.1 = sn at *
      generalize N3.S s.2 = sd at *
      go_enter Tryz.func66, Tryz.ntmps66
      have k1c0 := k1.cell 0
      have k1c1 := k1.cell 1
      simp only [List.getElem?_toArray, List.getElem?_cons_succ, List.getElem?_cons_zero] at k1c0 k1c1
      have k2c0 := k2.cell 0
      have k2c1 := k2.cell 1
      simp only [List.getElem?_toArray, List.getElem?_cons_succ, List.getElem?_cons_zero] at k2c0 k2c1
      go_wp2_with (simp only [hW])
      refine (CR.out _).mono ?_
      rintro r V1 ⟨rfl, hb1⟩
      have hB1 := hBW.trans (hb1.mono hBW.size)
      have k1 := BlkT.keep k1 hb1
      have k2 := BlkT.keep k2 hb1
      have k3 := BlkT.keep k3 hb1
      clear k1c0 k1c1 k2c0 k2c1
      go_wp2_with fail
      refine (AD.out _).mono ?_
      rintro r V2 ⟨rfl, hb2⟩
      have hB2 := hB1.trans (hb2.mono hB1.size)
      have k1 := BlkT.keep k1 hb2
      have k2 := BlkT.keep k2 hb2
      have k3 := BlkT.keep k3 hb2
      have k3c0 := k3.cell 0
      have k3c1 := k3.cell 1
      simp only [List.getElem?_toArray, List.getElem?_cons_succ, List.getElem?_cons_zero] at k3c0 k3c1
      have f0 := k3.frozen 0
      have f1 := k3.frozen 1
      have HK := Lib.hid k3
      go_wp2_with fail
      have hz : BlkT _ _ #[.string ⟨#[]⟩, .string ⟨#[]⟩] 26 := (HK.out.set 0 (.string ⟨#[]⟩)).set 1 (.string ⟨#[]⟩)
      have z0 := hz.cell 0
      have z1 := hz.cell 1
      simp only [List.getElem?_toArray, List.getElem?_cons_succ, List.getElem?_cons_zero] at z0 z1
      refine bodyPost_ret (v := .tuple #[ratV ⟨#[]⟩ ⟨#[]⟩, .int .i64 40]) (by simp [results, Tryz.results66, go_sem, z0, z1]) rfl ?_
      exact ⟨rfl, (hB2.setCell (by dsimp only; omega) _).setCell (by dsimp only; omega) _⟩
  · rw [Bool.not_eq_true] at h3
    have hn : subQ r s = none := by
      unfold fit3 at h3
      refine if_neg fun hh => ?_
      rw [decide_eq_true hh.1, decide_eq_true hh.2.1, decide_eq_true hh.2.2.2] at h3
      cases h3
    rw [h3] at CR
    rw [hn]
    dsimp only [qV, qE]
    clear hn h3 h k
    generalize N3.outS (some (r.1 * s.2)) = m1 at *
    generalize N3.outS (some (s.1 * r.2)) = m2 at *
    generalize N3.outS (some (r.2 * s.2)) = m3 at *
    generalize N3.S r.1 = rn at *
    generalize N3.S r.2 = rd at *
    generalize N3.S s.1 = sn at *
    generalize N3.S s.2 = sd at *
    go_enter Tryz.func66, Tryz.ntmps66
    have k1c0 := k1.cell 0
    have k1c1 := k1.cell 1
    simp only [List.getElem?_toArray, List.getElem?_cons_succ, List.getElem?_cons_zero] at k1c0 k1c1
    have k2c0 := k2.cell 0
    have k2c1 := k2.cell 1
    simp only [List.getElem?_toArray, List.getElem?_cons_succ, List.getElem?_cons_zero] at k2c0 k2c1
    go_wp2_with (simp only [hW])
    refine (CR.out _).mono ?_
    rintro r V1 ⟨rfl, hb1⟩
    have hB1 := hBW.trans (hb1.mono hBW.size)
    have k1 := BlkT.keep k1 hb1
    have k2 := BlkT.keep k2 hb1
    have k3 := BlkT.keep k3 hb1
    clear k1c0 k1c1 k2c0 k2c1
    have k3c0 := k3.cell 0
    have k3c1 := k3.cell 1
    simp only [List.getElem?_toArray, List.getElem?_cons_succ, List.getElem?_cons_zero] at k3c0 k3c1
    have f0 := k3.frozen 0
    have f1 := k3.frozen 1
    have HK := Lib.hid k3
    go_wp2_with fail
    have hz : BlkT _ _ #[.string ⟨#[]⟩, .string ⟨#[]⟩] 26 := (HK.out.set 0 (.string ⟨#[]⟩)).set 1 (.string ⟨#[]⟩)
    have z0 := hz.cell 0
    have z1 := hz.cell 1
    simp only [List.getElem?_toArray, List.getElem?_cons_succ, List.getElem?_cons_zero] at z0 z1
    refine bodyPost_ret (v := .tuple #[ratV ⟨#[]⟩ ⟨#[]⟩, .int .i64 40]) (by simp [results, Tryz.results66, go_sem, z0, z1]) rfl ?_
    exact ⟨rfl, (hB1.setCell (by dsimp only; omega) _).setCell (by dsimp only; omega) _⟩
set_option maxRecDepth 100000 in
set_option maxHeartbeats 4000000 in
theorem sub66_bad (an ad bn bd : ByteArray) (w : World) (s1 : an.size ≤ 1000000) (s2 : ad.size ≤ 1000000) (s3 : bn.size ≤ 1000000) (s4 : bd.size ≤ 1000000) (h : (validR an ad && validR bn bd) = false) :
    Calls Tryz.prog 66 #[ratV an ad, ratV bn bd] w fun e w' => e = .returned (.tuple #[ratV ⟨#[]⟩ ⟨#[]⟩, .int .i64 40]) ∧ Below w.heap.size w w' := by
  have CR := Lib.hid (fun V => cross107_bad an ad bn bd V s1 s2 s3 s4 h)
  obtain ⟨W, hW, k1, k2, k3, hBW⟩ := three_new w an ad bn bd
  clear s1 s2 s3 s4 h
  go_enter Tryz.func66, Tryz.ntmps66
  have k1c0 := k1.cell 0
  have k1c1 := k1.cell 1
  simp only [List.getElem?_toArray, List.getElem?_cons_succ, List.getElem?_cons_zero] at k1c0 k1c1
  have k2c0 := k2.cell 0
  have k2c1 := k2.cell 1
  simp only [List.getElem?_toArray, List.getElem?_cons_succ, List.getElem?_cons_zero] at k2c0 k2c1
  go_wp2_with (simp only [hW])
  refine (CR.out _).mono ?_
  rintro r V1 ⟨rfl, hb1⟩
  have hB1 := hBW.trans (hb1.mono hBW.size)
  have k1 := BlkT.keep k1 hb1
  have k2 := BlkT.keep k2 hb1
  have k3 := BlkT.keep k3 hb1
  clear k1c0 k1c1 k2c0 k2c1
  have k3c0 := k3.cell 0
  have k3c1 := k3.cell 1
  simp only [List.getElem?_toArray, List.getElem?_cons_succ, List.getElem?_cons_zero] at k3c0 k3c1
  have f0 := k3.frozen 0
  have f1 := k3.frozen 1
  have HK := Lib.hid k3
  go_wp2_with fail
  have hz : BlkT _ _ #[.string ⟨#[]⟩, .string ⟨#[]⟩] 26 := (HK.out.set 0 (.string ⟨#[]⟩)).set 1 (.string ⟨#[]⟩)
  have z0 := hz.cell 0
  have z1 := hz.cell 1
  simp only [List.getElem?_toArray, List.getElem?_cons_succ, List.getElem?_cons_zero] at z0 z1
  refine bodyPost_ret (v := .tuple #[ratV ⟨#[]⟩ ⟨#[]⟩, .int .i64 40]) (by simp [results, Tryz.results66, go_sem, z0, z1]) rfl ?_
  exact ⟨rfl, (hB1.setCell (by dsimp only; omega) _).setCell (by dsimp only; omega) _⟩
theorem sub66 (an ad bn bd : ByteArray) (w : World) (s1 : an.size ≤ 1000000) (s2 : ad.size ≤ 1000000) (s3 : bn.size ≤ 1000000) (s4 : bd.size ≤ 1000000) :
    Calls Tryz.prog 66 #[ratV an ad, ratV bn bd] w fun e w' => e = .returned (.tuple #[valR (sumR N3.subO an ad bn bd), .int .i64 (errR (sumR N3.subO an ad bn bd))]) ∧ Below w.heap.size w w' := by
  cases h : (validR an ad && validR bn bd) with
  | false => rw [sumR_bad _ h]; exact sub66_bad an ad bn bd w s1 s2 s3 s4 h
  | true =>
    rw [Bool.and_eq_true] at h
    obtain ⟨r, hr, rfl, rfl⟩ := fit_of_valid h.1
    obtain ⟨s, hs, rfl, rfl⟩ := fit_of_valid h.2
    have q := sub66_S hr hs w
    rw [subR_S hr hs, qV_if, qE_if]
    exact q
set_option maxRecDepth 100000 in
set_option maxHeartbeats 4000000 in
theorem mul67_S {r s : Int × Int} (h : Fit r) (k : Fit s) (w : World) :
    Calls Tryz.prog 67 #[ratV (N3.S r.1) (N3.S r.2), ratV (N3.S s.1) (N3.S s.2)] w fun e w' => e = .returned (.tuple #[qV (mulQ r s), .int .i64 (qE (mulQ r s))]) ∧ Below w.heap.size w w' := by
  have VR := Lib.hid (fun V => valid73_S h V)
  have VS := Lib.hid (fun V => valid73_S k V)
  have M1 := Lib.hid (fun V => mul10_R h.num k.num V)
  have M2 := Lib.hid (fun V => mul10_R h.den k.den V)
  obtain ⟨W, hW, k1, k2, k3, hBW⟩ := three_new w (N3.S r.1) (N3.S r.2) (N3.S s.1) (N3.S s.2)
  by_cases l1 : (r.1 * s.1).natAbs < N3.lim
  · by_cases l2 : (r.2 * s.2).natAbs < N3.lim
    · skip
      rw [N3.outS_some l1, N3.outE_some l1] at M1
      rw [N3.outS_some l2, N3.outE_some l2] at M2
      have hd0 : r.2 * s.2 ≠ 0 := Int.mul_ne_zero (N3.low_ne h.low) (N3.low_ne k.low)
      rw [show mulQ r s = some (N3.mulF r s) from if_pos ⟨l1, l2⟩]
      have MK := Lib.hid (fun V => make72_S l1 l2 hd0 V)
      rw [show N3.mk (r.1 * s.1) (r.2 * s.2) = N3.mulF r s from rfl] at MK
      dsimp only [strR] at MK
      dsimp only [qV, qE]
      generalize N3.S (N3.mulF r s).1 = q1 at *
      generalize N3.S (N3.mulF r s).2 = q2 at *
      clear l1 l2 hd0
      generalize N3.S (r.1 * s.1) = m1 at *
      generalize N3.S (r.2 * s.2) = m2 at *
      clear h k
      generalize N3.S r.1 = rn at *
      generalize N3.S r.2 = rd at *
      generalize N3.S s.1 = sn at *
      generalize N3.S s.2 = sd at *
      go_enter Tryz.func67, Tryz.ntmps67
      have k1c0 := k1.cell 0
      have k1c1 := k1.cell 1
      simp only [List.getElem?_toArray, List.getElem?_cons_succ, List.getElem?_cons_zero] at k1c0 k1c1
      have k2c0 := k2.cell 0
      have k2c1 := k2.cell 1
      simp only [List.getElem?_toArray, List.getElem?_cons_succ, List.getElem?_cons_zero] at k2c0 k2c1
      go_wp2_with (simp only [hW])
      refine (VR.out _).mono ?_
      rintro r V1 ⟨rfl, hb1⟩
      have hB1 := hBW.trans (hb1.mono hBW.size)
      have k1 := BlkT.keep k1 hb1
      have k2 := BlkT.keep k2 hb1
      have k3 := BlkT.keep k3 hb1
      clear k1c0 k1c1 k2c0 k2c1
      have k2c0 := k2.cell 0
      have k2c1 := k2.cell 1
      simp only [List.getElem?_toArray, List.getElem?_cons_succ, List.getElem?_cons_zero] at k2c0 k2c1
      go_wp2_with fail
      refine (VS.out _).mono ?_
      rintro r V2 ⟨rfl, hb2⟩
      have hB2 := hB1.trans (hb2.mono hB1.size)
      have k1 := BlkT.keep k1 hb2
      have k2 := BlkT.keep k2 hb2
      have k3 := BlkT.keep k3 hb2
      clear k2c0 k2c1
      have k1c0 := k1.cell 0
      have k1c1 := k1.cell 1
      simp only [List.getElem?_toArray, List.getElem?_cons_succ, List.getElem?_cons_zero] at k1c0 k1c1
      have k2c0 := k2.cell 0
      have k2c1 := k2.cell 1
      simp only [List.getElem?_toArray, List.getElem?_cons_succ, List.getElem?_cons_zero] at k2c0 k2c1
      go_wp2_with fail
      refine (M1.out _).mono ?_
      rintro r V3 ⟨rfl, hb3⟩
      have hB3 := hB2.trans (hb3.mono hB2.size)
      have k1 := BlkT.keep k1 hb3
      have k2 := BlkT.keep k2 hb3
      have k3 := BlkT.keep k3 hb3
      clear k1c0 k1c1
      clear k2c0 k2c1
      have k1c0 := k1.cell 0
      have k1c1 := k1.cell 1
      simp only [List.getElem?_toArray, List.getElem?_cons_succ, List.getElem?_cons_zero] at k1c0 k1c1
      have k2c0 := k2.cell 0
      have k2c1 := k2.cell 1
      simp only [List.getElem?_toArray, List.getElem?_cons_succ, List.getElem?_cons_zero] at k2c0 k2c1
      go_wp2_with fail
      refine (M2.out _).mono ?_
      rintro r V4 ⟨rfl, hb4⟩
      have hB4 := hB3.trans (hb4.mono hB3.size)
      have k1 := BlkT.keep k1 hb4
      have k2 := BlkT.keep k2 hb4
      have k3 := BlkT.keep k3 hb4
      clear k1c0 k1c1
      clear k2c0 k2c1
      go_wp2_with fail
      refine (MK.out _).mono ?_
      rintro r V5 ⟨rfl, hb5⟩
      have hB5 := hB4.trans (hb5.mono hB4.size)
      have k1 := BlkT.keep k1 hb5
      have k2 := BlkT.keep k2 hb5
      have k3 := BlkT.keep k3 hb5
      have k3c0 := k3.cell 0
      have k3c1 := k3.cell 1
      simp only [List.getElem?_toArray, List.getElem?_cons_succ, List.getElem?_cons_zero] at k3c0 k3c1
      have f0 := k3.frozen 0
      have f1 := k3.frozen 1
      have HK := Lib.hid k3
      go_wp2_with fail
      have hz : BlkT _ _ #[.string q1, .string q2] 26 := (HK.out.set 0 (.string q1)).set 1 (.string q2)
      have z0 := hz.cell 0
      have z1 := hz.cell 1
      simp only [List.getElem?_toArray, List.getElem?_cons_succ, List.getElem?_cons_zero] at z0 z1
      refine bodyPost_ret (v := .tuple #[ratV q1 q2, .int .i64 0]) (by simp [results, Tryz.results67, go_sem, z0, z1]) rfl ?_
      exact ⟨rfl, (hB5.setCell (by dsimp only; omega) _).setCell (by dsimp only; omega) _⟩
    · skip
      rw [N3.outS_some l1, N3.outE_some l1] at M1
      rw [N3.outS_big l2, N3.outE_big l2] at M2
      rw [show mulQ r s = none from if_neg fun hh => l2 hh.2]
      dsimp only [qV, qE]
      clear l1 l2
      generalize N3.S (r.1 * s.1) = m1 at *
      clear h k
      generalize N3.S r.1 = rn at *
      generalize N3.S r.2 = rd at *
      generalize N3.S s.1 = sn at *
      generalize N3.S s.2 = sd at *
      go_enter Tryz.func67, Tryz.ntmps67
      have k1c0 := k1.cell 0
      have k1c1 := k1.cell 1
      simp only [List.getElem?_toArray, List.getElem?_cons_succ, List.getElem?_cons_zero] at k1c0 k1c1
      have k2c0 := k2.cell 0
      have k2c1 := k2.cell 1
      simp only [List.getElem?_toArray, List.getElem?_cons_succ, List.getElem?_cons_zero] at k2c0 k2c1
      go_wp2_with (simp only [hW])
      refine (VR.out _).mono ?_
      rintro r V1 ⟨rfl, hb1⟩
      have hB1 := hBW.trans (hb1.mono hBW.size)
      have k1 := BlkT.keep k1 hb1
      have k2 := BlkT.keep k2 hb1
      have k3 := BlkT.keep k3 hb1
      clear k1c0 k1c1 k2c0 k2c1
      have k2c0 := k2.cell 0
      have k2c1 := k2.cell 1
      simp only [List.getElem?_toArray, List.getElem?_cons_succ, List.getElem?_cons_zero] at k2c0 k2c1
      go_wp2_with fail
      refine (VS.out _).mono ?_
      rintro r V2 ⟨rfl, hb2⟩
      have hB2 := hB1.trans (hb2.mono hB1.size)
      have k1 := BlkT.keep k1 hb2
      have k2 := BlkT.keep k2 hb2
      have k3 := BlkT.keep k3 hb2
      clear k2c0 k2c1
      have k1c0 := k1.cell 0
      have k1c1 := k1.cell 1
      simp only [List.getElem?_toArray, List.getElem?_cons_succ, List.getElem?_cons_zero] at k1c0 k1c1
      have k2c0 := k2.cell 0
      have k2c1 := k2.cell 1
      simp only [List.getElem?_toArray, List.getElem?_cons_succ, List.getElem?_cons_zero] at k2c0 k2c1
      go_wp2_with fail
      refine (M1.out _).mono ?_
      rintro r V3 ⟨rfl, hb3⟩
      have hB3 := hB2.trans (hb3.mono hB2.size)
      have k1 := BlkT.keep k1 hb3
      have k2 := BlkT.keep k2 hb3
      have k3 := BlkT.keep k3 hb3
      clear k1c0 k1c1
      clear k2c0 k2c1
      have k1c0 := k1.cell 0
      have k1c1 := k1.cell 1
      simp only [List.getElem?_toArray, List.getElem?_cons_succ, List.getElem?_cons_zero] at k1c0 k1c1
      have k2c0 := k2.cell 0
      have k2c1 := k2.cell 1
      simp only [List.getElem?_toArray, List.getElem?_cons_succ, List.getElem?_cons_zero] at k2c0 k2c1
      go_wp2_with fail
      refine (M2.out _).mono ?_
      rintro r V4 ⟨rfl, hb4⟩
      have hB4 := hB3.trans (hb4.mono hB3.size)
      have k1 := BlkT.keep k1 hb4
      have k2 := BlkT.keep k2 hb4
      have k3 := BlkT.keep k3 hb4
      clear k1c0 k1c1
      clear k2c0 k2c1
      have k3c0 := k3.cell 0
      have k3c1 := k3.cell 1
      simp only [List.getElem?_toArray, List.getElem?_cons_succ, List.getElem?_cons_zero] at k3c0 k3c1
      have f0 := k3.frozen 0
      have f1 := k3.frozen 1
      have HK := Lib.hid k3
      go_wp2_with fail
      have hz : BlkT _ _ #[.string ⟨#[]⟩, .string ⟨#[]⟩] 26 := (HK.out.set 0 (.string ⟨#[]⟩)).set 1 (.string ⟨#[]⟩)
      have z0 := hz.cell 0
      have z1 := hz.cell 1
      simp only [List.getElem?_toArray, List.getElem?_cons_succ, List.getElem?_cons_zero] at z0 z1
      refine bodyPost_ret (v := .tuple #[ratV ⟨#[]⟩ ⟨#[]⟩, .int .i64 40]) (by simp [results, Tryz.results67, go_sem, z0, z1]) rfl ?_
      exact ⟨rfl, (hB4.setCell (by dsimp only; omega) _).setCell (by dsimp only; omega) _⟩
  · skip
    rw [N3.outS_big l1, N3.outE_big l1] at M1
    rw [show mulQ r s = none from if_neg fun hh => l1 hh.1]
    dsimp only [qV, qE]
    clear l1
    generalize N3.outS (some (r.2 * s.2)) = m2 at *
    generalize N3.outE (some (r.2 * s.2)) = e2 at *
    clear h k
    generalize N3.S r.1 = rn at *
    generalize N3.S r.2 = rd at *
    generalize N3.S s.1 = sn at *
    generalize N3.S s.2 = sd at *
    go_enter Tryz.func67, Tryz.ntmps67
    have k1c0 := k1.cell 0
    have k1c1 := k1.cell 1
    simp only [List.getElem?_toArray, List.getElem?_cons_succ, List.getElem?_cons_zero] at k1c0 k1c1
    have k2c0 := k2.cell 0
    have k2c1 := k2.cell 1
    simp only [List.getElem?_toArray, List.getElem?_cons_succ, List.getElem?_cons_zero] at k2c0 k2c1
    go_wp2_with (simp only [hW])
    refine (VR.out _).mono ?_
    rintro r V1 ⟨rfl, hb1⟩
    have hB1 := hBW.trans (hb1.mono hBW.size)
    have k1 := BlkT.keep k1 hb1
    have k2 := BlkT.keep k2 hb1
    have k3 := BlkT.keep k3 hb1
    clear k1c0 k1c1 k2c0 k2c1
    have k2c0 := k2.cell 0
    have k2c1 := k2.cell 1
    simp only [List.getElem?_toArray, List.getElem?_cons_succ, List.getElem?_cons_zero] at k2c0 k2c1
    go_wp2_with fail
    refine (VS.out _).mono ?_
    rintro r V2 ⟨rfl, hb2⟩
    have hB2 := hB1.trans (hb2.mono hB1.size)
    have k1 := BlkT.keep k1 hb2
    have k2 := BlkT.keep k2 hb2
    have k3 := BlkT.keep k3 hb2
    clear k2c0 k2c1
    have k1c0 := k1.cell 0
    have k1c1 := k1.cell 1
    simp only [List.getElem?_toArray, List.getElem?_cons_succ, List.getElem?_cons_zero] at k1c0 k1c1
    have k2c0 := k2.cell 0
    have k2c1 := k2.cell 1
    simp only [List.getElem?_toArray, List.getElem?_cons_succ, List.getElem?_cons_zero] at k2c0 k2c1
    go_wp2_with fail
    refine (M1.out _).mono ?_
    rintro r V3 ⟨rfl, hb3⟩
    have hB3 := hB2.trans (hb3.mono hB2.size)
    have k1 := BlkT.keep k1 hb3
    have k2 := BlkT.keep k2 hb3
    have k3 := BlkT.keep k3 hb3
    clear k1c0 k1c1
    clear k2c0 k2c1
    have k1c0 := k1.cell 0
    have k1c1 := k1.cell 1
    simp only [List.getElem?_toArray, List.getElem?_cons_succ, List.getElem?_cons_zero] at k1c0 k1c1
    have k2c0 := k2.cell 0
    have k2c1 := k2.cell 1
    simp only [List.getElem?_toArray, List.getElem?_cons_succ, List.getElem?_cons_zero] at k2c0 k2c1
    go_wp2_with fail
    refine (M2.out _).mono ?_
    rintro r V4 ⟨rfl, hb4⟩
    have hB4 := hB3.trans (hb4.mono hB3.size)
    have k1 := BlkT.keep k1 hb4
    have k2 := BlkT.keep k2 hb4
    have k3 := BlkT.keep k3 hb4
    clear k1c0 k1c1
    clear k2c0 k2c1
    have k3c0 := k3.cell 0
    have k3c1 := k3.cell 1
    simp only [List.getElem?_toArray, List.getElem?_cons_succ, List.getElem?_cons_zero] at k3c0 k3c1
    have f0 := k3.frozen 0
    have f1 := k3.frozen 1
    have HK := Lib.hid k3
    go_wp2_with fail
    have hz : BlkT _ _ #[.string ⟨#[]⟩, .string ⟨#[]⟩] 26 := (HK.out.set 0 (.string ⟨#[]⟩)).set 1 (.string ⟨#[]⟩)
    have z0 := hz.cell 0
    have z1 := hz.cell 1
    simp only [List.getElem?_toArray, List.getElem?_cons_succ, List.getElem?_cons_zero] at z0 z1
    refine bodyPost_ret (v := .tuple #[ratV ⟨#[]⟩ ⟨#[]⟩, .int .i64 40]) (by simp [results, Tryz.results67, go_sem, z0, z1]) rfl ?_
    exact ⟨rfl, (hB4.setCell (by dsimp only; omega) _).setCell (by dsimp only; omega) _⟩
set_option maxRecDepth 100000 in
set_option maxHeartbeats 4000000 in
theorem mul67_bad (an ad bn bd : ByteArray) (w : World) (s1 : an.size ≤ 1000000) (s2 : ad.size ≤ 1000000) (s3 : bn.size ≤ 1000000) (s4 : bd.size ≤ 1000000) (h : (validR an ad && validR bn bd) = false) :
    Calls Tryz.prog 67 #[ratV an ad, ratV bn bd] w fun e w' => e = .returned (.tuple #[ratV ⟨#[]⟩ ⟨#[]⟩, .int .i64 40]) ∧ Below w.heap.size w w' := by
  have VR := Lib.hid (fun V => valid73 an ad V s1 s2)
  have VS := Lib.hid (fun V => valid73 bn bd V s3 s4)
  obtain ⟨W, hW, k1, k2, k3, hBW⟩ := three_new w an ad bn bd
  have q : validR an ad = false ∨ (validR an ad = true ∧ validR bn bd = false) := by
    cases h1 : validR an ad <;> cases h2 : validR bn bd <;> simp_all
  clear s1 s2 s3 s4 h
  generalize validR an ad = v1 at *
  generalize validR bn bd = v2 at *
  rcases q with rfl | ⟨rfl, rfl⟩
  · skip
    go_enter Tryz.func67, Tryz.ntmps67
    have k1c0 := k1.cell 0
    have k1c1 := k1.cell 1
    simp only [List.getElem?_toArray, List.getElem?_cons_succ, List.getElem?_cons_zero] at k1c0 k1c1
    have k2c0 := k2.cell 0
    have k2c1 := k2.cell 1
    simp only [List.getElem?_toArray, List.getElem?_cons_succ, List.getElem?_cons_zero] at k2c0 k2c1
    go_wp2_with (simp only [hW])
    refine (VR.out _).mono ?_
    rintro r V1 ⟨rfl, hb1⟩
    have hB1 := hBW.trans (hb1.mono hBW.size)
    have k1 := BlkT.keep k1 hb1
    have k2 := BlkT.keep k2 hb1
    have k3 := BlkT.keep k3 hb1
    clear k1c0 k1c1 k2c0 k2c1
    have k2c0 := k2.cell 0
    have k2c1 := k2.cell 1
    simp only [List.getElem?_toArray, List.getElem?_cons_succ, List.getElem?_cons_zero] at k2c0 k2c1
    go_wp2_with fail
    refine (VS.out _).mono ?_
    rintro r V2 ⟨rfl, hb2⟩
    have hB2 := hB1.trans (hb2.mono hB1.size)
    have k1 := BlkT.keep k1 hb2
    have k2 := BlkT.keep k2 hb2
    have k3 := BlkT.keep k3 hb2
    clear k2c0 k2c1
    have k3c0 := k3.cell 0
    have k3c1 := k3.cell 1
    simp only [List.getElem?_toArray, List.getElem?_cons_succ, List.getElem?_cons_zero] at k3c0 k3c1
    have f0 := k3.frozen 0
    have f1 := k3.frozen 1
    have HK := Lib.hid k3
    go_wp2_with fail
    have hz : BlkT _ _ #[.string ⟨#[]⟩, .string ⟨#[]⟩] 26 := (HK.out.set 0 (.string ⟨#[]⟩)).set 1 (.string ⟨#[]⟩)
    have z0 := hz.cell 0
    have z1 := hz.cell 1
    simp only [List.getElem?_toArray, List.getElem?_cons_succ, List.getElem?_cons_zero] at z0 z1
    refine bodyPost_ret (v := .tuple #[ratV ⟨#[]⟩ ⟨#[]⟩, .int .i64 40]) (by simp [results, Tryz.results67, go_sem, z0, z1]) rfl ?_
    exact ⟨rfl, (hB2.setCell (by dsimp only; omega) _).setCell (by dsimp only; omega) _⟩
  · skip
    go_enter Tryz.func67, Tryz.ntmps67
    have k1c0 := k1.cell 0
    have k1c1 := k1.cell 1
    simp only [List.getElem?_toArray, List.getElem?_cons_succ, List.getElem?_cons_zero] at k1c0 k1c1
    have k2c0 := k2.cell 0
    have k2c1 := k2.cell 1
    simp only [List.getElem?_toArray, List.getElem?_cons_succ, List.getElem?_cons_zero] at k2c0 k2c1
    go_wp2_with (simp only [hW])
    refine (VR.out _).mono ?_
    rintro r V1 ⟨rfl, hb1⟩
    have hB1 := hBW.trans (hb1.mono hBW.size)
    have k1 := BlkT.keep k1 hb1
    have k2 := BlkT.keep k2 hb1
    have k3 := BlkT.keep k3 hb1
    clear k1c0 k1c1 k2c0 k2c1
    have k2c0 := k2.cell 0
    have k2c1 := k2.cell 1
    simp only [List.getElem?_toArray, List.getElem?_cons_succ, List.getElem?_cons_zero] at k2c0 k2c1
    go_wp2_with fail
    refine (VS.out _).mono ?_
    rintro r V2 ⟨rfl, hb2⟩
    have hB2 := hB1.trans (hb2.mono hB1.size)
    have k1 := BlkT.keep k1 hb2
    have k2 := BlkT.keep k2 hb2
    have k3 := BlkT.keep k3 hb2
    clear k2c0 k2c1
    have k3c0 := k3.cell 0
    have k3c1 := k3.cell 1
    simp only [List.getElem?_toArray, List.getElem?_cons_succ, List.getElem?_cons_zero] at k3c0 k3c1
    have f0 := k3.frozen 0
    have f1 := k3.frozen 1
    have HK := Lib.hid k3
    go_wp2_with fail
    have hz : BlkT _ _ #[.string ⟨#[]⟩, .string ⟨#[]⟩] 26 := (HK.out.set 0 (.string ⟨#[]⟩)).set 1 (.string ⟨#[]⟩)
    have z0 := hz.cell 0
    have z1 := hz.cell 1
    simp only [List.getElem?_toArray, List.getElem?_cons_succ, List.getElem?_cons_zero] at z0 z1
    refine bodyPost_ret (v := .tuple #[ratV ⟨#[]⟩ ⟨#[]⟩, .int .i64 40]) (by simp [results, Tryz.results67, go_sem, z0, z1]) rfl ?_
    exact ⟨rfl, (hB2.setCell (by dsimp only; omega) _).setCell (by dsimp only; omega) _⟩
theorem mulR_Q {r s : Int × Int} (h : Fit r) (k : Fit s) : valR (mulR (N3.S r.1) (N3.S r.2) (N3.S s.1) (N3.S s.2)) = qV (mulQ r s) ∧ errR (mulR (N3.S r.1) (N3.S r.2) (N3.S s.1) (N3.S s.2)) = qE (mulQ r s) := by
  rw [mulR_S h k, qV_if, qE_if]
  exact ⟨rfl, rfl⟩
theorem mul67 (an ad bn bd : ByteArray) (w : World) (s1 : an.size ≤ 1000000) (s2 : ad.size ≤ 1000000) (s3 : bn.size ≤ 1000000) (s4 : bd.size ≤ 1000000) :
    Calls Tryz.prog 67 #[ratV an ad, ratV bn bd] w fun e w' => e = .returned (.tuple #[valR (mulR an ad bn bd), .int .i64 (errR (mulR an ad bn bd))]) ∧ Below w.heap.size w w' := by
  cases h : (validR an ad && validR bn bd) with
  | false => rw [mulR_bad h]; exact mul67_bad an ad bn bd w s1 s2 s3 s4 h
  | true =>
    rw [Bool.and_eq_true] at h
    obtain ⟨r, hr, rfl, rfl⟩ := fit_of_valid h.1
    obtain ⟨s, hs, rfl, rfl⟩ := fit_of_valid h.2
    have q := mul67_S hr hs w
    rw [(mulR_Q hr hs).1, (mulR_Q hr hs).2]
    exact q
set_option maxRecDepth 100000 in
set_option maxHeartbeats 4000000 in
theorem div68_S {r s : Int × Int} (h : Fit r) (k : Fit s) (w : World) :
    Calls Tryz.prog 68 #[ratV (N3.S r.1) (N3.S r.2), ratV (N3.S s.1) (N3.S s.2)] w fun e w' => e = .returned (.tuple #[qV (divQ r s), .int .i64 (qE (divQ r s))]) ∧ Below w.heap.size w w' := by
  have VR := Lib.hid (fun V => valid73_S h V)
  have VS := Lib.hid (fun V => valid73_S k V)
  have M1 := Lib.hid (fun V => mul10_R h.num k.den V)
  have M2 := Lib.hid (fun V => mul10_R h.den k.num V)
  obtain ⟨W, hW, k1, k2, k3, hBW⟩ := three_new w (N3.S r.1) (N3.S r.2) (N3.S s.1) (N3.S s.2)
  by_cases l1 : (r.1 * s.2).natAbs < N3.lim
  · by_cases l2 : (r.2 * s.1).natAbs < N3.lim
    · by_cases h0 : s.1 = 0
      · skip
        rw [N3.outS_some l1, N3.outE_some l1] at M1
        rw [N3.outS_some l2, N3.outE_some l2] at M2
        have hz : r.2 * s.1 = 0 := by rw [h0, Int.mul_zero]
        have MK := Lib.hid (fun V => make72_bad (N3.S (r.1 * s.2)) (N3.S (r.2 * s.1)) V (by have := S_size l1; omega) (by have := S_size l2; omega) (.inr (.inr (S_eq48.2 hz))))
        rw [divQ_0 h0]
        dsimp only [qV, qE]
        clear hz h0 l1 l2
        generalize N3.S (r.1 * s.2) = m1 at *
        generalize N3.S (r.2 * s.1) = m2 at *
        clear h k
        generalize N3.S r.1 = rn at *
        generalize N3.S r.2 = rd at *
        generalize N3.S s.1 = sn at *
        generalize N3.S s.2 = sd at *
        go_enter Tryz.func68, Tryz.ntmps68
        have k1c0 := k1.cell 0
        have k1c1 := k1.cell 1
        simp only [List.getElem?_toArray, List.getElem?_cons_succ, List.getElem?_cons_zero] at k1c0 k1c1
        have k2c0 := k2.cell 0
        have k2c1 := k2.cell 1
        simp only [List.getElem?_toArray, List.getElem?_cons_succ, List.getElem?_cons_zero] at k2c0 k2c1
        go_wp2_with (simp only [hW])
        refine (VR.out _).mono ?_
        rintro r V1 ⟨rfl, hb1⟩
        have hB1 := hBW.trans (hb1.mono hBW.size)
        have k1 := BlkT.keep k1 hb1
        have k2 := BlkT.keep k2 hb1
        have k3 := BlkT.keep k3 hb1
        clear k1c0 k1c1 k2c0 k2c1
        have k2c0 := k2.cell 0
        have k2c1 := k2.cell 1
        simp only [List.getElem?_toArray, List.getElem?_cons_succ, List.getElem?_cons_zero] at k2c0 k2c1
        go_wp2_with fail
        refine (VS.out _).mono ?_
        rintro r V2 ⟨rfl, hb2⟩
        have hB2 := hB1.trans (hb2.mono hB1.size)
        have k1 := BlkT.keep k1 hb2
        have k2 := BlkT.keep k2 hb2
        have k3 := BlkT.keep k3 hb2
        clear k2c0 k2c1
        have k1c0 := k1.cell 0
        have k1c1 := k1.cell 1
        simp only [List.getElem?_toArray, List.getElem?_cons_succ, List.getElem?_cons_zero] at k1c0 k1c1
        have k2c0 := k2.cell 0
        have k2c1 := k2.cell 1
        simp only [List.getElem?_toArray, List.getElem?_cons_succ, List.getElem?_cons_zero] at k2c0 k2c1
        go_wp2_with fail
        refine (M1.out _).mono ?_
        rintro r V3 ⟨rfl, hb3⟩
        have hB3 := hB2.trans (hb3.mono hB2.size)
        have k1 := BlkT.keep k1 hb3
        have k2 := BlkT.keep k2 hb3
        have k3 := BlkT.keep k3 hb3
        clear k1c0 k1c1
        clear k2c0 k2c1
        have k1c0 := k1.cell 0
        have k1c1 := k1.cell 1
        simp only [List.getElem?_toArray, List.getElem?_cons_succ, List.getElem?_cons_zero] at k1c0 k1c1
        have k2c0 := k2.cell 0
        have k2c1 := k2.cell 1
        simp only [List.getElem?_toArray, List.getElem?_cons_succ, List.getElem?_cons_zero] at k2c0 k2c1
        go_wp2_with fail
        refine (M2.out _).mono ?_
        rintro r V4 ⟨rfl, hb4⟩
        have hB4 := hB3.trans (hb4.mono hB3.size)
        have k1 := BlkT.keep k1 hb4
        have k2 := BlkT.keep k2 hb4
        have k3 := BlkT.keep k3 hb4
        clear k1c0 k1c1
        clear k2c0 k2c1
        go_wp2_with fail
        refine (MK.out _).mono ?_
        rintro r V5 ⟨rfl, hb5⟩
        have hB5 := hB4.trans (hb5.mono hB4.size)
        have k1 := BlkT.keep k1 hb5
        have k2 := BlkT.keep k2 hb5
        have k3 := BlkT.keep k3 hb5
        have k3c0 := k3.cell 0
        have k3c1 := k3.cell 1
        simp only [List.getElem?_toArray, List.getElem?_cons_succ, List.getElem?_cons_zero] at k3c0 k3c1
        have f0 := k3.frozen 0
        have f1 := k3.frozen 1
        have HK := Lib.hid k3
        go_wp2_with fail
        have hz : BlkT _ _ #[.string ⟨#[]⟩, .string ⟨#[]⟩] 26 := (HK.out.set 0 (.string ⟨#[]⟩)).set 1 (.string ⟨#[]⟩)
        have z0 := hz.cell 0
        have z1 := hz.cell 1
        simp only [List.getElem?_toArray, List.getElem?_cons_succ, List.getElem?_cons_zero] at z0 z1
        refine bodyPost_ret (v := .tuple #[ratV ⟨#[]⟩ ⟨#[]⟩, .int .i64 40]) (by simp [results, Tryz.results68, go_sem, z0, z1]) rfl ?_
        exact ⟨rfl, (hB5.setCell (by dsimp only; omega) _).setCell (by dsimp only; omega) _⟩
      · skip
        rw [N3.outS_some l1, N3.outE_some l1] at M1
        rw [N3.outS_some l2, N3.outE_some l2] at M2
        have hd0 : r.2 * s.1 ≠ 0 := Int.mul_ne_zero (N3.low_ne h.low) h0
        rw [show divQ r s = some (N3.divF r s) from if_pos ⟨h0, l1, l2⟩]
        clear h0
        have MK := Lib.hid (fun V => make72_S l1 l2 hd0 V)
        rw [show N3.mk (r.1 * s.2) (r.2 * s.1) = N3.divF r s from rfl] at MK
        dsimp only [strR] at MK
        dsimp only [qV, qE]
        generalize N3.S (N3.divF r s).1 = q1 at *
        generalize N3.S (N3.divF r s).2 = q2 at *
        clear l1 l2 hd0
        generalize N3.S (r.1 * s.2) = m1 at *
        generalize N3.S (r.2 * s.1) = m2 at *
        clear h k
        generalize N3.S r.1 = rn at *
        generalize N3.S r.2 = rd at *
        generalize N3.S s.1 = sn at *
        generalize N3.S s.2 = sd at *
        go_enter Tryz.func68, Tryz.ntmps68
        have k1c0 := k1.cell 0
        have k1c1 := k1.cell 1
        simp only [List.getElem?_toArray, List.getElem?_cons_succ, List.getElem?_cons_zero] at k1c0 k1c1
        have k2c0 := k2.cell 0
        have k2c1 := k2.cell 1
        simp only [List.getElem?_toArray, List.getElem?_cons_succ, List.getElem?_cons_zero] at k2c0 k2c1
        go_wp2_with (simp only [hW])
        refine (VR.out _).mono ?_
        rintro r V1 ⟨rfl, hb1⟩
        have hB1 := hBW.trans (hb1.mono hBW.size)
        have k1 := BlkT.keep k1 hb1
        have k2 := BlkT.keep k2 hb1
        have k3 := BlkT.keep k3 hb1
        clear k1c0 k1c1 k2c0 k2c1
        have k2c0 := k2.cell 0
        have k2c1 := k2.cell 1
        simp only [List.getElem?_toArray, List.getElem?_cons_succ, List.getElem?_cons_zero] at k2c0 k2c1
        go_wp2_with fail
        refine (VS.out _).mono ?_
        rintro r V2 ⟨rfl, hb2⟩
        have hB2 := hB1.trans (hb2.mono hB1.size)
        have k1 := BlkT.keep k1 hb2
        have k2 := BlkT.keep k2 hb2
        have k3 := BlkT.keep k3 hb2
        clear k2c0 k2c1
        have k1c0 := k1.cell 0
        have k1c1 := k1.cell 1
        simp only [List.getElem?_toArray, List.getElem?_cons_succ, List.getElem?_cons_zero] at k1c0 k1c1
        have k2c0 := k2.cell 0
        have k2c1 := k2.cell 1
        simp only [List.getElem?_toArray, List.getElem?_cons_succ, List.getElem?_cons_zero] at k2c0 k2c1
        go_wp2_with fail
        refine (M1.out _).mono ?_
        rintro r V3 ⟨rfl, hb3⟩
        have hB3 := hB2.trans (hb3.mono hB2.size)
        have k1 := BlkT.keep k1 hb3
        have k2 := BlkT.keep k2 hb3
        have k3 := BlkT.keep k3 hb3
        clear k1c0 k1c1
        clear k2c0 k2c1
        have k1c0 := k1.cell 0
        have k1c1 := k1.cell 1
        simp only [List.getElem?_toArray, List.getElem?_cons_succ, List.getElem?_cons_zero] at k1c0 k1c1
        have k2c0 := k2.cell 0
        have k2c1 := k2.cell 1
        simp only [List.getElem?_toArray, List.getElem?_cons_succ, List.getElem?_cons_zero] at k2c0 k2c1
        go_wp2_with fail
        refine (M2.out _).mono ?_
        rintro r V4 ⟨rfl, hb4⟩
        have hB4 := hB3.trans (hb4.mono hB3.size)
        have k1 := BlkT.keep k1 hb4
        have k2 := BlkT.keep k2 hb4
        have k3 := BlkT.keep k3 hb4
        clear k1c0 k1c1
        clear k2c0 k2c1
        go_wp2_with fail
        refine (MK.out _).mono ?_
        rintro r V5 ⟨rfl, hb5⟩
        have hB5 := hB4.trans (hb5.mono hB4.size)
        have k1 := BlkT.keep k1 hb5
        have k2 := BlkT.keep k2 hb5
        have k3 := BlkT.keep k3 hb5
        have k3c0 := k3.cell 0
        have k3c1 := k3.cell 1
        simp only [List.getElem?_toArray, List.getElem?_cons_succ, List.getElem?_cons_zero] at k3c0 k3c1
        have f0 := k3.frozen 0
        have f1 := k3.frozen 1
        have HK := Lib.hid k3
        go_wp2_with fail
        have hz : BlkT _ _ #[.string q1, .string q2] 26 := (HK.out.set 0 (.string q1)).set 1 (.string q2)
        have z0 := hz.cell 0
        have z1 := hz.cell 1
        simp only [List.getElem?_toArray, List.getElem?_cons_succ, List.getElem?_cons_zero] at z0 z1
        refine bodyPost_ret (v := .tuple #[ratV q1 q2, .int .i64 0]) (by simp [results, Tryz.results68, go_sem, z0, z1]) rfl ?_
        exact ⟨rfl, (hB5.setCell (by dsimp only; omega) _).setCell (by dsimp only; omega) _⟩
    · skip
      rw [N3.outS_some l1, N3.outE_some l1] at M1
      rw [N3.outS_big l2, N3.outE_big l2] at M2
      rw [show divQ r s = none from if_neg fun hh => l2 hh.2.2]
      dsimp only [qV, qE]
      clear l1 l2
      generalize N3.S (r.1 * s.2) = m1 at *
      clear h k
      generalize N3.S r.1 = rn at *
      generalize N3.S r.2 = rd at *
      generalize N3.S s.1 = sn at *
      generalize N3.S s.2 = sd at *
      go_enter Tryz.func68, Tryz.ntmps68
      have k1c0 := k1.cell 0
      have k1c1 := k1.cell 1
      simp only [List.getElem?_toArray, List.getElem?_cons_succ, List.getElem?_cons_zero] at k1c0 k1c1
      have k2c0 := k2.cell 0
      have k2c1 := k2.cell 1
      simp only [List.getElem?_toArray, List.getElem?_cons_succ, List.getElem?_cons_zero] at k2c0 k2c1
      go_wp2_with (simp only [hW])
      refine (VR.out _).mono ?_
      rintro r V1 ⟨rfl, hb1⟩
      have hB1 := hBW.trans (hb1.mono hBW.size)
      have k1 := BlkT.keep k1 hb1
      have k2 := BlkT.keep k2 hb1
      have k3 := BlkT.keep k3 hb1
      clear k1c0 k1c1 k2c0 k2c1
      have k2c0 := k2.cell 0
      have k2c1 := k2.cell 1
      simp only [List.getElem?_toArray, List.getElem?_cons_succ, List.getElem?_cons_zero] at k2c0 k2c1
      go_wp2_with fail
      refine (VS.out _).mono ?_
      rintro r V2 ⟨rfl, hb2⟩
      have hB2 := hB1.trans (hb2.mono hB1.size)
      have k1 := BlkT.keep k1 hb2
      have k2 := BlkT.keep k2 hb2
      have k3 := BlkT.keep k3 hb2
      clear k2c0 k2c1
      have k1c0 := k1.cell 0
      have k1c1 := k1.cell 1
      simp only [List.getElem?_toArray, List.getElem?_cons_succ, List.getElem?_cons_zero] at k1c0 k1c1
      have k2c0 := k2.cell 0
      have k2c1 := k2.cell 1
      simp only [List.getElem?_toArray, List.getElem?_cons_succ, List.getElem?_cons_zero] at k2c0 k2c1
      go_wp2_with fail
      refine (M1.out _).mono ?_
      rintro r V3 ⟨rfl, hb3⟩
      have hB3 := hB2.trans (hb3.mono hB2.size)
      have k1 := BlkT.keep k1 hb3
      have k2 := BlkT.keep k2 hb3
      have k3 := BlkT.keep k3 hb3
      clear k1c0 k1c1
      clear k2c0 k2c1
      have k1c0 := k1.cell 0
      have k1c1 := k1.cell 1
      simp only [List.getElem?_toArray, List.getElem?_cons_succ, List.getElem?_cons_zero] at k1c0 k1c1
      have k2c0 := k2.cell 0
      have k2c1 := k2.cell 1
      simp only [List.getElem?_toArray, List.getElem?_cons_succ, List.getElem?_cons_zero] at k2c0 k2c1
      go_wp2_with fail
      refine (M2.out _).mono ?_
      rintro r V4 ⟨rfl, hb4⟩
      have hB4 := hB3.trans (hb4.mono hB3.size)
      have k1 := BlkT.keep k1 hb4
      have k2 := BlkT.keep k2 hb4
      have k3 := BlkT.keep k3 hb4
      clear k1c0 k1c1
      clear k2c0 k2c1
      have k3c0 := k3.cell 0
      have k3c1 := k3.cell 1
      simp only [List.getElem?_toArray, List.getElem?_cons_succ, List.getElem?_cons_zero] at k3c0 k3c1
      have f0 := k3.frozen 0
      have f1 := k3.frozen 1
      have HK := Lib.hid k3
      go_wp2_with fail
      have hz : BlkT _ _ #[.string ⟨#[]⟩, .string ⟨#[]⟩] 26 := (HK.out.set 0 (.string ⟨#[]⟩)).set 1 (.string ⟨#[]⟩)
      have z0 := hz.cell 0
      have z1 := hz.cell 1
      simp only [List.getElem?_toArray, List.getElem?_cons_succ, List.getElem?_cons_zero] at z0 z1
      refine bodyPost_ret (v := .tuple #[ratV ⟨#[]⟩ ⟨#[]⟩, .int .i64 40]) (by simp [results, Tryz.results68, go_sem, z0, z1]) rfl ?_
      exact ⟨rfl, (hB4.setCell (by dsimp only; omega) _).setCell (by dsimp only; omega) _⟩
  · skip
    rw [N3.outS_big l1, N3.outE_big l1] at M1
    rw [show divQ r s = none from if_neg fun hh => l1 hh.2.1]
    dsimp only [qV, qE]
    clear l1
    generalize N3.outS (some (r.2 * s.1)) = m2 at *
    generalize N3.outE (some (r.2 * s.1)) = e2 at *
    clear h k
    generalize N3.S r.1 = rn at *
    generalize N3.S r.2 = rd at *
    generalize N3.S s.1 = sn at *
    generalize N3.S s.2 = sd at *
    go_enter Tryz.func68, Tryz.ntmps68
    have k1c0 := k1.cell 0
    have k1c1 := k1.cell 1
    simp only [List.getElem?_toArray, List.getElem?_cons_succ, List.getElem?_cons_zero] at k1c0 k1c1
    have k2c0 := k2.cell 0
    have k2c1 := k2.cell 1
    simp only [List.getElem?_toArray, List.getElem?_cons_succ, List.getElem?_cons_zero] at k2c0 k2c1
    go_wp2_with (simp only [hW])
    refine (VR.out _).mono ?_
    rintro r V1 ⟨rfl, hb1⟩
    have hB1 := hBW.trans (hb1.mono hBW.size)
    have k1 := BlkT.keep k1 hb1
    have k2 := BlkT.keep k2 hb1
    have k3 := BlkT.keep k3 hb1
    clear k1c0 k1c1 k2c0 k2c1
    have k2c0 := k2.cell 0
    have k2c1 := k2.cell 1
    simp only [List.getElem?_toArray, List.getElem?_cons_succ, List.getElem?_cons_zero] at k2c0 k2c1
    go_wp2_with fail
    refine (VS.out _).mono ?_
    rintro r V2 ⟨rfl, hb2⟩
    have hB2 := hB1.trans (hb2.mono hB1.size)
    have k1 := BlkT.keep k1 hb2
    have k2 := BlkT.keep k2 hb2
    have k3 := BlkT.keep k3 hb2
    clear k2c0 k2c1
    have k1c0 := k1.cell 0
    have k1c1 := k1.cell 1
    simp only [List.getElem?_toArray, List.getElem?_cons_succ, List.getElem?_cons_zero] at k1c0 k1c1
    have k2c0 := k2.cell 0
    have k2c1 := k2.cell 1
    simp only [List.getElem?_toArray, List.getElem?_cons_succ, List.getElem?_cons_zero] at k2c0 k2c1
    go_wp2_with fail
    refine (M1.out _).mono ?_
    rintro r V3 ⟨rfl, hb3⟩
    have hB3 := hB2.trans (hb3.mono hB2.size)
    have k1 := BlkT.keep k1 hb3
    have k2 := BlkT.keep k2 hb3
    have k3 := BlkT.keep k3 hb3
    clear k1c0 k1c1
    clear k2c0 k2c1
    have k1c0 := k1.cell 0
    have k1c1 := k1.cell 1
    simp only [List.getElem?_toArray, List.getElem?_cons_succ, List.getElem?_cons_zero] at k1c0 k1c1
    have k2c0 := k2.cell 0
    have k2c1 := k2.cell 1
    simp only [List.getElem?_toArray, List.getElem?_cons_succ, List.getElem?_cons_zero] at k2c0 k2c1
    go_wp2_with fail
    refine (M2.out _).mono ?_
    rintro r V4 ⟨rfl, hb4⟩
    have hB4 := hB3.trans (hb4.mono hB3.size)
    have k1 := BlkT.keep k1 hb4
    have k2 := BlkT.keep k2 hb4
    have k3 := BlkT.keep k3 hb4
    clear k1c0 k1c1
    clear k2c0 k2c1
    have k3c0 := k3.cell 0
    have k3c1 := k3.cell 1
    simp only [List.getElem?_toArray, List.getElem?_cons_succ, List.getElem?_cons_zero] at k3c0 k3c1
    have f0 := k3.frozen 0
    have f1 := k3.frozen 1
    have HK := Lib.hid k3
    go_wp2_with fail
    have hz : BlkT _ _ #[.string ⟨#[]⟩, .string ⟨#[]⟩] 26 := (HK.out.set 0 (.string ⟨#[]⟩)).set 1 (.string ⟨#[]⟩)
    have z0 := hz.cell 0
    have z1 := hz.cell 1
    simp only [List.getElem?_toArray, List.getElem?_cons_succ, List.getElem?_cons_zero] at z0 z1
    refine bodyPost_ret (v := .tuple #[ratV ⟨#[]⟩ ⟨#[]⟩, .int .i64 40]) (by simp [results, Tryz.results68, go_sem, z0, z1]) rfl ?_
    exact ⟨rfl, (hB4.setCell (by dsimp only; omega) _).setCell (by dsimp only; omega) _⟩
set_option maxRecDepth 100000 in
set_option maxHeartbeats 4000000 in
theorem div68_bad (an ad bn bd : ByteArray) (w : World) (s1 : an.size ≤ 1000000) (s2 : ad.size ≤ 1000000) (s3 : bn.size ≤ 1000000) (s4 : bd.size ≤ 1000000) (h : (validR an ad && validR bn bd) = false) :
    Calls Tryz.prog 68 #[ratV an ad, ratV bn bd] w fun e w' => e = .returned (.tuple #[ratV ⟨#[]⟩ ⟨#[]⟩, .int .i64 40]) ∧ Below w.heap.size w w' := by
  have VR := Lib.hid (fun V => valid73 an ad V s1 s2)
  have VS := Lib.hid (fun V => valid73 bn bd V s3 s4)
  obtain ⟨W, hW, k1, k2, k3, hBW⟩ := three_new w an ad bn bd
  have q : validR an ad = false ∨ (validR an ad = true ∧ validR bn bd = false) := by
    cases h1 : validR an ad <;> cases h2 : validR bn bd <;> simp_all
  clear s1 s2 s3 s4 h
  generalize validR an ad = v1 at *
  generalize validR bn bd = v2 at *
  rcases q with rfl | ⟨rfl, rfl⟩
  · skip
    go_enter Tryz.func68, Tryz.ntmps68
    have k1c0 := k1.cell 0
    have k1c1 := k1.cell 1
    simp only [List.getElem?_toArray, List.getElem?_cons_succ, List.getElem?_cons_zero] at k1c0 k1c1
    have k2c0 := k2.cell 0
    have k2c1 := k2.cell 1
    simp only [List.getElem?_toArray, List.getElem?_cons_succ, List.getElem?_cons_zero] at k2c0 k2c1
    go_wp2_with (simp only [hW])
    refine (VR.out _).mono ?_
    rintro r V1 ⟨rfl, hb1⟩
    have hB1 := hBW.trans (hb1.mono hBW.size)
    have k1 := BlkT.keep k1 hb1
    have k2 := BlkT.keep k2 hb1
    have k3 := BlkT.keep k3 hb1
    clear k1c0 k1c1 k2c0 k2c1
    have k2c0 := k2.cell 0
    have k2c1 := k2.cell 1
    simp only [List.getElem?_toArray, List.getElem?_cons_succ, List.getElem?_cons_zero] at k2c0 k2c1
    go_wp2_with fail
    refine (VS.out _).mono ?_
    rintro r V2 ⟨rfl, hb2⟩
    have hB2 := hB1.trans (hb2.mono hB1.size)
    have k1 := BlkT.keep k1 hb2
    have k2 := BlkT.keep k2 hb2
    have k3 := BlkT.keep k3 hb2
    clear k2c0 k2c1
    have k3c0 := k3.cell 0
    have k3c1 := k3.cell 1
    simp only [List.getElem?_toArray, List.getElem?_cons_succ, List.getElem?_cons_zero] at k3c0 k3c1
    have f0 := k3.frozen 0
    have f1 := k3.frozen 1
    have HK := Lib.hid k3
    go_wp2_with fail
    have hz : BlkT _ _ #[.string ⟨#[]⟩, .string ⟨#[]⟩] 26 := (HK.out.set 0 (.string ⟨#[]⟩)).set 1 (.string ⟨#[]⟩)
    have z0 := hz.cell 0
    have z1 := hz.cell 1
    simp only [List.getElem?_toArray, List.getElem?_cons_succ, List.getElem?_cons_zero] at z0 z1
    refine bodyPost_ret (v := .tuple #[ratV ⟨#[]⟩ ⟨#[]⟩, .int .i64 40]) (by simp [results, Tryz.results68, go_sem, z0, z1]) rfl ?_
    exact ⟨rfl, (hB2.setCell (by dsimp only; omega) _).setCell (by dsimp only; omega) _⟩
  · skip
    go_enter Tryz.func68, Tryz.ntmps68
    have k1c0 := k1.cell 0
    have k1c1 := k1.cell 1
    simp only [List.getElem?_toArray, List.getElem?_cons_succ, List.getElem?_cons_zero] at k1c0 k1c1
    have k2c0 := k2.cell 0
    have k2c1 := k2.cell 1
    simp only [List.getElem?_toArray, List.getElem?_cons_succ, List.getElem?_cons_zero] at k2c0 k2c1
    go_wp2_with (simp only [hW])
    refine (VR.out _).mono ?_
    rintro r V1 ⟨rfl, hb1⟩
    have hB1 := hBW.trans (hb1.mono hBW.size)
    have k1 := BlkT.keep k1 hb1
    have k2 := BlkT.keep k2 hb1
    have k3 := BlkT.keep k3 hb1
    clear k1c0 k1c1 k2c0 k2c1
    have k2c0 := k2.cell 0
    have k2c1 := k2.cell 1
    simp only [List.getElem?_toArray, List.getElem?_cons_succ, List.getElem?_cons_zero] at k2c0 k2c1
    go_wp2_with fail
    refine (VS.out _).mono ?_
    rintro r V2 ⟨rfl, hb2⟩
    have hB2 := hB1.trans (hb2.mono hB1.size)
    have k1 := BlkT.keep k1 hb2
    have k2 := BlkT.keep k2 hb2
    have k3 := BlkT.keep k3 hb2
    clear k2c0 k2c1
    have k3c0 := k3.cell 0
    have k3c1 := k3.cell 1
    simp only [List.getElem?_toArray, List.getElem?_cons_succ, List.getElem?_cons_zero] at k3c0 k3c1
    have f0 := k3.frozen 0
    have f1 := k3.frozen 1
    have HK := Lib.hid k3
    go_wp2_with fail
    have hz : BlkT _ _ #[.string ⟨#[]⟩, .string ⟨#[]⟩] 26 := (HK.out.set 0 (.string ⟨#[]⟩)).set 1 (.string ⟨#[]⟩)
    have z0 := hz.cell 0
    have z1 := hz.cell 1
    simp only [List.getElem?_toArray, List.getElem?_cons_succ, List.getElem?_cons_zero] at z0 z1
    refine bodyPost_ret (v := .tuple #[ratV ⟨#[]⟩ ⟨#[]⟩, .int .i64 40]) (by simp [results, Tryz.results68, go_sem, z0, z1]) rfl ?_
    exact ⟨rfl, (hB2.setCell (by dsimp only; omega) _).setCell (by dsimp only; omega) _⟩
theorem divR_Q {r s : Int × Int} (h : Fit r) (k : Fit s) : valR (divR (N3.S r.1) (N3.S r.2) (N3.S s.1) (N3.S s.2)) = qV (divQ r s) ∧ errR (divR (N3.S r.1) (N3.S r.2) (N3.S s.1) (N3.S s.2)) = qE (divQ r s) := by
  by_cases h0 : s.1 = 0
  · rw [divR_S0 h k h0, divQ_0 h0]; exact ⟨rfl, rfl⟩
  · rw [divR_S h k h0, qV_if, qE_if]
    rw [show divQ r s = (if (r.1 * s.2).natAbs < N3.lim ∧ (r.2 * s.1).natAbs < N3.lim then some (N3.divF r s) else none) from by simp only [divQ, h0, ne_eq, not_false_eq_true, true_and]]
    exact ⟨rfl, rfl⟩
theorem div68 (an ad bn bd : ByteArray) (w : World) (s1 : an.size ≤ 1000000) (s2 : ad.size ≤ 1000000) (s3 : bn.size ≤ 1000000) (s4 : bd.size ≤ 1000000) :
    Calls Tryz.prog 68 #[ratV an ad, ratV bn bd] w fun e w' => e = .returned (.tuple #[valR (divR an ad bn bd), .int .i64 (errR (divR an ad bn bd))]) ∧ Below w.heap.size w w' := by
  cases h : (validR an ad && validR bn bd) with
  | false => rw [divR_bad h]; exact div68_bad an ad bn bd w s1 s2 s3 s4 h
  | true =>
    rw [Bool.and_eq_true] at h
    obtain ⟨r, hr, rfl, rfl⟩ := fit_of_valid h.1
    obtain ⟨s, hs, rfl, rfl⟩ := fit_of_valid h.2
    have q := div68_S hr hs w
    rw [(divR_Q hr hs).1, (divR_Q hr hs).2]
    exact q
end Go.Proofs.YtjnpenljgfdaiaaGreatDoor

/- package nadirref04: zeroOr, Compare, power, grid, Down, Up. -/
namespace Go.Proofs.YtjnpenljgfdaiaaGreatDoor
open Go.RowKit Go.Shelf Lib

set_option maxRecDepth 100000 in
theorem zero108 (x : Int) (w : World) : Calls Tryz.prog 108 #[.string (N3.S x)] w fun e w' => e = .returned (.string (N3.S (if x = 0 then 0 else 1))) ∧ w = w' := by
  by_cases h : x = 0
  · subst h
    have h1 := S_z23 (x := 0) rfl
    rw [if_pos rfl]
    generalize N3.S 0 = s at *
    go_enter Tryz.func108, Tryz.ntmps108
    go_wp2
    go_ret
    exact ⟨rfl, rfl⟩
  · have h1 := S_nz23 h
    rw [if_neg h, S_one]
    clear h
    generalize N3.S x = s at *
    go_enter Tryz.func108, Tryz.ntmps108
    go_wp2
    go_ret
    exact ⟨rfl, rfl⟩
theorem cmpI_nn {r s c d : Int} (hr : 0 ≤ r) (hs : 0 ≤ s) (hc : 0 < c) (hd : 0 < d) (h0 : r = 0 ∨ s = 0) : N3.cmpI (r * c) (s * d) = N3.cmpI (if r = 0 then 0 else 1) (if s = 0 then 0 else 1) := by
  rcases h0 with rfl | rfl
  · rw [Int.zero_mul, if_pos rfl]
    by_cases h : s = 0
    · subst h; rw [Int.zero_mul, if_pos rfl]
    · rw [if_neg h]
      have : 0 < s * d := Int.mul_pos (by omega) hd
      unfold N3.cmpI
      rw [if_pos this, if_pos (by decide)]
  · rw [Int.zero_mul, if_pos rfl]
    by_cases h : r = 0
    · subst h; rw [Int.zero_mul, if_pos rfl]
    · rw [if_neg h]
      have : 0 < r * c := Int.mul_pos (by omega) hc
      unfold N3.cmpI
      rw [if_neg (by omega), if_pos this, if_neg (by decide), if_pos (by decide)]
theorem cmp_ok01 (x : Int) : (if x = 0 then (0 : Int) else 1).natAbs < N3.lim := by split; exact lim0; exact lim1
theorem compare10_S {x y : Int} (hx : x.natAbs < N3.lim) (hy : y.natAbs < N3.lim) (w : World) : Calls Tryz.prog 54 #[.string (N3.S x), .string (N3.S y)] w fun e w' => e = .returned (.int .i64 (N3.cmpI x y)) ∧ Below w.heap.size w w' := by
  have k := compare10 (N3.S x) (N3.S y) w (by have := S_size hx; omega) (by have := S_size hy; omega)
  rw [N3.cmpS_S hx hy] at k; exact k
def strMu : Value → Nat
  | .string s => (N3.iV s).toNat
  | _ => 0
theorem strMu_S (x : Int) : strMu (.string (N3.S x)) = x.toNat := by unfold strMu; simp only [N3.iV_S]

set_option maxRecDepth 100000 in
set_option maxHeartbeats 8000000 in
theorem compare69_S {r s : Int × Int} (h : Fit r) (k : Fit s) (w : World) :
    Calls Tryz.prog 69 #[ratV (N3.S r.1) (N3.S r.2), ratV (N3.S s.1) (N3.S s.2)] w fun e w' => e = .returned (.int .i64 (N3.cmpF r s)) ∧ Below w.heap.size w w' := by
  have VR := Lib.hid (fun V => valid73_S h V)
  have VS := Lib.hid (fun V => valid73_S k V)
  obtain ⟨ans, hans⟩ : ∃ x, N3.cmpF r s = x := ⟨_, rfl⟩
  have HA : Hid (1 * N3.cmpI (r.1 * s.2) (s.1 * r.2) = ans ∧ r.1.natAbs < N3.lim ∧ r.2.natAbs < N3.lim ∧ s.1.natAbs < N3.lim ∧ s.2.natAbs < N3.lim ∧ 0 < r.2 ∧ 0 < s.2) := Lib.hid ⟨by rw [Int.one_mul]; exact hans, h.num, h.den, k.num, k.den, h.low.1, k.low.1⟩
  rw [hans]
  clear hans h k
  obtain ⟨W, hW, k1, k2, hBW⟩ := two_rats w (N3.S r.1) (N3.S r.2) (N3.S s.1) (N3.S s.2)
  go_enter Tryz.func69, Tryz.ntmps69
  have k1c0 := k1.cell 0
  have k1c1 := k1.cell 1
  have k2c0 := k2.cell 0
  have k2c1 := k2.cell 1
  simp only [List.getElem?_toArray, List.getElem?_cons_succ, List.getElem?_cons_zero] at k1c0 k1c1 k2c0 k2c1
  go_wp2_with (simp only [hW])
  refine (VR.out _).mono ?_
  rintro r V1 ⟨rfl, hb1⟩
  have hB1 := hBW.trans (hb1.mono hBW.size)
  clear k1c0 k1c1 k2c0 k2c1
  have k1 := BlkT.keep k1 hb1
  have k2 := BlkT.keep k2 hb1
  have k2c0 := k2.cell 0
  have k2c1 := k2.cell 1
  simp only [List.getElem?_toArray, List.getElem?_cons_succ, List.getElem?_cons_zero] at k2c0 k2c1
  go_wp2_with fail
  refine (VS.out _).mono ?_
  rintro r V2 ⟨rfl, hb2⟩
  have hB2 := hB1.trans (hb2.mono hB1.size)
  clear k2c0 k2c1
  have k1 := BlkT.keep k1 hb2
  have k2 := BlkT.keep k2 hb2
  have k1c0 := k1.cell 0
  have k1c1 := k1.cell 1
  have k2c0 := k2.cell 0
  have k2c1 := k2.cell 1
  simp only [List.getElem?_toArray, List.getElem?_cons_succ, List.getElem?_cons_zero] at k1c0 k1c1 k2c0 k2c1
  go_wp2_with fail
  go_loopw [7, 8, 9, 10, 11, 12, 13, 14, 15, 16, 17, 18] (fun u7 u8 u9 u10 u11 _ _ _ _ _ _ _ wr => ∃ n d m c sg : Int, u7 = .int .i64 sg ∧ u8 = .string (N3.S n) ∧ u9 = .string (N3.S d) ∧ u10 = .string (N3.S m) ∧ u11 = .string (N3.S c) ∧ (sg = 1 ∨ sg = -1) ∧ Hid (sg * N3.cmpI (n * c) (m * d) = ans ∧ n.natAbs < N3.lim ∧ d.natAbs < N3.lim ∧ m.natAbs < N3.lim ∧ c.natAbs < N3.lim ∧ 0 < d ∧ 0 < c) ∧ Below w.heap.size w wr) (fun _ _ u9 _ _ _ _ _ _ _ _ _ _ => strMu u9)
  case atStart => exact ⟨r.1, r.2, s.1, s.2, 1, rfl, rfl, rfl, rfl, rfl, .inl rfl, HA, hB2⟩
  case round =>
    rename World => V3
    clear HA hB1 hB2 hb1 hb2 k1 k2 k1c0 k1c1 k2c0 k2c1
    obtain ⟨n, d, m, c, sg, rfl, rfl, rfl, rfl, rfl, hsg, HI, hB3⟩ := hrel
    obtain ⟨hI, ln, ld, lm, lc, pd, pc⟩ := HI.out
    have D1 := Lib.hid (fun V => div10_S ln ld (by omega : d ≠ 0) V)
    have D2 := Lib.hid (fun V => div10_S lm lc (by omega : c ≠ 0) V)
    have bq1 : (n / d).natAbs < N3.lim := Nat.lt_of_le_of_lt (N3.div_natAbs_le n d) ln
    have bq2 : (m / c).natAbs < N3.lim := Nat.lt_of_le_of_lt (N3.div_natAbs_le m c) lm
    have CM := Lib.hid (fun V => compare10_S bq1 bq2 V)
    have r0 := Int.emod_nonneg n (show d ≠ 0 by omega)
    have r1 := Int.emod_lt_of_pos n pd
    have s0 := Int.emod_nonneg m (show c ≠ 0 by omega)
    have s1 := Int.emod_lt_of_pos m pc
    have hzb := N3.cmpI_bd (n / d) (m / c)
    have hsz := sg_mul hsg hzb
    have hsn := sg_neg hsg
    have cz := N3.cmpI_eq (n / d) (m / c)
    by_cases hw : n / d = m / c
    · have hz0 := cz.2 hw
      have hR := N3.cf_rest (n := n) (d := d) (m := m) (c := c) hw
      rw [hR] at hI
      rw [hz0] at CM
      have ZR := Lib.hid (fun V => zero108 (n % d) V)
      have ZS := Lib.hid (fun V => zero108 (m % c) V)
      have ZC := Lib.hid (fun V => compare10_S (cmp_ok01 (n % d)) (cmp_ok01 (m % c)) V)
      have hTb := N3.cmpI_bd (if n % d = 0 then 0 else 1) (if m % c = 0 then 0 else 1)
      have hTw := sg_mul hsg hTb
      clear hzb hsz cz hz0 hR hw bq1 bq2 HI hTb
      by_cases h0 : n % d = 0 ∨ m % c = 0
      · skip
        have HF : Hid (sg * N3.cmpI (if n % d = 0 then 0 else 1) (if m % c = 0 then 0 else 1) = ans) := Lib.hid (by rw [← cmpI_nn r0 s0 pc pd h0]; exact hI)
        have hor : ((N3.S (n % d)).toList == [48]) = true ∨ (((N3.S (n % d)).toList == [48]) = false ∧ ((N3.S (m % c)).toList == [48]) = true) := by
          by_cases h1 : n % d = 0
          · exact .inl (S_z23 h1)
          · exact .inr ⟨S_nz23 h1, S_z23 (h0.resolve_left h1)⟩
        clear h0 hI ln ld lm lc pd pc r0 r1 s0 s1 hsg
        generalize N3.cmpI (if n % d = 0 then 0 else 1) (if m % c = 0 then 0 else 1) = T at *
        generalize N3.S (if n % d = 0 then 0 else 1) = zr at *
        generalize N3.S (if m % c = 0 then 0 else 1) = zs at *
        generalize N3.S (n / d) = sq at *
        generalize N3.S (m / c) = sp at *
        generalize N3.S (n % d) = sr at *
        generalize N3.S (m % c) = ss at *
        generalize N3.S n = sn at *
        generalize N3.S d = sd at *
        generalize N3.S m = sm at *
        generalize N3.S c = sc at *
        rcases hor with hor | ⟨hor, hor2⟩
        · skip
          go_wp2_with fail
          refine (D1.out _).mono ?_
          rintro r V4 ⟨rfl, hb4⟩
          have hB4 := hB3.trans (hb4.mono hB3.size)
          go_wp2_with fail
          refine (D2.out _).mono ?_
          rintro r V5 ⟨rfl, hb5⟩
          have hB5 := hB4.trans (hb5.mono hB4.size)
          go_wp2_with fail
          refine (CM.out _).mono ?_
          rintro r V6 ⟨rfl, hb6⟩
          have hB6 := hB5.trans (hb6.mono hB5.size)
          go_wp2_with fail
          refine (ZR.out _).mono ?_
          rintro r V ⟨rfl, rfl⟩
          go_wp2_with fail
          refine (ZS.out _).mono ?_
          rintro r V ⟨rfl, rfl⟩
          go_wp2_with fail
          refine (ZC.out _).mono ?_
          rintro r V7 ⟨rfl, hb7⟩
          have hB7 := hB6.trans (hb7.mono hB6.size)
          go_wp2_with fail
          go_ret
          exact ⟨congrArg (fun x => Ending.returned (Value.int IntKind.i64 x)) HF.out, hB7⟩
        · skip
          go_wp2_with fail
          refine (D1.out _).mono ?_
          rintro r V4 ⟨rfl, hb4⟩
          have hB4 := hB3.trans (hb4.mono hB3.size)
          go_wp2_with fail
          refine (D2.out _).mono ?_
          rintro r V5 ⟨rfl, hb5⟩
          have hB5 := hB4.trans (hb5.mono hB4.size)
          go_wp2_with fail
          refine (CM.out _).mono ?_
          rintro r V6 ⟨rfl, hb6⟩
          have hB6 := hB5.trans (hb6.mono hB5.size)
          go_wp2_with fail
          refine (ZR.out _).mono ?_
          rintro r V ⟨rfl, rfl⟩
          go_wp2_with fail
          refine (ZS.out _).mono ?_
          rintro r V ⟨rfl, rfl⟩
          go_wp2_with fail
          refine (ZC.out _).mono ?_
          rintro r V7 ⟨rfl, hb7⟩
          have hB7 := hB6.trans (hb7.mono hB6.size)
          go_wp2_with fail
          go_ret
          exact ⟨congrArg (fun x => Ending.returned (Value.int IntKind.i64 x)) HF.out, hB7⟩
      · skip
        have h1 : n % d ≠ 0 := fun e => h0 (.inl e)
        have h2 : m % c ≠ 0 := fun e => h0 (.inr e)
        have hs1 := S_nz23 h1
        have hs2 := S_nz23 h2
        have HI : Hid ((-sg) * N3.cmpI (d * (m % c)) (c * (n % d)) = ans ∧ d.natAbs < N3.lim ∧ (n % d).natAbs < N3.lim ∧ c.natAbs < N3.lim ∧ (m % c).natAbs < N3.lim ∧ 0 < n % d ∧ 0 < m % c) := Lib.hid ⟨by rw [N3.cf_turn, Int.neg_mul_neg]; exact hI, ld, by omega, lc, by omega, by omega, by omega⟩
        have hsg' : -sg = 1 ∨ -sg = -1 := by omega
        have HM : Hid ((n % d).toNat < d.toNat) := Lib.hid (by omega)
        have HG := Lib.hid hsg'
        clear h0 h1 h2 hI ln ld lm lc pd pc r0 r1 s0 s1 hsg hTw ZR ZS ZC hsg'
        obtain ⟨x1, hx1⟩ : ∃ x, N3.S (n / d) = x := ⟨_, rfl⟩
        obtain ⟨x2, hx2⟩ : ∃ x, N3.S (m / c) = x := ⟨_, rfl⟩
        rw [hx1] at CM D1
        rw [hx2] at CM D2
        clear hx1 hx2
        go_wp2_with fail
        refine (D1.out _).mono ?_
        rintro r V4 ⟨rfl, hb4⟩
        have hB4 := hB3.trans (hb4.mono hB3.size)
        go_wp2_with fail
        refine (D2.out _).mono ?_
        rintro r V5 ⟨rfl, hb5⟩
        have hB5 := hB4.trans (hb5.mono hB4.size)
        go_wp2_with fail
        refine (CM.out _).mono ?_
        rintro r V6 ⟨rfl, hb6⟩
        have hB6 := hB5.trans (hb6.mono hB5.size)
        go_wp2_with fail
        go_roundw
        case rel => exact ⟨d, n % d, c, m % c, -sg, rfl, rfl, rfl, rfl, rfl, HG.out, HI, hB6⟩
        case measure => rw [strMu_S, strMu_S]; exact HM.out
    · have hzn : N3.cmpI (n / d) (m / c) ≠ 0 := fun e => hw (cz.1 e)
      have HF : Hid (sg * N3.cmpI (n / d) (m / c) = ans) := Lib.hid (by rw [← hI, N3.cf_whole pd pc hw])
      have hz1 : (N3.cmpI (n / d) (m / c) == 0) = false := beq_eq_false_iff_ne.2 hzn
      have hz2 : (N3.cmpI (n / d) (m / c) != 0) = true := bne_iff_ne.2 hzn
      clear hzb cz hw hI ln ld lm lc pd pc r0 r1 s0 s1 hsg bq1 bq2 HI hzn
      generalize N3.cmpI (n / d) (m / c) = z at *
      go_wp2_with fail
      refine (D1.out _).mono ?_
      rintro r V4 ⟨rfl, hb4⟩
      have hB4 := hB3.trans (hb4.mono hB3.size)
      go_wp2_with fail
      refine (D2.out _).mono ?_
      rintro r V5 ⟨rfl, hb5⟩
      have hB5 := hB4.trans (hb5.mono hB4.size)
      go_wp2_with fail
      refine (CM.out _).mono ?_
      rintro r V6 ⟨rfl, hb6⟩
      have hB6 := hB5.trans (hb6.mono hB5.size)
      go_wp2_with fail
      go_ret
      exact ⟨congrArg (fun x => Ending.returned (Value.int IntKind.i64 x)) HF.out, hB6⟩
end Go.Proofs.YtjnpenljgfdaiaaGreatDoor

/- package nadirref04: Compare, power, grid, Down, Up. -/
namespace Go.Proofs.YtjnpenljgfdaiaaGreatDoor
open Go.RowKit Go.Shelf Lib

set_option maxRecDepth 100000 in
set_option maxHeartbeats 8000000 in
theorem compare69_bad (an ad bn bd : ByteArray) (w : World) (s1 : an.size ≤ 1000000) (s2 : ad.size ≤ 1000000) (s3 : bn.size ≤ 1000000) (s4 : bd.size ≤ 1000000) (h : (validR an ad && validR bn bd) = false) :
    Calls Tryz.prog 69 #[ratV an ad, ratV bn bd] w fun e w' => e = .returned (.int .i64 0) ∧ Below w.heap.size w w' := by
  have VR := Lib.hid (fun V => valid73 an ad V s1 s2)
  have VS := Lib.hid (fun V => valid73 bn bd V s3 s4)
  obtain ⟨W, hW, k1, k2, hBW⟩ := two_rats w an ad bn bd
  have q : validR an ad = false ∨ (validR an ad = true ∧ validR bn bd = false) := by
    cases h1 : validR an ad <;> cases h2 : validR bn bd <;> simp_all
  clear s1 s2 s3 s4 h
  generalize validR an ad = v1 at *
  generalize validR bn bd = v2 at *
  rcases q with rfl | ⟨rfl, rfl⟩
  · skip
    go_enter Tryz.func69, Tryz.ntmps69
    have k1c0 := k1.cell 0
    have k1c1 := k1.cell 1
    have k2c0 := k2.cell 0
    have k2c1 := k2.cell 1
    simp only [List.getElem?_toArray, List.getElem?_cons_succ, List.getElem?_cons_zero] at k1c0 k1c1 k2c0 k2c1
    go_wp2_with (simp only [hW])
    refine (VR.out _).mono ?_
    rintro r V1 ⟨rfl, hb1⟩
    have hB1 := hBW.trans (hb1.mono hBW.size)
    clear k1c0 k1c1 k2c0 k2c1
    have k1 := BlkT.keep k1 hb1
    have k2 := BlkT.keep k2 hb1
    have k2c0 := k2.cell 0
    have k2c1 := k2.cell 1
    simp only [List.getElem?_toArray, List.getElem?_cons_succ, List.getElem?_cons_zero] at k2c0 k2c1
    go_wp2_with fail
    refine (VS.out _).mono ?_
    rintro r V2 ⟨rfl, hb2⟩
    have hB2 := hB1.trans (hb2.mono hB1.size)
    clear k2c0 k2c1
    have k1 := BlkT.keep k1 hb2
    have k2 := BlkT.keep k2 hb2
    go_wp2_with fail
    go_ret
    exact ⟨rfl, hB2⟩
  · skip
    go_enter Tryz.func69, Tryz.ntmps69
    have k1c0 := k1.cell 0
    have k1c1 := k1.cell 1
    have k2c0 := k2.cell 0
    have k2c1 := k2.cell 1
    simp only [List.getElem?_toArray, List.getElem?_cons_succ, List.getElem?_cons_zero] at k1c0 k1c1 k2c0 k2c1
    go_wp2_with (simp only [hW])
    refine (VR.out _).mono ?_
    rintro r V1 ⟨rfl, hb1⟩
    have hB1 := hBW.trans (hb1.mono hBW.size)
    clear k1c0 k1c1 k2c0 k2c1
    have k1 := BlkT.keep k1 hb1
    have k2 := BlkT.keep k2 hb1
    have k2c0 := k2.cell 0
    have k2c1 := k2.cell 1
    simp only [List.getElem?_toArray, List.getElem?_cons_succ, List.getElem?_cons_zero] at k2c0 k2c1
    go_wp2_with fail
    refine (VS.out _).mono ?_
    rintro r V2 ⟨rfl, hb2⟩
    have hB2 := hB1.trans (hb2.mono hB1.size)
    clear k2c0 k2c1
    have k1 := BlkT.keep k1 hb2
    have k2 := BlkT.keep k2 hb2
    go_wp2_with fail
    go_ret
    exact ⟨rfl, hB2⟩
theorem compare69 (an ad bn bd : ByteArray) (w : World) (s1 : an.size ≤ 1000000) (s2 : ad.size ≤ 1000000) (s3 : bn.size ≤ 1000000) (s4 : bd.size ≤ 1000000) :
    Calls Tryz.prog 69 #[ratV an ad, ratV bn bd] w fun e w' => e = .returned (.int .i64 (cmpR an ad bn bd)) ∧ Below w.heap.size w w' := by
  cases h : (validR an ad && validR bn bd) with
  | false => rw [show cmpR an ad bn bd = 0 from by unfold cmpR; rw [h]; rfl]; exact compare69_bad an ad bn bd w s1 s2 s3 s4 h
  | true =>
    rw [Bool.and_eq_true] at h
    obtain ⟨r, hr, rfl, rfl⟩ := fit_of_valid h.1
    obtain ⟨s, hs, rfl, rfl⟩ := fit_of_valid h.2
    rw [cmp_S hr hs]
    exact compare69_S hr hs w
theorem tenS_succ (n : Nat) : N3.S (N3.ten n) ++ ⟨#[48]⟩ = N3.S (N3.ten (n + 1)) := by rw [ten_cast, ten_cast]; exact S_ten_succ n
theorem tenS_len (n : Nat) : (N3.S (N3.ten n)).size = n + 1 := by rw [ten_cast]; exact S_ten_size n
set_option maxRecDepth 100000 in
set_option maxHeartbeats 8000000 in
theorem power133 (p : Nat) (w : World) (hp : p ≤ 30) : Calls Tryz.prog 133 #[.int .i64 (p : Int)] w fun e w' => e = .returned (.string (N3.S (N3.ten p))) ∧ w = w' := by
  have hz : N3.S (N3.ten 0) = ⟨#[49]⟩ := by unfold N3.ten; rw [Int.pow_zero, S_one]
  go_enter Tryz.func133, Tryz.ntmps133
  go_wp2_with fail
  go_loopw [3, 4] (fun u3 u4 wr => ∃ k : Nat, k ≤ p ∧ u3 = .string (N3.S (N3.ten k)) ∧ u4 = .int .i64 (k : Int) ∧ w = wr) (fun _ u4 _ => (p - Go.RowKit.intOf u4).toNat)
  case atStart => exact ⟨0, Nat.zero_le _, by rw [hz], by first | rfl | trivial, by first | rfl | trivial⟩
  case round =>
    clear hz
    obtain ⟨k, hk, rfl, rfl, rfl⟩ := hrel
    by_cases hkn : k < p
    · have hki : (k : Int) < (p : Int) := by omega
      have hw1 : IntKind.i64.wrap ((k : Int) + 1) = ((k + 1 : Nat) : Int) := by rw [IntKind.wrap_i64]; omega
      have hs := tenS_len k
      have q1 : ¬ 9223372036854775807 < (N3.S (N3.ten k)).size + 1 := by omega
      have q2 : ¬ 9223372036854775807 < (N3.S (N3.ten k)).size + (⟨#[48]⟩ : ByteArray).size := by rw [hs]; show ¬ 9223372036854775807 < k + 1 + 1; omega
      have hs' := tenS_succ k
      go_wp2_with fail
      go_roundw
      case rel => exact ⟨k + 1, by omega, by first | rfl | trivial, by first | rfl | trivial, by first | rfl | trivial⟩
      case measure => simp only [Go.RowKit.intOf]; omega
    · have hki : ¬ (k : Int) < (p : Int) := by omega
      obtain rfl : k = p := by omega
      go_wp2_with fail
      go_ret
      exact ⟨rfl, rfl⟩
def gridN (r : Int × Int) (p : Nat) : Int := r.1 * N3.ten p
def roundQ (r : Int × Int) (p : Nat) (up : Bool) : Option (Int × Int) :=
  if (gridN r p).natAbs < N3.lim then
    if up = true ∧ gridN r p % r.2 ≠ 0 then (if (gridN r p / r.2 + 1).natAbs < N3.lim then some (N3.mk (gridN r p / r.2 + 1) (N3.ten p)) else none)
    else some (N3.mk (gridN r p / r.2) (N3.ten p))
  else none
theorem ten_lt {p : Nat} (h : p ≤ 30) : (N3.ten p).natAbs < N3.lim := N3.lim_of (ten_abs p) (by omega)
theorem ten_ne0 (p : Nat) : N3.ten p ≠ 0 := by have := N3.ten_pos p; omega
theorem round_Q {r : Int × Int} (h : Fit r) {p : Nat} (hp : p ≤ 30) (up : Bool) : roundR (N3.S r.1) (N3.S r.2) (p : Int) up = (roundQ r p up).map strR := by
  have lt := ten_lt hp
  have hd0 := N3.low_ne h.low
  have l5 : ((1 : Int)).natAbs < N3.lim := lim1
  unfold roundR
  rw [badP_ok hp, chk_S1 h, if_neg (by decide), Int.toNat_natCast]
  unfold roundG roundQ
  rw [tenS_eq, N3.mulO_S h.num lt]
  show _ = Option.map strR _
  by_cases l1 : (gridN r p).natAbs < N3.lim
  · have l1' : (r.1 * N3.ten p).natAbs < N3.lim := l1
    have l2 : (r.1 * N3.ten p / r.2).natAbs < N3.lim := Nat.lt_of_le_of_lt (N3.div_natAbs_le _ _) l1
    have l4 : (r.1 * N3.ten p % r.2).natAbs < N3.lim := Nat.lt_trans (N3.mod_natAbs_lt hd0) h.den
    simp only [N3.outS_some l1', N3.outE_some l1', doS_false, doB_false0, N3.quoO_S l1' h.den hd0, N3.remO_S l1' h.den hd0, N3.outS_some l2, N3.outE_some l2, N3.outS_some l4]
    rw [if_neg (by decide), if_pos l1]
    by_cases hc : up = true ∧ gridN r p % r.2 ≠ 0
    · rw [if_pos hc, if_pos ⟨hc.1, fun hh => hc.2 (S_eq48.1 hh)⟩, ← S_one, N3.addO_S l2 l5]
      by_cases l3 : (gridN r p / r.2 + 1).natAbs < N3.lim
      · have l3' : (r.1 * N3.ten p / r.2 + 1).natAbs < N3.lim := l3
        rw [N3.outS_some l3', N3.outE_some l3', doB_false0, red_S l3' lt (ten_ne0 p), if_pos l3]; rfl
      · rw [if_neg l3, N3.outE_big (show ¬ (r.1 * N3.ten p / r.2 + 1).natAbs < N3.lim from l3), doB_false30]; rfl
    · rw [if_neg hc, if_neg (fun hh => hc ⟨hh.1, fun e => hh.2 (S_eq48.2 e)⟩), red_S l2 lt (ten_ne0 p)]; rfl
  · have l1' : ¬ (r.1 * N3.ten p).natAbs < N3.lim := l1
    simp only [N3.outE_big l1', doB_false30]
    rw [if_neg l1]; rfl
theorem roundR_bad {n d : ByteArray} {p : Int} (up : Bool) (h : validR n d = false ∨ p < 0 ∨ 30 < p) : roundR n d p up = none := by
  unfold roundR
  refine if_pos ?_
  unfold chkL chk badP
  simp only [List.foldl_cons, List.foldl_nil]
  rcases h with h | h | h
  · rw [h]; simp
  · rw [decide_eq_true h]; rfl
  · rw [decide_eq_true h]; simp
set_option maxRecDepth 100000 in
set_option maxHeartbeats 8000000 in
theorem grid109_S {r : Int × Int} (h : Fit r) {p : Nat} (hp : p ≤ 30) (w : World) :
    Calls Tryz.prog 109 #[ratV (N3.S r.1) (N3.S r.2), .int .i64 (p : Int)] w fun e w' => e = .returned (if (gridN r p).natAbs < N3.lim then .tuple #[.string (N3.S (gridN r p / r.2)), .string (N3.S (gridN r p % r.2)), .string (N3.S (N3.ten p)), .bool true] else .tuple #[.string ⟨#[]⟩, .string ⟨#[]⟩, .string ⟨#[]⟩, .bool false]) ∧ Below w.heap.size w w' := by
  have VR := Lib.hid (fun V => valid73_S h V)
  have PW := Lib.hid (fun V => power133 p V hp)
  have MU := Lib.hid (fun V => mul10_R h.num (ten_lt hp) V)
  have d1 : decide ((p : Int) < 0) = false := decide_eq_false (by omega)
  have d2 : decide ((30 : Int) < (p : Int)) = false := decide_eq_false (by omega)
  have hden := h.den
  have hd0 := N3.low_ne h.low
  rw [show r.1 * N3.ten p = gridN r p from rfl] at MU
  obtain ⟨W, hW⟩ : ∃ W, w.alloc (.cells #[.string (N3.S r.1), .string (N3.S r.2)] 26) = W := ⟨_, rfl⟩
  have k1 : BlkT W w.heap.size #[.string (N3.S r.1), .string (N3.S r.2)] 26 := hW ▸ BlkT.newAt _ _ _ rfl
  have hBW : Below w.heap.size w W := hW ▸ (Below.refl _ _).alloc (Nat.le_refl _) _
  clear h
  by_cases l1 : (gridN r p).natAbs < N3.lim
  · skip
    rw [if_pos l1]
    have DV := Lib.hid (fun V => div10_S l1 hden hd0 V)
    rw [N3.outS_some l1, N3.outE_some l1] at MU
    clear l1 hden hd0 hp
    generalize N3.S (gridN r p / r.2) = sq at *
    generalize N3.S (gridN r p % r.2) = sr at *
    generalize N3.S (gridN r p) = sg at *
    generalize N3.S (N3.ten p) = tp at *
    generalize N3.S r.1 = rn at *
    generalize N3.S r.2 = rd at *
    go_enter Tryz.func109, Tryz.ntmps109
    have k1c0 := k1.cell 0
    have k1c1 := k1.cell 1
    simp only [List.getElem?_toArray, List.getElem?_cons_succ, List.getElem?_cons_zero] at k1c0 k1c1
    go_wp2_with (simp only [hW])
    refine (VR.out _).mono ?_
    rintro r V1 ⟨rfl, hb1⟩
    have hB1 := hBW.trans (hb1.mono hBW.size)
    clear k1c0 k1c1
    have k1 := BlkT.keep k1 hb1
    go_wp2_with fail
    refine (PW.out _).mono ?_
    rintro r V ⟨rfl, rfl⟩
    have k1c0 := k1.cell 0
    have k1c1 := k1.cell 1
    simp only [List.getElem?_toArray, List.getElem?_cons_succ, List.getElem?_cons_zero] at k1c0 k1c1
    go_wp2_with fail
    refine (MU.out _).mono ?_
    rintro r V2 ⟨rfl, hb2⟩
    have hB2 := hB1.trans (hb2.mono hB1.size)
    clear k1c0 k1c1
    have k1 := BlkT.keep k1 hb2
    have k1c0 := k1.cell 0
    have k1c1 := k1.cell 1
    simp only [List.getElem?_toArray, List.getElem?_cons_succ, List.getElem?_cons_zero] at k1c0 k1c1
    go_wp2_with fail
    refine (DV.out _).mono ?_
    rintro r V3 ⟨rfl, hb3⟩
    have hB3 := hB2.trans (hb3.mono hB2.size)
    clear k1c0 k1c1
    have k1 := BlkT.keep k1 hb3
    go_wp2_with fail
    refine bodyPost_ret (v := .tuple #[.string sq, .string sr, .string tp, .bool true]) (by simp [results, Tryz.results109, go_sem]) rfl ?_
    exact ⟨rfl, hB3⟩
  · skip
    rw [if_neg l1]
    rw [N3.outS_big l1, N3.outE_big l1] at MU
    clear l1 hden hd0 hp
    generalize N3.S (N3.ten p) = tp at *
    generalize N3.S r.1 = rn at *
    generalize N3.S r.2 = rd at *
    go_enter Tryz.func109, Tryz.ntmps109
    have k1c0 := k1.cell 0
    have k1c1 := k1.cell 1
    simp only [List.getElem?_toArray, List.getElem?_cons_succ, List.getElem?_cons_zero] at k1c0 k1c1
    go_wp2_with (simp only [hW])
    refine (VR.out _).mono ?_
    rintro r V1 ⟨rfl, hb1⟩
    have hB1 := hBW.trans (hb1.mono hBW.size)
    clear k1c0 k1c1
    have k1 := BlkT.keep k1 hb1
    go_wp2_with fail
    refine (PW.out _).mono ?_
    rintro r V ⟨rfl, rfl⟩
    have k1c0 := k1.cell 0
    have k1c1 := k1.cell 1
    simp only [List.getElem?_toArray, List.getElem?_cons_succ, List.getElem?_cons_zero] at k1c0 k1c1
    go_wp2_with fail
    refine (MU.out _).mono ?_
    rintro r V2 ⟨rfl, hb2⟩
    have hB2 := hB1.trans (hb2.mono hB1.size)
    clear k1c0 k1c1
    have k1 := BlkT.keep k1 hb2
    go_wp2_with fail
    refine bodyPost_ret (v := .tuple #[.string ⟨#[]⟩, .string ⟨#[]⟩, .string ⟨#[]⟩, .bool false]) (by simp [results, Tryz.results109, go_sem]) rfl ?_
    exact ⟨rfl, hB2⟩
set_option maxRecDepth 100000 in
set_option maxHeartbeats 8000000 in
theorem grid109_bad (n d : ByteArray) (p : Int) (w : World) (s1 : n.size ≤ 1000000) (s2 : d.size ≤ 1000000) (h : validR n d = false ∨ p < 0 ∨ 30 < p) :
    Calls Tryz.prog 109 #[ratV n d, .int .i64 p] w fun e w' => e = .returned (.tuple #[.string ⟨#[]⟩, .string ⟨#[]⟩, .string ⟨#[]⟩, .bool false]) ∧ Below w.heap.size w w' := by
  have VR := Lib.hid (fun V => valid73 n d V s1 s2)
  obtain ⟨W, hW⟩ : ∃ W, w.alloc (.cells #[.string n, .string d] 26) = W := ⟨_, rfl⟩
  have k1 : BlkT W w.heap.size #[.string n, .string d] 26 := hW ▸ BlkT.newAt _ _ _ rfl
  have hBW : Below w.heap.size w W := hW ▸ (Below.refl _ _).alloc (Nat.le_refl _) _
  have q : validR n d = false ∨ (validR n d = true ∧ decide (p < 0) = true) ∨ (validR n d = true ∧ decide (p < 0) = false ∧ decide (30 < p) = true) := by
    cases hv : validR n d with
    | false => exact .inl rfl
    | true =>
      right
      by_cases h1 : p < 0
      · exact .inl ⟨rfl, decide_eq_true h1⟩
      · refine .inr ⟨rfl, decide_eq_false h1, decide_eq_true ?_⟩
        rcases h with h | h | h
        · rw [hv] at h; cases h
        · exact absurd h h1
        · exact h
  clear s1 s2 h
  generalize validR n d = v1 at *
  rcases q with rfl | ⟨rfl, d1⟩ | ⟨rfl, d1, d2⟩
  · skip
    go_enter Tryz.func109, Tryz.ntmps109
    have k1c0 := k1.cell 0
    have k1c1 := k1.cell 1
    simp only [List.getElem?_toArray, List.getElem?_cons_succ, List.getElem?_cons_zero] at k1c0 k1c1
    go_wp2_with (simp only [hW])
    refine (VR.out _).mono ?_
    rintro r V1 ⟨rfl, hb1⟩
    have hB1 := hBW.trans (hb1.mono hBW.size)
    clear k1c0 k1c1
    have k1 := BlkT.keep k1 hb1
    go_wp2_with fail
    refine bodyPost_ret (v := .tuple #[.string ⟨#[]⟩, .string ⟨#[]⟩, .string ⟨#[]⟩, .bool false]) (by simp [results, Tryz.results109, go_sem]) rfl ?_
    exact ⟨rfl, hB1⟩
  · skip
    go_enter Tryz.func109, Tryz.ntmps109
    have k1c0 := k1.cell 0
    have k1c1 := k1.cell 1
    simp only [List.getElem?_toArray, List.getElem?_cons_succ, List.getElem?_cons_zero] at k1c0 k1c1
    go_wp2_with (simp only [hW])
    refine (VR.out _).mono ?_
    rintro r V1 ⟨rfl, hb1⟩
    have hB1 := hBW.trans (hb1.mono hBW.size)
    clear k1c0 k1c1
    have k1 := BlkT.keep k1 hb1
    go_wp2_with fail
    refine bodyPost_ret (v := .tuple #[.string ⟨#[]⟩, .string ⟨#[]⟩, .string ⟨#[]⟩, .bool false]) (by simp [results, Tryz.results109, go_sem]) rfl ?_
    exact ⟨rfl, hB1⟩
  · skip
    go_enter Tryz.func109, Tryz.ntmps109
    have k1c0 := k1.cell 0
    have k1c1 := k1.cell 1
    simp only [List.getElem?_toArray, List.getElem?_cons_succ, List.getElem?_cons_zero] at k1c0 k1c1
    go_wp2_with (simp only [hW])
    refine (VR.out _).mono ?_
    rintro r V1 ⟨rfl, hb1⟩
    have hB1 := hBW.trans (hb1.mono hBW.size)
    clear k1c0 k1c1
    have k1 := BlkT.keep k1 hb1
    go_wp2_with fail
    refine bodyPost_ret (v := .tuple #[.string ⟨#[]⟩, .string ⟨#[]⟩, .string ⟨#[]⟩, .bool false]) (by simp [results, Tryz.results109, go_sem]) rfl ?_
    exact ⟨rfl, hB1⟩
set_option maxRecDepth 100000 in
set_option maxHeartbeats 8000000 in
theorem down70_S {r : Int × Int} (h : Fit r) {p : Nat} (hp : p ≤ 30) (w : World) :
    Calls Tryz.prog 70 #[ratV (N3.S r.1) (N3.S r.2), .int .i64 (p : Int)] w fun e w' => e = .returned (.tuple #[qV (roundQ r p false), .int .i64 (qE (roundQ r p false))]) ∧ Below w.heap.size w w' := by
  have GR := Lib.hid (fun V => grid109_S h hp V)
  have lt := ten_lt hp
  have hd0 := N3.low_ne h.low
  obtain ⟨W, hW, k1, k2, hBW⟩ := two_rats w (N3.S r.1) (N3.S r.2) ⟨#[]⟩ ⟨#[]⟩
  by_cases l1 : (gridN r p).natAbs < N3.lim
  · rw [if_pos l1] at GR
    have l2 : (gridN r p / r.2).natAbs < N3.lim := Nat.lt_of_le_of_lt (N3.div_natAbs_le _ _) l1
    rw [show roundQ r p false = some (N3.mk (gridN r p / r.2) (N3.ten p)) from by unfold roundQ; rw [if_pos l1, if_neg (by rintro ⟨h, -⟩; cases h)]]
    have MK := Lib.hid (fun V => make72_S l2 lt (ten_ne0 p) V)
    dsimp only [strR] at MK
    dsimp only [qV, qE]
    clear l1 l2 lt hd0 h
    generalize N3.mk (gridN r p / r.2) (N3.ten p) = M at *
    generalize N3.S M.1 = q1 at *
    generalize N3.S M.2 = q2 at *
    generalize N3.S (gridN r p / r.2) = sq at *
    generalize N3.S (gridN r p % r.2) = sr at *
    generalize N3.S (N3.ten p) = tp at *
    generalize N3.S r.1 = rn at *
    generalize N3.S r.2 = rd at *
    go_enter Tryz.func70, Tryz.ntmps70
    have k1c0 := k1.cell 0
    have k1c1 := k1.cell 1
    simp only [List.getElem?_toArray, List.getElem?_cons_succ, List.getElem?_cons_zero] at k1c0 k1c1
    go_wp2_with (simp only [hW])
    refine (GR.out _).mono ?_
    rintro r V1 ⟨rfl, hb1⟩
    have hB1 := hBW.trans (hb1.mono hBW.size)
    clear k1c0 k1c1
    have k1 := BlkT.keep k1 hb1
    have k2 := BlkT.keep k2 hb1
    go_wp2_with fail
    refine (MK.out _).mono ?_
    rintro r V2 ⟨rfl, hb2⟩
    have hB2 := hB1.trans (hb2.mono hB1.size)
    have k1 := BlkT.keep k1 hb2
    have k2 := BlkT.keep k2 hb2
    have k2c0 := k2.cell 0
    have k2c1 := k2.cell 1
    simp only [List.getElem?_toArray, List.getElem?_cons_succ, List.getElem?_cons_zero] at k2c0 k2c1
    have k2f0 := k2.frozen 0
    have k2f1 := k2.frozen 1
    have HK := Lib.hid k2
    go_wp2_with fail
    have hz : BlkT _ _ #[.string q1, .string q2] 26 := (HK.out.set 0 (.string q1)).set 1 (.string q2)
    have z0 := hz.cell 0
    have z1 := hz.cell 1
    simp only [List.getElem?_toArray, List.getElem?_cons_succ, List.getElem?_cons_zero] at z0 z1
    refine bodyPost_ret (v := .tuple #[ratV q1 q2, .int .i64 0]) (by simp [results, Tryz.results70, go_sem, z0, z1]) rfl ?_
    exact ⟨rfl, (hB2.setCell (by dsimp only; omega) _).setCell (by dsimp only; omega) _⟩
  · rw [if_neg l1] at GR
    rw [show roundQ r p false = none from by unfold roundQ; rw [if_neg l1]]
    dsimp only [qV, qE]
    clear l1 lt hd0 h
    generalize N3.S r.1 = rn at *
    generalize N3.S r.2 = rd at *
    go_enter Tryz.func70, Tryz.ntmps70
    have k1c0 := k1.cell 0
    have k1c1 := k1.cell 1
    simp only [List.getElem?_toArray, List.getElem?_cons_succ, List.getElem?_cons_zero] at k1c0 k1c1
    go_wp2_with (simp only [hW])
    refine (GR.out _).mono ?_
    rintro r V1 ⟨rfl, hb1⟩
    have hB1 := hBW.trans (hb1.mono hBW.size)
    clear k1c0 k1c1
    have k1 := BlkT.keep k1 hb1
    have k2 := BlkT.keep k2 hb1
    have k2c0 := k2.cell 0
    have k2c1 := k2.cell 1
    simp only [List.getElem?_toArray, List.getElem?_cons_succ, List.getElem?_cons_zero] at k2c0 k2c1
    have k2f0 := k2.frozen 0
    have k2f1 := k2.frozen 1
    have HK := Lib.hid k2
    go_wp2_with fail
    have hz : BlkT _ _ #[.string ⟨#[]⟩, .string ⟨#[]⟩] 26 := (HK.out.set 0 (.string ⟨#[]⟩)).set 1 (.string ⟨#[]⟩)
    have z0 := hz.cell 0
    have z1 := hz.cell 1
    simp only [List.getElem?_toArray, List.getElem?_cons_succ, List.getElem?_cons_zero] at z0 z1
    refine bodyPost_ret (v := .tuple #[ratV ⟨#[]⟩ ⟨#[]⟩, .int .i64 40]) (by simp [results, Tryz.results70, go_sem, z0, z1]) rfl ?_
    exact ⟨rfl, (hB1.setCell (by dsimp only; omega) _).setCell (by dsimp only; omega) _⟩
set_option maxRecDepth 100000 in
set_option maxHeartbeats 8000000 in
theorem down70_bad (n d : ByteArray) (p : Int) (w : World) (s1 : n.size ≤ 1000000) (s2 : d.size ≤ 1000000) (h : validR n d = false ∨ p < 0 ∨ 30 < p) :
    Calls Tryz.prog 70 #[ratV n d, .int .i64 p] w fun e w' => e = .returned (.tuple #[ratV ⟨#[]⟩ ⟨#[]⟩, .int .i64 40]) ∧ Below w.heap.size w w' := by
  have GR := Lib.hid (fun V => grid109_bad n d p V s1 s2 h)
  obtain ⟨W, hW, k1, k2, hBW⟩ := two_rats w n d ⟨#[]⟩ ⟨#[]⟩
  clear s1 s2 h
  go_enter Tryz.func70, Tryz.ntmps70
  have k1c0 := k1.cell 0
  have k1c1 := k1.cell 1
  simp only [List.getElem?_toArray, List.getElem?_cons_succ, List.getElem?_cons_zero] at k1c0 k1c1
  go_wp2_with (simp only [hW])
  refine (GR.out _).mono ?_
  rintro r V1 ⟨rfl, hb1⟩
  have hB1 := hBW.trans (hb1.mono hBW.size)
  clear k1c0 k1c1
  have k1 := BlkT.keep k1 hb1
  have k2 := BlkT.keep k2 hb1
  have k2c0 := k2.cell 0
  have k2c1 := k2.cell 1
  simp only [List.getElem?_toArray, List.getElem?_cons_succ, List.getElem?_cons_zero] at k2c0 k2c1
  have k2f0 := k2.frozen 0
  have k2f1 := k2.frozen 1
  have HK := Lib.hid k2
  go_wp2_with fail
  have hz : BlkT _ _ #[.string ⟨#[]⟩, .string ⟨#[]⟩] 26 := (HK.out.set 0 (.string ⟨#[]⟩)).set 1 (.string ⟨#[]⟩)
  have z0 := hz.cell 0
  have z1 := hz.cell 1
  simp only [List.getElem?_toArray, List.getElem?_cons_succ, List.getElem?_cons_zero] at z0 z1
  refine bodyPost_ret (v := .tuple #[ratV ⟨#[]⟩ ⟨#[]⟩, .int .i64 40]) (by simp [results, Tryz.results70, go_sem, z0, z1]) rfl ?_
  exact ⟨rfl, (hB1.setCell (by dsimp only; omega) _).setCell (by dsimp only; omega) _⟩
theorem down70 (n d : ByteArray) (p : Int) (w : World) (s1 : n.size ≤ 1000000) (s2 : d.size ≤ 1000000) :
    Calls Tryz.prog 70 #[ratV n d, .int .i64 p] w fun e w' => e = .returned (.tuple #[valR (roundR n d p false), .int .i64 (errR (roundR n d p false))]) ∧ Below w.heap.size w w' := by
  by_cases h : validR n d = false ∨ p < 0 ∨ 30 < p
  · rw [roundR_bad false h]; exact down70_bad n d p w s1 s2 h
  · obtain ⟨r, hr, rfl, rfl⟩ := fit_of_valid (n := n) (d := d) (by cases hv : validR n d with
      | true => rfl
      | false => exact absurd (.inl hv) h)
    have hp : 0 ≤ p ∧ p ≤ 30 := by omega
    obtain ⟨k, rfl⟩ : ∃ k : Nat, p = (k : Int) := ⟨p.toNat, by omega⟩
    have q := down70_S hr (p := k) (by omega) w
    rw [round_Q hr (by omega)]
    cases hq : roundQ r k false with
    | none => rw [hq] at q; exact q
    | some x => rw [hq] at q; exact q
set_option maxRecDepth 100000 in
set_option maxHeartbeats 8000000 in
theorem up71_S {r : Int × Int} (h : Fit r) {p : Nat} (hp : p ≤ 30) (w : World) :
    Calls Tryz.prog 71 #[ratV (N3.S r.1) (N3.S r.2), .int .i64 (p : Int)] w fun e w' => e = .returned (.tuple #[qV (roundQ r p true), .int .i64 (qE (roundQ r p true))]) ∧ Below w.heap.size w w' := by
  have GR := Lib.hid (fun V => grid109_S h hp V)
  have lt := ten_lt hp
  have hd0 := N3.low_ne h.low
  obtain ⟨W, hW, k1, k2, hBW⟩ := two_rats w (N3.S r.1) (N3.S r.2) ⟨#[]⟩ ⟨#[]⟩
  by_cases l1 : (gridN r p).natAbs < N3.lim
  · rw [if_pos l1] at GR
    have l2 : (gridN r p / r.2).natAbs < N3.lim := Nat.lt_of_le_of_lt (N3.div_natAbs_le _ _) l1
    by_cases h0 : gridN r p % r.2 = 0
    · have hz := S_z23 h0
      rw [show roundQ r p true = some (N3.mk (gridN r p / r.2) (N3.ten p)) from by unfold roundQ; rw [if_pos l1, if_neg (by rintro ⟨-, h⟩; exact h h0)]]
      have MK := Lib.hid (fun V => make72_S l2 lt (ten_ne0 p) V)
      dsimp only [strR] at MK
      dsimp only [qV, qE]
      clear h0 l1 l2 lt hd0 h
      generalize N3.mk (gridN r p / r.2) (N3.ten p) = M at *
      generalize N3.S M.1 = q1 at *
      generalize N3.S M.2 = q2 at *
      generalize N3.S (gridN r p / r.2) = sq at *
      generalize N3.S (gridN r p % r.2) = sr at *
      generalize N3.S (N3.ten p) = tp at *
      generalize N3.S r.1 = rn at *
      generalize N3.S r.2 = rd at *
      go_enter Tryz.func71, Tryz.ntmps71
      have k1c0 := k1.cell 0
      have k1c1 := k1.cell 1
      simp only [List.getElem?_toArray, List.getElem?_cons_succ, List.getElem?_cons_zero] at k1c0 k1c1
      go_wp2_with (simp only [hW])
      refine (GR.out _).mono ?_
      rintro r V1 ⟨rfl, hb1⟩
      have hB1 := hBW.trans (hb1.mono hBW.size)
      clear k1c0 k1c1
      have k1 := BlkT.keep k1 hb1
      have k2 := BlkT.keep k2 hb1
      go_wp2_with fail
      refine (MK.out _).mono ?_
      rintro r V2 ⟨rfl, hb2⟩
      have hB2 := hB1.trans (hb2.mono hB1.size)
      have k1 := BlkT.keep k1 hb2
      have k2 := BlkT.keep k2 hb2
      have k2c0 := k2.cell 0
      have k2c1 := k2.cell 1
      simp only [List.getElem?_toArray, List.getElem?_cons_succ, List.getElem?_cons_zero] at k2c0 k2c1
      have k2f0 := k2.frozen 0
      have k2f1 := k2.frozen 1
      have HK := Lib.hid k2
      go_wp2_with fail
      have hz : BlkT _ _ #[.string q1, .string q2] 26 := (HK.out.set 0 (.string q1)).set 1 (.string q2)
      have z0 := hz.cell 0
      have z1 := hz.cell 1
      simp only [List.getElem?_toArray, List.getElem?_cons_succ, List.getElem?_cons_zero] at z0 z1
      refine bodyPost_ret (v := .tuple #[ratV q1 q2, .int .i64 0]) (by simp [results, Tryz.results71, go_sem, z0, z1]) rfl ?_
      exact ⟨rfl, (hB2.setCell (by dsimp only; omega) _).setCell (by dsimp only; omega) _⟩
    · have hz := S_nz23 h0
      have AD := Lib.hid (fun V => add10_R l2 lim1 V)
      rw [S_one] at AD
      by_cases l3 : (gridN r p / r.2 + 1).natAbs < N3.lim
      · skip
        rw [show roundQ r p true = some (N3.mk (gridN r p / r.2 + 1) (N3.ten p)) from by unfold roundQ; rw [if_pos l1, if_pos ⟨rfl, h0⟩, if_pos l3]]
        have MK := Lib.hid (fun V => make72_S l3 lt (ten_ne0 p) V)
        dsimp only [strR] at MK
        dsimp only [qV, qE]
        rw [N3.outS_some l3, N3.outE_some l3] at AD
        clear h0 l1 l2 l3 lt hd0 h
        generalize N3.mk (gridN r p / r.2 + 1) (N3.ten p) = M at *
        generalize N3.S M.1 = q1 at *
        generalize N3.S M.2 = q2 at *
        generalize N3.S (gridN r p / r.2 + 1) = sq1 at *
        generalize N3.S (gridN r p / r.2) = sq at *
        generalize N3.S (gridN r p % r.2) = sr at *
        generalize N3.S (N3.ten p) = tp at *
        generalize N3.S r.1 = rn at *
        generalize N3.S r.2 = rd at *
        go_enter Tryz.func71, Tryz.ntmps71
        have k1c0 := k1.cell 0
        have k1c1 := k1.cell 1
        simp only [List.getElem?_toArray, List.getElem?_cons_succ, List.getElem?_cons_zero] at k1c0 k1c1
        go_wp2_with (simp only [hW])
        refine (GR.out _).mono ?_
        rintro r V1 ⟨rfl, hb1⟩
        have hB1 := hBW.trans (hb1.mono hBW.size)
        clear k1c0 k1c1
        have k1 := BlkT.keep k1 hb1
        have k2 := BlkT.keep k2 hb1
        go_wp2_with fail
        refine (AD.out _).mono ?_
        rintro r V2 ⟨rfl, hb2⟩
        have hB2 := hB1.trans (hb2.mono hB1.size)
        have k1 := BlkT.keep k1 hb2
        have k2 := BlkT.keep k2 hb2
        go_wp2_with fail
        refine (MK.out _).mono ?_
        rintro r V3 ⟨rfl, hb3⟩
        have hB3 := hB2.trans (hb3.mono hB2.size)
        have k1 := BlkT.keep k1 hb3
        have k2 := BlkT.keep k2 hb3
        have k2c0 := k2.cell 0
        have k2c1 := k2.cell 1
        simp only [List.getElem?_toArray, List.getElem?_cons_succ, List.getElem?_cons_zero] at k2c0 k2c1
        have k2f0 := k2.frozen 0
        have k2f1 := k2.frozen 1
        have HK := Lib.hid k2
        go_wp2_with fail
        have hz : BlkT _ _ #[.string q1, .string q2] 26 := (HK.out.set 0 (.string q1)).set 1 (.string q2)
        have z0 := hz.cell 0
        have z1 := hz.cell 1
        simp only [List.getElem?_toArray, List.getElem?_cons_succ, List.getElem?_cons_zero] at z0 z1
        refine bodyPost_ret (v := .tuple #[ratV q1 q2, .int .i64 0]) (by simp [results, Tryz.results71, go_sem, z0, z1]) rfl ?_
        exact ⟨rfl, (hB3.setCell (by dsimp only; omega) _).setCell (by dsimp only; omega) _⟩
      · skip
        rw [show roundQ r p true = none from by unfold roundQ; rw [if_pos l1, if_pos ⟨rfl, h0⟩, if_neg l3]]
        dsimp only [qV, qE]
        rw [N3.outS_big l3, N3.outE_big l3] at AD
        clear h0 l1 l2 l3 lt hd0 h
        generalize N3.S (gridN r p / r.2) = sq at *
        generalize N3.S (gridN r p % r.2) = sr at *
        generalize N3.S (N3.ten p) = tp at *
        generalize N3.S r.1 = rn at *
        generalize N3.S r.2 = rd at *
        go_enter Tryz.func71, Tryz.ntmps71
        have k1c0 := k1.cell 0
        have k1c1 := k1.cell 1
        simp only [List.getElem?_toArray, List.getElem?_cons_succ, List.getElem?_cons_zero] at k1c0 k1c1
        go_wp2_with (simp only [hW])
        refine (GR.out _).mono ?_
        rintro r V1 ⟨rfl, hb1⟩
        have hB1 := hBW.trans (hb1.mono hBW.size)
        clear k1c0 k1c1
        have k1 := BlkT.keep k1 hb1
        have k2 := BlkT.keep k2 hb1
        go_wp2_with fail
        refine (AD.out _).mono ?_
        rintro r V2 ⟨rfl, hb2⟩
        have hB2 := hB1.trans (hb2.mono hB1.size)
        have k1 := BlkT.keep k1 hb2
        have k2 := BlkT.keep k2 hb2
        have k2c0 := k2.cell 0
        have k2c1 := k2.cell 1
        simp only [List.getElem?_toArray, List.getElem?_cons_succ, List.getElem?_cons_zero] at k2c0 k2c1
        have k2f0 := k2.frozen 0
        have k2f1 := k2.frozen 1
        have HK := Lib.hid k2
        go_wp2_with fail
        have hz : BlkT _ _ #[.string ⟨#[]⟩, .string ⟨#[]⟩] 26 := (HK.out.set 0 (.string ⟨#[]⟩)).set 1 (.string ⟨#[]⟩)
        have z0 := hz.cell 0
        have z1 := hz.cell 1
        simp only [List.getElem?_toArray, List.getElem?_cons_succ, List.getElem?_cons_zero] at z0 z1
        refine bodyPost_ret (v := .tuple #[ratV ⟨#[]⟩ ⟨#[]⟩, .int .i64 40]) (by simp [results, Tryz.results71, go_sem, z0, z1]) rfl ?_
        exact ⟨rfl, (hB2.setCell (by dsimp only; omega) _).setCell (by dsimp only; omega) _⟩
  · rw [if_neg l1] at GR
    rw [show roundQ r p true = none from by unfold roundQ; rw [if_neg l1]]
    dsimp only [qV, qE]
    clear l1 lt hd0 h
    generalize N3.S r.1 = rn at *
    generalize N3.S r.2 = rd at *
    go_enter Tryz.func71, Tryz.ntmps71
    have k1c0 := k1.cell 0
    have k1c1 := k1.cell 1
    simp only [List.getElem?_toArray, List.getElem?_cons_succ, List.getElem?_cons_zero] at k1c0 k1c1
    go_wp2_with (simp only [hW])
    refine (GR.out _).mono ?_
    rintro r V1 ⟨rfl, hb1⟩
    have hB1 := hBW.trans (hb1.mono hBW.size)
    clear k1c0 k1c1
    have k1 := BlkT.keep k1 hb1
    have k2 := BlkT.keep k2 hb1
    have k2c0 := k2.cell 0
    have k2c1 := k2.cell 1
    simp only [List.getElem?_toArray, List.getElem?_cons_succ, List.getElem?_cons_zero] at k2c0 k2c1
    have k2f0 := k2.frozen 0
    have k2f1 := k2.frozen 1
    have HK := Lib.hid k2
    go_wp2_with fail
    have hz : BlkT _ _ #[.string ⟨#[]⟩, .string ⟨#[]⟩] 26 := (HK.out.set 0 (.string ⟨#[]⟩)).set 1 (.string ⟨#[]⟩)
    have z0 := hz.cell 0
    have z1 := hz.cell 1
    simp only [List.getElem?_toArray, List.getElem?_cons_succ, List.getElem?_cons_zero] at z0 z1
    refine bodyPost_ret (v := .tuple #[ratV ⟨#[]⟩ ⟨#[]⟩, .int .i64 40]) (by simp [results, Tryz.results71, go_sem, z0, z1]) rfl ?_
    exact ⟨rfl, (hB1.setCell (by dsimp only; omega) _).setCell (by dsimp only; omega) _⟩
set_option maxRecDepth 100000 in
set_option maxHeartbeats 8000000 in
theorem up71_bad (n d : ByteArray) (p : Int) (w : World) (s1 : n.size ≤ 1000000) (s2 : d.size ≤ 1000000) (h : validR n d = false ∨ p < 0 ∨ 30 < p) :
    Calls Tryz.prog 71 #[ratV n d, .int .i64 p] w fun e w' => e = .returned (.tuple #[ratV ⟨#[]⟩ ⟨#[]⟩, .int .i64 40]) ∧ Below w.heap.size w w' := by
  have GR := Lib.hid (fun V => grid109_bad n d p V s1 s2 h)
  obtain ⟨W, hW, k1, k2, hBW⟩ := two_rats w n d ⟨#[]⟩ ⟨#[]⟩
  clear s1 s2 h
  go_enter Tryz.func71, Tryz.ntmps71
  have k1c0 := k1.cell 0
  have k1c1 := k1.cell 1
  simp only [List.getElem?_toArray, List.getElem?_cons_succ, List.getElem?_cons_zero] at k1c0 k1c1
  go_wp2_with (simp only [hW])
  refine (GR.out _).mono ?_
  rintro r V1 ⟨rfl, hb1⟩
  have hB1 := hBW.trans (hb1.mono hBW.size)
  clear k1c0 k1c1
  have k1 := BlkT.keep k1 hb1
  have k2 := BlkT.keep k2 hb1
  have k2c0 := k2.cell 0
  have k2c1 := k2.cell 1
  simp only [List.getElem?_toArray, List.getElem?_cons_succ, List.getElem?_cons_zero] at k2c0 k2c1
  have k2f0 := k2.frozen 0
  have k2f1 := k2.frozen 1
  have HK := Lib.hid k2
  go_wp2_with fail
  have hz : BlkT _ _ #[.string ⟨#[]⟩, .string ⟨#[]⟩] 26 := (HK.out.set 0 (.string ⟨#[]⟩)).set 1 (.string ⟨#[]⟩)
  have z0 := hz.cell 0
  have z1 := hz.cell 1
  simp only [List.getElem?_toArray, List.getElem?_cons_succ, List.getElem?_cons_zero] at z0 z1
  refine bodyPost_ret (v := .tuple #[ratV ⟨#[]⟩ ⟨#[]⟩, .int .i64 40]) (by simp [results, Tryz.results71, go_sem, z0, z1]) rfl ?_
  exact ⟨rfl, (hB1.setCell (by dsimp only; omega) _).setCell (by dsimp only; omega) _⟩
theorem up71 (n d : ByteArray) (p : Int) (w : World) (s1 : n.size ≤ 1000000) (s2 : d.size ≤ 1000000) :
    Calls Tryz.prog 71 #[ratV n d, .int .i64 p] w fun e w' => e = .returned (.tuple #[valR (roundR n d p true), .int .i64 (errR (roundR n d p true))]) ∧ Below w.heap.size w w' := by
  by_cases h : validR n d = false ∨ p < 0 ∨ 30 < p
  · rw [roundR_bad true h]; exact up71_bad n d p w s1 s2 h
  · obtain ⟨r, hr, rfl, rfl⟩ := fit_of_valid (n := n) (d := d) (by cases hv : validR n d with
      | true => rfl
      | false => exact absurd (.inl hv) h)
    have hp : 0 ≤ p ∧ p ≤ 30 := by omega
    obtain ⟨k, rfl⟩ : ∃ k : Nat, p = (k : Int) := ⟨p.toNat, by omega⟩
    have q := up71_S hr (p := k) (by omega) w
    rw [round_Q hr (by omega)]
    cases hq : roundQ r k true with
    | none => rw [hq] at q; exact q
    | some x => rw [hq] at q; exact q
end Go.Proofs.YtjnpenljgfdaiaaGreatDoor

/- package nadirref04: Print, Parse. -/
namespace Go.Proofs.YtjnpenljgfdaiaaGreatDoor
open Go.RowKit Go.Shelf Lib

theorem join_cat (n d : ByteArray) : n ++ ⟨#[47]⟩ ++ d = joinR n d := bytes_ext (by
  unfold joinR
  rw [ByteArray.data_append, Array.toList_append, ByteArray.data_append, Array.toList_append]
  simp [Lib.join])
theorem index_split (a b : List UInt8) (h : ∀ x ∈ a, x ≠ 47) : Lib.index (a ++ 47 :: b) [47] = (a.length : Int) := by
  induction a with
  | nil => simp [Lib.index, List.isPrefixOf]
  | cons x a ih =>
    have hx : x ≠ 47 := h x List.mem_cons_self
    have hi := ih fun y hy => h y (List.mem_cons_of_mem _ hy)
    have h2 : List.isPrefixOf [47] (x :: (a ++ 47 :: b)) = false := by
      simp only [List.isPrefixOf, Bool.and_true]
      exact beq_eq_false_iff_ne.2 fun e => hx e.symm
    rw [List.cons_append, Lib.index, h2, hi, if_neg (by decide), if_neg (by rw [beq_iff_eq]; omega), List.length_cons]
    omega
theorem index_no (a : List UInt8) (h : ∀ x ∈ a, x ≠ 47) : Lib.index a [47] = -1 := by
  induction a with
  | nil => simp [Lib.index]
  | cons x a ih =>
    have hx : x ≠ 47 := h x List.mem_cons_self
    have hi := ih fun y hy => h y (List.mem_cons_of_mem _ hy)
    have h2 : List.isPrefixOf [47] (x :: a) = false := by
      cases a <;> simp only [List.isPrefixOf, Bool.and_true] <;> exact beq_eq_false_iff_ne.2 fun e => hx e.symm
    rw [Lib.index, h2, hi]; rfl
theorem ext_list (s : ByteArray) (i j : Nat) : (s.extract i j).data.toList = (s.data.toList.take j).drop i := by
  rw [ByteArray.data_extract, Array.toList_extract, List.extract_eq_take_drop]
  rw [List.drop_take]
theorem cut_at {s : ByteArray} {k : Nat} (hk : k < s.size) (h : s[k].toNat = 47) (hall : ∀ x ∈ s.data.toList.take k, x ≠ 47) : cutR s = (s.extract 0 k, s.extract (k + 1) s.size) := by
  have hl : s.data.toList.length = s.size := (Lib.size_eq s).symm
  have hs : s.data.toList = s.data.toList.take k ++ 47 :: s.data.toList.drop (k + 1) := by
    have h1 : s.data.toList[k]'(by omega) = 47 := by
      have : s.data.toList[k]'(by omega) = s[k] := by rw [Array.getElem_toList]; rfl
      rw [this]
      exact UInt8.toNat_inj.1 h
    conv => lhs; rw [← List.take_append_drop k s.data.toList, List.drop_eq_getElem_cons (by omega : k < s.data.toList.length), h1]
  have hi : Lib.index s.data.toList [47] = (k : Int) := by
    have := index_split (s.data.toList.take k) (s.data.toList.drop (k + 1)) hall
    rw [← hs, List.length_take] at this
    rw [this]; omega
  have e : Lib.cut s.data.toList [47] = (s.data.toList.take k, s.data.toList.drop (k + 1), true) := by
    unfold Lib.cut
    rw [hi, if_pos (by omega), Int.toNat_natCast]; rfl
  unfold cutR
  rw [e, if_pos rfl]
  refine Prod.ext (bytes_ext ?_) (bytes_ext ?_)
  · show s.data.toList.take k = _
    rw [ext_list, List.drop_zero]
  · show s.data.toList.drop (k + 1) = _
    rw [ext_list, List.take_of_length_le (by rw [hl]; exact Nat.le_refl _)]
theorem cut_no {s : ByteArray} (hall : ∀ x ∈ s.data.toList, x ≠ 47) : cutR s = (s, ⟨#[49]⟩) := by
  have e : Lib.cut s.data.toList [47] = (s.data.toList, [], false) := by
    unfold Lib.cut
    rw [index_no _ hall, if_neg (by decide)]
  unfold cutR
  rw [e, if_neg (show ¬ (false = true) from by decide)]
theorem parse_eq (s : ByteArray) : parseR s = if validR (cutR s).1 (cutR s).2 = true ∧ printR (cutR s).1 (cutR s).2 = s then some (cutR s) else none := by
  unfold parseR
  by_cases hv : validR (cutR s).1 (cutR s).2 = true
  · by_cases hp : printR (cutR s).1 (cutR s).2 = s
    · have hs : s.data.toList ≠ [] := by
        intro h
        have e : s = ⟨#[]⟩ := bytes_ext (by rw [h])
        rw [e, show cutR ⟨#[]⟩ = (⟨#[]⟩, ⟨#[49]⟩) from cut_no (by simp)] at hv
        revert hv; decide +kernel
      rw [if_neg (show ¬ (printR (cutR s).1 (cutR s).2 ≠ s ∨ s.data.toList = []) from fun h => h.elim (fun h => h hp) hs)]
      exact (if_pos ⟨hv, hp⟩).symm
    · rw [if_pos (show printR (cutR s).1 (cutR s).2 ≠ s ∨ s.data.toList = [] from .inl hp)]
      exact (if_neg (fun h => hp h.2)).symm
  · rw [if_pos (show printR (cutR s).1 (cutR s).2 ≠ s ∨ s.data.toList = [] from by
      by_cases hs : s.data.toList = []
      · exact .inr hs
      · left
        intro e
        unfold printR at e
        rw [if_neg hv] at e
        exact hs (by rw [← e]))]
    exact (if_neg (fun h => hv h.1)).symm
theorem take_ne {s : ByteArray} {k : Nat} (hk : k < s.size) (h : s[k].toNat ≠ 47) (hall : ∀ x ∈ s.data.toList.take k, x ≠ 47) : ∀ x ∈ s.data.toList.take (k + 1), x ≠ 47 := by
  have hl : s.data.toList.length = s.size := (Lib.size_eq s).symm
  rw [List.take_succ_eq_append_getElem (by omega)]
  intro x hx
  rcases List.mem_append.1 hx with hx | hx
  · exact hall x hx
  · rw [List.mem_singleton] at hx
    have : s.data.toList[k]'(by omega) = s[k] := by rw [Array.getElem_toList]; rfl
    rw [hx, this]
    intro e
    exact h (by rw [e]; rfl)

set_option maxRecDepth 100000 in
set_option maxHeartbeats 8000000 in
theorem print59 (n d : ByteArray) (w : World) (s1 : n.size ≤ 1000000) (s2 : d.size ≤ 1000000) :
    Calls Tryz.prog 59 #[ratV n d] w fun r w' => r = .returned (.string (printR n d)) ∧ Below w.heap.size w w' := by
  have VR := Lib.hid (fun V => valid73 n d V s1 s2)
  have hj := join_cat n d
  have q1 : ¬ 9223372036854775807 < n.size + 1 := by omega
  have q2 : ¬ 9223372036854775807 < n.size + (⟨#[47]⟩ : ByteArray).size := by show ¬ 9223372036854775807 < n.size + 1; omega
  have q3 : ¬ 9223372036854775807 < (n ++ ⟨#[47]⟩).size + d.size := by rw [ByteArray.size_append]; show ¬ 9223372036854775807 < n.size + 1 + d.size; omega
  have q4 : ¬ 9223372036854775807 < n.size + 1 + d.size := by omega
  obtain ⟨W, hW⟩ : ∃ W, w.alloc (.cells #[.string n, .string d] 26) = W := ⟨_, rfl⟩
  have k1 : BlkT W w.heap.size #[.string n, .string d] 26 := hW ▸ BlkT.newAt _ _ _ rfl
  have hBW : Below w.heap.size w W := hW ▸ (Below.refl _ _).alloc (Nat.le_refl _) _
  clear s1 s2
  unfold printR
  generalize validR n d = v at *
  cases v with
  | false =>
    rw [if_neg (by decide)]
    go_enter Tryz.func59, Tryz.ntmps59
    have k1c0 := k1.cell 0
    have k1c1 := k1.cell 1
    simp only [List.getElem?_toArray, List.getElem?_cons_succ, List.getElem?_cons_zero] at k1c0 k1c1
    go_wp2_with (simp only [hW])
    refine (VR.out _).mono ?_
    rintro r V1 ⟨rfl, hb1⟩
    have hB1 := hBW.trans (hb1.mono hBW.size)
    clear k1c0 k1c1
    have k1 := BlkT.keep k1 hb1
    have k1c0 := k1.cell 0
    have k1c1 := k1.cell 1
    simp only [List.getElem?_toArray, List.getElem?_cons_succ, List.getElem?_cons_zero] at k1c0 k1c1
    go_wp2_with fail
    go_ret
    exact ⟨rfl, hB1⟩
  | true =>
    rw [if_pos rfl]
    by_cases h : d.data.toList = [49]
    · rw [if_pos h]
      have he := str_eq49 h
      clear h
      go_enter Tryz.func59, Tryz.ntmps59
      have k1c0 := k1.cell 0
      have k1c1 := k1.cell 1
      simp only [List.getElem?_toArray, List.getElem?_cons_succ, List.getElem?_cons_zero] at k1c0 k1c1
      go_wp2_with (simp only [hW])
      refine (VR.out _).mono ?_
      rintro r V1 ⟨rfl, hb1⟩
      have hB1 := hBW.trans (hb1.mono hBW.size)
      clear k1c0 k1c1
      have k1 := BlkT.keep k1 hb1
      have k1c0 := k1.cell 0
      have k1c1 := k1.cell 1
      simp only [List.getElem?_toArray, List.getElem?_cons_succ, List.getElem?_cons_zero] at k1c0 k1c1
      go_wp2_with fail
      go_ret
      exact ⟨rfl, hB1⟩
    · rw [if_neg h]
      have he := str_ne49 h
      clear h
      go_enter Tryz.func59, Tryz.ntmps59
      have k1c0 := k1.cell 0
      have k1c1 := k1.cell 1
      simp only [List.getElem?_toArray, List.getElem?_cons_succ, List.getElem?_cons_zero] at k1c0 k1c1
      go_wp2_with (simp only [hW])
      refine (VR.out _).mono ?_
      rintro r V1 ⟨rfl, hb1⟩
      have hB1 := hBW.trans (hb1.mono hBW.size)
      clear k1c0 k1c1
      have k1 := BlkT.keep k1 hb1
      have k1c0 := k1.cell 0
      have k1c1 := k1.cell 1
      simp only [List.getElem?_toArray, List.getElem?_cons_succ, List.getElem?_cons_zero] at k1c0 k1c1
      go_wp2_with fail
      go_ret
      exact ⟨by first | rfl | (rw [hj]), hB1⟩
def refP (s n d : ByteArray) : Option (ByteArray × ByteArray) := if validR n d = true ∧ printR n d = s then some (n, d) else none
set_option maxRecDepth 100000 in
set_option maxHeartbeats 8000000 in
theorem parse61_go (s cn cd : ByteArray) (hc : cutR s = (cn, cd)) (w : World) (hs : s.size ≤ 900000) :
    Calls Tryz.prog 61 #[.string s] w fun r w' => r = .returned (.tuple #[valR (refP s cn cd), .int .i64 (errR (refP s cn cd))]) ∧ Below w.heap.size w w' := by
  obtain ⟨W, hW, k2, k4, hBW⟩ := two_rats w ⟨#[]⟩ ⟨#[]⟩ s ⟨#[49]⟩
  have hcs := cut_size s
  rw [hc] at hcs
  dsimp only at hcs
  have VR := Lib.hid (fun V => valid73 cn cd V (by omega) (by omega))
  have PR := Lib.hid (fun V => print59 cn cd V (by omega) (by omega))
  have HC := Lib.hid hc
  obtain ⟨vn, vd, ve, hv⟩ : ∃ (vn vd : ByteArray) (ve : Int), Hid (valR (refP s cn cd) = ratV vn vd ∧ errR (refP s cn cd) = ve ∧ (validR cn cd = false ∧ vn = ⟨#[]⟩ ∧ vd = ⟨#[]⟩ ∧ ve = 40 ∨ validR cn cd = true ∧ ((printR cn cd).toList == s.toList) = false ∧ vn = ⟨#[]⟩ ∧ vd = ⟨#[]⟩ ∧ ve = 40 ∨ validR cn cd = true ∧ ((printR cn cd).toList == s.toList) = true ∧ vn = cn ∧ vd = cd ∧ ve = 0)) := by
    unfold refP
    by_cases h1 : validR cn cd = true
    · by_cases h2 : printR cn cd = s
      · rw [if_pos ⟨h1, h2⟩]
        exact ⟨cn, cd, 0, Lib.hid ⟨rfl, rfl, .inr (.inr ⟨h1, by rw [h2]; exact beq_self_eq_true _, rfl, rfl, rfl⟩)⟩⟩
      · rw [if_neg (fun h => h2 h.2)]
        exact ⟨_, _, _, Lib.hid ⟨rfl, rfl, .inr (.inl ⟨h1, str_neq h2, rfl, rfl, rfl⟩)⟩⟩
    · rw [if_neg (fun h => h1 h.1)]
      exact ⟨_, _, _, Lib.hid ⟨rfl, rfl, .inl ⟨by simpa using h1, rfl, rfl, rfl⟩⟩⟩
  rw [hv.out.1, hv.out.2.1]
  have HV := Lib.hid hv.out.2.2
  have HW := Lib.hid (And.intro k2 (And.intro k4 hBW))
  clear k2 k4 hBW hcs hc hv
  generalize validR cn cd = vb at *
  generalize printR cn cd = pb at *
  go_enter Tryz.func61, Tryz.ntmps61
  go_wp2_with (simp only [hW])
  (try rw [hW])
  go_loopw [5] (fun u5 wr => ∃ i : Nat, i ≤ s.size ∧ u5 = .int .i64 (i : Nat) ∧ Hid (∀ x ∈ s.data.toList.take i, x ≠ 47) ∧ W = wr) (fun u5 _ => ((s.size : Int) - Go.RowKit.intOf u5).toNat)
  case atStart => exact ⟨0, Nat.zero_le _, rfl, Lib.hid (by simp), rfl⟩
  case round =>
    obtain ⟨i, hi, rfl, HALL, rfl⟩ := hrel
    by_cases hlt : i < s.size
    · have hki : (0 : Int) ≤ (i : Int) ∧ (i : Int) < (s.size : Int) := by omega
      have hwi : IntKind.i64.wrap ((i : Int) + 1) = ((i + 1 : Nat) : Int) := by rw [IntKind.wrap_i64]; omega
      by_cases h47 : s[i].toNat = 47
      · have HE := (cut_at hlt h47 HALL.out).symm.trans HC.out
        have e1 : s.extract 0 i = cn := congrArg Prod.fst HE
        have e2 : s.extract (i + 1) s.size = cd := congrArg Prod.snd HE
        have hq : ((s[i].toNat : Int) == 47) = true := beq_iff_eq.2 (by omega)
        have hq2 : (s[i].toNat : Int) = 47 := by omega
        have b1 : (0 : Int) ≤ (i : Int) ∧ (i : Int) ≤ (s.size : Int) := by omega
        have b2 : (0 : Int) ≤ ((i + 1 : Nat) : Int) ∧ ((i + 1 : Nat) : Int) ≤ (s.size : Int) := by omega
        clear HE h47 HC HALL
        have k4 := HW.out.2.1
        have k4c0 := k4.cell 0
        have k4c1 := k4.cell 1
        simp only [List.getElem?_toArray, List.getElem?_cons_succ, List.getElem?_cons_zero] at k4c0 k4c1
        have k4f0 := k4.frozen 0
        have k4f1 := k4.frozen 1
        clear k4
        go_wp2_with fail
        go_region
        (try go_wp2_with fail)
        have k4 : BlkT (((W.setCell ⟨w.heap.size + 1, 0, none⟩ (.string cn)).setCell ⟨w.heap.size + 1, 1, none⟩ (.string cd)).drew) (w.heap.size + 1) #[.string cn, .string cd] 26 := (HW.out.2.1.set 0 (.string cn)).set 1 (.string cd)
        have k2 : BlkT (((W.setCell ⟨w.heap.size + 1, 0, none⟩ (.string cn)).setCell ⟨w.heap.size + 1, 1, none⟩ (.string cd)).drew) w.heap.size #[.string ⟨#[]⟩, .string ⟨#[]⟩] 26 := (HW.out.1.other (a := ⟨w.heap.size + 1, 0, none⟩) (.string cn) (by dsimp only; omega)).other (a := ⟨w.heap.size + 1, 1, none⟩) (.string cd) (by dsimp only; omega)
        have hBU : Below w.heap.size w (((W.setCell ⟨w.heap.size + 1, 0, none⟩ (.string cn)).setCell ⟨w.heap.size + 1, 1, none⟩ (.string cd)).drew) := ((HW.out.2.2.setCell (by dsimp only; omega) _).setCell (by dsimp only; omega) _).drew
        generalize ((W.setCell ⟨w.heap.size + 1, 0, none⟩ (.string cn)).setCell ⟨w.heap.size + 1, 1, none⟩ (.string cd)).drew = U at *
        clear k4c0 k4c1 k4f0 k4f1 HW e1 e2 hq hq2 b1 b2 hki hwi
        rcases HV.out with ⟨rfl, rfl, rfl, rfl⟩ | ⟨rfl, hp, rfl, rfl, rfl⟩ | ⟨rfl, hp, h1, h2, rfl⟩
        · clear HV
          have k4c0 := k4.cell 0
          have k4c1 := k4.cell 1
          simp only [List.getElem?_toArray, List.getElem?_cons_succ, List.getElem?_cons_zero] at k4c0 k4c1
          refine (VR.out _).mono ?_
          rintro r V1 ⟨rfl, hb1⟩
          have hB1 := hBU.trans (hb1.mono hBU.size)
          clear k4c0 k4c1
          have k4 := BlkT.keep k4 hb1
          have k2 := BlkT.keep k2 hb1
          have k2c0 := k2.cell 0
          have k2c1 := k2.cell 1
          simp only [List.getElem?_toArray, List.getElem?_cons_succ, List.getElem?_cons_zero] at k2c0 k2c1
          have k2f0 := k2.frozen 0
          have k2f1 := k2.frozen 1
          have HK := Lib.hid k2
          go_wp2_with fail
          have hz : BlkT _ _ #[.string ⟨#[]⟩, .string ⟨#[]⟩] 26 := (HK.out.set 0 (.string ⟨#[]⟩)).set 1 (.string ⟨#[]⟩)
          have z0 := hz.cell 0
          have z1 := hz.cell 1
          simp only [List.getElem?_toArray, List.getElem?_cons_succ, List.getElem?_cons_zero] at z0 z1
          refine bodyPost_ret (v := .tuple #[ratV ⟨#[]⟩ ⟨#[]⟩, .int .i64 40]) (by simp [results, Tryz.results61, go_sem, z0, z1]) rfl ?_
          exact ⟨rfl, (hB1.setCell (by dsimp only; omega) _).setCell (by dsimp only; omega) _⟩
        · clear HV
          have k4c0 := k4.cell 0
          have k4c1 := k4.cell 1
          simp only [List.getElem?_toArray, List.getElem?_cons_succ, List.getElem?_cons_zero] at k4c0 k4c1
          refine (VR.out _).mono ?_
          rintro r V1 ⟨rfl, hb1⟩
          have hB1 := hBU.trans (hb1.mono hBU.size)
          clear k4c0 k4c1
          have k4 := BlkT.keep k4 hb1
          have k2 := BlkT.keep k2 hb1
          have k4c0 := k4.cell 0
          have k4c1 := k4.cell 1
          simp only [List.getElem?_toArray, List.getElem?_cons_succ, List.getElem?_cons_zero] at k4c0 k4c1
          go_wp2_with fail
          refine (PR.out _).mono ?_
          rintro r V2 ⟨rfl, hb2⟩
          have hB2 := hB1.trans (hb2.mono hB1.size)
          clear k4c0 k4c1
          have k4 := BlkT.keep k4 hb2
          have k2 := BlkT.keep k2 hb2
          have k2c0 := k2.cell 0
          have k2c1 := k2.cell 1
          simp only [List.getElem?_toArray, List.getElem?_cons_succ, List.getElem?_cons_zero] at k2c0 k2c1
          have k2f0 := k2.frozen 0
          have k2f1 := k2.frozen 1
          have HK := Lib.hid k2
          go_wp2_with fail
          have hz : BlkT _ _ #[.string ⟨#[]⟩, .string ⟨#[]⟩] 26 := (HK.out.set 0 (.string ⟨#[]⟩)).set 1 (.string ⟨#[]⟩)
          have z0 := hz.cell 0
          have z1 := hz.cell 1
          simp only [List.getElem?_toArray, List.getElem?_cons_succ, List.getElem?_cons_zero] at z0 z1
          refine bodyPost_ret (v := .tuple #[ratV ⟨#[]⟩ ⟨#[]⟩, .int .i64 40]) (by simp [results, Tryz.results61, go_sem, z0, z1]) rfl ?_
          exact ⟨rfl, (hB2.setCell (by dsimp only; omega) _).setCell (by dsimp only; omega) _⟩
        · clear HV
          have h1' := h1.symm
          have h2' := h2.symm
          clear h1 h2
          subst h1' h2'
          have k4c0 := k4.cell 0
          have k4c1 := k4.cell 1
          simp only [List.getElem?_toArray, List.getElem?_cons_succ, List.getElem?_cons_zero] at k4c0 k4c1
          refine (VR.out _).mono ?_
          rintro r V1 ⟨rfl, hb1⟩
          have hB1 := hBU.trans (hb1.mono hBU.size)
          clear k4c0 k4c1
          have k4 := BlkT.keep k4 hb1
          have k2 := BlkT.keep k2 hb1
          have k4c0 := k4.cell 0
          have k4c1 := k4.cell 1
          simp only [List.getElem?_toArray, List.getElem?_cons_succ, List.getElem?_cons_zero] at k4c0 k4c1
          go_wp2_with fail
          refine (PR.out _).mono ?_
          rintro r V2 ⟨rfl, hb2⟩
          have hB2 := hB1.trans (hb2.mono hB1.size)
          clear k4c0 k4c1
          have k4 := BlkT.keep k4 hb2
          have k2 := BlkT.keep k2 hb2
          have k4c0 := k4.cell 0
          have k4c1 := k4.cell 1
          simp only [List.getElem?_toArray, List.getElem?_cons_succ, List.getElem?_cons_zero] at k4c0 k4c1
          have k2c0 := k2.cell 0
          have k2c1 := k2.cell 1
          simp only [List.getElem?_toArray, List.getElem?_cons_succ, List.getElem?_cons_zero] at k2c0 k2c1
          have k2f0 := k2.frozen 0
          have k2f1 := k2.frozen 1
          have HK := Lib.hid k2
          go_wp2_with fail
          have hz : BlkT _ _ #[.string cn, .string cd] 26 := (HK.out.set 0 (.string cn)).set 1 (.string cd)
          have z0 := hz.cell 0
          have z1 := hz.cell 1
          simp only [List.getElem?_toArray, List.getElem?_cons_succ, List.getElem?_cons_zero] at z0 z1
          refine bodyPost_ret (v := .tuple #[ratV cn cd, .int .i64 0]) (by simp [results, Tryz.results61, go_sem, z0, z1]) rfl ?_
          exact ⟨rfl, (hB2.setCell (by dsimp only; omega) _).setCell (by dsimp only; omega) _⟩
      · have HR := Lib.hid (take_ne hlt h47 HALL.out)
        have hq : ((s[i].toNat : Int) == 47) = false := beq_eq_false_iff_ne.2 (by omega)
        clear HALL
        go_wp2_with fail
        go_roundw
        case rel => exact ⟨i + 1, by omega, by go_num, HR, by first | rfl | trivial⟩
        case measure => simp [Go.RowKit.intOf]; omega
    · obtain rfl : i = s.size := by omega
      have hq0 : ¬ (s.size : Int) < (s.size : Int) := by omega
      have HE := (cut_no (s := s) (by have := HALL.out; rwa [List.take_of_length_le (by rw [← Lib.size_eq]; exact Nat.le_refl _)] at this)).symm.trans HC.out
      obtain rfl : s = cn := congrArg Prod.fst HE
      obtain rfl : ⟨#[49]⟩ = cd := congrArg Prod.snd HE
      clear HE HC HALL
      have k4 := HW.out.2.1; have k2 := HW.out.1; have hBU := HW.out.2.2
      clear HW
      rcases HV.out with ⟨rfl, rfl, rfl, rfl⟩ | ⟨rfl, hp, rfl, rfl, rfl⟩ | ⟨rfl, hp, h1, h2, rfl⟩
      · clear HV
        have k4c0 := k4.cell 0
        have k4c1 := k4.cell 1
        simp only [List.getElem?_toArray, List.getElem?_cons_succ, List.getElem?_cons_zero] at k4c0 k4c1
        go_wp2_with fail
        refine (VR.out _).mono ?_
        rintro r V1 ⟨rfl, hb1⟩
        have hB1 := hBU.trans (hb1.mono hBU.size)
        clear k4c0 k4c1
        have k4 := BlkT.keep k4 hb1
        have k2 := BlkT.keep k2 hb1
        have k2c0 := k2.cell 0
        have k2c1 := k2.cell 1
        simp only [List.getElem?_toArray, List.getElem?_cons_succ, List.getElem?_cons_zero] at k2c0 k2c1
        have k2f0 := k2.frozen 0
        have k2f1 := k2.frozen 1
        have HK := Lib.hid k2
        go_wp2_with fail
        have hz : BlkT _ _ #[.string ⟨#[]⟩, .string ⟨#[]⟩] 26 := (HK.out.set 0 (.string ⟨#[]⟩)).set 1 (.string ⟨#[]⟩)
        have z0 := hz.cell 0
        have z1 := hz.cell 1
        simp only [List.getElem?_toArray, List.getElem?_cons_succ, List.getElem?_cons_zero] at z0 z1
        refine bodyPost_ret (v := .tuple #[ratV ⟨#[]⟩ ⟨#[]⟩, .int .i64 40]) (by simp [results, Tryz.results61, go_sem, z0, z1]) rfl ?_
        exact ⟨rfl, (hB1.setCell (by dsimp only; omega) _).setCell (by dsimp only; omega) _⟩
      · clear HV
        have k4c0 := k4.cell 0
        have k4c1 := k4.cell 1
        simp only [List.getElem?_toArray, List.getElem?_cons_succ, List.getElem?_cons_zero] at k4c0 k4c1
        go_wp2_with fail
        refine (VR.out _).mono ?_
        rintro r V1 ⟨rfl, hb1⟩
        have hB1 := hBU.trans (hb1.mono hBU.size)
        clear k4c0 k4c1
        have k4 := BlkT.keep k4 hb1
        have k2 := BlkT.keep k2 hb1
        have k4c0 := k4.cell 0
        have k4c1 := k4.cell 1
        simp only [List.getElem?_toArray, List.getElem?_cons_succ, List.getElem?_cons_zero] at k4c0 k4c1
        go_wp2_with fail
        refine (PR.out _).mono ?_
        rintro r V2 ⟨rfl, hb2⟩
        have hB2 := hB1.trans (hb2.mono hB1.size)
        clear k4c0 k4c1
        have k4 := BlkT.keep k4 hb2
        have k2 := BlkT.keep k2 hb2
        have k2c0 := k2.cell 0
        have k2c1 := k2.cell 1
        simp only [List.getElem?_toArray, List.getElem?_cons_succ, List.getElem?_cons_zero] at k2c0 k2c1
        have k2f0 := k2.frozen 0
        have k2f1 := k2.frozen 1
        have HK := Lib.hid k2
        go_wp2_with fail
        have hz : BlkT _ _ #[.string ⟨#[]⟩, .string ⟨#[]⟩] 26 := (HK.out.set 0 (.string ⟨#[]⟩)).set 1 (.string ⟨#[]⟩)
        have z0 := hz.cell 0
        have z1 := hz.cell 1
        simp only [List.getElem?_toArray, List.getElem?_cons_succ, List.getElem?_cons_zero] at z0 z1
        refine bodyPost_ret (v := .tuple #[ratV ⟨#[]⟩ ⟨#[]⟩, .int .i64 40]) (by simp [results, Tryz.results61, go_sem, z0, z1]) rfl ?_
        exact ⟨rfl, (hB2.setCell (by dsimp only; omega) _).setCell (by dsimp only; omega) _⟩
      · clear HV
        have h1' := h1.symm
        have h2' := h2.symm
        clear h1 h2
        subst h1' h2'
        have k4c0 := k4.cell 0
        have k4c1 := k4.cell 1
        simp only [List.getElem?_toArray, List.getElem?_cons_succ, List.getElem?_cons_zero] at k4c0 k4c1
        go_wp2_with fail
        refine (VR.out _).mono ?_
        rintro r V1 ⟨rfl, hb1⟩
        have hB1 := hBU.trans (hb1.mono hBU.size)
        clear k4c0 k4c1
        have k4 := BlkT.keep k4 hb1
        have k2 := BlkT.keep k2 hb1
        have k4c0 := k4.cell 0
        have k4c1 := k4.cell 1
        simp only [List.getElem?_toArray, List.getElem?_cons_succ, List.getElem?_cons_zero] at k4c0 k4c1
        go_wp2_with fail
        refine (PR.out _).mono ?_
        rintro r V2 ⟨rfl, hb2⟩
        have hB2 := hB1.trans (hb2.mono hB1.size)
        clear k4c0 k4c1
        have k4 := BlkT.keep k4 hb2
        have k2 := BlkT.keep k2 hb2
        have k4c0 := k4.cell 0
        have k4c1 := k4.cell 1
        simp only [List.getElem?_toArray, List.getElem?_cons_succ, List.getElem?_cons_zero] at k4c0 k4c1
        have k2c0 := k2.cell 0
        have k2c1 := k2.cell 1
        simp only [List.getElem?_toArray, List.getElem?_cons_succ, List.getElem?_cons_zero] at k2c0 k2c1
        have k2f0 := k2.frozen 0
        have k2f1 := k2.frozen 1
        have HK := Lib.hid k2
        go_wp2_with fail
        have hz : BlkT _ _ #[.string s, .string ⟨#[49]⟩] 26 := (HK.out.set 0 (.string s)).set 1 (.string ⟨#[49]⟩)
        have z0 := hz.cell 0
        have z1 := hz.cell 1
        simp only [List.getElem?_toArray, List.getElem?_cons_succ, List.getElem?_cons_zero] at z0 z1
        refine bodyPost_ret (v := .tuple #[ratV s ⟨#[49]⟩, .int .i64 0]) (by simp [results, Tryz.results61, go_sem, z0, z1]) rfl ?_
        exact ⟨rfl, (hB2.setCell (by dsimp only; omega) _).setCell (by dsimp only; omega) _⟩
theorem parse61 (s : ByteArray) (w : World) (hs : s.size ≤ 900000) :
    Calls Tryz.prog 61 #[.string s] w fun r w' => r = .returned (.tuple #[valR (parseR s), .int .i64 (errR (parseR s))]) ∧ Below w.heap.size w w' := by
  have q := parse61_go s (cutR s).1 (cutR s).2 rfl w hs
  rw [show refP s (cutR s).1 (cutR s).2 = parseR s from (parse_eq s).symm] at q
  exact q
end Go.Proofs.YtjnpenljgfdaiaaGreatDoor

/- nadirlaw04: cut. -/
namespace Go.Proofs.YtjnpenljgfdaiaaGreatDoor
open Go.RowKit Go.Shelf Lib

theorem run_min210 {k : Nat} (m : Int) {c : Nat} (hc : (c : Int) = min (k : Int) m) (ts : Array TypeId) (t : TypeId) (W : World) : (Builtin.min_ ts t #[.int .i64 (k : Int), .int .i64 m]).run Tryz.prog W = .ok (.int .i64 (c : Int)) W := by
  simp only [Builtin.min_, Builtin.min2, List.foldlM_cons, List.foldlM_nil, Sem.run_bind, Sem.run_pure, Result.andThen]
  congr 2
  omega
theorem run_head {s t : ByteArray} {c : Nat} (_hs : s.size ≤ 9223372036854775807) (hc : c ≤ s.size) (ht : t = s.extract 0 c) (W : World) : (Instr.slice 9 (.string s) none (some (.int .i64 (c : Int))) none).run Tryz.prog W = .ok (.string t) W := by
  have := run_slice_string_h (P := Tryz.prog) W 9 s Tryz.underlying9 .i64 (c : Int) (by omega) (by omega)
  rw [this, ht]; rfl
def cutB (m : Nat) (s : ByteArray) : ByteArray := s.extract 0 (min s.size m)
theorem cutB_size (m : Nat) (s : ByteArray) : (cutB m s).size ≤ m := by unfold cutB; rw [ByteArray.size_extract]; omega
set_option maxRecDepth 100000 in
set_option maxHeartbeats 8000000 in
theorem cut56 (n d : ByteArray) (w : World) (s1 : n.size ≤ 9223372036854775807) (s2 : d.size ≤ 9223372036854775807) :
    Calls Tryz.prog 56 #[ratV n d] w fun r w' => r = .returned (ratV (cutB 210 n) (cutB 210 d)) ∧ Below w.heap.size w w' := by
  obtain ⟨c1, hc1⟩ : ∃ c, min n.size 210 = c := ⟨_, rfl⟩
  obtain ⟨c2, hc2⟩ : ∃ c, min d.size 210 = c := ⟨_, rfl⟩
  obtain ⟨cn, hcn⟩ : ∃ x, cutB 210 n = x := ⟨_, rfl⟩
  obtain ⟨cd, hcd⟩ : ∃ x, cutB 210 d = x := ⟨_, rfl⟩
  have m1 := run_min210 (k := n.size) 210 (c := c1) (by omega)
  have m2 := run_min210 (k := d.size) 210 (c := c2) (by omega)
  have l1 := run_head (s := n) (t := cn) (c := c1) s1 (by omega) (by rw [← hcn]; unfold cutB; rw [hc1])
  have l2 := run_head (s := d) (t := cd) (c := c2) s2 (by omega) (by rw [← hcd]; unfold cutB; rw [hc2])
  rw [hcn, hcd]
  clear hc1 hc2 hcn hcd s1 s2
  obtain ⟨W, hW, ka, kr, hBW⟩ := two_rats w n d ⟨#[]⟩ ⟨#[]⟩
  have HK := Lib.hid kr
  have HB := Lib.hid hBW
  have kac0 := ka.cell 0
  have kac1 := ka.cell 1
  have krc0 := kr.cell 0
  have krc1 := kr.cell 1
  simp only [List.getElem?_toArray, List.getElem?_cons_succ, List.getElem?_cons_zero] at kac0 kac1 krc0 krc1
  have krf0 := kr.frozen 0
  have krf1 := kr.frozen 1
  clear ka kr hBW
  go_enter Tryz.func56, Tryz.ntmps56
  go_wp2_with (simp only [hW])
  (try rw [hW])
  go_region
  (try go_wp2_with fail)
  have hz : BlkT _ _ #[.string cn, .string cd] 26 := (HK.out.set 0 (.string cn)).set 1 (.string cd)
  have z0 := hz.cell 0
  have z1 := hz.cell 1
  simp only [List.getElem?_toArray, List.getElem?_cons_succ, List.getElem?_cons_zero] at z0 z1
  refine bodyPost_ret (v := ratV cn cd) (by simp [results, Tryz.results56, go_sem, z0, z1]) rfl ?_
  exact ⟨rfl, ((HB.out.setCell (by simp) _).setCell (by simp) _).drew⟩
end Go.Proofs.YtjnpenljgfdaiaaGreatDoor
