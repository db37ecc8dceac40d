/- Sums of rows: plain mathematics; two rows of numbers that grow side by side. -/
import Derived.Test.YtblmpmapcdpaiaaL4
namespace Go.Proofs.Ytblmpmapcdpaiaa
open Go.RowKit Lib

def sumC (a b : List Int) (m n : Int) (k : Nat) : List Int := (List.range k).map fun i => m * a.getD i 0 + n * b.getD i 0
def grtC (a : List Int) (m : Int) (k : Nat) : List Int := (List.range k).map fun i => (m + 1) * a.getD i 0
def sumR (a b : RowD) (m n : Int) (k : Nat) : RowD := ⟨0, 0, 0, 0, sumC a.coef b.coef m n k, m * a.most + n * b.most⟩
def grtR (a : RowD) (m : Int) (k : Nat) : RowD := ⟨0, 0, 0, 0, grtC a.coef m k, (m + 1) * a.most⟩
theorem sumC_succ (a b : List Int) (m n : Int) (k : Nat) : sumC a b m n (k + 1) = sumC a b m n k ++ [m * a.getD k 0 + n * b.getD k 0] := by unfold sumC; rw [List.range_succ, List.map_append]; rfl
theorem grtC_succ (a : List Int) (m : Int) (k : Nat) : grtC a m (k + 1) = grtC a m k ++ [(m + 1) * a.getD k 0] := by unfold grtC; rw [List.range_succ, List.map_append]; rfl
theorem sumC_len (a b : List Int) (m n : Int) (k : Nat) : (sumC a b m n k).length = k := by simp [sumC]
theorem grtC_len (a : List Int) (m : Int) (k : Nat) : (grtC a m k).length = k := by simp [grtC]
theorem sumC_get (a b : List Int) (m n : Int) {k i : Nat} (h : i < k) : (sumC a b m n k).getD i 0 = m * a.getD i 0 + n * b.getD i 0 := by
  rw [List.getD_eq_getElem?_getD, sumC, List.getElem?_map, List.getElem?_range h]; rfl
theorem grtC_get (a : List Int) (m : Int) {k i : Nat} (h : i < k) : (grtC a m k).getD i 0 = (m + 1) * a.getD i 0 := by
  rw [List.getD_eq_getElem?_getD, grtC, List.getElem?_map, List.getElem?_range h]; rfl
theorem chK_sumC (a b : List Int) (m n : Int) (k s : Nat) : ∀ j, j ≤ k → chK (sumC a b m n k) s j = m * chK a s j + n * chK b s j := by
  intro j
  induction j with
  | zero => intro _; simp [chK]
  | succ j ih =>
    intro h
    simp only [chK]
    rw [ih (by omega), sumC_get a b m n (by omega)]
    cases bitOn s j
    · simp
    · simp only [if_true, Int.mul_add]; omega
theorem chK_grtC (a : List Int) (m : Int) (k s : Nat) : ∀ j, j ≤ k → chK (grtC a m k) s j = (m + 1) * chK a s j := by
  intro j
  induction j with
  | zero => intro _; simp [chK]
  | succ j ih =>
    intro h
    simp only [chK]
    rw [ih (by omega), grtC_get a m (by omega)]
    cases bitOn s j
    · simp
    · simp only [if_true, Int.mul_add]
/-- Small rows. -/
structure SmallR (r : RowD) (k : Nat) : Prop where
  len : r.coef.length = k
  co : ∀ i, -4 ≤ r.coef.getD i 0 ∧ r.coef.getD i 0 ≤ 11
  mo : -4 ≤ r.most ∧ r.most ≤ 25
theorem mul_bd {m c : Int} (hm : 0 ≤ m ∧ m ≤ 51) (hc : -4 ≤ c ∧ c ≤ 25) : -204 ≤ m * c ∧ m * c ≤ 1275 := by
  have h1 : m * c ≤ m * 25 := Int.mul_le_mul_of_nonneg_left hc.2 hm.1
  have h2 : m * (-4) ≤ m * c := Int.mul_le_mul_of_nonneg_left hc.1 hm.1
  omega
theorem madeP_smallR (vars : Int) (x : List X3) (gain : List Int) : ∀ r ∈ (madeP vars x gain).rows, SmallR r (madeP vars x gain).vars.toNat := by
  intro r hr
  unfold madeP rowsM at hr
  obtain ⟨i, -, rfl⟩ := List.mem_map.1 hr
  refine ⟨by unfold rowM madeP; simp only [coefM_len], fun j => ?_, ?_⟩
  · show -4 ≤ (coefM _ _).getD j 0 ∧ (coefM _ _).getD j 0 ≤ 11
    generalize (pickI vars 9).toNat = m
    generalize x.getD i dX = y
    by_cases hj : j < m
    · rw [List.getD_eq_getElem?_getD, coefM, List.getElem?_map, List.getElem?_range hj]
      have := pickI_bd (Int.tdiv y.a (1 + 3 * (j : Int))) (n := 12) (by decide)
      have := pickI_bd (Int.tdiv y.b (1 + 5 * (j : Int))) (n := 5) (by decide)
      simp only [Option.map_some, Option.getD_some]
      omega
    · rw [List.getD_eq_getElem?_getD, List.getElem?_eq_none (by rw [coefM_len]; omega)]; decide
  · have := pickI_bd (x.getD i dX).c (n := 30) (by decide)
    show -4 ≤ pickI (x.getD i dX).c 30 - 4 ∧ pickI (x.getD i dX).c 30 - 4 ≤ 25
    omega
def fourR (a b : RowD) (m n : Int) (k : Nat) : List RowD := [a, b, sumR a b m n k, grtR a m k]
theorem coefOK_of {l : List Int} (h : ∀ i, i < l.length → -1000000000 ≤ l.getD i 0 ∧ l.getD i 0 ≤ 1000000000) : coefOK l = true := by
  unfold coefOK
  rw [List.all_eq_true]
  intro y hy
  obtain ⟨i, hi, rfl⟩ := List.mem_iff_getElem.1 hy
  have := h i hi
  rw [List.getD_eq_getElem?_getD, List.getElem?_eq_getElem hi] at this
  simpa using this
theorem small_right {r : RowD} {k : Nat} (h : SmallR r k) : rightB r (k : Int) = true := by
  unfold rightB mostOK
  have h1 := coefOK_of (l := r.coef) fun i _ => by have := h.co i; omega
  have h2 := h.mo
  have h3 := h.len
  rw [h1]; simp; omega
theorem four_right {a b : RowD} {m n : Int} {k : Nat} (ha : SmallR a k) (hb : SmallR b k) (hm : 0 ≤ m ∧ m ≤ 50) (hn : 0 ≤ n ∧ n ≤ 50) : (fourR a b m n k).all (fun r => rightB r (k : Int)) = true := by
  have h3 : rightB (sumR a b m n k) (k : Int) = true := by
    unfold rightB mostOK sumR
    have h1 := coefOK_of (l := sumC a.coef b.coef m n k) fun i hi => by
      rw [sumC_len] at hi
      rw [sumC_get _ _ _ _ hi]
      have q1 := mul_bd (m := m) (c := a.coef.getD i 0) (by omega) (by have := ha.co i; omega)
      have q2 := mul_bd (m := n) (c := b.coef.getD i 0) (by omega) (by have := hb.co i; omega)
      omega
    have q1 := mul_bd (m := m) (c := a.most) (by omega) ha.mo
    have q2 := mul_bd (m := n) (c := b.most) (by omega) hb.mo
    simp only [h1, sumC_len]
    simp; omega
  have h4 : rightB (grtR a m k) (k : Int) = true := by
    unfold rightB mostOK grtR
    have h1 := coefOK_of (l := grtC a.coef m k) fun i hi => by
      rw [grtC_len] at hi
      rw [grtC_get _ _ hi]
      have q1 := mul_bd (m := m + 1) (c := a.coef.getD i 0) (by omega) (by have := ha.co i; omega)
      omega
    have q1 := mul_bd (m := m + 1) (c := a.most) (by omega) ha.mo
    simp only [h1, grtC_len]
    simp; omega
  unfold fourR
  simp only [List.all_cons, List.all_nil, h3, h4, small_right ha, small_right hb, Bool.and_self]
theorem four_valid {a b : RowD} {m n : Int} {k : Nat} {rows : List RowD} {gn : List Int} (hv : validB ⟨(k : Int), rows, gn⟩ = true) (ha : SmallR a k) (hb : SmallR b k) (hm : 0 ≤ m ∧ m ≤ 50) (hn : 0 ≤ n ∧ n ≤ 50) : validB ⟨(k : Int), fourR a b m n k, gn⟩ = true := by
  have h := four_right ha hb hm hn
  obtain ⟨v1, v2, v3, v4, v5, v6⟩ := validB_true hv
  unfold validB
  simp only [h, v6]
  simp only at v1 v2 v5
  simp [fourR]; omega
/-- What Broken answers about the four rows. -/
theorem four_broken {a b : RowD} {m n : Int} {k : Nat} (ha : SmallR a k) (hb : SmallR b k) (hm : 0 ≤ m ∧ m ≤ 50) (hn : 0 ≤ n ∧ n ≤ 50) (s : Nat) :
    let l := brK (fourR a b m n k) s 4
    (∀ y ∈ l, y = 0 ∨ y = 1 ∨ y = 2 ∨ y = 3) ∧ ((!l.contains 0 && !l.contains 1 && l.contains 2) = false) ∧ l.contains 0 = l.contains 3 ∧ l.length ≤ 4 := by
  have e3 : ch (sumC a.coef b.coef m n k) s = m * ch a.coef s + n * ch b.coef s := by
    unfold ch; rw [sumC_len, ha.len, hb.len]; exact chK_sumC _ _ _ _ _ _ _ (Nat.le_refl _)
  have e4 : ch (grtC a.coef m k) s = (m + 1) * ch a.coef s := by
    unfold ch; rw [grtC_len, ha.len]; exact chK_grtC _ _ _ _ _ (Nat.le_refl _)
  have k3 : keptB a s = true → keptB b s = true → keptB (sumR a b m n k) s = true := by
    unfold keptB sumR
    simp only [decide_eq_true_eq, e3]
    intro h1 h2
    have q1 : m * ch a.coef s ≤ m * a.most := Int.mul_le_mul_of_nonneg_left h1 hm.1
    have q2 : n * ch b.coef s ≤ n * b.most := Int.mul_le_mul_of_nonneg_left h2 hn.1
    omega
  have k4 : keptB (grtR a m k) s = keptB a s := by
    unfold keptB grtR
    simp only [e4]
    have : ((m + 1) * ch a.coef s ≤ (m + 1) * a.most) ↔ (ch a.coef s ≤ a.most) :=
      ⟨fun h => Int.le_of_mul_le_mul_left h (by omega), fun h => Int.mul_le_mul_of_nonneg_left h (by omega)⟩
    simp only [this]
  intro l
  have hl : l = (((([] ++ if keptB a s then [] else [(0 : Int)]) ++ if keptB b s then [] else [(1 : Int)]) ++ if keptB (sumR a b m n k) s then [] else [(2 : Int)]) ++ if keptB (grtR a m k) s then [] else [(3 : Int)]) := rfl
  rw [hl, k4]
  cases h1 : keptB a s <;> cases h2 : keptB b s <;> cases h3 : keptB (sumR a b m n k) s <;> first | decide | (have := k3 h1 h2; rw [h3] at this; cases this)

/-- Two rows of the call's own that grow side by side. -/
structure Two (B : Nat) (W : World) (v u : Value) (nv nu : Nat) (xs ys : List Value) : Prop where
  hv : W.ownsRow B 3 1 v nv xs
  hu : W.ownsRow B 3 1 u nu ys
  ne : ∀ g, v.ownBlock = some g → u.ownBlock ≠ some g
theorem Two.swap {B : Nat} {W : World} {v u : Value} {nv nu : Nat} {xs ys : List Value} (h : Two B W v u nv nu xs ys) : Two B W u v nu nv ys xs := ⟨h.hu, h.hv, fun g h1 h2 => h.ne g h2 h1⟩
theorem Two.below {B : Nat} {W W' : World} {v u : Value} {nv nu : Nat} {xs ys : List Value} (h : Two B W v u nv nu xs ys) (hb : Below W.heap.size W W') : Two B W' v u nv nu xs ys := ⟨owned_below h.hv hb, owned_below h.hu hb, h.ne⟩
theorem Two.set {B : Nat} {W : World} {v u : Value} {nv nu : Nat} {xs ys : List Value} (h : Two B W v u nv nu xs ys) {a : Addr} (ha : a.block < B) (y : Value) : Two B (W.setCell a y) v u nv nu xs ys := ⟨ownsRow_setCell_below h.hv ha y, ownsRow_setCell_below h.hu ha y, h.ne⟩
/-- One number is appended to one of two own rows, as a step of a region that draws. -/
theorem step_push2 {ops : Array Oper} {o : Oper} {a : Act} {w0 w : World} {K : Act → World → Prop} {Q : Exit → Act → World → Prop} {E : Prop} {x : Int}
    (hgd : o.guard = none) (s y : Operand) (ho : o.op = Op.call { callee := Callee.builtin Builtin.append, args := #[s, y], argTypes := #[24, 24] })
    (base : Nat) {v u : Value} {n nu : Nat} {xs ys : List Value} (hw : w = w0.alloc (.cells #[.int .i64 x] 3)) (hown : Two base w0 v u n nu xs ys) (hs : a.eval s = v) (hy : a.eval y = .slice (some ⟨w0.heap.size, 0, none⟩) 1 1)
    (hn : n ≤ 1000000) (hbase : base ≤ w0.heap.size)
    (hK : ∀ g cap w', Two base w' (.slice (some ⟨g, 0, none⟩) (n + 1) cap) u (n + 1) nu (xs ++ [.int .i64 x]) ys → Below base w0 w' → K (a.put o.dst (.slice (some ⟨g, 0, none⟩) (n + 1) cap)) w') :
    if Region.wanted o (yielded ops a.tmps) = true then Oper.wp Try.prog o a w K Q else E := by
  subst hw
  obtain ⟨i, hi, hz0, hz1, hz2⟩ := info_parts E24.info
  refine step_append_lies _ hgd s y 24 ho base 3 i _ 1 8 E24.und hi hz0 hz1 hz2 E24.zs E24.pos v n xs hs (hown.hv.alloc _) ⟨w0.heap.size, 0, none⟩ 1 1 [.int .i64 x] hy rfl ?_ (by intro u hu; simp at hu; subst hu; rfl) (by omega) (by unfold maxLen; omega) (by omega) (by simp; omega) _ rfl ?_
  · intro j u hj
    rw [add_zero_off]
    exact ((Blk.new w0 #[.int .i64 x] 3).cell j).trans (by simpa using hj)
  · intro g cap w' h1 h2 h3 h4
    refine hK g cap w' ⟨h1, (hown.hu.alloc _).kept h2 ?_, fun g' e1 e2 => ?_⟩ (grown_below hown.hv h2 hbase)
    · cases hu : u.ownBlock with
      | none => exact .inl rfl
      | some q => exact .inr fun e => hown.ne q e.symm hu
    · obtain rfl : g = g' := by simpa [Value.ownBlock] using e1
      rcases h3 with h3 | h3
      · exact hown.ne g h3 e2
      · have := (hown.hu.lt g e2).2
        simp at h3; omega
/-- Four rows laid into one block. -/
theorem four_view {W : World} {B : Nat} {t : TypeId} {r0 r1 r2 r3 : RowD} {v0 v1 v2 v3 : Value}
    (hb : Blk W B #[.int .i64 r0.kind, .int .i64 r0.a, .int .i64 r0.b, .int .i64 r0.at_, v0, .int .i64 r0.most, .int .i64 r1.kind, .int .i64 r1.a, .int .i64 r1.b, .int .i64 r1.at_, v1, .int .i64 r1.most, .int .i64 r2.kind, .int .i64 r2.a, .int .i64 r2.b, .int .i64 r2.at_, v2, .int .i64 r2.most, .int .i64 r3.kind, .int .i64 r3.a, .int .i64 r3.b, .int .i64 r3.at_, v3, .int .i64 r3.most] t)
    (h0 : IntsAt W v0 r0.coef) (h1 : IntsAt W v1 r1.coef) (h2 : IntsAt W v2 r2.coef) (h3 : IntsAt W v3 r3.coef) : RowsAt W (.slice (some ⟨B, 0, none⟩) 4 4) [r0, r1, r2, r3] := by
  refine ⟨_, 4, rfl, by simp, by unfold maxLen; omega, fun _ => ⟨B, 0, rfl, fun j y hj => ?_⟩⟩
  match j with
  | 0 => cases hj; exact ⟨[.int .i64 r0.kind, .int .i64 r0.a, .int .i64 r0.b, .int .i64 r0.at_, v0, .int .i64 r0.most], rfl, fun i c hc => (hb.cell _).trans (by match i, hc with | 0, hc => exact hc | 1, hc => exact hc | 2, hc => exact hc | 3, hc => exact hc | 4, hc => exact hc | 5, hc => exact hc), v0, rfl, h0⟩
  | 1 => cases hj; exact ⟨[.int .i64 r1.kind, .int .i64 r1.a, .int .i64 r1.b, .int .i64 r1.at_, v1, .int .i64 r1.most], rfl, fun i c hc => (hb.cell _).trans (by match i, hc with | 0, hc => exact hc | 1, hc => exact hc | 2, hc => exact hc | 3, hc => exact hc | 4, hc => exact hc | 5, hc => exact hc), v1, rfl, h1⟩
  | 2 => cases hj; exact ⟨[.int .i64 r2.kind, .int .i64 r2.a, .int .i64 r2.b, .int .i64 r2.at_, v2, .int .i64 r2.most], rfl, fun i c hc => (hb.cell _).trans (by match i, hc with | 0, hc => exact hc | 1, hc => exact hc | 2, hc => exact hc | 3, hc => exact hc | 4, hc => exact hc | 5, hc => exact hc), v2, rfl, h2⟩
  | 3 => cases hj; exact ⟨[.int .i64 r3.kind, .int .i64 r3.a, .int .i64 r3.b, .int .i64 r3.at_, v3, .int .i64 r3.most], rfl, fun i c hc => (hb.cell _).trans (by match i, hc with | 0, hc => exact hc | 1, hc => exact hc | 2, hc => exact hc | 3, hc => exact hc | 4, hc => exact hc | 5, hc => exact hc), v3, rfl, h3⟩
  | (n + 4) => simp at hj
end Go.Proofs.Ytblmpmapcdpaiaa
