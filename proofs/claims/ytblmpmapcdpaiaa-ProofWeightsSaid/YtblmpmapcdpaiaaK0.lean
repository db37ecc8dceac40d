/- Texts K1, K2, Chk, Frm in one. -/
import Derived.Test.YtblmpmapcdpaiaaM1
import Derived.WalkLawsBesides
import Derived.Maps.OwnOps
import Derived.Lib.SlKeysI
import Derived.WalkArith
import Derived.Test.YtblmpmapcdpaiaaB2
import Derived.Laws.CopyRow
section
/- package proof: isIn, numbers, valid, need. -/
namespace Go.Proofs.Ytblmpmapcdpaiaa
open Go.RowKit

theorem isIn86 (n lo hi : Int) (w : World) : Calls Try.prog 86 #[.int .i64 n, .int .i64 lo, .int .i64 hi] w fun e w' => e = .returned (.bool (inB n lo hi)) ∧ w = w' := by
  by_cases h : lo ≤ n
  · have hd : decide (lo ≤ n) = true := by simpa using h
    go_enter Try.func86, Try.ntmps86
    go_wp2
    go_ret
    exact ⟨by unfold inB; rw [hd]; rfl, rfl⟩
  · have hd : decide (lo ≤ n) = false := by simpa using h
    go_enter Try.func86, Try.ntmps86
    go_wp2
    go_ret
    exact ⟨by unfold inB; rw [hd]; rfl, rfl⟩
/-- What a wrong step panics with. -/
def wrongP (at_ : Int) : PanicEntry := { v := .iface 122 (.agg #[.int .i64 at_]), recovered := false }
theorem need_yes (at_ : Int) (w : World) : Calls Try.prog 103 #[.bool true, .int .i64 at_] w fun e w' => e = .returned (.tuple #[]) ∧ w = w' := by
  go_enter Try.func103, Try.ntmps103
  go_wp2
  go_end0
  exact ⟨rfl, rfl⟩
theorem need_no (at_ : Int) (w : World) : Calls Try.prog 103 #[.bool false, .int .i64 at_] w fun e w' => e = .panicked [wrongP at_] ∧ w = w' := by
  go_enter Try.func103, Try.ntmps103
  go_wp2
  exact ⟨rfl, rfl, rfl⟩
set_option maxRecDepth 100000 in
theorem num1 (x : Int) (w : World) : Calls Try.prog 117 #[.int .i64 x] w fun e w' => e = .returned (.bool (!inB x (-1000000000) 1000000000)) ∧ Below w.heap.size w w' := by
  go_enter Try.func117, Try.ntmps117
  go_wp2_with fail
  refine (isIn86 x (-1000000000) 1000000000 w).mono ?_
  rintro e w' ⟨rfl, rfl⟩
  go_wp2
  go_ret
  exact ⟨rfl, Below.refl _ _⟩
theorem num1_ans (w : World) (l : List Int) : AnsI w (.func (.func 117) #[] #[]) l (fun x => !inB x (-1000000000) 1000000000) :=
  ⟨117, _, rfl, Try.call117, fun _ x _ V _ => num1 x V⟩
theorem coefOK_any (l : List Int) : (!(l.any fun x => !inB x (-1000000000) 1000000000)) = coefOK l := any_not l _
set_option maxRecDepth 100000 in
theorem numbers_all (v : Value) (l : List Int) (n : Int) (w : World) (hv : IntsAt w v l) :
    Calls Try.prog 111 #[v, .int .i64 n] w fun e w' => e = .returned (.bool (decide ((l.length : Int) = n) && coefOK l)) ∧ Below w.heap.size w w' := by
  rw [← coefOK_any]
  have hx := containsI v _ l _ w hv (num1_ans w l)
  obtain ⟨a, cap, rfl, hle, hcm⟩ := (show SlicesLen v l.length from hv.len)
  unfold maxLen at hcm
  generalize (l.any fun x => !inB x (-1000000000) 1000000000) = y at hx ⊢
  by_cases hlen : (l.length : Int) = n
  · have hlen' : ((l.length : Int) == n) = true := beq_iff_eq.2 hlen
    rw [decide_eq_true hlen, Bool.true_and]
    clear hlen
    go_enter Try.func111, Try.ntmps111
    go_wp2_with fail
    refine hx.mono ?_
    rintro e w' ⟨rfl, hB⟩
    go_wp2
    go_ret
    exact ⟨rfl, hB⟩
  · have hlen' : ((l.length : Int) == n) = false := beq_eq_false_iff_ne.2 hlen
    rw [decide_eq_false hlen, Bool.false_and]
    clear hlen hx
    go_enter Try.func111, Try.ntmps111
    go_wp2
    go_ret
    exact ⟨rfl, Below.refl _ _⟩
set_option maxRecDepth 100000 in
theorem pvalid1 (v : Value) (r : RowD) (n : Int) (p : Addr) (w : World) (hp : w.cell? p = some (.int .i64 n)) (hv : RowV w v r) :
    Calls Try.prog 112 #[v, .pointer (some p)] w fun e w' => e = .returned (.bool (!rightB r n)) ∧ Below w.heap.size w w' := by
  have hlt := World.block_lt_of_cell? _ _ hp
  obtain ⟨vc, rfl, hvc⟩ := hv
  have hB0 : Below w.heap.size w (w.alloc (.cells #[.int .i64 r.kind, .int .i64 r.a, .int .i64 r.b, .int .i64 r.at_, vc, .int .i64 r.most] 26)) := (Below.refl _ _).alloc (Nat.le_refl _) _
  have hx := numbers_all vc r.coef n _ (hvc.below hB0)
  have hmo : mostOK r.most = inB r.most (-1000000000000) 1000000000000 := rfl
  have hp' : (w.alloc (.cells #[.int .i64 r.kind, .int .i64 r.a, .int .i64 r.b, .int .i64 r.at_, vc, .int .i64 r.most] 26)).cell? p = some (.int .i64 n) := (hB0.cell hlt).trans hp
  unfold rightB
  rw [hmo]
  generalize (decide ((r.coef.length : Int) = n) && coefOK r.coef) = y at hx ⊢
  clear hvc
  go_enter Try.func112, Try.ntmps112
  go_wp2_with fail
  refine hx.mono ?_
  cases y with
  | true =>
    rintro e w' ⟨rfl, hB⟩
    have hc : w'.cell? ⟨w.heap.size, 5, none⟩ = some (.int .i64 r.most) := (hB.cell (by simp)).trans (World.cell?_alloc_at _ _ _ _ rfl)
    go_wp2_with fail
    refine (isIn86 _ _ _ _).mono ?_
    rintro e w2 ⟨rfl, rfl⟩
    go_wp2
    go_ret
    exact ⟨rfl, hB0.trans (hB.mono hB0.size)⟩
  | false =>
    rintro e w' ⟨rfl, hB⟩
    go_wp2
    go_ret
    exact ⟨rfl, hB0.trans (hB.mono hB0.size)⟩
theorem pvalid1_ans (w : World) (l : List RowD) (n : Int) (p : Addr) (hp : w.cell? p = some (.int .i64 n)) : AnsR w (.func (.func 112) #[] #[.pointer (some p)]) l (fun r => !rightB r n) :=
  ⟨112, _, rfl, Try.call112, fun _ r _ V hV v hv => pvalid1 v r n p V ((hV.cell (World.block_lt_of_cell? _ _ hp)).trans hp) hv⟩
theorem validB_eq2 (p : ProgD) : validB p = (inB p.vars 0 12 && (decide ((p.rows.length : Int) ≤ 300) && ((decide ((p.gain.length : Int) = p.vars) && coefOK p.gain) && !(p.rows.any fun r => !rightB r p.vars)))) := by
  rw [validB_eq, any_not]
  cases inB p.vars 0 12 <;> cases decide ((p.rows.length : Int) ≤ 300) <;> cases (decide ((p.gain.length : Int) = p.vars) && coefOK p.gain) <;> cases (p.rows.all (fun r => rightB r p.vars)) <;> rfl
set_option maxRecDepth 100000 in
set_option maxHeartbeats 1000000 in
theorem pvalid_all (v : Value) (p : ProgD) (w : World) (hv : ProgV w v p) :
    Calls Try.prog 101 #[v] w fun e w' => e = .returned (.bool (validB p)) ∧ Below w.heap.size w w' := by
  rw [validB_eq2]
  obtain ⟨vr, vg, rfl, hvr, hvg⟩ := hv
  have hB0 : Below w.heap.size w (w.alloc (.cells #[.int .i64 p.vars, vr, vg] 29)) := (Below.refl _ _).alloc (Nat.le_refl _) _
  have hx := numbers_all vg p.gain p.vars _ (hvg.below hB0)
  have HY := Lib.hid (fun W (hW : Below w.heap.size w W) (hc : W.cell? ⟨w.heap.size, 0, none⟩ = some (.int .i64 p.vars)) => containsR vr _ p.rows _ W (hvr.below hW) (pvalid1_ans W p.rows p.vars ⟨w.heap.size, 0, none⟩ hc))
  obtain ⟨ra, rc, rfl, hr1, hr2⟩ := (show SlicesLen vr p.rows.length from hvr.len)
  obtain ⟨ga, gc, rfl, hg1, hg2⟩ := (show SlicesLen vg p.gain.length from hvg.len)
  unfold maxLen at hr2 hg2
  clear hvr hvg
  generalize (p.rows.any fun r => !rightB r p.vars) = y3 at HY ⊢
  generalize (decide ((p.gain.length : Int) = p.vars) && coefOK p.gain) = y4 at hx ⊢
  generalize hy1 : inB p.vars 0 12 = y1
  generalize hy2 : decide ((p.rows.length : Int) ≤ 300) = y2
  have H1 := Lib.hid hy1
  have H2 := Lib.hid hy2
  clear hy1 hy2
  go_enter Try.func101, Try.ntmps101
  go_wp2_with fail
  refine (isIn86 _ _ _ _).mono ?_
  rw [H1.out]
  cases y1 with
  | false =>
    rintro e w2 ⟨rfl, rfl⟩
    go_wp2
    go_ret
    exact ⟨rfl, hB0⟩
  | true =>
    rintro e w2 ⟨rfl, rfl⟩
    cases y2 with
    | true =>
      have h3 : p.rows.length ≤ 300 := by have := of_decide_eq_true H2.out; omega
      have d2 : decide ((300 : Int) < (p.rows.length : Int)) = false := decide_eq_false (by omega)
      clear H2
      go_wp2_with fail
      refine hx.mono ?_
      rintro e w2 ⟨rfl, hB2⟩
      have hB := hB0.trans (hB2.mono hB0.size)
      have k0 : w2.cell? ⟨w.heap.size, 0, none⟩ = some (.int .i64 p.vars) := (hB2.cell (by simp)).trans (World.cell?_alloc_at _ _ _ _ rfl)
      have k1 : w2.cell? ⟨w.heap.size, 1, none⟩ = some (.slice ra p.rows.length rc) := (hB2.cell (by simp)).trans (World.cell?_alloc_at _ _ _ _ rfl)
      clear hB2 hx hB0
      cases y4 with
      | false =>
        go_wp2
        go_ret
        exact ⟨rfl, hB⟩
      | true =>
        have hy := HY.out w2 hB k0
        go_wp2_with fail
        refine hy.mono ?_
        rintro e w3 ⟨rfl, hB3⟩
        have hB' := hB.trans (hB3.mono hB.size)
        go_wp2
        go_ret
        exact ⟨rfl, hB'⟩
    | false =>
      have h3 : ¬ p.rows.length ≤ 300 := by have := of_decide_eq_false H2.out; omega
      have d2 : decide ((300 : Int) < (p.rows.length : Int)) = true := decide_eq_true (by omega)
      clear H2
      go_wp2
      go_ret
      exact ⟨rfl, hB0⟩
end Go.Proofs.Ytblmpmapcdpaiaa
end
section
/- The map of used rows: as a set of numbers. -/
namespace Go.Proofs.Ytblmpmapcdpaiaa
open Go.RowKit Go.Maps

def ent (i : Nat) : Lit × DataW Unit := (.int .i64 (i : Int), .lit (.bool true))
/-- The datum of a map[int]bool whose keys are the marked numbers below R. -/
def usedD (b : Nat → Bool) (R : Nat) : DataW Unit := .map (((List.range R).filter b).map ent)
def mark (b : Nat → Bool) (j : Nat) : Nat → Bool := fun i => b i || decide (i = j)
theorem insert_mid (x : Lit × DataW Unit) : ∀ (A B : List (Lit × DataW Unit)), (∀ y ∈ A, x.1.before y.1 = false) → (∀ y ∈ B, x.1.before y.1 = true) → DataW.insert x (A ++ B) = A ++ x :: B := by
  intro A
  induction A with
  | nil =>
    intro B _ hB
    cases B with
    | nil => rfl
    | cons y r => simp [DataW.insert, hB y (by simp)]
  | cons a A ih =>
    intro B hA hB
    simp only [List.cons_append, DataW.insert, hA a (by simp)]
    rw [ih B (fun y hy => hA y (by simp [hy])) hB]
    rfl
theorem range_split {R j : Nat} (h : j < R) : List.range R = List.range j ++ j :: (List.range (R - j - 1)).map (· + (j + 1)) := by
  apply List.ext_getElem?
  intro i
  by_cases h1 : i < j
  · rw [List.getElem?_append_left (by simpa using h1), List.getElem?_range (by omega), List.getElem?_range h1]
  · rw [List.getElem?_append_right (by simpa using h1), List.length_range]
    by_cases h2 : i = j
    · subst h2; simp [h]
    · obtain ⟨k, hk⟩ : ∃ k, i - j = k + 1 := ⟨i - j - 1, by omega⟩
      rw [hk, List.getElem?_cons_succ]
      by_cases h3 : i < R
      · rw [List.getElem?_range h3, List.getElem?_map, List.getElem?_range (by omega)]
        simp; omega
      · rw [List.getElem?_eq_none (by simp; omega), List.getElem?_eq_none (by simp; omega)]
theorem used_put {b : Nat → Bool} {R j : Nat} (h : j < R) : (usedD b R).put (.int .i64 (j : Int)) (.lit (.bool true)) = usedD (mark b j) R := by
  unfold usedD DataW.put
  simp only
  congr 1
  have e1 : (((List.range R).filter b).map ent).filter (fun p => !p.1.sameKey (.int .i64 (j : Int))) = (((List.range R).filter fun i => b i && decide (i ≠ j))).map ent := by
    rw [List.filter_map, List.filter_filter]
    congr 1
    refine List.filter_congr fun i _ => ?_
    simp only [Function.comp, ent, Lit.sameKey]
    by_cases e : i = j
    · subst e; simp
    · have : ¬ ((i : Int) = (j : Int)) := by omega
      simp [e, this]
  rw [e1, range_split h]
  simp only [List.filter_append, List.filter_cons, List.map_append]
  have hj : (b j && decide (j ≠ j)) = false := by simp
  have hm : mark b j j = true := by simp [mark]
  rw [hj, hm, if_neg (by simp), if_pos rfl, List.map_cons]
  have e2 : (List.range j).filter (fun i => b i && decide (i ≠ j)) = (List.range j).filter (mark b j) := by
    refine List.filter_congr fun i hi => ?_
    have : i < j := by simpa using hi
    have h2 : i ≠ j := by omega
    simp [mark, h2]
  have e3 : ((List.range (R - j - 1)).map (· + (j + 1))).filter (fun i => b i && decide (i ≠ j)) = ((List.range (R - j - 1)).map (· + (j + 1))).filter (mark b j) := by
    refine List.filter_congr fun i hi => ?_
    obtain ⟨k, -, rfl⟩ := List.mem_map.1 hi
    have h2 : k + (j + 1) ≠ j := by omega
    simp [mark, h2]
  rw [e2, e3]
  show DataW.insert (ent j) _ = _
  apply insert_mid
  · intro y hy
    obtain ⟨i, hi, rfl⟩ := List.mem_map.1 hy
    have : i < j := by have := (List.mem_filter.1 hi).1; simpa using this
    simp only [ent, Lit.before]
    exact decide_eq_false (by omega)
  · intro y hy
    obtain ⟨i, hi, rfl⟩ := List.mem_map.1 hy
    obtain ⟨k, -, rfl⟩ := List.mem_map.1 (List.mem_filter.1 hi).1
    simp only [ent, Lit.before]
    exact decide_eq_true (by omega)
/-- Block M is a map whose keys are the marked numbers below R. -/
def UsedAt (W : World) (M R : Nat) (b : Nat → Bool) : Prop := W.ownsMap Try.prog 3 (plainElem Try.prog 4) M R (usedD b R)
theorem used_size {W : World} {M n R : Nat} {b : Nat → Bool} (h : W.ownsMap Try.prog 3 (plainElem Try.prog 4) M n (usedD b R)) : UsedAt W M R b := by
  obtain ⟨es, clock, hb, F, hs, hD⟩ := h
  refine ⟨es, clock, hb, F, ?_, hD⟩
  have h1 : ((es.toList.map (Go.WideElems.rg Try.prog 3 (plainElem (H := Unit) Try.prog 4))).foldr DataW.insert []).length = es.size := by rw [length_sorted]; simp
  unfold usedD at hD

  have h2 : (((List.range R).filter b).map ent).length = es.size := by
    rw [← h1]
    exact congrArg (fun d : DataW Unit => match d with | .map l => l.length | _ => 0) hD
  rw [List.length_map] at h2
  have := List.length_filter_le b (List.range R)
  rw [List.length_range] at this
  omega
theorem UsedAt.empty (W : World) (R : Nat) : UsedAt (W.alloc (.map #[] 0)) W.heap.size R (fun _ => false) := by
  refine used_size (n := 0) ?_
  have : usedD (fun _ => false) R = .map [] := by unfold usedD; simp
  rw [this]
  exact World.ownsMap_made W _ _ _
theorem used_keys (b : Nat → Bool) (R : Nat) : intKeys (usedD b R) = ((List.range R).filter b).map fun i : Nat => (i : Int) := by
  unfold usedD intKeys
  simp only
  rw [List.map_map]
  rfl
theorem key3 (j : Int) (h : (Lit.int .i64 j).wf = true) : keyOf Try.prog 3 (.int .i64 j) = some (.int .i64 j) := keyOf_int_mk Try.underlying3 h
/-- 'used[j] = true'. -/
theorem wpList_mark {W : World} {ops : Array Oper} {rest : List Oper} {o : Oper} {a : Act} {Q : Exit → Act → World → Prop} (hg : o.guard = none) (m x v : Operand) (hop : o.op = Op.mapUpdate 107 m x v)
    {M R j : Nat} {b : Nat → Bool} (hm : a.eval m = .map (some M)) (hown : UsedAt W M R b) (hR : R ≤ 1000) (hj : j < R) (hx : a.eval x = .int .i64 (j : Int)) (hv : a.eval v = .bool true)
    (hK : ∀ w', UsedAt w' M R (mark b j) → W.grownBy w' (some M) → wpList Try.prog ops Q rest (a.put o.dst undef) w') : wpList Try.prog ops Q (o :: rest) a W := by
  refine wpList_mapUpdate_own W hg m x v 107 hop 3 4 (int_keyed Try.underlying3) Try.underlying107 _ M R _ hm hown (by unfold maxLen; omega) _ _ _ hx hv (key3 (j : Int) ?_) _ [] (plainElem_bool Try.underlying4 true) ?_
  · exact WalkArith.wf_i64 (by omega)
  · intro w' h1 h2
    rw [used_put hj] at h1
    exact hK w' (used_size h1) h2
end Go.Proofs.Ytblmpmapcdpaiaa
end
section
/- Checking a proof, plainly: leaves, cases, the first step that is wrong, the rows that are used. -/
namespace Go.Proofs.Ytblmpmapcdpaiaa

def wt0 : WtD := ⟨0, 0⟩
def rowE : RowD := ⟨0, 0, 0, 0, [], 0⟩
/-- What is decided: 1 chosen, 0 not chosen, -1 nothing. -/
abbrev Dc := Nat → Int
def upd (dc : Dc) (v : Nat) (x : Int) : Dc := fun k => if k = v then x else dc k
/-- How package proof keeps it: 1, -1, 0. -/
def encP (x : Int) : Int := if x = 1 then 1 else if x = 0 then -1 else 0
def dcP (dc : Dc) : List Int := (List.range 12).map fun k => encP (dc k)
def dcR (n : Nat) (dc : Dc) : List Int := (List.range n).map dc
theorem dcP_len (dc : Dc) : (dcP dc).length = 12 := by simp [dcP]
theorem dcR_len (n : Nat) (dc : Dc) : (dcR n dc).length = n := by simp [dcR]
theorem dcP_get {dc : Dc} {k : Nat} (h : k < 12) : (dcP dc)[k]? = some (encP (dc k)) := by simp [dcP, h]
theorem dcR_get {n : Nat} {dc : Dc} {k : Nat} (h : k < n) : (dcR n dc)[k]? = some (dc k) := by simp [dcR, h]
theorem dcP_set (dc : Dc) (v : Nat) (x : Int) : (dcP dc).set v (encP x) = dcP (upd dc v x) := by
  apply List.ext_getElem?
  intro i
  rw [List.getElem?_set]
  by_cases hi : i < 12
  · rw [dcP_get (dc := upd dc v x) hi, dcP_len]
    by_cases e : v = i
    · subst e; rw [if_pos rfl, if_pos hi]; simp only [upd, if_pos]
    · have e2 : ¬ i = v := fun h => e h.symm
      rw [if_neg e, dcP_get hi]; simp only [upd, if_neg e2]
  · rw [List.getElem?_eq_none (l := dcP (upd dc v x)) (by rw [dcP_len]; omega)]
    split
    · rw [dcP_len, if_neg (by omega)]
    · exact List.getElem?_eq_none (by rw [dcP_len]; omega)
theorem dcR_set (n : Nat) (dc : Dc) (v : Nat) (x : Int) : (dcR n dc).set v x = dcR n (upd dc v x) := by
  apply List.ext_getElem?
  intro i
  rw [List.getElem?_set]
  by_cases hi : i < n
  · rw [dcR_get (dc := upd dc v x) hi, dcR_len]
    by_cases e : v = i
    · subst e; rw [if_pos rfl, if_pos hi]; simp only [upd, if_pos]
    · have e2 : ¬ i = v := fun h => e h.symm
      rw [if_neg e, dcR_get hi]; simp only [upd, if_neg e2]
  · rw [List.getElem?_eq_none (l := dcR n (upd dc v x)) (by rw [dcR_len]; omega)]
    split
    · rw [dcR_len, if_neg (by omega)]
    · exact List.getElem?_eq_none (by rw [dcR_len]; omega)
/-- Decisions are 1, 0 or -1; from n on there are none. -/
def DcOK (n : Nat) (dc : Dc) : Prop := ∀ k, (dc k = 1 ∨ dc k = 0 ∨ dc k = -1) ∧ (n ≤ k → dc k = -1)
theorem DcOK.upd {n v : Nat} {dc : Dc} {x : Int} (h : DcOK n dc) (hv : v < n) (hx : x = 1 ∨ x = 0) : DcOK n (upd dc v x) := by
  intro k
  unfold Go.Proofs.Ytblmpmapcdpaiaa.upd
  split
  · subst_vars; exact ⟨by rcases hx with h | h <;> simp [h], fun hk => by omega⟩
  · exact h k
theorem encP_eq {n : Nat} {dc : Dc} (h : DcOK n dc) (k : Nat) : (dc k = 1 ∧ encP (dc k) = 1) ∨ (dc k = 0 ∧ encP (dc k) = -1) ∨ (dc k = -1 ∧ encP (dc k) = 0) := by
  rcases (h k).1 with e | e | e <;> rw [e] <;> simp [encP]
/-- Rows that a proof may speak of. -/
def RowsOK (n : Nat) (rows : List RowD) : Prop := n ≤ 12 ∧ rows.length ≤ 301 ∧ ∀ r ∈ rows, r.coef.length = n ∧ coefOK r.coef = true ∧ -10000000000000 ≤ r.most ∧ r.most ≤ 10000000000000
def rowW (rows : List RowD) (w : WtD) : RowD := rows.getD w.row.toNat rowE
/-- The sum of the first m weighted rows at thing k. -/
def sK (rows : List RowD) (wts : List WtD) : Nat → Nat → Int
  | 0, _ => 0
  | m + 1, k => sK rows wts m k + (wts.getD m wt0).times * (rowW rows (wts.getD m wt0)).coef.getD k 0
def mK (rows : List RowD) (wts : List WtD) : Nat → Int
  | 0 => 0
  | m + 1 => mK rows wts m + (wts.getD m wt0).times * (rowW rows (wts.getD m wt0)).most
def term (x s : Int) : Int := if x = 1 ∨ (x < 0 ∧ s < 0) then s else 0
def lK (dc : Dc) (s : Nat → Int) : Nat → Int
  | 0 => 0
  | m + 1 => lK dc s m + term (dc m) (s m)
def lastK (wts : List WtD) : Nat → Int
  | 0 => -1
  | m + 1 => (wts.getD m wt0).row
def wtB (R : Nat) (wts : List WtD) (i : Nat) : Bool := inB (wts.getD i wt0).row (lastK wts i + 1) ((R : Int) - 1) && inB (wts.getD i wt0).times 1 1000
def okW (R : Nat) (wts : List WtD) : Bool := (List.range wts.length).all (wtB R wts)
def headL (s : StepD) : Bool := (s.no == 0) && ((s.yes == 0) && inB s.wts.length 1 8)
def overB (rows : List RowD) (n : Nat) (s : StepD) (dc : Dc) : Bool := decide (mK rows s.wts s.wts.length < lK dc (sK rows s.wts s.wts.length) n)
def leafV (rows : List RowD) (n : Nat) (s : StepD) (dc : Dc) : Bool := headL s && (okW rows.length s.wts && overB rows n s dc)
def caseA (n : Nat) (s : StepD) (dc : Dc) : Bool := inB s.var 0 ((n : Int) - 1) && ((dc s.var.toNat == -1) && ((s.wts.length : Int) == 0))
def caseC (L at_ : Nat) (s : StepD) : Bool := inB s.no ((at_ : Int) + 1) ((L : Int) - 1) && inB s.yes ((at_ : Int) + 1) ((L : Int) - 1)
/-- The first step that is wrong, from one on; -1 if there is none. -/
def wrongV (rows : List RowD) (l : List StepD) (n : Nat) : Nat → Nat → Dc → Int
  | 0, at_, _ => at_
  | f + 1, at_, dc =>
    match l[at_]? with
    | none => at_
    | some s =>
      if s.var = -1 then (if leafV rows n s dc then -1 else at_)
      else if caseA n s dc && caseC l.length at_ s then
        (if wrongV rows l n f s.no.toNat (upd dc s.var.toNat 0) = -1 then wrongV rows l n f s.yes.toNat (upd dc s.var.toNat 1) else wrongV rows l n f s.no.toNat (upd dc s.var.toNat 0))
      else at_
def markW (b : Nat → Bool) (wts : List WtD) : Nat → (Nat → Bool)
  | 0 => b
  | m + 1 => mark (markW b wts m) (wts.getD m wt0).row.toNat
def usedV (l : List StepD) : Nat → Nat → (Nat → Bool) → (Nat → Bool)
  | 0, _, b => b
  | f + 1, at_, b =>
    match l[at_]? with
    | none => b
    | some s => if s.var = -1 then markW b s.wts s.wts.length else usedV l f s.yes.toNat (usedV l f s.no.toNat b)
theorem wrongV_ge (rows : List RowD) (l : List StepD) (n : Nat) : ∀ (f at_ : Nat) (dc : Dc), -1 ≤ wrongV rows l n f at_ dc := by
  intro f
  induction f with
  | zero => intro at_ dc; simp only [wrongV]; omega
  | succ f ih =>
    intro at_ dc
    unfold wrongV
    split
    · omega
    · split
      · split <;> omega
      · split
        · split
          · exact ih _ _
          · exact ih _ _
        · omega
theorem okW_at {R : Nat} {wts : List WtD} (h : okW R wts = true) {i : Nat} (hi : i < wts.length) : wtB R wts i = true := by
  unfold okW at h
  rw [List.all_eq_true] at h
  exact h i (by simpa using hi)
theorem okW_not {R : Nat} {wts : List WtD} {i : Nat} (hi : i < wts.length) (h : wtB R wts i = false) : okW R wts = false := by
  cases hq : okW R wts with
  | false => rfl
  | true => rw [okW_at hq hi] at h; cases h
theorem wtB_true {R : Nat} {wts : List WtD} {i : Nat} (h : wtB R wts i = true) : lastK wts i + 1 ≤ (wts.getD i wt0).row ∧ (wts.getD i wt0).row ≤ (R : Int) - 1 ∧ 1 ≤ (wts.getD i wt0).times ∧ (wts.getD i wt0).times ≤ 1000 := by
  unfold wtB inB at h
  simp only [Bool.and_eq_true, decide_eq_true_eq] at h
  exact ⟨h.1.1, h.1.2, h.2.1, h.2.2⟩
theorem lastK_ge {R : Nat} {wts : List WtD} : ∀ i, (∀ j, j < i → wtB R wts j = true) → -1 ≤ lastK wts i := by
  intro i
  induction i with
  | zero => intro _; simp [lastK]
  | succ i ih =>
    intro h
    have h1 := ih (fun j hj => h j (by omega))
    have h2 := (wtB_true (h i (by omega))).1
    show -1 ≤ (wts.getD i wt0).row
    omega
theorem lastK_le {R : Nat} {wts : List WtD} (hR : 0 ≤ (R : Int)) : ∀ i, (∀ j, j < i → wtB R wts j = true) → lastK wts i ≤ R := by
  intro i
  cases i with
  | zero => intro _; simp [lastK]
  | succ i => intro h; have := (wtB_true (h i (by omega))).2.1; show (wts.getD i wt0).row ≤ R; omega
/-- A weight that is formed names a row. -/
theorem rowW_ok {n : Nat} {rows : List RowD} {wts : List WtD} (hr : RowsOK n rows) {i : Nat} (hp : ∀ j, j ≤ i → wtB rows.length wts j = true) :
    ∃ j : Nat, (wts.getD i wt0).row = j ∧ j < rows.length ∧ rows[j]? = some (rowW rows (wts.getD i wt0)) ∧ (rowW rows (wts.getD i wt0)).coef.length = n ∧ coefOK (rowW rows (wts.getD i wt0)).coef = true ∧ -10000000000000 ≤ (rowW rows (wts.getD i wt0)).most ∧ (rowW rows (wts.getD i wt0)).most ≤ 10000000000000 := by
  have h1 := lastK_ge i (fun j hj => hp j (by omega))
  obtain ⟨h2, h3, -⟩ := wtB_true (hp i (Nat.le_refl _))
  obtain ⟨j, hj⟩ := Int.eq_ofNat_of_zero_le (show 0 ≤ (wts.getD i wt0).row by omega)
  have hjl : j < rows.length := by omega
  have hg : rows[j]? = some (rowW rows (wts.getD i wt0)) := by
    unfold rowW
    rw [hj, Int.toNat_natCast]
    exact getD_some rowE hjl
  exact ⟨j, hj, hjl, hg, hr.2.2 _ (List.mem_of_getElem? hg)⟩
theorem mul_bdC {a b M N : Int} (ha : -M ≤ a ∧ a ≤ M) (hb : -N ≤ b ∧ b ≤ N) (_hM : 0 ≤ M) (_hN : 0 ≤ N) : -(M * N) ≤ a * b ∧ a * b ≤ M * N := by
  have h1 : 0 ≤ (M - a) * (N + b) := Int.mul_nonneg (by omega) (by omega)
  have h2 : 0 ≤ (M + a) * (N - b) := Int.mul_nonneg (by omega) (by omega)
  have h3 : 0 ≤ (M - a) * (N - b) := Int.mul_nonneg (by omega) (by omega)
  have h4 : 0 ≤ (M + a) * (N + b) := Int.mul_nonneg (by omega) (by omega)
  simp only [Int.sub_mul, Int.add_mul, Int.mul_add, Int.mul_sub] at h1 h2 h3 h4
  constructor <;> omega
theorem sK_bd {n : Nat} {rows : List RowD} {wts : List WtD} (hr : RowsOK n rows) : ∀ m, (∀ j, j < m → wtB rows.length wts j = true) → ∀ k, -(1000000000000 * (m : Int)) ≤ sK rows wts m k ∧ sK rows wts m k ≤ 1000000000000 * m := by
  intro m
  induction m with
  | zero => intro _ k; simp [sK]
  | succ m ih =>
    intro hp k
    obtain ⟨h1, h2⟩ := ih (fun j hj => hp j (by omega)) k
    obtain ⟨j, -, -, -, -, hc, -⟩ := rowW_ok hr (i := m) (fun j hj => hp j (by omega))
    obtain ⟨-, -, ht1, ht2⟩ := wtB_true (hp m (by omega))
    have hb := mul_bdC (a := (wts.getD m wt0).times) (M := 1000) ⟨by omega, by omega⟩ (coefOK_get hc k) (by omega) (by omega)
    simp only [sK]
    generalize (wts.getD m wt0).times * (rowW rows (wts.getD m wt0)).coef.getD k 0 = z at hb ⊢
    omega
theorem mK_bd {n : Nat} {rows : List RowD} {wts : List WtD} (hr : RowsOK n rows) : ∀ m, (∀ j, j < m → wtB rows.length wts j = true) → -(10000000000000000 * (m : Int)) ≤ mK rows wts m ∧ mK rows wts m ≤ 10000000000000000 * m := by
  intro m
  induction m with
  | zero => intro _; simp [mK]
  | succ m ih =>
    intro hp
    obtain ⟨h1, h2⟩ := ih (fun j hj => hp j (by omega))
    obtain ⟨j, -, -, -, -, -, h3, h4⟩ := rowW_ok hr (i := m) (fun j hj => hp j (by omega))
    obtain ⟨-, -, ht1, ht2⟩ := wtB_true (hp m (by omega))
    have hb := mul_bdC (a := (wts.getD m wt0).times) (M := 1000) ⟨by omega, by omega⟩ ⟨h3, h4⟩ (by omega) (by omega)
    simp only [mK]
    generalize (wts.getD m wt0).times * (rowW rows (wts.getD m wt0)).most = z at hb ⊢
    omega
theorem lK_bd {dc : Dc} {s : Nat → Int} {M : Int} (hM : 0 ≤ M) (hs : ∀ k, -M ≤ s k ∧ s k ≤ M) : ∀ m : Nat, -(M * m) ≤ lK dc s m ∧ lK dc s m ≤ M * m := by
  intro m
  induction m with
  | zero => simp [lK]
  | succ m ih =>
    have := hs m
    simp only [lK, term]
    have e : M * ((m + 1 : Nat) : Int) = M * m + M := by rw [Int.natCast_add, Int.mul_add]; simp
    rw [e]
    split <;> omega
/-- Things that there are not add nothing. -/
theorem sK_zero {n : Nat} {rows : List RowD} {wts : List WtD} (hr : RowsOK n rows) : ∀ m, (∀ j, j < m → wtB rows.length wts j = true) → ∀ k, n ≤ k → sK rows wts m k = 0 := by
  intro m
  induction m with
  | zero => intro _ k _; rfl
  | succ m ih =>
    intro hp k hk
    obtain ⟨j, -, -, -, hl, -⟩ := rowW_ok hr (i := m) (fun j hj => hp j (by omega))
    simp only [sK]
    rw [ih (fun j hj => hp j (by omega)) k hk, List.getD_eq_getElem?_getD (l := (rowW rows (wts.getD m wt0)).coef), List.getElem?_eq_none (l := (rowW rows (wts.getD m wt0)).coef) (by omega)]
    simp
theorem lK_more {dc : Dc} {s : Nat → Int} {n : Nat} (hs : ∀ k, n ≤ k → s k = 0) : ∀ d, lK dc s (n + d) = lK dc s n := by
  intro d
  induction d with
  | zero => rfl
  | succ d ih =>
    show lK dc s (n + d + 1) = _
    simp only [lK]
    rw [ih, hs (n + d) (by omega)]
    simp [term]
end Go.Proofs.Ytblmpmapcdpaiaa
end
section
/- What an operation may touch. -/
namespace Go.Proofs.Ytblmpmapcdpaiaa
open Go.RowKit

theorem Blk.row {W : World} {B : Nat} {cs : Array Value} {t : TypeId} (h : Blk W B cs t) (ds : Array Value) : Blk (W.setRow B ds) B ds t := setRow_heap W B cs ds t (0, 0) h
theorem Blk.rowOther {W : World} {B : Nat} {cs : Array Value} {t : TypeId} (h : Blk W B cs t) {g : Nat} (ds : Array Value) (hg : B ≠ g) : Blk (W.setRow g ds) B cs t := (setRow_other W g B ds hg).trans h
theorem Blk.ne {W : World} {A B : Nat} {cs ds : Array Value} {s t : TypeId} (h : Blk W A cs s) (k : Blk W B ds t) (hst : s ≠ t) : A ≠ B := fun e => by
  subst e
  have := (show W.heap[A]? = _ from h).symm.trans k
  simp at this; exact hst this.2
theorem Blk.uniq {W : World} {A : Nat} {cs ds : Array Value} {s t : TypeId} (h : Blk W A cs s) (k : Blk W A ds t) : cs = ds := by
  have := (show W.heap[A]? = _ from h).symm.trans k
  simp at this; exact this.1
theorem owned_block {W : World} {base e k n : Nat} {v : Value} {xs : List Value} (h : W.ownsRow base e k v n xs) {g : Nat} (hg : v.ownBlock = some g) : ∃ cur, Blk W g cur e ∧ base ≤ g := by
  rcases h.2 with ⟨rfl, -⟩ | ⟨g', cap, cur, rfl, hb, hgg, -⟩
  · cases hg
  · obtain rfl : g' = g := Option.some.inj hg
    exact ⟨cur, hgg, hb⟩
theorem owned_kept {W W' : World} {base e k n : Nat} {v : Value} {xs : List Value} (h : W.ownsRow base e k v n xs) (hb : ∀ g, v.ownBlock = some g → W'.heap[g]? = W.heap[g]?) : W'.ownsRow base e k v n xs := by
  refine ⟨h.1, ?_⟩
  rcases h.2 with hn | ⟨g, cap, cur, rfl, h1, h2, h3⟩
  · exact .inl hn
  · exact .inr ⟨g, cap, cur, rfl, h1, by rw [hb g rfl]; exact h2, h3⟩
theorem ownsRow_baseF {W : World} {base base' e k n : Nat} {v : Value} {xs : List Value} (h : W.ownsRow base e k v n xs) (hb : base' ≤ base) : W.ownsRow base' e k v n xs := by
  refine ⟨h.1, ?_⟩
  rcases h.2 with hn | ⟨g, cap, cur, e, h1, h2⟩
  · exact .inl hn
  · exact .inr ⟨g, cap, cur, e, Nat.le_trans hb h1, h2⟩

/-- What lies outside F is as it was; the streams too. -/
structure Frm (F : Nat → Prop) (W W' : World) : Prop where
  os : W'.os = W.os
  tape : W'.tape = W.tape
  output : W'.output = W.output
  size : W.heap.size ≤ W'.heap.size
  block : ∀ k, k < W.heap.size → ¬ F k → W'.heap[k]? = W.heap[k]?
theorem Frm.refl (F : Nat → Prop) (W : World) : Frm F W W := ⟨rfl, rfl, rfl, Nat.le_refl _, fun _ _ _ => rfl⟩
theorem Frm.mono {F G : Nat → Prop} {W W' : World} (h : Frm F W W') (hFG : ∀ k, k < W.heap.size → F k → G k) : Frm G W W' :=
  ⟨h.os, h.tape, h.output, h.size, fun k hk hn => h.block k hk (fun hf => hn (hFG k hk hf))⟩
theorem Frm.trans {F G : Nat → Prop} {a b c : World} (h : Frm F a b) (k : Frm G b c) (hG : ∀ i, i < a.heap.size → G i → F i) : Frm F a c :=
  ⟨k.os.trans h.os, k.tape.trans h.tape, k.output.trans h.output, Nat.le_trans h.size k.size, fun i hi hn => (k.block i (Nat.lt_of_lt_of_le hi h.size) (fun hg => hn (hG i hi hg))).trans (h.block i hi hn)⟩
theorem Frm.of_below {F : Nat → Prop} {W W' : World} (h : Below W.heap.size W W') : Frm F W W' := ⟨h.os, h.tape, h.output, h.size, fun k hk _ => h.block k hk⟩
theorem Frm.below {F : Nat → Prop} {W W' : World} (h : Frm F W W') {B : Nat} (hB : B ≤ W.heap.size) (hF : ∀ k, F k → B ≤ k) : Below B W W' :=
  ⟨h.os, h.tape, h.output, h.size, fun k hk => h.block k (by omega) (fun hf => by have := hF k hf; omega)⟩
theorem Frm.alloc {F : Nat → Prop} {a w : World} (h : Frm F a w) (o : Obj) : Frm F a (w.alloc o) :=
  h.trans (G := F) (Frm.of_below ((Below.refl _ _).alloc (Nat.le_refl _) o)) (fun _ _ h => h)
theorem Frm.drew {F : Nat → Prop} {a w : World} (h : Frm F a w) : Frm F a w.drew := ⟨h.os, h.tape, h.output, h.size, h.block⟩
theorem Frm.setCell {F : Nat → Prop} {a w : World} (h : Frm F a w) {b o : Nat} (hb : b < a.heap.size → F b) (u : Value) : Frm F a (w.setCell ⟨b, o, none⟩ u) :=
  h.trans (G := fun k => k = b) ⟨rfl, rfl, rfl, by simp [World.setCell], fun k _ hk => Below.heap_setCell _ _ _ _ hk⟩ (fun i hi e => by subst e; exact hb hi)
theorem Frm.setRow {F : Nat → Prop} {a w : World} (h : Frm F a w) {b : Nat} (hb : b < a.heap.size → F b) (cs : Array Value) : Frm F a (w.setRow b cs) :=
  h.trans (G := fun k => k = b) ⟨rfl, rfl, rfl, by simp, fun k _ hk => setRow_other _ _ _ _ hk⟩ (fun i hi e => by subst e; exact hb hi)
theorem Frm.grown {F : Nat → Prop} {a w w' : World} {row : Option Nat} (h : Frm F a w) (hg : w.grownBy w' row) (hr : ∀ k, row = some k → k < a.heap.size → F k) : Frm F a w' :=
  h.trans (G := fun k => row = some k) ⟨hg.os, hg.tape, hg.output, hg.size, fun k hk hn => hg.block k hk (fun e => hn e.symm)⟩ (fun i hi e => hr i e hi)
theorem Blk.frm {F : Nat → Prop} {W W' : World} {B : Nat} {cs : Array Value} {t : TypeId} (h : Blk W B cs t) (hf : Frm F W W') (hB : ¬ F B) : Blk W' B cs t := (hf.block B h.lt hB).trans h

end Go.Proofs.Ytblmpmapcdpaiaa
end
