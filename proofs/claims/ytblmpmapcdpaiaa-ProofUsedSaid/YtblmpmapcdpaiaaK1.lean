/- package proof: isIn, numbers, valid, need. -/
import Derived.Test.YtblmpmapcdpaiaaM1
import Derived.WalkLawsBesides
namespace Go.Proofs.Ytblmpmapcdpaiaa
open Go.RowKit

theorem isIn86 (n lo hi : Int) (w : World) : Calls Try.prog 86 #[.int .i64 n, .int .i64 lo, .int .i64 hi] w fun e w' => e = .returned (.bool (inB n lo hi)) ∧ w = w' := by
  by_cases h : lo ≤ n
  · have hd : decide (lo ≤ n) = true := by simpa using h
    go_enter Try.func86, Try.ntmps86
    go_wp2
    go_ret
    exact ⟨by unfold inB; rw [hd]; rfl, rfl⟩
  · have hd : decide (lo ≤ n) = false := by simpa using h
    go_enter Try.func86, Try.ntmps86
    go_wp2
    go_ret
    exact ⟨by unfold inB; rw [hd]; rfl, rfl⟩
/-- What a wrong step panics with. -/
def wrongP (at_ : Int) : PanicEntry := { v := .iface 122 (.agg #[.int .i64 at_]), recovered := false }
theorem need_yes (at_ : Int) (w : World) : Calls Try.prog 103 #[.bool true, .int .i64 at_] w fun e w' => e = .returned (.tuple #[]) ∧ w = w' := by
  go_enter Try.func103, Try.ntmps103
  go_wp2
  go_end0
  exact ⟨rfl, rfl⟩
theorem need_no (at_ : Int) (w : World) : Calls Try.prog 103 #[.bool false, .int .i64 at_] w fun e w' => e = .panicked [wrongP at_] ∧ w = w' := by
  go_enter Try.func103, Try.ntmps103
  go_wp2
  exact ⟨rfl, rfl, rfl⟩
set_option maxRecDepth 100000 in
theorem num1 (x : Int) (w : World) : Calls Try.prog 117 #[.int .i64 x] w fun e w' => e = .returned (.bool (!inB x (-1000000000) 1000000000)) ∧ Below w.heap.size w w' := by
  go_enter Try.func117, Try.ntmps117
  go_wp2_with fail
  refine (isIn86 x (-1000000000) 1000000000 w).mono ?_
  rintro e w' ⟨rfl, rfl⟩
  go_wp2
  go_ret
  exact ⟨rfl, Below.refl _ _⟩
theorem num1_ans (w : World) (l : List Int) : AnsI w (.func (.func 117) #[] #[]) l (fun x => !inB x (-1000000000) 1000000000) :=
  ⟨117, _, rfl, Try.call117, fun _ x _ V _ => num1 x V⟩
theorem coefOK_any (l : List Int) : (!(l.any fun x => !inB x (-1000000000) 1000000000)) = coefOK l := any_not l _
set_option maxRecDepth 100000 in
theorem numbers_all (v : Value) (l : List Int) (n : Int) (w : World) (hv : IntsAt w v l) :
    Calls Try.prog 111 #[v, .int .i64 n] w fun e w' => e = .returned (.bool (decide ((l.length : Int) = n) && coefOK l)) ∧ Below w.heap.size w w' := by
  rw [← coefOK_any]
  have hx := containsI v _ l _ w hv (num1_ans w l)
  obtain ⟨a, cap, rfl, hle, hcm⟩ := (show SlicesLen v l.length from hv.len)
  unfold maxLen at hcm
  generalize (l.any fun x => !inB x (-1000000000) 1000000000) = y at hx ⊢
  by_cases hlen : (l.length : Int) = n
  · have hlen' : ((l.length : Int) == n) = true := beq_iff_eq.2 hlen
    rw [decide_eq_true hlen, Bool.true_and]
    clear hlen
    go_enter Try.func111, Try.ntmps111
    go_wp2_with fail
    refine hx.mono ?_
    rintro e w' ⟨rfl, hB⟩
    go_wp2
    go_ret
    exact ⟨rfl, hB⟩
  · have hlen' : ((l.length : Int) == n) = false := beq_eq_false_iff_ne.2 hlen
    rw [decide_eq_false hlen, Bool.false_and]
    clear hlen hx
    go_enter Try.func111, Try.ntmps111
    go_wp2
    go_ret
    exact ⟨rfl, Below.refl _ _⟩
set_option maxRecDepth 100000 in
theorem pvalid1 (v : Value) (r : RowD) (n : Int) (p : Addr) (w : World) (hp : w.cell? p = some (.int .i64 n)) (hv : RowV w v r) :
    Calls Try.prog 112 #[v, .pointer (some p)] w fun e w' => e = .returned (.bool (!rightB r n)) ∧ Below w.heap.size w w' := by
  have hlt := World.block_lt_of_cell? _ _ hp
  obtain ⟨vc, rfl, hvc⟩ := hv
  have hB0 : Below w.heap.size w (w.alloc (.cells #[.int .i64 r.kind, .int .i64 r.a, .int .i64 r.b, .int .i64 r.at_, vc, .int .i64 r.most] 26)) := (Below.refl _ _).alloc (Nat.le_refl _) _
  have hx := numbers_all vc r.coef n _ (hvc.below hB0)
  have hmo : mostOK r.most = inB r.most (-1000000000000) 1000000000000 := rfl
  have hp' : (w.alloc (.cells #[.int .i64 r.kind, .int .i64 r.a, .int .i64 r.b, .int .i64 r.at_, vc, .int .i64 r.most] 26)).cell? p = some (.int .i64 n) := (hB0.cell hlt).trans hp
  unfold rightB
  rw [hmo]
  generalize (decide ((r.coef.length : Int) = n) && coefOK r.coef) = y at hx ⊢
  clear hvc
  go_enter Try.func112, Try.ntmps112
  go_wp2_with fail
  refine hx.mono ?_
  cases y with
  | true =>
    rintro e w' ⟨rfl, hB⟩
    have hc : w'.cell? ⟨w.heap.size, 5, none⟩ = some (.int .i64 r.most) := (hB.cell (by simp)).trans (World.cell?_alloc_at _ _ _ _ rfl)
    go_wp2_with fail
    refine (isIn86 _ _ _ _).mono ?_
    rintro e w2 ⟨rfl, rfl⟩
    go_wp2
    go_ret
    exact ⟨rfl, hB0.trans (hB.mono hB0.size)⟩
  | false =>
    rintro e w' ⟨rfl, hB⟩
    go_wp2
    go_ret
    exact ⟨rfl, hB0.trans (hB.mono hB0.size)⟩
theorem pvalid1_ans (w : World) (l : List RowD) (n : Int) (p : Addr) (hp : w.cell? p = some (.int .i64 n)) : AnsR w (.func (.func 112) #[] #[.pointer (some p)]) l (fun r => !rightB r n) :=
  ⟨112, _, rfl, Try.call112, fun _ r _ V hV v hv => pvalid1 v r n p V ((hV.cell (World.block_lt_of_cell? _ _ hp)).trans hp) hv⟩
theorem validB_eq2 (p : ProgD) : validB p = (inB p.vars 0 12 && (decide ((p.rows.length : Int) ≤ 300) && ((decide ((p.gain.length : Int) = p.vars) && coefOK p.gain) && !(p.rows.any fun r => !rightB r p.vars)))) := by
  rw [validB_eq, any_not]
  cases inB p.vars 0 12 <;> cases decide ((p.rows.length : Int) ≤ 300) <;> cases (decide ((p.gain.length : Int) = p.vars) && coefOK p.gain) <;> cases (p.rows.all (fun r => rightB r p.vars)) <;> rfl
set_option maxRecDepth 100000 in
set_option maxHeartbeats 1000000 in
theorem pvalid_all (v : Value) (p : ProgD) (w : World) (hv : ProgV w v p) :
    Calls Try.prog 101 #[v] w fun e w' => e = .returned (.bool (validB p)) ∧ Below w.heap.size w w' := by
  rw [validB_eq2]
  obtain ⟨vr, vg, rfl, hvr, hvg⟩ := hv
  have hB0 : Below w.heap.size w (w.alloc (.cells #[.int .i64 p.vars, vr, vg] 29)) := (Below.refl _ _).alloc (Nat.le_refl _) _
  have hx := numbers_all vg p.gain p.vars _ (hvg.below hB0)
  have HY := Lib.hid (fun W (hW : Below w.heap.size w W) (hc : W.cell? ⟨w.heap.size, 0, none⟩ = some (.int .i64 p.vars)) => containsR vr _ p.rows _ W (hvr.below hW) (pvalid1_ans W p.rows p.vars ⟨w.heap.size, 0, none⟩ hc))
  obtain ⟨ra, rc, rfl, hr1, hr2⟩ := (show SlicesLen vr p.rows.length from hvr.len)
  obtain ⟨ga, gc, rfl, hg1, hg2⟩ := (show SlicesLen vg p.gain.length from hvg.len)
  unfold maxLen at hr2 hg2
  clear hvr hvg
  generalize (p.rows.any fun r => !rightB r p.vars) = y3 at HY ⊢
  generalize (decide ((p.gain.length : Int) = p.vars) && coefOK p.gain) = y4 at hx ⊢
  generalize hy1 : inB p.vars 0 12 = y1
  generalize hy2 : decide ((p.rows.length : Int) ≤ 300) = y2
  have H1 := Lib.hid hy1
  have H2 := Lib.hid hy2
  clear hy1 hy2
  go_enter Try.func101, Try.ntmps101
  go_wp2_with fail
  refine (isIn86 _ _ _ _).mono ?_
  rw [H1.out]
  cases y1 with
  | false =>
    rintro e w2 ⟨rfl, rfl⟩
    go_wp2
    go_ret
    exact ⟨rfl, hB0⟩
  | true =>
    rintro e w2 ⟨rfl, rfl⟩
    cases y2 with
    | true =>
      have h3 : p.rows.length ≤ 300 := by have := of_decide_eq_true H2.out; omega
      have d2 : decide ((300 : Int) < (p.rows.length : Int)) = false := decide_eq_false (by omega)
      clear H2
      go_wp2_with fail
      refine hx.mono ?_
      rintro e w2 ⟨rfl, hB2⟩
      have hB := hB0.trans (hB2.mono hB0.size)
      have k0 : w2.cell? ⟨w.heap.size, 0, none⟩ = some (.int .i64 p.vars) := (hB2.cell (by simp)).trans (World.cell?_alloc_at _ _ _ _ rfl)
      have k1 : w2.cell? ⟨w.heap.size, 1, none⟩ = some (.slice ra p.rows.length rc) := (hB2.cell (by simp)).trans (World.cell?_alloc_at _ _ _ _ rfl)
      clear hB2 hx hB0
      cases y4 with
      | false =>
        go_wp2
        go_ret
        exact ⟨rfl, hB⟩
      | true =>
        have hy := HY.out w2 hB k0
        go_wp2_with fail
        refine hy.mono ?_
        rintro e w3 ⟨rfl, hB3⟩
        have hB' := hB.trans (hB3.mono hB.size)
        go_wp2
        go_ret
        exact ⟨rfl, hB'⟩
    | false =>
      have h3 : ¬ p.rows.length ≤ 300 := by have := of_decide_eq_false H2.out; omega
      have d2 : decide ((300 : Int) < (p.rows.length : Int)) = true := decide_eq_true (by omega)
      clear H2
      go_wp2
      go_ret
      exact ⟨rfl, hB0⟩
end Go.Proofs.Ytblmpmapcdpaiaa
