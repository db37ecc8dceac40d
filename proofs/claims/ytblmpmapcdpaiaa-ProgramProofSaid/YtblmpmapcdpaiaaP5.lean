/- program.isChoice, kept, Keeps, Sum, Gain. -/
import Derived.Test.YtblmpmapcdpaiaaP4
import Derived.BigQuiet
import Derived.WalkSmall
import Derived.Deep.QuietTactic
namespace Go.Proofs.Ytblmpmapcdpaiaa
open Go.RowKit Lib

def choiceB (p : ProgD) (set : Int) : Bool := validB p && inB set 0 (2 ^ p.vars.toNat - 1)
theorem pow12 {n : Nat} (h : n ≤ 12) : 1 ≤ (2 : Int) ^ n ∧ (2 : Int) ^ n ≤ 4096 := by
  have h1 : 1 ≤ 2 ^ n := Nat.one_le_two_pow
  have h2 : 2 ^ n ≤ 2 ^ 12 := Nat.pow_le_pow_right (by omega) h
  have e : ((2 ^ n : Nat) : Int) = (2 : Int) ^ n := by simp
  omega
set_option maxRecDepth 100000 in
set_option maxHeartbeats 1000000 in
theorem isChoice_all (v : Value) (p : ProgD) (set : Int) (w : World) (hv : ProgV w v p) :
    Calls Try.prog 75 #[v, .int .i64 set] w fun e w' => e = .returned (.bool (choiceB p set)) ∧ Below w.heap.size w w' := by
  unfold choiceB
  obtain ⟨vr, vg, rfl, hvr, hvg⟩ := hv
  have hB0 : Below w.heap.size w (w.alloc (.cells #[.int .i64 p.vars, vr, vg] 29)) := (Below.refl _ _).alloc (Nat.le_refl _) _
  have hx := valid_all _ p _ ⟨vr, vg, rfl, hvr.below hB0, hvg.below hB0⟩
  clear hvr hvg
  cases hval : validB p with
  | false =>
    rw [hval] at hx
    go_enter Try.func75, Try.ntmps75
    go_wp2_with fail
    refine hx.mono ?_
    rintro e w' ⟨rfl, hB⟩
    go_wp2
    go_ret
    exact ⟨rfl, hB0.trans (hB.mono hB0.size)⟩
  | true =>
    obtain ⟨v1, v2, -⟩ := validB_true hval
    rw [hval] at hx
    obtain ⟨n, hn⟩ := Int.eq_ofNat_of_zero_le v1
    have hn12 : n ≤ 12 := by omega
    have hp := pow12 hn12
    rw [hn] at hx hB0 ⊢
    clear hval
    go_enter Try.func75, Try.ntmps75
    go_wp2_with fail
    refine hx.mono ?_
    rintro e w' ⟨rfl, hB⟩
    have k0 : w'.cell? ⟨w.heap.size, 0, none⟩ = some (.int .i64 (n : Int)) := (hB.cell (by simp)).trans (World.cell?_alloc_at _ _ _ _ rfl)
    go_wp2_with fail
    refine (isIn_any _ _ _ _).mono ?_
    rintro e w2 ⟨rfl, rfl⟩
    go_wp2
    go_ret
    exact ⟨rfl, hB0.trans (hB.mono hB0.size)⟩

set_option maxRecDepth 100000 in
theorem kept_any (v : Value) (r : RowD) (set : Nat) (w : World) (hv : RowV w v r) (hl : r.coef.length ≤ 60) (hc : coefOK r.coef = true) (hs : set < 4611686018427387904) :
    Calls Try.prog 77 #[v, .int .i64 set] w fun e w' => e = .returned (.bool (keptB r set)) ∧ Below w.heap.size w w' := by
  unfold keptB
  obtain ⟨vc, rfl, hvc⟩ := hv
  have hB0 : Below w.heap.size w (w.alloc (.cells #[.int .i64 r.kind, .int .i64 r.a, .int .i64 r.b, .int .i64 r.at_, vc, .int .i64 r.most] 26)) := (Below.refl _ _).alloc (Nat.le_refl _) _
  have hx : Hid (∀ q, Calls Try.prog 61 #[vc, .int .i64 set] ((w.alloc (.cells #[.int .i64 r.kind, .int .i64 r.a, .int .i64 r.b, .int .i64 r.at_, vc, .int .i64 r.most] 26)).drewN q) fun e w' => e = .returned (.int .i64 (ch r.coef set)) ∧ w' = ((w.alloc (.cells #[.int .i64 r.kind, .int .i64 r.a, .int .i64 r.b, .int .i64 r.at_, vc, .int .i64 r.most] 26)).drewN q)) :=
    fun q => (chosen_any vc r.coef set _ (hvc.below (below_drewN hB0 q)) hl hc hs).mono fun e w' h => ⟨h.1, h.2.symm⟩
  clear hvc
  go_enter Try.func77, Try.ntmps77
  go_wp2_with fail
  go_quiet ((go_at_call 61; exact Calls.quiet_of_same (hx.out _)))
  go_wp2
  go_ret
  exact ⟨rfl, below_drewN hB0 _⟩

set_option maxRecDepth 100000 in
theorem keeps1 (v : Value) (r : RowD) (set : Nat) (p : Addr) (w : World) (hp : w.cell? p = some (.int .i64 set)) (hv : RowV w v r) (hl : r.coef.length ≤ 60) (hc : coefOK r.coef = true) (hs : set < 4611686018427387904) :
    Calls Try.prog 76 #[v, .pointer (some p)] w fun e w' => e = .returned (.bool (keptB r set)) ∧ Below w.heap.size w w' := by
  have hlt := World.block_lt_of_cell? _ _ hp
  obtain ⟨vc, rfl, hvc⟩ := hv
  have hB0 : Below w.heap.size w (w.alloc (.cells #[.int .i64 r.kind, .int .i64 r.a, .int .i64 r.b, .int .i64 r.at_, vc, .int .i64 r.most] 26)) := (Below.refl _ _).alloc (Nat.le_refl _) _
  have hx := kept_any _ r set _ ⟨vc, rfl, hvc.below hB0⟩ hl hc hs
  clear hvc
  go_enter Try.func76, Try.ntmps76
  go_wp2_with fail
  refine hx.mono ?_
  rintro e w' ⟨rfl, hB⟩
  go_wp2
  go_ret
  exact ⟨rfl, hB0.trans (hB.mono hB0.size)⟩
theorem keeps1_ans (w : World) (l : List RowD) (set : Nat) (p : Addr) (hp : w.cell? p = some (.int .i64 set)) (h : ∀ r ∈ l, r.coef.length ≤ 60 ∧ coefOK r.coef = true) (hs : set < 4611686018427387904) :
    AnsR w (.func (.func 76) #[] #[.pointer (some p)]) l (fun r => keptB r set) :=
  ⟨76, _, rfl, Try.call76, fun _ r hr V hV v hv => keeps1 v r set p V ((hV.cell (World.block_lt_of_cell? _ _ hp)).trans hp) hv (h r (List.mem_of_getElem? hr)).1 (h r (List.mem_of_getElem? hr)).2 hs⟩

theorem rightB_true {r : RowD} {n : Int} (h : rightB r n = true) : (r.coef.length : Int) = n ∧ coefOK r.coef = true ∧ -1000000000000 ≤ r.most ∧ r.most ≤ 1000000000000 := by
  unfold rightB mostOK at h
  simp only [Bool.and_eq_true, decide_eq_true_eq] at h
  exact ⟨h.1.1, h.1.2, h.2⟩
/-- What a valid program's row keeps to. -/
theorem validB_row {p : ProgD} (h : validB p = true) {r : RowD} (hr : r ∈ p.rows) : r.coef.length = p.vars.toNat ∧ r.coef.length ≤ 12 ∧ coefOK r.coef = true ∧ -1000000000000 ≤ r.most ∧ r.most ≤ 1000000000000 := by
  obtain ⟨h1, h2, h3, h4, -⟩ := validB_true h
  obtain ⟨e1, e2, e3⟩ := rightB_true (h4 r hr)
  exact ⟨by omega, by omega, e2, e3⟩
theorem choiceB_true {p : ProgD} {set : Int} (h : choiceB p set = true) : validB p = true ∧ ∃ s : Nat, set = s ∧ s < 2 ^ p.vars.toNat ∧ s < 4096 := by
  unfold choiceB inB at h
  simp only [Bool.and_eq_true, decide_eq_true_eq] at h
  obtain ⟨hv, h1, h2⟩ := h
  obtain ⟨v1, v2, -⟩ := validB_true hv
  have := pow12 (n := p.vars.toNat) (by omega)
  have e : ((2 ^ p.vars.toNat : Nat) : Int) = (2 : Int) ^ p.vars.toNat := by simp
  exact ⟨hv, set.toNat, by omega, by omega, by omega⟩

set_option maxRecDepth 100000 in
theorem keeps_all (v : Value) (p : ProgD) (set : Int) (w : World) (hv : ProgV w v p) :
    Calls Try.prog 28 #[v, .int .i64 set] w fun e w' => e = .returned (.bool (choiceB p set && keepsB p.rows set.toNat)) ∧ Below w.heap.size w w' := by
  obtain ⟨vr, vg, rfl, hvr, hvg⟩ := hv
  have hB0 : Below w.heap.size w ((w.alloc (.cells #[.int .i64 p.vars, vr, vg] 29)).alloc (.cells #[.int .i64 set] 3)) := ((Below.refl _ _).alloc (Nat.le_refl _) _).alloc (by simp) _
  have hx := isChoice_all _ p set _ ⟨vr, vg, rfl, hvr.below hB0, hvg.below hB0⟩
  cases hch : choiceB p set with
  | false =>
    rw [hch] at hx
    clear hvr hvg hch
    go_enter Try.func28, Try.ntmps28
    go_wp2_with fail
    refine hx.mono ?_
    rintro e w' ⟨rfl, hB⟩
    go_wp2
    go_ret
    exact ⟨rfl, hB0.trans (hB.mono hB0.size)⟩
  | true =>
    rw [hch] at hx
    obtain ⟨hval, s, rfl, hs1, hs2⟩ := choiceB_true hch
    have hrows : ∀ r ∈ p.rows, r.coef.length ≤ 60 ∧ coefOK r.coef = true := fun r hr => by
      obtain ⟨-, h2, h3, -⟩ := validB_row hval hr
      exact ⟨by omega, h3⟩
    have HR := Lib.hid hvr
    clear hvr hvg hch hval
    go_enter Try.func28, Try.ntmps28
    go_wp2_with fail
    refine hx.mono ?_
    rintro e w' ⟨rfl, hB⟩
    have k1 : w'.cell? ⟨w.heap.size, 1, none⟩ = some vr := (hB.cell (by simp <;> omega)).trans ((((Below.refl _ _).alloc (Nat.le_refl _) _).cell (by simp <;> omega)).trans (World.cell?_alloc_at _ _ _ _ rfl))
    have k2 : w'.cell? ⟨w.heap.size + 1, 0, none⟩ = some (.int .i64 s) := (hB.cell (by simp)).trans (World.cell?_alloc_at _ _ _ _ (by simp))
    have hB1 := hB0.trans (hB.mono hB0.size)
    have hy := allR vr _ p.rows _ w' (HR.out.below hB1) (keeps1_ans w' p.rows s ⟨w.heap.size + 1, 0, none⟩ k2 hrows (by omega))
    go_wp2_with fail
    refine hy.mono ?_
    rintro e w2 ⟨rfl, hB2⟩
    go_wp2
    go_ret
    exact ⟨rfl, hB1.trans (hB2.mono hB1.size)⟩
end Go.Proofs.Ytblmpmapcdpaiaa
