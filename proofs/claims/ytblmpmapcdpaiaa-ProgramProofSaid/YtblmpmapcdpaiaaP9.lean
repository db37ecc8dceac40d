/- slices.AppendSeq, Collect over the choices; program.All. -/
import Derived.Test.YtblmpmapcdpaiaaP8
namespace Go.Proofs.Ytblmpmapcdpaiaa
open Go.RowKit Go.Shelf Lib
attribute [local go_sem] Oper.semAt_some

def intL (l : List Nat) : List Int := l.map fun x : Nat => (x : Int)
theorem intL_len (l : List Nat) : (intL l).length = l.length := by simp [intL]
theorem KpC.putObj {B0 pB : Nat} {W : World} {l : Nat} {o : Obj} (o' : Obj) (h1 : B0 ≤ l) (h2 : pB < l) (hl : W.heap[l]? = some o) : KpC B0 pB W (W.putObj l o') :=
  ⟨(Below.refl B0 W).grown (grownBy_putObj' W l o') (by have := (Array.getElem?_eq_some_iff.1 hl).1; omega) (fun k hk => by simp at hk; omega), World.putObj_heap_other (by omega)⟩

set_option maxRecDepth 100000 in
set_option maxHeartbeats 1000000 in
theorem appendSeq_choices (pB : Nat) (p : ProgD) (w0 w : World) (vr vg : Value) (hval : validB p = true) (hrows : RowsAt w0 vr p.rows) (h0w : Below w0.heap.size w0 w)
    (hp : ∃ c fz, w.heap[pB]? = some (.cells #[.int .i64 p.vars, vr, vg] c fz)) :
    Calls Try.prog 94 #[.slice none 0 0, .func (.func 87) #[] #[.pointer (some ⟨pB, 0, none⟩)]] w fun e w' => ∃ v, e = .returned v ∧ IntsAt w' v (intL (chL p.rows (2 ^ p.vars.toNat))) ∧ Below w.heap.size w w' := by
  have hpl : pB < w.heap.size := by obtain ⟨c, fz, h⟩ := hp; exact (Array.getElem?_eq_some_iff.1 h).1
  have hB0 : Below w.heap.size w (w.alloc (.cells #[.slice none 0 0] 24)) := (Below.refl _ _).alloc (Nat.le_refl _) _
  have hseq := choices_seq 4 (by omega) pB p w0 _ vr vg hval hrows (h0w.trans (hB0.mono h0w.size)) (by
    obtain ⟨c, fz, h⟩ := hp
    exact ⟨c, fz, by rw [hB0.block pB hpl]; exact h⟩)
  have h0s := h0w.size
  clear hval hrows h0w hp
  generalize chL p.rows (2 ^ p.vars.toNat) = L at hseq ⊢
  refine (callsIn_wide (n := 5)).1 ?_
  refine callsIn_of_wp_marks Try.func94 rfl trivial ?_ rfl
  simp only [Try.ntmps94, List.size_toArray, List.length_cons, List.length_nil, Nat.reduceAdd, Nat.reduceSub, Array.replicate_succ, Array.replicate_zero, List.push_toArray, List.append_toArray, List.nil_append, List.cons_append]
  gi_wp2_with fail
  refine wpIn_rangeFunc_Mf (zs := fun k => False) rfl (by omega) (gf := 87) (lb := #[.pointer (some ⟨pB, 0, none⟩)]) rfl trivial Try.call87
    (fun k hk => hk.elim) hseq (fun h k => h.trans k)
    (fun W l o o' hl ho _ _ => by simp at hl; exact KpC.putObj o' (by omega) (by omega) ho) (Below.refl _ _) (fun _ => rfl)
    (fun pre W => (∃ v, Boxed W w.heap.size 24 v ∧ W.ownsRow (w.heap.size + 1) 3 1 v pre.length ((intL pre).map (Value.int .i64))) ∧ Below w.heap.size w W ∧ w.heap.size + 1 ≤ W.heap.size)
    (fun _ _ _ => False)
    (fun s A B hs ht => ⟨by
      obtain ⟨⟨v, h1, h2⟩, h3⟩ := hs
      exact ⟨v, ht.boxed h1 (fun h => h), ht.ownsRow h2 (fun k hk h => h)⟩, ht.below hs.2.1 (Nat.le_refl _) (by simp) (fun k hk h => h), Nat.le_trans hs.2.2 ht.size⟩)
    (fun _ _ _ _ hs _ => hs)
    ⟨⟨_, Boxed.new w 24 _, World.ownsRow_nil _ _ _ _⟩, hB0, by simp⟩
    (fun x t => (t.setIfInBounds 7 (.int .i64 (x : Int))).setIfInBounds 5 (.int .i64 (x : Int))) ?assign ?body ?done ?stop
  case assign =>
    intro l x W K hK
    dsimp only [encN]
    gi_wp2
    exact hK
  case body =>
    rintro l pre x W ⟨⟨v, hv, hrow⟩, hB, hsz⟩ ⟨hlt, -⟩
    have hc1 := hv.cell
    have hf1 := hv.frozen
    gi_wp2_with (gi_at_builtin; refine wpListIn_push E24 rfl _ _ rfl (w.heap.size + 1) hrow rfl rfl rfl (by unfold maxLen; omega) (by omega) hsz ?_; intro v' w1 hown' hgrow hb1; obtain ⟨g', cap', rfl⟩ := ownsRow_succ hown'; obtain ⟨hv1, hv2, hr2, hk2, hz2, hb2⟩ := boxed_app hv hrow (by omega) hsz hown' hgrow; have hc1 := hv1.cell; have hf1 := hv1.frozen)
    exact ⟨hk2, ⟨hb2 _ (by omega), hz2 _ (by omega) (by omega)⟩, ⟨_, hv2, by simpa [intL] using hr2⟩, hB.trans (hb2 _ (Nat.le_refl _)), by have := (hb2 0 (Nat.zero_le _)).size; omega⟩
  case done =>
    rintro D ys W hD rfl ⟨⟨v, hv, hrow⟩, hB, hsz⟩ hK
    simp at hD
    have hc1 := hv.cell
    gi_wp2
    refine ⟨by simp, .inl ⟨_, _, rfl, run_takeDeferred hK, ?_⟩⟩
    refine ⟨v, by simp [results, Try.results94, go_sem], v, rfl, owned_slice (by rw [intL_len]; exact ownsRow_putObj hrow _ hK rfl), hB.trans (belowK_b (w := w) (Nat.le_refl _) W D _ _ (by omega) hK rfl rfl)⟩
  case stop =>
    intro D c pre W _ _ h _
    exact h.elim

theorem choices_made (vars : Int) (vr vg : Value) (w : World) : Calls Try.prog 60 #[.agg #[.int .i64 vars, vr, vg]] w fun e w' => e = .returned (.func (.func 87) #[] #[.pointer (some ⟨w.heap.size, 0, none⟩)]) ∧ w.alloc (.cells #[.int .i64 vars, vr, vg] 29) = w' := by
  have hmf : ∀ (fn : Fn) (first cap : Array Value) (w : World), (Instr.makeFunc fn first cap).run Try.prog w = .ok (.func fn first cap) w := fun _ _ _ _ => rfl
  go_enter Try.func60, Try.ntmps60
  go_wp2
  go_ret
  exact ⟨rfl, rfl⟩

set_option maxRecDepth 100000 in
theorem collect_choices (pB : Nat) (p : ProgD) (w0 w : World) (vr vg : Value) (hval : validB p = true) (hrows : RowsAt w0 vr p.rows) (h0w : Below w0.heap.size w0 w)
    (hp : ∃ c fz, w.heap[pB]? = some (.cells #[.int .i64 p.vars, vr, vg] c fz)) :
    Calls Try.prog 66 #[.func (.func 87) #[] #[.pointer (some ⟨pB, 0, none⟩)]] w fun e w' => ∃ v, e = .returned v ∧ IntsAt w' v (intL (chL p.rows (2 ^ p.vars.toNat))) ∧ Below w.heap.size w w' := by
  have hx := appendSeq_choices pB p w0 w vr vg hval hrows h0w hp
  clear hval hrows h0w hp
  go_enter Try.func66, Try.ntmps66
  go_wp2_with fail
  refine hx.mono ?_
  rintro e w' ⟨v, rfl, hv, hB⟩
  go_wp2
  go_ret
  exact ⟨_, rfl, hv, hB⟩

def allV (p : ProgD) : List Int := if validB p = true then intL (chL p.rows (2 ^ p.vars.toNat)) else []
def errV (p : ProgD) : Int := if validB p = true then 0 else 230
set_option maxRecDepth 100000 in
theorem all_all (v : Value) (p : ProgD) (w : World) (hv : ProgV w v p) :
    Calls Try.prog 22 #[v] w fun e w' => ∃ v', e = .returned (.tuple #[v', .int .i64 (errV p)]) ∧ IntsAt w' v' (allV p) ∧ Below w.heap.size w w' := by
  obtain ⟨vr, vg, rfl, hvr, hvg⟩ := hv
  have hB0 : Below w.heap.size w (w.alloc (.cells #[.int .i64 p.vars, vr, vg] 29)) := (Below.refl _ _).alloc (Nat.le_refl _) _
  have hx := valid_all _ p _ ⟨vr, vg, rfl, hvr.below hB0, hvg.below hB0⟩
  unfold allV errV
  cases hval : validB p with
  | false =>
    rw [hval] at hx
    clear hval hvr hvg
    rw [if_neg (by decide), if_neg (by decide)]
    go_enter Try.func22, Try.ntmps22
    go_wp2_with fail
    refine hx.mono ?_
    rintro e w' ⟨rfl, hB⟩
    go_wp2
    go_ret2
    exact ⟨_, rfl, owned_slice (l := []) (World.ownsRow_nil w' 0 3 1), hB0.trans (hB.mono hB0.size)⟩
  | true =>
    rw [hval] at hx
    rw [if_pos rfl, if_pos rfl]
    go_enter Try.func22, Try.ntmps22
    go_wp2_with fail
    refine hx.mono ?_
    rintro e w' ⟨rfl, hB⟩
    have hB1 := hB0.trans (hB.mono hB0.size)
    have k0 : w'.cell? ⟨w.heap.size, 0, none⟩ = some (.int .i64 p.vars) := (hB.cell (by simp)).trans (World.cell?_alloc_at _ _ _ _ rfl)
    have k1 : w'.cell? ⟨w.heap.size, 1, none⟩ = some vr := (hB.cell (by simp)).trans (World.cell?_alloc_at _ _ _ _ rfl)
    have k2 : w'.cell? ⟨w.heap.size, 2, none⟩ = some vg := (hB.cell (by simp)).trans (World.cell?_alloc_at _ _ _ _ rfl)
    have hB2 : Below w'.heap.size w' (w'.alloc (.cells #[.int .i64 p.vars, vr, vg] 29)) := (Below.refl _ _).alloc (Nat.le_refl _) _
    have hB3 := hB1.trans (hB2.mono hB1.size)
    have hy := collect_choices w'.heap.size p w _ vr vg hval hvr hB3 ⟨29, (0, 0), World.alloc_heap_new _ _⟩
    clear hval hvr hvg hx
    go_wp2_with fail
    refine (choices_made _ _ _ _).mono ?_
    rintro e w2 ⟨rfl, rfl⟩
    go_wp2_with fail
    refine hy.mono ?_
    rintro e w2 ⟨v, rfl, hv, hB4⟩
    go_wp2
    go_ret2
    exact ⟨_, rfl, hv, hB3.trans (hB4.mono hB3.size)⟩
end Go.Proofs.Ytblmpmapcdpaiaa
