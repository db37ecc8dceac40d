/- program.proof: the plain proof. -/
import Derived.Test.YtblmpmapcdpaiaaP13
namespace Go.Proofs.Ytblmpmapcdpaiaa
open Go.RowKit Lib Go.Joins

def WtC (_ : World) (cs : List Value) (x : WtD) : Prop := cs = [.int .i64 x.row, .int .i64 x.times]
abbrev WtsAt (w : World) (v : Value) (l : List WtD) : Prop := StructsOf 2 WtC w v l
def StepCs (w : World) (cs : List Value) (s : StepD) : Prop := ∃ vw, cs = [.int .i64 s.var, .int .i64 s.no, .int .i64 s.yes, vw] ∧ WtsAt w vw s.wts
theorem WtsAt.below {w w' : World} {v : Value} {l : List WtD} (h : WtsAt w v l) (hb : Below w.heap.size w w') : WtsAt w' v l := StructsOf.below (R := WtC) (fun _ _ _ _ h _ => h) h hb
theorem StepCs.below {w w' : World} {cs : List Value} {s : StepD} (h : StepCs w cs s) (hb : Below w.heap.size w w') : StepCs w' cs s := by
  obtain ⟨vw, h1, h2⟩ := h
  exact ⟨vw, h1, h2.below hb⟩
abbrev StepsAt (w : World) (v : Value) (l : List StepD) : Prop := StructsOf 4 StepCs w v l
theorem StepsAt.below {w w' : World} {v : Value} {l : List StepD} (h : StepsAt w v l) (hb : Below w.heap.size w w') : StepsAt w' v l := StructsOf.below (R := StepCs) (fun _ _ _ _ h hb => h.below hb) h hb
theorem WtV.at {w : World} {v : Value} {l : List WtD} (h : WtV w v l) : WtsAt w v l := by
  rcases h with ⟨rfl, rfl⟩ | ⟨g, x, rfl, rfl, hb⟩
  · exact ⟨none, 0, rfl, by simp, by decide, fun h => by simp at h⟩
  · refine ⟨_, 1, rfl, by simp, by decide, fun _ => ⟨g, 0, rfl, fun j y hj => ?_⟩⟩
    obtain ⟨rfl, rfl⟩ : j = 0 ∧ y = x := by
      cases j with
      | zero => simp at hj; exact ⟨rfl, hj.symm⟩
      | succ j => simp at hj
    refine ⟨_, rfl, fun i c hc => ?_, rfl⟩
    have := hb.cell i
    simp only [Nat.zero_mul, Nat.zero_add]
    rw [this]
    simpa using hc
theorem StepsC.get {W : World} : ∀ {l : List StepD} {cs : List Value}, StepsC W cs l → ∀ (j : Nat) (s : StepD), l[j]? = some s → ∃ ds, ds.length = 4 ∧ (∀ i c, ds[i]? = some c → cs[j * 4 + i]? = some c) ∧ StepCs W ds s := by
  intro l
  induction l with
  | nil => intro cs h j s hj; simp at hj
  | cons y l ih =>
    rintro cs ⟨wv, rest, rfl, h1, h2⟩ j s hj
    cases j with
    | zero =>
      simp at hj; subst hj
      refine ⟨[.int .i64 y.var, .int .i64 y.no, .int .i64 y.yes, wv], rfl, fun i c hc => ?_, wv, rfl, h1.at⟩
      simp only [Nat.zero_mul, Nat.zero_add]
      have hi : i < 4 := by
        refine Classical.byContradiction fun hcc => ?_
        rw [List.getElem?_eq_none (by simp; omega)] at hc; cases hc
      match i, hi with
      | 0, _ => exact hc
      | 1, _ => exact hc
      | 2, _ => exact hc
      | 3, _ => exact hc
    | succ j =>
      obtain ⟨ds, d1, d2, d3⟩ := ih h2 j s (by simpa using hj)
      refine ⟨ds, d1, fun i c hc => ?_, d3⟩
      have := d2 i c hc
      rw [show (j + 1) * 4 + i = j * 4 + i + 1 + 1 + 1 + 1 from by omega]
      simpa using this
theorem steps_view {W : World} {base : Nat} {v : Value} {cs : List Value} {l : List StepD} (h : W.ownsRow base 80 4 v l.length cs) (hs : StepsC W cs l) : StepsAt W v l := by
  rcases h.2 with ⟨rfl, hn⟩ | ⟨g, cap, cur, rfl, hb, hg, h1, h2, -⟩
  · exact ⟨none, 0, by rw [hn], by omega, by unfold maxLen; omega, fun hl => by omega⟩
  · refine ⟨_, cap, rfl, h1, h2, fun _ => ⟨g, 0, rfl, fun j s hj => ?_⟩⟩
    obtain ⟨ds, d1, d2, d3⟩ := hs.get j s hj
    refine ⟨ds, d1, fun i c hc => ?_, d3⟩
    have := h.cells rfl (j * 4 + i) c (d2 i c hc)
    rw [add_zero_off] at this
    simpa using this

theorem run_store_func' {P : Program} (w : World) (a : Addr) (m : Mode) (f : Fn) (x y : Array Value) : (store a (.func f x y) m).run P w = stored P w a (.func f x y) m := run_store P w a _ m rfl
attribute [local go_sem] run_store_func'
theorem WtV.other {A B : World} (hk : ∀ k cs, Blk A k cs 82 → Blk B k cs 82) {v : Value} {l : List WtD} (hv : WtV A v l) : WtV B v l := by
  rcases hv with ⟨h1, h2⟩ | ⟨g, x, h1, h2, h3⟩
  · exact .inl ⟨h1, h2⟩
  · exact .inr ⟨g, x, h1, h2, hk _ _ h3⟩
theorem StepsC.other {A B : World} (hk : ∀ k cs, Blk A k cs 82 → Blk B k cs 82) : ∀ {l : List StepD} {cs : List Value}, StepsC A cs l → StepsC B cs l := by
  intro l
  induction l with
  | nil => intro cs h; exact h
  | cons s l ih =>
    rintro cs ⟨wv, rest, rfl, h1, h2⟩
    exact ⟨wv, rest, rfl, h1.other hk, ih h2⟩
set_option maxRecDepth 100000 in
set_option maxHeartbeats 1000000 in
theorem proof_all (vr : Value) (rows : List RowD) (m : Nat) (w : World) (hv : RowsAt w vr rows) (hm : m ≤ 12) (hrows : ∀ r ∈ rows, r.coef.length = m ∧ coefOK r.coef = true)
    (hfull : ∀ s, s < 2 ^ m → badAt rows m s ≠ none) :
    Calls Try.prog 63 #[vr] w fun e w' => ∃ v' cs, e = .returned v' ∧ w'.ownsRow (w.heap.size + 3) 80 4 v' (growS rows m 0 0 0).length cs ∧ StepsC w' cs (growS rows m 0 0 0) ∧ Below w.heap.size w w' := by
  have hp : 2 ^ (m + 1) ≤ 2 ^ 13 := Nat.pow_le_pow_right (by omega) (by omega)
  have hg := Lib.hid (fun W v xs => grow_all (w.heap.size + 1) w.heap.size (w.heap.size + 2) (w.heap.size + 3) w vr rows m hm hrows hfull m 0 0 0 W v xs (by omega) (by simp) (by omega))
  generalize growS rows m 0 0 0 = L at hg ⊢
  clear hrows hfull hp
  have HV := Lib.hid hv
  obtain ⟨ra, rc, rfl, hr1, hr2⟩ := hv.len
  unfold maxLen at hr2
  clear hv
  go_enter Try.func63, Try.ntmps63
  go_wp2_with fail
  refine (hg.out _ (.slice none 0 0) [] ?_ ?_).mono ?_
  · exact ⟨(((Below.refl _ _).alloc (Nat.le_refl _) _).alloc (by simp) _).alloc (by simp; omega) _, HV.out, ((Blk.new _ _ _).alloc _).alloc _, Blk.newAt _ _ _ (by simp), by omega, by omega, by omega, by omega, by omega, by omega, by simp⟩
  · exact ⟨(Blk.newAt _ _ _ (by simp)).alloc _, World.ownsRow_nil _ _ _ _, by omega⟩
  rintro e w2 ⟨rfl, v', ys, hout, hst, hfr⟩
  have ko := hout.box.cell 0
  simp only [List.getElem?_toArray, List.getElem?_cons_zero] at ko
  go_wp2
  go_ret
  refine ⟨_, _, rfl, (by have := hout.row; rwa [Nat.zero_add] at this), hst, ?_⟩
  have hb : Below w.heap.size w (((w.alloc (.cells #[.slice ra rows.length rc] 27)).alloc (.cells #[.slice none 0 0] 35)).alloc (.cells #[.func (.func 89) #[] #[.pointer (some ⟨w.heap.size + 1, 0, none⟩), .pointer (some ⟨w.heap.size, 0, none⟩), .pointer (some ⟨w.heap.size + 1 + 1, 0, none⟩)]] 32)) :=
    (((Below.refl _ _).alloc (Nat.le_refl _) _).alloc (by simp) _).alloc (by simp; omega) _
  exact hb.trans (hfr.below (by omega) (by omega) hb.size)
end Go.Proofs.Ytblmpmapcdpaiaa
