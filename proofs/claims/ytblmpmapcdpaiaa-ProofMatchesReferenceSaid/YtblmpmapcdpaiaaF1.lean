/- nadirlaw26.few: of a list of steps the first forty, each with its first nine weights. -/
import Derived.Test.YtblmpmapcdpaiaaK3
import Derived.Test.YtblmpmapcdpaiaaP17
import Derived.StillTailTactics
namespace Go.Proofs.Ytblmpmapcdpaiaa
open Go.RowKit Go.Shelf Lib Go.Joins

def cutS (s : StepD) : StepD := { s with wts := s.wts.take 9 }
def fewS (l : List StepD) (k : Nat) : List StepD := (l.take k).map cutS
theorem fewS_succ {l : List StepD} {k : Nat} {s : StepD} (h : l[k]? = some s) : fewS l (k + 1) = fewS l k ++ [cutS s] := by
  obtain ⟨hk, rfl⟩ := List.getElem?_eq_some_iff.1 h
  unfold fewS; rw [List.take_succ_eq_append_getElem hk, List.map_append]; rfl
theorem fewS_len {l : List StepD} {k : Nat} (h : k ≤ l.length) : (fewS l k).length = k := by unfold fewS; simp; omega
theorem fewS_end {l : List StepD} {k : Nat} (h2 : k ≤ 40) (h3 : ¬ (k < l.length ∧ k < 40)) : fewS l 40 = fewS l k := by
  unfold fewS
  rcases Nat.lt_or_ge k l.length with h4 | h4
  · obtain rfl : k = 40 := by omega
    rfl
  · rw [List.take_of_length_le h4, List.take_of_length_le (by omega)]
theorem fewS_le (l : List StepD) : (fewS l 40).length ≤ 40 := by unfold fewS; simp; omega
theorem fewS_wts {l : List StepD} : ∀ s ∈ fewS l 40, s.wts.length ≤ 9 := by
  intro s hs
  unfold fewS at hs
  obtain ⟨t, -, rfl⟩ := List.mem_map.1 hs
  show (t.wts.take 9).length ≤ 9
  rw [List.length_take]; omega
theorem StructsOf.take {α : Type} {n : Nat} {R : World → List Value → α → Prop} {w : World} {a : Option Addr} {len cap : Nat} {l : List α} (h : StructsOf n R w (.slice a len cap) l) (m : Nat) : StructsOf n R w (.slice a (min m l.length) cap) (l.take m) := by
  obtain ⟨a', cap', e, h2, h3, h4⟩ := h
  cases e
  refine ⟨a, cap, by rw [List.length_take], by rw [List.length_take]; omega, h3, fun hl => ?_⟩
  obtain ⟨b, off, rfl, h5⟩ := h4 (by rw [List.length_take] at hl; omega)
  refine ⟨b, off, rfl, fun j y hj => h5 j y ?_⟩
  rw [List.getElem?_take] at hj
  split at hj
  · exact hj
  · cases hj
set_option maxRecDepth 100000 in
set_option maxHeartbeats 2000000 in
theorem few_steps (v : Value) (l : List StepD) (w : World) (hv : StepsAt w v l) :
    Calls Try.prog 45 #[v] w fun e w' => ∃ v', e = .returned v' ∧ StepsAt w' v' (fewS l 40) ∧ Below w.heap.size w w' := by
  obtain ⟨ra, rc, rfl, hr1, hr2⟩ := (show SlicesLen v l.length from StructsOf.len hv)
  unfold maxLen at hr2
  have HR := Lib.hid hv
  clear hv
  go_enter Try.func45, Try.ntmps45
  go_wp2
  go_loopw [3, 4] (fun u3 u4 wr => ∃ (k : Nat) (vk : Value) (cs : List Value), k ≤ l.length ∧ k ≤ 40 ∧ u3 = vk ∧ u4 = .int .i64 k ∧ wr.ownsRow w.heap.size 80 4 vk k cs ∧ FlatC 4 StepCs w cs (fewS l k) ∧ Below w.heap.size w wr) (fun _ u4 _ => (40 - Go.RowKit.intOf u4).toNat)
  case atStart => exact ⟨0, _, [], by omega, by omega, rfl, rfl, World.ownsRow_nil _ _ _ _, rfl, Below.refl _ _⟩
  case round =>
    obtain ⟨k, vk, cs, hk, hk40, rfl, rfl, hown, hfl, hBk⟩ := hrel
    rename World => wr
    obtain ⟨ka, kc, rfl, hk1, hk3⟩ := owned_len hown
    by_cases hkl : k < l.length ∧ k < 40
    · obtain ⟨hkl, hk2⟩ := hkl
      obtain ⟨s, hsome⟩ : ∃ s, l[k]? = some s := ⟨l[k], List.getElem?_eq_getElem hkl⟩
      have HF := Lib.hid (fewS_succ hsome)
      obtain ⟨b, off, vc, rfl, c0, c1, c2, c3, hcs⟩ := (StepsAt.below HR.out hBk).getC hsome
      obtain ⟨b', off', vc', e, -, -, -, d3, hcs0⟩ := StepsAt.getC HR.out hsome
      cases e
      obtain rfl : vc' = vc := by have := (hBk.cell (World.block_lt_of_cell? _ _ d3)).trans d3; exact Option.some.inj (this.symm.trans c3)
      obtain ⟨ca, cc, rfl, hc1, hc2⟩ := (show SlicesLen vc' s.wts.length from StructsOf.len hcs)
      unfold maxLen at hc2
      obtain ⟨m2, hm, hmg⟩ : ∃ m2 : Nat, (if (9 : Int) < (s.wts.length : Int) then (9 : Int) else (s.wts.length : Int)) = (m2 : Int) ∧ m2 = min 9 s.wts.length := ⟨_, by rw [Nat.min_def]; split <;> split <;> omega, rfl⟩
      have hm1 : m2 ≤ cc := by omega
      have hm2 : (0 : Int) ≤ (m2 : Int) ∧ (m2 : Int) ≤ (cc : Int) := by omega
      have HM2 := Lib.hid hmg
      clear hmg d3
      have hA : Below wr.heap.size wr (wr.alloc (.cells #[.int .i64 s.var, .int .i64 s.no, .int .i64 s.yes, .slice ca m2 cc] 80)) := (Below.refl _ _).alloc (Nat.le_refl _) _
      have hset : (wr.alloc (.cells #[.int .i64 s.var, .int .i64 s.no, .int .i64 s.yes, .slice ca m2 cc] 80)).ownsRow w.heap.size 80 4 _ _ cs := owned_below hown hA
      have hsw : (wr.alloc (.cells #[.int .i64 s.var, .int .i64 s.no, .int .i64 s.yes, .slice ca m2 cc] 80)).heap.size = wr.heap.size + 1 := by simp
      have hszk := hBk.size
      have HOWN := Lib.hid hown
      clear hown
      go_wp2_with (at_builtin; refine wpList_pushN E35 rfl _ _ rfl w.heap.size hset rfl (by rw [hsw]; rfl) rfl (by intro u hu; simp at hu; rcases hu with rfl | rfl | rfl | rfl <;> rfl) (by unfold maxLen; omega) (by omega) (by simp; omega) ?_; intro v' w5 hown' hgrow hb5; obtain ⟨na, nc, rfl, hn1, hn2⟩ := owned_len hown'; have hB5 : Below w.heap.size wr w5 := (hA.mono hszk).trans hb5)
      go_roundw
      case rel =>
        refine ⟨k + 1, _, _, by omega, by omega, rfl, by go_num, hown', ?_, hBk.trans hB5⟩
        rw [HF.out]
        exact FlatC.app hfl (FlatC.one rfl ⟨_, rfl, by have := StructsOf.take hcs0 9; rw [HM2.out]; exact this⟩)
      case measure => simp [Go.RowKit.intOf]; omega
    · have hend := fewS_end hk40 hkl
      have hlen := fewS_len hk
      have hres : StepsAt wr (.slice ka k kc) (fewS l 40) := by
        rw [hend]
        have := flat_view (R := StepCs) (n := 4) (v := .slice ka k kc) (by rw [hlen]; exact hown) (hfl.to (fun _ _ h => h.below hBk))
        exact this
      have HH := Lib.hid hres
      clear hend hlen hres hown
      by_cases hk2 : k < l.length
      · obtain rfl : k = 40 := by omega
        go_wp2
        go_ret
        exact ⟨_, rfl, HH.out, hBk⟩
      · obtain rfl : k = l.length := by omega
        go_wp2
        go_ret
        exact ⟨_, rfl, HH.out, hBk⟩
end Go.Proofs.Ytblmpmapcdpaiaa
