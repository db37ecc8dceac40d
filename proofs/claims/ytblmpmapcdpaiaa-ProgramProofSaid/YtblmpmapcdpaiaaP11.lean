/- program.least. -/
import Derived.Test.YtblmpmapcdpaiaaP10
namespace Go.Proofs.Ytblmpmapcdpaiaa
open Go.RowKit Lib

theorem sub_lo {w : World} {a : Option Addr} {cap : Nat} {l : List Int} (h : IntsAt w (.slice a l.length cap) l) {d : Nat} (hd : d ≤ l.length) : IntsAt w (.slice a d cap) (l.take d) := by
  obtain ⟨a', c, e, h1, h2, h3⟩ := h
  cases e
  refine ⟨_, _, by rw [List.length_take, Nat.min_eq_left hd], by rw [List.length_take]; omega, h2, fun hl => ?_⟩
  obtain ⟨b, off, rfl, h4⟩ := h3 (by rw [List.length_take] at hl; omega)
  refine ⟨b, off, rfl, fun j y hj => h4 j y ?_⟩
  rw [List.getElem?_take] at hj
  split at hj
  · exact hj
  · cases hj

theorem addr_add (b off d : Nat) : (⟨b, off, none⟩ : Addr).add d = ⟨b, off + d, none⟩ := by
  unfold Addr.add; split <;> simp_all
theorem sub_hi {w : World} {p : Addr} {cap : Nat} {l : List Int} (h : IntsAt w (.slice (some p) l.length cap) l) {d : Nat} (hd : d ≤ l.length) : IntsAt w (.slice (some (p.add d)) (l.length - d) (cap - d)) (l.drop d) := by
  obtain ⟨a', c, e, h1, h2, h3⟩ := h
  cases e
  refine ⟨_, _, by rw [List.length_drop], by rw [List.length_drop]; omega, by omega, fun hl => ?_⟩
  obtain ⟨b, off, e, h4⟩ := h3 (by rw [List.length_drop] at hl; omega)
  cases e
  refine ⟨b, off + d, by rw [addr_add], fun j y hj => ?_⟩
  rw [List.getElem?_drop] at hj
  have := h4 _ y hj
  rw [← Nat.add_assoc] at this
  exact this
theorem sub_end {w : World} {a : Option Addr} {l : List Int} : IntsAt w (.slice a (l.length - l.length) 0) (l.drop l.length) :=
  ⟨a, 0, by simp, by simp, by unfold maxLen; omega, fun h => by simp at h⟩
theorem chK_take {l : List Int} {d : Nat} (set : Nat) (hd : d ≤ l.length) : ch (l.take d) set = lsK l d set d := by
  rw [lsK_lo _ _ _ _ (Nat.le_refl _)]
  unfold ch
  rw [List.length_take, Nat.min_eq_left hd]
  refine chK_congr _ fun i hi => ⟨?_, rfl⟩
  rw [List.getD_eq_getElem?_getD, List.getD_eq_getElem?_getD, List.getElem?_take, if_pos hi]

set_option maxRecDepth 100000 in
set_option maxHeartbeats 1000000 in
theorem least_any (v : Value) (r : RowD) (d set : Nat) (w : World) (hv : RowV w v r) (hl : r.coef.length ≤ 60) (hc : coefOK r.coef = true) (hd : d ≤ r.coef.length) (hs : set < 4611686018427387904) :
    Calls Try.prog 92 #[v, .int .i64 d, .int .i64 set] w fun e w' => e = .returned (.int .i64 (ls r.coef d set)) ∧ Below w.heap.size w w' := by
  obtain ⟨vc, rfl, hvc⟩ := hv
  have HV := Lib.hid hvc
  obtain ⟨a, cap, rfl, hle, hcm⟩ := (show SlicesLen vc _ from hvc.len)
  unfold maxLen at hcm
  clear hvc
  cases a with
  | none =>
    have h0 : r.coef.length = 0 := by
      obtain ⟨a', c, e, h1, h2, h3⟩ := HV.out
      refine Classical.byContradiction fun hn => ?_
      obtain ⟨b, off, e2, -⟩ := h3 (by omega)
      cases e; cases e2
    obtain rfl : d = 0 := by omega
    have hB0 : Below w.heap.size w (w.alloc (.cells #[.int .i64 r.kind, .int .i64 r.a, .int .i64 r.b, .int .i64 r.at_, .slice none 0 cap, .int .i64 r.most] 26)) := (Below.refl _ _).alloc (Nat.le_refl _) _
    have e : ls r.coef 0 set = 0 := by unfold ls; rw [h0]; rfl
    rw [e]
    go_enter Try.func92, Try.ntmps92
    go_wp2_with fail
    refine (chosen_any _ [] set _ ⟨none, cap, rfl, Nat.zero_le _, by unfold maxLen; omega, fun h => absurd h (Nat.lt_irrefl _)⟩ (by simp) rfl hs).mono ?_
    rw [show ch [] set = 0 from rfl]
    rintro e w' ⟨rfl, rfl⟩
    go_wp2
    go_loop [7, 21] (fun u7 u21 => u21 = .int .i64 0 ∧ u7 = .int .i64 0) (fun _ u21 => 0)
    case atStart => exact ⟨rfl, rfl⟩
    case round =>
      obtain ⟨rfl, rfl⟩ := hrel
      go_wp2
      go_ret
      exact ⟨rfl, hB0⟩
  | some p =>
    go_enter Try.func92, Try.ntmps92
    go_wp2_with fail
    have hcc : coefOK (r.coef.take d) = true := List.all_eq_true.2 fun x hx => List.all_eq_true.1 hc x (List.mem_of_mem_take hx)
    have hB0 : Below w.heap.size w (w.alloc (.cells #[.int .i64 r.kind, .int .i64 r.a, .int .i64 r.b, .int .i64 r.at_, .slice (some p) r.coef.length cap, .int .i64 r.most] 26)) := (Below.refl _ _).alloc (Nat.le_refl _) _
    refine (chosen_any _ _ set _ (sub_lo (HV.out.below hB0) hd) (by rw [List.length_take]; omega) hcc hs).mono ?_
    rintro e w' ⟨rfl, rfl⟩
    rw [chK_take set hd]
    have HLB := Lib.hid (fun k => lsK_bd (l := r.coef) (M := 1000000000) (by decide) (coefOK_get hc) d set k)
    have HCB := Lib.hid (coefOK_get hc)
    have hTs : d < cap → IntsAt (w.alloc (.cells #[.int .i64 r.kind, .int .i64 r.a, .int .i64 r.b, .int .i64 r.at_, .slice (some p) r.coef.length cap, .int .i64 r.most] 26)) (.slice (some (p.add d)) (r.coef.length - d) (cap - d)) (r.coef.drop d) := fun _ => sub_hi (HV.out.below hB0) hd
    have hTe : d = cap → IntsAt (w.alloc (.cells #[.int .i64 r.kind, .int .i64 r.a, .int .i64 r.b, .int .i64 r.at_, .slice (some p) r.coef.length cap, .int .i64 r.most] 26)) (.slice (some p) (r.coef.length - d) 0) (r.coef.drop d) := fun h => by
      obtain rfl : d = r.coef.length := by omega
      exact sub_end
    have HT1 := Lib.hid hTs
    have HT2 := Lib.hid hTe
    clear hTs hTe hc hcc
    rcases Nat.lt_or_ge d cap with hdc | hdc
    · have HT := Lib.hid (HT1.out hdc)
      clear HT1 HT2
      have hdn : ¬ cap = d := by omega
      obtain ⟨q, hq⟩ : ∃ q, p.add d = q := ⟨_, rfl⟩
      rw [hq] at HT
      go_wp2
      go_loop [7, 21] (fun u7 u21 => ∃ k : Nat, k ≤ r.coef.length - d ∧ u21 = .int .i64 k ∧ u7 = .int .i64 (lsK r.coef d set (d + k))) (fun _ u21 => (r.coef.length - d - intOf u21).toNat)
      case atStart => exact ⟨0, by omega, rfl, rfl⟩
      case round =>
        obtain ⟨k, hk, rfl, rfl⟩ := hrel
        have hb1 := HLB.out (d + k)
        have hb2 := HCB.out (d + k)
        by_cases hkl : k < r.coef.length - d
        · have hsome := getD_some 0 (show d + k < r.coef.length by omega)
          have hls : lsK r.coef d set (d + (k + 1)) = lsK r.coef d set (d + k) + min 0 (r.coef.getD (d + k) 0) := by
            rw [← Nat.add_assoc]; simp only [lsK]; rw [if_neg (by omega)]
          have HLS := Lib.hid hls
          clear hls
          obtain ⟨b, off, eq, hcell⟩ := HT.out.get (k := k) (by rw [List.getElem?_drop]; exact hsome)
          cases eq
          generalize r.coef.getD (d + k) 0 = x at hcell hb2 HLS
          generalize lsK r.coef d set (d + k) = y at hb1 HLS
          clear hsome
          go_wp2
          exact ⟨⟨k + 1, by omega, by go_num, intEq (by rw [HLS.out]; split <;> omega)⟩, by simp [intOf]; omega⟩
        · obtain rfl : k = r.coef.length - d := by omega
          have e : lsK r.coef d set (d + (r.coef.length - d)) = ls r.coef d set := by unfold ls; congr 1; omega
          rw [e]
          go_wp2
          go_ret
          exact ⟨rfl, hB0⟩
    · have hdc : cap = d := by omega
      subst hdc
      have hz : r.coef.length - cap = 0 := by omega
      clear HT1 HT2
      go_wp2
      all_goals go_loop [7, 21] (fun u7 u21 => u21 = .int .i64 0 ∧ u7 = .int .i64 (lsK r.coef cap set cap)) (fun _ u21 => 0)
      case atStart => exact ⟨rfl, rfl⟩
      case round =>
        obtain ⟨rfl, rfl⟩ := hrel
        have e : lsK r.coef cap set cap = ls r.coef cap set := by unfold ls; congr 1; omega
        rw [e]
        go_wp2
        go_ret
        exact ⟨rfl, hB0⟩
end Go.Proofs.Ytblmpmapcdpaiaa
