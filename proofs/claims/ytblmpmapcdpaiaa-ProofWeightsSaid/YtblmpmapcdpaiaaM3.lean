/- Texts P10, P11, P12 in one. -/
import Derived.Test.YtblmpmapcdpaiaaM2
import Derived.Test.YtblmpmapcdpaiaaB2
import Derived.WalkLawsBesides
import Derived.Deep.RegionHeld3
section
/- program.goal, least. -/
namespace Go.Proofs.Ytblmpmapcdpaiaa
open Go.RowKit Lib

def negK (l : List Int) (k : Nat) : List Int := (l.take k).map fun n => -n
theorem negK_succ {l : List Int} {k : Nat} (h : k < l.length) : negK l (k + 1) = negK l k ++ [-(l.getD k 0)] := by
  unfold negK
  rw [List.take_add_one, getD_some 0 h]; simp
theorem negK_len {l : List Int} {k : Nat} (h : k ≤ l.length) : (negK l k).length = k := by simp [negK]; omega

set_option maxRecDepth 100000 in
set_option maxHeartbeats 1000000 in
theorem goal_any (v : Value) (p : ProgD) (g : Int) (w : World) (hv : ProgV w v p) (hl : p.gain.length ≤ 60) (hc : coefOK p.gain = true) (h0 : -1000000000000 ≤ g) (h1 : g ≤ 1000000000000) :
    Calls Try.prog 62 #[v, .int .i64 g] w fun e w' => ∃ v', e = .returned v' ∧ RowV w' v' (goalS p.gain g) ∧ Below w.heap.size w w' := by
  obtain ⟨vr, vg, rfl, -, hvg⟩ := hv
  have HG := Lib.hid hvg
  have HC := Lib.hid hc
  obtain ⟨ga, gc, rfl, hg1, hg2⟩ := (show SlicesLen vg p.gain.length from hvg.len)
  unfold maxLen at hg2
  clear hvg hc
  go_enter Try.func62, Try.ntmps62
  go_wp2
  go_loopw [15] (fun u15 wr => ∃ (k : Nat) (vk : Value), k ≤ p.gain.length ∧ u15 = .int .i64 k ∧ wr.ownsRow (w.heap.size + 3) 3 1 vk (negK p.gain k).length ((negK p.gain k).map (Value.int .i64)) ∧
      Blk wr (w.heap.size + 2) #[.int .i64 0, .int .i64 0, .int .i64 0, .int .i64 0, vk, .int .i64 (-(g + 1))] 26 ∧ Blk wr (w.heap.size + 1) #[.int .i64 0, .int .i64 0, .int .i64 0, .int .i64 0, .slice none 0 0, .int .i64 0] 26 ∧ Below w.heap.size w wr ∧ w.heap.size + 3 ≤ wr.heap.size)
    (fun u15 _ => (p.gain.length - intOf u15).toNat)
  case atStart => exact ⟨0, _, by omega, rfl, World.ownsRow_nil _ _ _ _, Blk.newAt _ _ _ (by simp), (Blk.newAt _ _ _ (by simp)).alloc _, (((Below.refl _ _).alloc (Nat.le_refl _) _).alloc (by simp) _).alloc (by simp; omega) _, by simp⟩
  case round =>
    obtain ⟨k, vk, hk, rfl, hown, hb2, hb1, hB, hsz⟩ := hrel
    by_cases hkl : k < p.gain.length
    · have hsome := Lib.hid (getD_some 0 hkl)
      have hbd := coefOK_get HC.out k
      have HN := Lib.hid (negK_succ hkl)
      have hnl := negK_len (l := p.gain) hk
      obtain ⟨b, off, rfl, hcell⟩ := (HG.out.below hB).get hsome.out
      have k4 := hb2.cell 4
      have f4 := hb2.frozen 4
      simp only [List.getElem?_toArray, List.getElem?_cons_succ, List.getElem?_cons_zero] at k4
      generalize p.gain.getD k 0 = x at hcell hsome hbd HN
      go_wp2_with (at_builtin; refine wpList_push E24 rfl _ _ rfl (w.heap.size + 3) hown rfl rfl rfl (by unfold maxLen; omega) (by omega) hsz ?_; intro v' w3 hown' hgrow hbw; have f4' := (hb2.below hbw (by omega)).frozen 4; have k4' := (hb2.below hbw (by omega)).cell 4; simp only [List.getElem?_toArray, List.getElem?_cons_succ, List.getElem?_cons_zero] at k4'; obtain ⟨va, vcap, rfl, hva, hvc⟩ := owned_len hown')
      go_roundw
      case rel =>
        refine ⟨k + 1, _, by omega, by go_num, ?_, ((hb2.below hbw (by omega)).set 4 _), (hb1.below hbw (by omega)).other _ (by simp), (hB.trans (hbw.mono (by omega))).setCell (p := ⟨w.heap.size + 2, 4, none⟩) (by simp) _, by simp; have := hbw.size; omega⟩
        rw [HN.out]
        exact ownsRow_setCell_below (by simpa [hnl] using hown') (by simp) _
      case measure => simp [intOf]; omega
    · obtain rfl : k = p.gain.length := by omega
      have e : negK p.gain p.gain.length = (goalS p.gain g).coef := by unfold negK goalS; rw [List.take_length]
      rw [e] at hown
      obtain ⟨va, vcap, rfl, hva, hvc⟩ := owned_len hown
      have j0 := hb2.cell 0
      have j1 := hb2.cell 1
      have j2 := hb2.cell 2
      have j3 := hb2.cell 3
      have j4 := hb2.cell 4
      have j5 := hb2.cell 5
      have i0 := hb1.cell 0
      have i1 := hb1.cell 1
      have i2 := hb1.cell 2
      have i3 := hb1.cell 3
      have i4 := hb1.cell 4
      have i5 := hb1.cell 5
      have f0 := hb1.frozen 0
      have f1 := hb1.frozen 1
      have f2 := hb1.frozen 2
      have f3 := hb1.frozen 3
      have f4 := hb1.frozen 4
      have f5 := hb1.frozen 5
      simp only [List.getElem?_toArray, List.getElem?_cons_succ, List.getElem?_cons_zero] at j0 j1 j2 j3 j4 j5 i0 i1 i2 i3 i4 i5
      clear e hb1
      have hB2 : ∀ (i : Nat) (u : Value) (W : World), Below w.heap.size w W → Below w.heap.size w (W.setCell ⟨w.heap.size + 1, i, none⟩ u) := fun i u W h => h.setCell (p := ⟨w.heap.size + 1, i, none⟩) (by simp) u
      have hO2 : ∀ (i : Nat) (u : Value) (W : World), W.ownsRow (w.heap.size + 3) 3 1 (.slice va (goalS p.gain g).coef.length vcap) (goalS p.gain g).coef.length ((goalS p.gain g).coef.map (Value.int .i64)) →
          (W.setCell ⟨w.heap.size + 1, i, none⟩ u).ownsRow (w.heap.size + 3) 3 1 (.slice va (goalS p.gain g).coef.length vcap) (goalS p.gain g).coef.length ((goalS p.gain g).coef.map (Value.int .i64)) := fun i u W h => ownsRow_setCell_below h (by simp) _
      go_wp2
      refine bodyPost_ret (v := .agg #[.int .i64 0, .int .i64 0, .int .i64 0, .int .i64 0, .slice va (goalS p.gain g).coef.length vcap, .int .i64 (-(g + 1))]) (by simp [results, Try.results62, go_sem, i0, i1, i2, i3, i4, i5]) rfl ?_
      exact ⟨_, rfl, ⟨_, rfl, owned_slice (hO2 _ _ _ (hO2 _ _ _ (hO2 _ _ _ (hO2 _ _ _ (hO2 _ _ _ (hO2 _ _ _ hown))))))⟩, hB2 _ _ _ (hB2 _ _ _ (hB2 _ _ _ (hB2 _ _ _ (hB2 _ _ _ (hB2 _ _ _ hB)))))⟩
end Go.Proofs.Ytblmpmapcdpaiaa
end
section
/- program.least. -/
namespace Go.Proofs.Ytblmpmapcdpaiaa
open Go.RowKit Lib

theorem sub_lo {w : World} {a : Option Addr} {cap : Nat} {l : List Int} (h : IntsAt w (.slice a l.length cap) l) {d : Nat} (hd : d ≤ l.length) : IntsAt w (.slice a d cap) (l.take d) := by
  obtain ⟨a', c, e, h1, h2, h3⟩ := h
  cases e
  refine ⟨_, _, by rw [List.length_take, Nat.min_eq_left hd], by rw [List.length_take]; omega, h2, fun hl => ?_⟩
  obtain ⟨b, off, rfl, h4⟩ := h3 (by rw [List.length_take] at hl; omega)
  refine ⟨b, off, rfl, fun j y hj => h4 j y ?_⟩
  rw [List.getElem?_take] at hj
  split at hj
  · exact hj
  · cases hj

theorem addr_add (b off d : Nat) : (⟨b, off, none⟩ : Addr).add d = ⟨b, off + d, none⟩ := by
  unfold Addr.add; split <;> simp_all
theorem sub_hi {w : World} {p : Addr} {cap : Nat} {l : List Int} (h : IntsAt w (.slice (some p) l.length cap) l) {d : Nat} (hd : d ≤ l.length) : IntsAt w (.slice (some (p.add d)) (l.length - d) (cap - d)) (l.drop d) := by
  obtain ⟨a', c, e, h1, h2, h3⟩ := h
  cases e
  refine ⟨_, _, by rw [List.length_drop], by rw [List.length_drop]; omega, by omega, fun hl => ?_⟩
  obtain ⟨b, off, e, h4⟩ := h3 (by rw [List.length_drop] at hl; omega)
  cases e
  refine ⟨b, off + d, by rw [addr_add], fun j y hj => ?_⟩
  rw [List.getElem?_drop] at hj
  have := h4 _ y hj
  rw [← Nat.add_assoc] at this
  exact this
theorem sub_end {w : World} {a : Option Addr} {l : List Int} : IntsAt w (.slice a (l.length - l.length) 0) (l.drop l.length) :=
  ⟨a, 0, by simp, by simp, by unfold maxLen; omega, fun h => by simp at h⟩
theorem chK_take {l : List Int} {d : Nat} (set : Nat) (hd : d ≤ l.length) : ch (l.take d) set = lsK l d set d := by
  rw [lsK_lo _ _ _ _ (Nat.le_refl _)]
  unfold ch
  rw [List.length_take, Nat.min_eq_left hd]
  refine chK_congr _ fun i hi => ⟨?_, rfl⟩
  rw [List.getD_eq_getElem?_getD, List.getD_eq_getElem?_getD, List.getElem?_take, if_pos hi]

set_option maxRecDepth 100000 in
set_option maxHeartbeats 1000000 in
theorem least_any (v : Value) (r : RowD) (d set : Nat) (w : World) (hv : RowV w v r) (hl : r.coef.length ≤ 60) (hc : coefOK r.coef = true) (hd : d ≤ r.coef.length) (hs : set < 4611686018427387904) :
    Calls Try.prog 92 #[v, .int .i64 d, .int .i64 set] w fun e w' => e = .returned (.int .i64 (ls r.coef d set)) ∧ Below w.heap.size w w' := by
  obtain ⟨vc, rfl, hvc⟩ := hv
  have HV := Lib.hid hvc
  obtain ⟨a, cap, rfl, hle, hcm⟩ := (show SlicesLen vc _ from hvc.len)
  unfold maxLen at hcm
  clear hvc
  cases a with
  | none =>
    have h0 : r.coef.length = 0 := by
      obtain ⟨a', c, e, h1, h2, h3⟩ := HV.out
      refine Classical.byContradiction fun hn => ?_
      obtain ⟨b, off, e2, -⟩ := h3 (by omega)
      cases e; cases e2
    obtain rfl : d = 0 := by omega
    have hB0 : Below w.heap.size w (w.alloc (.cells #[.int .i64 r.kind, .int .i64 r.a, .int .i64 r.b, .int .i64 r.at_, .slice none 0 cap, .int .i64 r.most] 26)) := (Below.refl _ _).alloc (Nat.le_refl _) _
    have e : ls r.coef 0 set = 0 := by unfold ls; rw [h0]; rfl
    rw [e]
    go_enter Try.func92, Try.ntmps92
    go_wp2_with fail
    refine (chosen_any _ [] set _ ⟨none, cap, rfl, Nat.zero_le _, by unfold maxLen; omega, fun h => absurd h (Nat.lt_irrefl _)⟩ (by simp) rfl hs).mono ?_
    rw [show ch [] set = 0 from rfl]
    rintro e w' ⟨rfl, rfl⟩
    go_wp2
    go_loop [7, 21] (fun u7 u21 => u21 = .int .i64 0 ∧ u7 = .int .i64 0) (fun _ u21 => 0)
    case atStart => exact ⟨rfl, rfl⟩
    case round =>
      obtain ⟨rfl, rfl⟩ := hrel
      go_wp2
      go_ret
      exact ⟨rfl, hB0⟩
  | some p =>
    go_enter Try.func92, Try.ntmps92
    go_wp2_with fail
    have hcc : coefOK (r.coef.take d) = true := List.all_eq_true.2 fun x hx => List.all_eq_true.1 hc x (List.mem_of_mem_take hx)
    have hB0 : Below w.heap.size w (w.alloc (.cells #[.int .i64 r.kind, .int .i64 r.a, .int .i64 r.b, .int .i64 r.at_, .slice (some p) r.coef.length cap, .int .i64 r.most] 26)) := (Below.refl _ _).alloc (Nat.le_refl _) _
    refine (chosen_any _ _ set _ (sub_lo (HV.out.below hB0) hd) (by rw [List.length_take]; omega) hcc hs).mono ?_
    rintro e w' ⟨rfl, rfl⟩
    rw [chK_take set hd]
    have HLB := Lib.hid (fun k => lsK_bd (l := r.coef) (M := 1000000000) (by decide) (coefOK_get hc) d set k)
    have HCB := Lib.hid (coefOK_get hc)
    have hTs : d < cap → IntsAt (w.alloc (.cells #[.int .i64 r.kind, .int .i64 r.a, .int .i64 r.b, .int .i64 r.at_, .slice (some p) r.coef.length cap, .int .i64 r.most] 26)) (.slice (some (p.add d)) (r.coef.length - d) (cap - d)) (r.coef.drop d) := fun _ => sub_hi (HV.out.below hB0) hd
    have hTe : d = cap → IntsAt (w.alloc (.cells #[.int .i64 r.kind, .int .i64 r.a, .int .i64 r.b, .int .i64 r.at_, .slice (some p) r.coef.length cap, .int .i64 r.most] 26)) (.slice (some p) (r.coef.length - d) 0) (r.coef.drop d) := fun h => by
      obtain rfl : d = r.coef.length := by omega
      exact sub_end
    have HT1 := Lib.hid hTs
    have HT2 := Lib.hid hTe
    clear hTs hTe hc hcc
    rcases Nat.lt_or_ge d cap with hdc | hdc
    · have HT := Lib.hid (HT1.out hdc)
      clear HT1 HT2
      have hdn : ¬ cap = d := by omega
      obtain ⟨q, hq⟩ : ∃ q, p.add d = q := ⟨_, rfl⟩
      rw [hq] at HT
      go_wp2
      go_loop [7, 21] (fun u7 u21 => ∃ k : Nat, k ≤ r.coef.length - d ∧ u21 = .int .i64 k ∧ u7 = .int .i64 (lsK r.coef d set (d + k))) (fun _ u21 => (r.coef.length - d - intOf u21).toNat)
      case atStart => exact ⟨0, by omega, rfl, rfl⟩
      case round =>
        obtain ⟨k, hk, rfl, rfl⟩ := hrel
        have hb1 := HLB.out (d + k)
        have hb2 := HCB.out (d + k)
        by_cases hkl : k < r.coef.length - d
        · have hsome := getD_some 0 (show d + k < r.coef.length by omega)
          have hls : lsK r.coef d set (d + (k + 1)) = lsK r.coef d set (d + k) + min 0 (r.coef.getD (d + k) 0) := by
            rw [← Nat.add_assoc]; simp only [lsK]; rw [if_neg (by omega)]
          have HLS := Lib.hid hls
          clear hls
          obtain ⟨b, off, eq, hcell⟩ := HT.out.get (k := k) (by rw [List.getElem?_drop]; exact hsome)
          cases eq
          generalize r.coef.getD (d + k) 0 = x at hcell hb2 HLS
          generalize lsK r.coef d set (d + k) = y at hb1 HLS
          clear hsome
          go_wp2
          exact ⟨⟨k + 1, by omega, by go_num, intEq (by rw [HLS.out]; split <;> omega)⟩, by simp [intOf]; omega⟩
        · obtain rfl : k = r.coef.length - d := by omega
          have e : lsK r.coef d set (d + (r.coef.length - d)) = ls r.coef d set := by unfold ls; congr 1; omega
          rw [e]
          go_wp2
          go_ret
          exact ⟨rfl, hB0⟩
    · have hdc : cap = d := by omega
      subst hdc
      have hz : r.coef.length - cap = 0 := by omega
      clear HT1 HT2
      go_wp2
      all_goals go_loop [7, 21] (fun u7 u21 => u21 = .int .i64 0 ∧ u7 = .int .i64 (lsK r.coef cap set cap)) (fun _ u21 => 0)
      case atStart => exact ⟨rfl, rfl⟩
      case round =>
        obtain ⟨rfl, rfl⟩ := hrel
        have e : lsK r.coef cap set cap = ls r.coef cap set := by unfold ls; congr 1; omega
        rw [e]
        go_wp2
        go_ret
        exact ⟨rfl, hB0⟩
end Go.Proofs.Ytblmpmapcdpaiaa
end
section
/- program.proof: the search for a row whose least sum is too great. -/
namespace Go.Proofs.Ytblmpmapcdpaiaa
open Go.RowKit Lib

def tooB (d set : Nat) (r : RowD) : Bool := decide (r.most < ls r.coef d set)
set_option maxRecDepth 100000 in
set_option maxHeartbeats 1000000 in
theorem proof11 (v : Value) (r : RowD) (d set : Nat) (p1 p2 : Addr) (w : World) (hp1 : w.cell? p1 = some (.int .i64 d)) (hp2 : w.cell? p2 = some (.int .i64 set)) (hv : RowV w v r)
    (hl : r.coef.length ≤ 60) (hc : coefOK r.coef = true) (hd : d ≤ r.coef.length) (hs : set < 4611686018427387904) :
    Calls Try.prog 91 #[v, .pointer (some p1), .pointer (some p2)] w fun e w' => e = .returned (.bool (tooB d set r)) ∧ Below w.heap.size w w' := by
  have hl1 := World.block_lt_of_cell? _ _ hp1
  have hl2 := World.block_lt_of_cell? _ _ hp2
  unfold tooB
  obtain ⟨vc, rfl, hvc⟩ := hv
  have hB0 : Below w.heap.size w (w.alloc (.cells #[.int .i64 r.kind, .int .i64 r.a, .int .i64 r.b, .int .i64 r.at_, vc, .int .i64 r.most] 26)) := (Below.refl _ _).alloc (Nat.le_refl _) _
  have hx : Hid (∀ W, Below w.heap.size w W → Calls Try.prog 92 #[.agg #[.int .i64 r.kind, .int .i64 r.a, .int .i64 r.b, .int .i64 r.at_, vc, .int .i64 r.most], .int .i64 d, .int .i64 set] W fun e w' => e = .returned (.int .i64 (ls r.coef d set)) ∧ Below W.heap.size W w') :=
    fun W hW => least_any _ r d set W ⟨vc, rfl, hvc.below hW⟩ hl hc hd hs
  generalize ls r.coef d set = y at hx ⊢
  have hBlk : Blk (w.alloc (.cells #[.int .i64 r.kind, .int .i64 r.a, .int .i64 r.b, .int .i64 r.at_, vc, .int .i64 r.most] 26)) w.heap.size #[.int .i64 r.kind, .int .i64 r.a, .int .i64 r.b, .int .i64 r.at_, vc, .int .i64 r.most] 26 := Blk.new _ _ _
  have HB := Lib.hid hBlk
  clear hvc hBlk
  go_enter Try.func91, Try.ntmps91
  go_wp2_with fail
  go_region_held3 (fun w' => w'.cell? p1 = some (.int .i64 d) ∧ w'.cell? p2 = some (.int .i64 set) ∧ w'.cell? ⟨w.heap.size, 0, none⟩ = some (.int .i64 r.kind) ∧ w'.cell? ⟨w.heap.size, 1, none⟩ = some (.int .i64 r.a) ∧ w'.cell? ⟨w.heap.size, 2, none⟩ = some (.int .i64 r.b) ∧ w'.cell? ⟨w.heap.size, 3, none⟩ = some (.int .i64 r.at_) ∧ w'.cell? ⟨w.heap.size, 4, none⟩ = some (vc) ∧ w'.cell? ⟨w.heap.size, 5, none⟩ = some (.int .i64 r.most))
    (first | go_keep | exact ⟨(hB5.cell (by simp; omega)).trans ((hB0.drew.cell hl1).trans hp1), (hB5.cell (by simp; omega)).trans ((hB0.drew.cell hl2).trans hp2), (hB5.cell (by simp)).trans (by simp), (hB5.cell (by simp)).trans (by simp), (hB5.cell (by simp)).trans (by simp), (hB5.cell (by simp)).trans (by simp), (hB5.cell (by simp)).trans (by simp), (hB5.cell (by simp)).trans (by simp)⟩)
    ((go_at_call 92; refine (hx.out _ (by exact hB0.drew)).mono ?_; rintro e w4 ⟨rfl, hB5⟩))
  go_wp2
  go_ret
  exact ⟨rfl, hB0.drew.trans (hB5.mono hB0.size)⟩
theorem proof11_ans (w : World) (l : List RowD) (d set : Nat) (p1 p2 : Addr) (hp1 : w.cell? p1 = some (.int .i64 d)) (hp2 : w.cell? p2 = some (.int .i64 set)) (h : ∀ r ∈ l, r.coef.length ≤ 60 ∧ coefOK r.coef = true ∧ d ≤ r.coef.length) (hs : set < 4611686018427387904) :
    AnsR w (.func (.func 91) #[] #[.pointer (some p1), .pointer (some p2)]) l (tooB d set) :=
  ⟨91, _, rfl, Try.call91, fun _ r hr V hV v hv => proof11 v r d set p1 p2 V ((hV.cell (World.block_lt_of_cell? _ _ hp1)).trans hp1) ((hV.cell (World.block_lt_of_cell? _ _ hp2)).trans hp2) hv
    (h r (List.mem_of_getElem? hr)).1 (h r (List.mem_of_getElem? hr)).2.1 (h r (List.mem_of_getElem? hr)).2.2 hs⟩
theorem badAt_idx (rows : List RowD) (d set : Nat) : idxI (tooB d set) rows = match badAt rows d set with | some i => (i : Int) | none => -1 := rfl
end Go.Proofs.Ytblmpmapcdpaiaa
end
