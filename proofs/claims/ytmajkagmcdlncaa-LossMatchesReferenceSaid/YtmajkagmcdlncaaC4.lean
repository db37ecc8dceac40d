/- package loss: most: how many passes of a day. -/
import Derived.Test.YtmajkagmcdlncaaC3
import Derived.Maps.OwnOps
import Derived.Maps.OwnSet
import Derived.WalkArith
namespace Go.Proofs.Ytmajkagmcdlncaa
open Go.RowKit Go.Maps
open L18 (Pass Slot noPass noSlot mostV daysV dayP maxC)

/-- What a map of days holds. -/
def CntD (D : DataW Unit) (ds : List Int) : Prop := ∀ d : Int, D.atKey (.int .i64 d) (.lit (.int .i64 0)) = .lit (.int .i64 (ds.count d : Int))
theorem cnt_nil : CntD (.map []) [] := fun _ => rfl
theorem cnt_put {D : DataW Unit} {ds : List Int} {d c : Int} (h : CntD D ds) (hm : Maps.IsMap D) (hc : c = (ds.count d : Int) + 1) : CntD (D.put (.int .i64 d) (.lit (.int .i64 c))) (ds ++ [d]) := by
  intro x
  by_cases e : x = d
  · subst e
    rw [atKey_put_same hm (by simp [Go.WideAt.IsKeyLit]), hc, List.count_append, List.count_singleton_self]
    congr 2
  · rw [atKey_put_other (by intro hc; cases hc; exact e rfl), h x, List.count_append, List.count_singleton, if_neg (by simpa using fun h => e h.symm)]
    congr 2
abbrev DaysAt (W : World) (M n : Nat) (D : DataW Unit) : Prop := W.ownsMap Try.prog 3 (plainElem Try.prog 3) M n D
theorem zero3 (w : World) : (zeroValue 3).run Try.prog w = .ok (.int .i64 0) w := by kernel_rfl
theorem key3 (j : Int) (h : (Lit.int .i64 j).wf = true) : keyOf Try.prog 3 (.int .i64 j) = some (.int .i64 j) := keyOf_int_mk Try.underlying3 h
theorem days_snoc {ps : List Pass} {l : List Int} {k : Nat} {x : Int} (hk : k < l.length) (hx : l.getD k 0 = x) : daysV ps (l.take (k + 1)) = daysV ps (l.take k) ++ [dayP ps x] := by
  unfold daysV
  rw [List.take_add_one, getD_some 0 hk, hx, List.map_append]; rfl
/-- Proper passes begin within bounds. -/
def CanOK (ps : List Pass) : Prop := ∀ i, i < ps.length → 0 ≤ (ps.getD i noPass).cf ∧ (ps.getD i noPass).cf ≤ 1000001
theorem can_proper {ps : List Pass} (h : L18.properB ps = true) : CanOK ps := fun i hi => by
  unfold L18.properB at h
  simp only [Bool.and_eq_true, decide_eq_true_eq] at h
  have h2 : L18.passOK (ps.getD i noPass) := of_decide_eq_true (h.2.1 i hi)
  unfold L18.passOK at h2
  omega
def InI (n : Nat) (l : List Int) : Prop := ∀ x ∈ l, 0 ≤ x ∧ x < n
set_option maxRecDepth 100000 in
set_option maxHeartbeats 2000000 in
theorem most39 (vp v : Value) (ps : List Pass) (l : List Int) (w : World) (hp : PassesAt w vp ps) (hv : IntsAt w v l) (hc : CanOK ps) (hi : InI ps.length l) (hs : l.length ≤ 1000) :
    Calls Try.prog 39 #[vp, v] w fun e w' => e = .returned (.int .i64 (mostV ps l : Nat)) ∧ Below w.heap.size w w' := by
  have HV := Lib.hid hv
  have HP := Lib.hid hp
  have HC := Lib.hid hc
  have HI := Lib.hid hi
  obtain ⟨a, cap, rfl, hle, hcm⟩ := hv.len
  obtain ⟨pa, pc, rfl, ple, pcm⟩ := hp.len
  unfold maxLen at hcm pcm
  clear hv hp hc hi
  have hmm := @run_makeMap Try.prog
  go_enter Try.func39, Try.ntmps39
  go_wp2
  go_loopw [4, 7, 8, 12] (fun u4 _ _ u12 wr => ∃ k : Nat, k ≤ l.length ∧ u12 = .int .i64 k ∧ u4 = .int .i64 (maxC (daysV ps (l.take k)) : Nat) ∧ (∃ D, DaysAt wr w.heap.size k D ∧ CntD D (daysV ps (l.take k))) ∧ Below w.heap.size w wr) (fun _ _ _ u12 _ => (l.length - intOf u12).toNat)
  case atStart => exact ⟨0, by omega, rfl, rfl, ⟨_, World.ownsMap_made _ _ _ _, cnt_nil⟩, (Below.refl _ _).alloc (Nat.le_refl _) _⟩
  case round =>
    obtain ⟨k, hk, rfl, rfl, ⟨D, hD, hcn⟩, hBr⟩ := hrel
    have HCN := Lib.hid hcn
    clear hcn
    by_cases hkl : k < l.length
    · obtain ⟨b, off, rfl, c0⟩ := (HV.out.below hBr).get (getD_some 0 hkl)
      have hin := HI.out _ (L18.getD_mem 0 hkl)
      generalize hx : l.getD k 0 = x at c0 hin
      have HDS := Lib.hid (days_snoc (ps := ps) hkl hx)
      clear hx
      obtain ⟨n, rfl⟩ : ∃ n : Nat, x = n := ⟨x.toNat, by omega⟩
      have hnl : n < ps.length := by omega
      have hcf := HC.out n hnl
      obtain ⟨b', off', rfl, p0, p1, p2, p3, p4, p5⟩ := (PassesAt.later HP.out hBr).get (getD_some noPass hnl)
      have HDP := Lib.hid (show dayP ps (n : Int) = (ps.getD n noPass).cf.tdiv 1440 from rfl)
      generalize (ps.getD n noPass).cf = f at hcf p4 HDP
      clear p0 p1 p2 p3 p5 hin
      go_upto_region 6 with (fail)
      obtain ⟨d, hd⟩ : ∃ d, f / 1440 = d := ⟨_, rfl⟩
      have HD := Lib.hid (show dayP ps (n : Int) = d by rw [HDP.out, ← hd]; exact Int.tdiv_eq_ediv_of_nonneg hcf.1)
      have hdb : 0 ≤ d ∧ d ≤ 1000 := by omega
      rw [hd]
      clear hd HDP p4 hcf c0
      have hwd : (Lit.int .i64 d).wf = true := WalkArith.wf_i64 (by omega)
      obtain ⟨ds, hds⟩ : ∃ ds, daysV ps (l.take k) = ds := ⟨_, rfl⟩
      have hlen : ds.length = k := by rw [← hds]; unfold daysV; simp; omega
      rw [hds] at HCN HDS ⊢
      have hmc : maxC ds ≤ k := by rw [← hlen]; exact L18.maxC_len ds
      obtain ⟨m, hm⟩ : ∃ m, maxC ds = m := ⟨_, rfl⟩
      have HM := Lib.hid hm
      rw [hm] at hmc ⊢
      obtain ⟨c, hc⟩ : ∃ c, ds.count d = c := ⟨_, rfl⟩
      have hcl : c ≤ k := by rw [← hc, ← hlen]; exact List.count_le_length
      have HCC := Lib.hid hc
      have HDSE := Lib.hid hds
      have hwc : (Lit.int .i64 ((c : Int) + 1)).wf = true := WalkArith.wf_i64 (by omega)
      clear hm hc hds hlen
      go_upto_region 7 with (first
        | (at_lookup; refine wpList_lookup_own_int _ rfl _ _ 90 rfl 3 3 .i64 (int_keyed Try.underlying3) Try.underlying90 Try.underlying3 (zero3 _) w.heap.size _ _ rfl hD _ _ rfl (key3 _ hwd) ?_; intro c0 hat hwc0; obtain rfl : c0 = (c : Int) := (by have h2 := HCN.out d; rw [hat, HCC.out] at h2; cases h2; rfl); clear hat)
        | (at_mapUpdate; refine wpList_mapUpdate_own _ rfl _ _ _ 90 rfl 3 3 (int_keyed Try.underlying3) Try.underlying90 _ w.heap.size k _ rfl hD (by unfold maxLen; omega) _ _ _ rfl rfl (key3 _ hwd) _ [] (plainElem_int Try.underlying3 hwc) ?_; intro w1 hD1 hg1))
      have hC1 : CntD (D.put (.int .i64 d) (.lit (.int .i64 ((c : Int) + 1)))) (ds ++ [d]) := cnt_put HCN.out hD.isMap (by rw [HCC.out])
      have HC1 := Lib.hid hC1
      have HC9 := Lib.hid (show (ds ++ [d]).count d = c + 1 by rw [List.count_append, List.count_singleton_self, HCC.out])
      clear hC1
      obtain ⟨mx, hmx⟩ : ∃ x : Nat, max m (c + 1) = x := ⟨_, rfl⟩
      have hmx1 : (if (m : Int) < (c : Int) + 1 then (c : Int) + 1 else (m : Int)) = (mx : Int) := by rw [← hmx, Nat.max_def]; split <;> split <;> omega
      have hmx2 : max (m : Int) ((c : Int) + 1) = (mx : Int) := by rw [← hmx1, Int.max_def]; split <;> split <;> omega
      have HMX := Lib.hid (show maxC (ds ++ [d]) = mx by rw [L18.maxC_snoc, HM.out, HCC.out, hmx])
      clear hmx
      go_wp2_with (at_lookup; refine wpList_lookup_own_int _ rfl _ _ 90 rfl 3 3 .i64 (int_keyed Try.underlying3) Try.underlying90 Try.underlying3 (zero3 _) w.heap.size _ _ rfl hD1 _ _ rfl (key3 _ hwd) ?_; intro c0 hat hwc0; obtain rfl : c0 = (c : Int) + 1 := (by have h2 := HC1.out d; rw [hat, HC9.out] at h2; cases h2; omega); clear hat)
      go_roundw
      case rel => exact ⟨k + 1, by omega, by go_num, by rw [HDS.out, HD.out, HMX.out], ⟨_, hD1, by rw [HDS.out, HD.out]; exact HC1.out⟩, hBr.grown hg1 hBr.size (fun j hj => by cases hj; exact Nat.le_refl _)⟩
      case measure => simp [intOf]; omega
    · obtain rfl : k = l.length := by omega
      rw [List.take_length]
      go_wp2
      go_ret
      exact ⟨rfl, hBr⟩
end Go.Proofs.Ytmajkagmcdlncaa
