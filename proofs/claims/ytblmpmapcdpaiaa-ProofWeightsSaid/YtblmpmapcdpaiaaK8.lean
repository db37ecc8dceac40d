/- The library's contracts of slices.Sorted, maps.Keys and slices.Sort at []int, laid at this dump (written by the shelf's own tool); with them package proof's Rows. -/
import Derived.Shelf.SlIterI.Nil
import Derived.Shelf.SortM.Plain
import Derived.Shelf.SortM.SortNone
import Derived.Test.YtblmpmapcdpaiaaK9
namespace Go.Proofs.Ytblmpmapcdpaiaa
open Go.Shelf
def Ky.keysA_ren : Go.Shelf.Ren := ⟨fun | 7 => 84 | 10 => 107 | n => n, fun | 23 => 107 | 26 => 3 | 3 => 4 | 28 => 92 | 0 => 0 | 27 => 91 | 33 => 114 | 4 => 4 | n => n, fun | n => n⟩
theorem Ky.keysA : Go.Proofs.SlLaysZI.n7 Try.prog Ky.keysA_ren := {
  mixed := by kernel_rfl
  f7 := ⟨Try.f84.name, by decide, Try.func84.trans (congrArg some (by kernel_rfl))⟩
  f10 := ⟨Try.f107.name, by decide, Try.func107.trans (congrArg some (by kernel_rfl))⟩
  t0 := Try.underlying0
  a0 := Try.isAgg0
  z0 := Try.sizeOf0
  v0 := Try.zeroValue0
  t4 := Try.underlying4
  a4 := Try.isAgg4
  z4 := Try.sizeOf4
  v4 := Try.zeroValue4
  t23 := Try.underlying107
  a23 := Try.isAgg107
  z23 := Try.sizeOf107
  v23 := Try.zeroValue107
  t26 := Try.underlying3
  a26 := Try.isAgg3
  z26 := Try.sizeOf3
  v26 := Try.zeroValue3
  t27 := Try.underlying91
  a27 := Try.isAgg91
  z27 := Try.sizeOf91
  v27 := Try.zeroValue91
  t28 := Try.underlying92
  a28 := Try.isAgg92
  z28 := Try.sizeOf92
  v28 := Try.zeroValue92
  t33 := Try.underlying114
  a33 := Try.isAgg114
  z33 := Try.sizeOf114
  v33 := Try.zeroValue114 }
def Ky.sortedA_ren : Go.Shelf.Ren := ⟨fun | 6 => 83 | 8 => 66 | 9 => 106 | 11 => 94 | 13 => 115 | 12 => 114 | 23 => 126 | 24 => 127 | 14 => 118 | 15 => 119 | 16 => 120 | 17 => 121 | 18 => 122 | 19 => 123 | 20 => 99 | 21 => 124 | 22 => 125 | 25 => 128 | 26 => 129 | 27 => 130 | 28 => 131 | 29 => 132 | 30 => 110 | 31 => 133 | n => n, fun | 26 => 3 | 28 => 92 | 24 => 24 | 0 => 0 | 3 => 3 | 37 => 119 | 48 => 145 | 50 => 147 | 4 => 4 | 40 => 139 | 39 => 138 | 45 => 104 | 5 => 5 | 9 => 9 | 51 => 148 | 55 => 152 | 57 => 154 | 58 => 71 | 33 => 114 | n => n, fun | n => n⟩
theorem Ky.sortedA : Go.Proofs.SlLaysZI.n6 Try.prog Ky.sortedA_ren := {
  mixed := by kernel_rfl
  f6 := ⟨Try.f83.name, by decide, Try.func83.trans (congrArg some (by kernel_rfl))⟩
  f8 := ⟨Try.f66.name, by decide, Try.func66.trans (congrArg some (by kernel_rfl))⟩
  f11 := ⟨Try.f94.name, by decide, Try.func94.trans (congrArg some (by kernel_rfl))⟩
  t0 := Try.underlying0
  a0 := Try.isAgg0
  z0 := Try.sizeOf0
  v0 := Try.zeroValue0
  t24 := Try.underlying24
  a24 := Try.isAgg24
  z24 := Try.sizeOf24
  v24 := Try.zeroValue24
  t26 := Try.underlying3
  a26 := Try.isAgg3
  z26 := Try.sizeOf3
  v26 := Try.zeroValue3
  t28 := Try.underlying92
  a28 := Try.isAgg92
  z28 := Try.sizeOf92
  v28 := Try.zeroValue92
  i26 := by kernel_rfl }
def Ky.sortA_ren : Go.Shelf.Ren := ⟨fun | 5 => 106 | 8 => 115 | 7 => 114 | 19 => 126 | 20 => 127 | 10 => 118 | 11 => 119 | 12 => 120 | 13 => 121 | 14 => 122 | 15 => 123 | 16 => 99 | 17 => 124 | 18 => 125 | 30 => 128 | 31 => 129 | 32 => 130 | 33 => 131 | 34 => 132 | 35 => 110 | 40 => 133 | n => n, fun | 23 => 24 | 25 => 3 | 3 => 3 | 32 => 119 | 22 => 24 | 0 => 0 | 44 => 145 | 46 => 147 | 4 => 4 | 36 => 139 | 35 => 138 | 41 => 104 | 5 => 5 | 9 => 9 | 53 => 148 | 57 => 152 | 63 => 154 | 64 => 71 | n => n, fun | n => n⟩
theorem Ky.sortA : Go.Proofs.SlLaysM.n5 Try.prog Ky.sortA_ren := {
  mixed := by kernel_rfl
  f5 := ⟨Try.f106.name, by decide, Try.func106.trans (congrArg some (by kernel_rfl))⟩
  f7 := ⟨Try.f114.name, by decide, Try.func114.trans (congrArg some (by kernel_rfl))⟩
  f8 := Try.func115.trans (congrArg some (by kernel_rfl))
  f10 := ⟨Try.f118.name, by decide, Try.func118.trans (congrArg some (by kernel_rfl))⟩
  f11 := ⟨Try.f119.name, by decide, Try.func119.trans (congrArg some (by kernel_rfl))⟩
  f12 := ⟨Try.f120.name, by decide, Try.func120.trans (congrArg some (by kernel_rfl))⟩
  f13 := ⟨Try.f121.name, by decide, Try.func121.trans (congrArg some (by kernel_rfl))⟩
  f14 := ⟨Try.f122.name, by decide, Try.func122.trans (congrArg some (by kernel_rfl))⟩
  f15 := ⟨Try.f123.name, by decide, Try.func123.trans (congrArg some (by kernel_rfl))⟩
  f16 := ⟨Try.f99.name, by decide, Try.func99.trans (congrArg some (by kernel_rfl))⟩
  f17 := ⟨Try.f124.name, by decide, Try.func124.trans (congrArg some (by kernel_rfl))⟩
  f18 := ⟨Try.f125.name, by decide, Try.func125.trans (congrArg some (by kernel_rfl))⟩
  f19 := Try.func126.trans (congrArg some (by kernel_rfl))
  f20 := Try.func127.trans (congrArg some (by kernel_rfl))
  f30 := ⟨Try.f128.name, by decide, Try.func128.trans (congrArg some (by kernel_rfl))⟩
  f31 := Try.func129.trans (congrArg some (by kernel_rfl))
  f32 := Try.func130.trans (congrArg some (by kernel_rfl))
  f33 := ⟨Try.f131.name, by decide, Try.func131.trans (congrArg some (by kernel_rfl))⟩
  f34 := ⟨Try.f132.name, by decide, Try.func132.trans (congrArg some (by kernel_rfl))⟩
  f35 := ⟨Try.f110.name, by decide, Try.func110.trans (congrArg some (by kernel_rfl))⟩
  f40 := ⟨Try.f133.name, by decide, Try.func133.trans (congrArg some (by kernel_rfl))⟩
  t0 := Try.underlying0
  a0 := Try.isAgg0
  z0 := Try.sizeOf0
  v0 := Try.zeroValue0
  t3 := Try.underlying3
  a3 := Try.isAgg3
  z3 := Try.sizeOf3
  v3 := Try.zeroValue3
  t4 := Try.underlying4
  a4 := Try.isAgg4
  z4 := Try.sizeOf4
  v4 := Try.zeroValue4
  t5 := Try.underlying5
  a5 := Try.isAgg5
  z5 := Try.sizeOf5
  v5 := Try.zeroValue5
  t9 := Try.underlying9
  a9 := Try.isAgg9
  z9 := Try.sizeOf9
  v9 := Try.zeroValue9
  t22 := Try.underlying24
  a22 := Try.isAgg24
  z22 := Try.sizeOf24
  v22 := Try.zeroValue24
  t23 := Try.underlying24
  a23 := Try.isAgg24
  z23 := Try.sizeOf24
  v23 := Try.zeroValue24
  t25 := Try.underlying3
  a25 := Try.isAgg3
  z25 := Try.sizeOf3
  v25 := Try.zeroValue3
  t32 := Try.underlying119
  a32 := Try.isAgg119
  z32 := Try.sizeOf119
  v32 := Try.zeroValue119
  t35 := Try.underlying138
  a35 := Try.isAgg138
  z35 := Try.sizeOf138
  v35 := Try.zeroValue138
  t36 := Try.underlying139
  a36 := Try.isAgg139
  z36 := Try.sizeOf139
  v36 := Try.zeroValue139
  t41 := Try.underlying104
  a41 := Try.isAgg104
  z41 := Try.sizeOf104
  v41 := Try.zeroValue104
  t44 := Try.underlying145
  a44 := Try.isAgg145
  z44 := Try.sizeOf145
  v44 := Try.zeroValue145
  t46 := Try.underlying147
  a46 := Try.isAgg147
  z46 := Try.sizeOf147
  v46 := Try.zeroValue147
  t53 := Try.underlying148
  a53 := Try.isAgg148
  z53 := Try.sizeOf148
  v53 := Try.zeroValue148
  t57 := Try.underlying152
  a57 := Try.isAgg152
  z57 := Try.sizeOf152
  v57 := Try.zeroValue152
  t63 := Try.underlying154
  a63 := Try.isAgg154
  z63 := Try.sizeOf154
  v63 := Try.zeroValue154
  t64 := Try.underlying71
  a64 := Try.isAgg71
  z64 := Try.sizeOf71
  v64 := Try.zeroValue71 }

open Go.RowKit Go.Maps Go.Sort
/-- slices.Sort's two contracts at this dump, at the fence that asks nothing. -/
theorem Ky.sortsA (m : Nat) : AnyZI.SortsIn Try.prog Ky.sortedA_ren Fence.wide m :=
  ⟨fun blk off cap ss W hH hblk hsz => callsIn_wide.2 (AnyM.slices_Sort_int Ky.sortA blk off cap ss W hH hblk hsz),
   fun p cap W => callsIn_wide.2 (AnyM.slices_Sort_int_none Ky.sortA p cap W)⟩
/-- maps.Keys. -/
theorem keys84 (mb : Option Nat) (W : World) : Calls Try.prog 84 #[.map mb] W fun e w' => e = .returned (.func (.func 107) #[] #[.pointer (some ⟨W.heap.size, 0, none⟩)]) ∧ w' = W.alloc (.cells #[.map mb] 107) :=
  (callsIn_wide (n := 5)).1 (AnyZI.keys_in Ky.keysA Fence.wide 5 trivial rfl mb W)
/-- slices.Sorted of the keys of the used rows: the marked numbers, in order. -/
theorem sorted83 (M R : Nat) (b : Nat → Bool) (w : World) (hu : UsedAt w M R b) (hR : R ≤ 1000) :
    Calls Try.prog 83 #[.func (.func 107) #[] #[.pointer (some ⟨w.heap.size, 0, none⟩)]] (w.alloc (.cells #[.map (some M)] 107)) fun e w' =>
      ∃ v, e = .returned v ∧ IntsAt w' v (((List.range R).filter b).map fun i : Nat => (i : Int)) ∧ Below w.heap.size w w' := by
  have hbl := hu.lt
  have hsz : Maps.size (usedD b R) ≤ 1000 := by
    unfold usedD Maps.size
    simp only [List.length_map]
    have := List.length_filter_le b (List.range R)
    rw [List.length_range] at this
    omega
  have hseq : SeqGives Fence.wide 2 Try.prog 107 #[.pointer (some ⟨w.heap.size, 0, none⟩)] encZ (fun ss => ss.Perm (intKeys (usedD b R))) (Maps.size (usedD b R)) (w.alloc (.cells #[.map (some M)] 107)) :=
    AnyZI.keys_gives (ρ := Ky.keysA_ren) { Ky.keysA with } Fence.wide _ trivial rfl (by omega) w.heap.size M R (usedD b R) _ (by simp) (by simp) (by
      obtain ⟨es, clock, hb, Ft, hs, hD⟩ := hu
      exact ⟨es, clock, (Below.heap_alloc _ _ M hbl).trans hb, Ft, hs, hD⟩)
  have cS := AnyZI.sorted_in Ky.sortedA Fence.wide 5 trivial trivial trivial trivial rfl (by omega) (Ky.sortsA _) (enters_of Try.func106 (by kernel_rfl) rfl) 107 #[.pointer (some ⟨w.heap.size, 0, none⟩)] trivial (enters_of Try.func107 (by kernel_rfl) rfl) _ _ (by unfold maxLen; omega) (by omega) _ hseq
  change CallsIn _ _ Try.prog 83 _ _ _ at cS
  refine ((callsIn_wide (n := 5)).1 cS).mono ?_
  rintro e w' ⟨v, ss, rfl, hS, hrow, -, hb⟩
  refine ⟨v, rfl, ?_, ((Below.refl _ w).alloc (Nat.le_refl _) _).trans (hb.mono (by simp))⟩
  rw [used_keys] at hS
  have hp : (ss.mergeSort (fun x y => decide (x ≤ y))).Perm (((List.range R).filter b).map fun i : Nat => (i : Int)) := (List.mergeSort_perm _ _).trans hS
  have he := hp.eq_of_pairwise (le := fun x y : Int => x ≤ y) (fun a b _ _ h1 h2 => Int.le_antisymm h1 h2) ((List.pairwise_mergeSort (fun a b c h1 h2 => by simp at *; omega) (fun a b => by simp; omega) ss).imp (fun h => by simpa using h)) ?_
  · rw [he] at hrow
    have hl : ss.length = (((List.range R).filter b).map fun i : Nat => (i : Int)).length := hS.length_eq
    rw [hl] at hrow
    exact owned_slice hrow
  · rw [List.pairwise_map]
    refine List.Pairwise.filter _ ?_
    exact (List.pairwise_lt_range (n := R)).imp (fun h => by omega)
/-- .. of a map that is nil: none. -/
theorem sorted83_nil (w : World) : Calls Try.prog 83 #[.func (.func 107) #[] #[.pointer (some ⟨w.heap.size, 0, none⟩)]] (w.alloc (.cells #[.map none] 107)) fun e w' => e = .returned (.slice none 0 0) ∧ Below w.heap.size w w' := by
  have hseq : SeqGives Fence.wide 2 Try.prog 107 #[.pointer (some ⟨w.heap.size, 0, none⟩)] encZ (fun ss : List Int => ss = []) 0 (w.alloc (.cells #[.map none] 107)) :=
    AnyZI.keys_gives_nil (ρ := Ky.keysA_ren) { Ky.keysA with } Fence.wide _ trivial rfl w.heap.size _ (by simp) (by simp)
  have cS := AnyZI.sorted_in Ky.sortedA Fence.wide 5 trivial trivial trivial trivial rfl (by omega) (Ky.sortsA _) (enters_of Try.func106 (by kernel_rfl) rfl) 107 #[.pointer (some ⟨w.heap.size, 0, none⟩)] trivial (enters_of Try.func107 (by kernel_rfl) rfl) _ 0 (Nat.zero_le _) (by omega) _ hseq
  change CallsIn _ _ Try.prog 83 _ _ _ at cS
  refine ((callsIn_wide (n := 5)).1 cS).mono ?_
  rintro e w' ⟨v, ss, rfl, rfl, hrow, hnil, hb⟩
  obtain rfl : v = .slice none 0 0 := hnil.2 rfl
  exact ⟨rfl, ((Below.refl _ w).alloc (Nat.le_refl _) _).trans (hb.mono (by simp))⟩
/-- The rows that a proof uses. -/
def rowsU (p : ProgD) (l : List StepD) : List Int := if wrongD p l = -1 then ((List.range p.rows.length).filter (usedV l l.length 0 fun _ => false)).map (fun i : Nat => (i : Int)) else []
set_option maxRecDepth 100000 in
theorem rows_any (v vl : Value) (p : ProgD) (l : List StepD) (w : World) (hv : ProgV w v p) (hl : StepsAt w vl l) (hrl : p.rows.length ≤ 1000) :
    Calls Try.prog 52 #[v, vl] w fun e w' => ∃ v', e = .returned v' ∧ IntsAt w' v' (rowsU p l) ∧ Below w.heap.size w w' := by
  obtain ⟨vr, vg, rfl, hvr, hvg⟩ := hv
  obtain ⟨ra, rc, rfl, -, -⟩ := (show SlicesLen vr p.rows.length from hvr.len)
  obtain ⟨ga, gc, rfl, -, -⟩ := (show SlicesLen vg p.gain.length from hvg.len)
  obtain ⟨la, lc, rfl, -, -⟩ := (show SlicesLen vl l.length from hl.len)
  have hB0 : Below w.heap.size w (w.alloc (.cells #[.int .i64 p.vars, .slice ra p.rows.length rc, .slice ga p.gain.length gc] 29)) := (Below.refl _ _).alloc (Nat.le_refl _) _
  have hx := check_any _ _ _ p p.rows l _ ⟨_, _, rfl, hvr.below hB0, hvg.below hB0⟩ (hvr.below hB0) (hl.below hB0) validB_rows
  have HU : Hid (rowsU p l = if checkV p p.rows l = -1 then ((List.range p.rows.length).filter (usedV l l.length 0 fun _ => false)).map (fun i : Nat => (i : Int)) else []) := rfl
  generalize checkV p p.rows l = c at hx HU
  generalize rowsU p l = res at HU ⊢
  clear hvr hvg hl
  go_enter Try.func52, Try.ntmps52
  go_wp2_with fail
  refine hx.mono ?_
  rintro e w1 ⟨u, rfl, (⟨hc, M, rfl, hu⟩ | ⟨hc, rfl⟩), hB⟩
  · have HC := Lib.hid hc
    clear hc
    go_wp2_with fail
    refine (keys84 _ _).mono ?_
    rintro e w2 ⟨rfl, rfl⟩
    go_wp2_with fail
    refine (sorted83 M _ _ w1 hu hrl).mono ?_
    rintro e w3 ⟨v', rfl, hi, hB3⟩
    go_wp2
    go_ret
    have hB1 := hB0.trans (hB.mono hB0.size)
    exact ⟨_, rfl, by rw [HU.out, if_pos HC.out]; exact hi, hB1.trans (hB3.mono hB1.size)⟩
  · have HC := Lib.hid hc
    clear hc
    go_wp2_with fail
    refine (keys84 _ _).mono ?_
    rintro e w2 ⟨rfl, rfl⟩
    go_wp2_with fail
    refine (sorted83_nil w1).mono ?_
    rintro e w3 ⟨rfl, hB3⟩
    go_wp2
    go_ret
    have hB1 := hB0.trans (hB.mono hB0.size)
    exact ⟨_, rfl, by rw [HU.out, if_neg HC.out]; exact ⟨none, 0, rfl, by simp, by unfold maxLen; omega, fun h => by simp at h⟩, hB1.trans (hB3.mono hB1.size)⟩
end Go.Proofs.Ytblmpmapcdpaiaa
