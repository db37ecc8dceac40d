/- nadirlaw33.step: a call on a disk and on the reference. -/
import Derived.Test.YtfmdpmcniccioaaDuo
import Derived.Deep.RegionHeld3
namespace Go.Proofs.Ytfmdpmcniccioaa
open Go.RowKit Go.Shelf Lib

structure StD where
  call : Int
  off : Int
  n : Int
  s : ByteArray
  keep : List Int
set_option maxRecDepth 100000 in
set_option maxHeartbeats 4000000 in
theorem step_any {W : World} {base n B R : Nat} {D : DiskD} (y : StD) (vk : Value) (hD : Duo W (fun k => base ≤ k) n B R D D) (hb : base ≤ W.heap.size) (hp : D.pend.length ≤ 1000) (hk : ∀ W', Below base W W' → IntsAt W' vk y.keep) (hc : InR y.call) (hn : InR y.n) :
    Calls Try.prog 19 #[.pointer (some ⟨B, 0, none⟩), .pointer (some ⟨R, 0, none⟩), .agg #[.int .i64 y.call, .int .i64 y.off, .int .i64 y.n, .string y.s, vk]] W fun e w' => e = .returned (.bool true) ∧ ∃ D', Duo w' (fun k => base ≤ k) n B R D' D' ∧ D'.pend.length ≤ D.pend.length + 1 ∧ Below base W w' := by
  have hpb := pickI_bd y.call (n := 6) (by decide)
  have hpk := Lib.hid (fun W => pick_any y.call 6 W hc (by decide) (by decide))
  obtain ⟨c, hcc⟩ := Int.eq_ofNat_of_zero_le hpb.1
  rw [hcc] at hpk hpb
  obtain ⟨ka, kc, rfl, hk1, hk2⟩ := (hk W (Below.refl _ _)).len
  unfold maxLen at hk2
  have HK := Lib.hid hk
  have hny := hn.2
  have hA : Below base W (W.alloc (.cells #[.int .i64 y.call, .int .i64 y.off, .int .i64 y.n, .string y.s, .slice ka y.keep.length kc] 39)) := (Below.refl _ _).alloc hb _
  have kA := Blk.new W #[.int .i64 y.call, .int .i64 y.off, .int .i64 y.n, .string y.s, .slice ka y.keep.length kc] 39
  have hD5 : Duo (W.alloc (.cells #[.int .i64 y.call, .int .i64 y.off, .int .i64 y.n, .string y.s, .slice ka y.keep.length kc] 39)) (Bes base W.heap.size) n B R D D := ((hD.below ((Below.refl _ _).alloc (Nat.le_refl _) _)).away kA).mono (fun i _ h => h)
  have hs5 : (W.alloc (.cells #[.int .i64 y.call, .int .i64 y.off, .int .i64 y.n, .string y.s, .slice ka y.keep.length kc] 39)).heap.size = W.heap.size + 1 := by simp
  have hbes : ∀ X : World, W.heap.size + 1 ≤ X.heap.size → ∀ i, X.heap.size ≤ i → Bes base W.heap.size i := fun X hX i hi => ⟨by omega, by omega⟩
  have HBES := Lib.hid hbes
  have hpM : D.pend.length ≤ 1000000 := by omega
  clear hc hn hk hD hbes hcc
  obtain ⟨ycall, yoff, yn, ys, ykeep⟩ := y
  simp only at *
  have a0 := kA.cell 0
  simp only [List.getElem?_toArray, List.getElem?_cons_succ, List.getElem?_cons_zero] at a0
  go_enter Try.func19, Try.ntmps19
  go_wp2_with fail
  refine (hpk.out _).mono ?_
  rintro e wq ⟨rfl, rfl⟩
  have hcs : c = 0 ∨ c = 1 ∨ c = 2 ∨ c = 3 ∨ c = 4 ∨ c = 5 := by omega
  clear hpk hpb
  have kA' := kA
  generalize hW5 : W.alloc (.cells #[.int .i64 ycall, .int .i64 yoff, .int .i64 yn, .string ys, .slice ka ykeep.length kc] 39) = W5 at *
  have a1 := kA'.cell 1
  have a2 := kA'.cell 2
  have a3 := kA'.cell 3
  have a4 := kA'.cell 4
  simp only [List.getElem?_toArray, List.getElem?_cons_succ, List.getElem?_cons_zero] at a1 a2 a3 a4
  clear hW5
  have hz0 : W.heap.size + 1 ≤ W5.heap.size := Nat.le_of_eq hs5.symm
  have hbA : base ≤ W5.heap.size := Nat.le_trans hb hA.size
  rcases hcs with rfl | rfl | rfl | rfl | rfl | rfl
  · have hcut := Lib.hid (fun X => cut22 ys 300 X)
    have HW := Lib.hid (fun X (h : Duo X (Bes base W.heap.size) n B R D D) (hz : W.heap.size + 1 ≤ X.heap.size) => Duo.write_d h (HBES.out X hz) hpM yoff (cutS ys (min ys.size 300)))
    have HV := Lib.hid (fun X (h : Duo X (Bes base W.heap.size) n B R (writeD D yoff (cutS ys (min ys.size 300))) D) (hz : W.heap.size + 1 ≤ X.heap.size) => Duo.write_r h (HBES.out X hz) hpM yoff (cutS ys (min ys.size 300)))
    have hpl := pend_write D yoff (cutS ys (min ys.size 300))
    generalize cutS ys (min ys.size 300) = s at *
    generalize writeD D yoff s = D1 at *
    generalize writeE D yoff s = er at *
    go_wp2_with fail
    refine (hcut.out _).mono ?_
    rintro e wq ⟨rfl, rfl⟩
    go_wp2_with fail
    have hkd : Blk W5.drew W.heap.size _ 39 := kA'
    have HC : Hid (∀ X : World, Blk X W.heap.size #[.int .i64 ycall, .int .i64 yoff, .int .i64 yn, .string ys, .slice ka ykeep.length kc] 39 → X.cell? ⟨W.heap.size, 1, none⟩ = some (.int .i64 yoff)) := fun X h => h.cell 1
    clear a0 a1 a2 a3 a4
    go_region_held3 (fun w' => w'.cell? ⟨W.heap.size, 1, none⟩ = some (.int .i64 yoff))
      (first | exact HC.out _ hk2' | exact HC.out _ hk1' | exact HC.out _ hkd)
      (first | (have zz := hT1; clear zz; go_at_call 30; refine (HV.out w1 hT1 (Nat.le_trans hz0 hf1.size)).mono ?_; rintro e w2 ⟨rfl, hT2, hf2⟩; have hk2' := hk1'.frm hf2 (fun h => h.2 rfl)) | (go_at_call 21; refine (HW.out W5.drew hD5.drew hz0).mono ?_; rintro e w1 ⟨rfl, hT1, hf1⟩; have hk1' := hkd.frm hf1 (fun h => h.2 rfl)))
    have hB2 := (hA.trans (((Below.refl _ W5).drew).trans (hf1.besBelow hbA))).trans (hf2.besBelow (Nat.le_trans hbA hf1.size))
    go_wp2
    go_ret
    exact ⟨rfl, D1, hT2.mono (fun i _ h => h.1), hpl, hB2⟩
  · have hcut := Lib.hid (fun X => cut22 ys 300 X)
    have HW := Lib.hid (fun X (h : Duo X (Bes base W.heap.size) n B R D D) (hz : W.heap.size + 1 ≤ X.heap.size) => Duo.write_d h (HBES.out X hz) hpM yoff (cutS ys (min ys.size 300)))
    have HV := Lib.hid (fun X (h : Duo X (Bes base W.heap.size) n B R (writeD D yoff (cutS ys (min ys.size 300))) D) (hz : W.heap.size + 1 ≤ X.heap.size) => Duo.write_r h (HBES.out X hz) hpM yoff (cutS ys (min ys.size 300)))
    have hpl := pend_write D yoff (cutS ys (min ys.size 300))
    generalize cutS ys (min ys.size 300) = s at *
    generalize writeD D yoff s = D1 at *
    generalize writeE D yoff s = er at *
    go_wp2_with fail
    refine (hcut.out _).mono ?_
    rintro e wq ⟨rfl, rfl⟩
    go_wp2_with fail
    have hkd : Blk W5.drew W.heap.size _ 39 := kA'
    have HC : Hid (∀ X : World, Blk X W.heap.size #[.int .i64 ycall, .int .i64 yoff, .int .i64 yn, .string ys, .slice ka ykeep.length kc] 39 → X.cell? ⟨W.heap.size, 1, none⟩ = some (.int .i64 yoff)) := fun X h => h.cell 1
    clear a0 a1 a2 a3 a4
    go_region_held3 (fun w' => w'.cell? ⟨W.heap.size, 1, none⟩ = some (.int .i64 yoff))
      (first | exact HC.out _ hk2' | exact HC.out _ hk1' | exact HC.out _ hkd)
      (first | (have zz := hT1; clear zz; go_at_call 30; refine (HV.out w1 hT1 (Nat.le_trans hz0 hf1.size)).mono ?_; rintro e w2 ⟨rfl, hT2, hf2⟩; have hk2' := hk1'.frm hf2 (fun h => h.2 rfl)) | (go_at_call 21; refine (HW.out W5.drew hD5.drew hz0).mono ?_; rintro e w1 ⟨rfl, hT1, hf1⟩; have hk1' := hkd.frm hf1 (fun h => h.2 rfl)))
    have hB2 := (hA.trans (((Below.refl _ W5).drew).trans (hf1.besBelow hbA))).trans (hf2.besBelow (Nat.le_trans hbA hf1.size))
    go_wp2
    go_ret
    exact ⟨rfl, D1, hT2.mono (fun i _ h => h.1), hpl, hB2⟩
  · have hw := Duo.sync_d hD5
    have HV := Lib.hid (fun X (h : Duo X (Bes base W.heap.size) n B R (syncD D) D) (hz : W.heap.size + 1 ≤ X.heap.size) => Duo.sync_r h (HBES.out X hz) hpM)
    have hpl := pend_sync D
    generalize syncD D = D1 at *
    generalize syncE D = er at *
    go_wp2_with fail
    refine hw.mono ?_
    rintro e w1 ⟨rfl, hT1, hf1⟩
    have hv := HV.out w1 hT1 (Nat.le_trans hz0 hf1.size)
    clear hw a0 a1 a2 a3 a4
    go_wp2_with fail
    refine hv.mono ?_
    rintro e w2 ⟨rfl, hT2, hf2⟩
    have hB2 := (hA.trans (hf1.besBelow hbA)).trans (hf2.besBelow (Nat.le_trans hbA hf1.size))
    go_wp2
    go_ret
    exact ⟨rfl, D1, hT2.mono (fun i _ h => h.1), by omega, hB2⟩
  · have hw := read_f hD5.o1 yoff yn
    have hv := read_ref hD5.r2 hpM yoff yn
    generalize readS D yoff yn = rs at *
    generalize readE D yoff yn = er at *
    go_wp2_with fail
    refine hw.mono ?_
    rintro e wq ⟨rfl, rfl⟩
    clear hw
    go_wp2_with fail
    refine hv.mono ?_
    rintro e w2 ⟨rfl, hB2⟩
    have hT2 := hD5.below hB2
    have hBB := hA.trans (hB2.mono hbA)
    clear hv a0 a1 a2 a3 a4
    go_wp2
    go_ret
    exact ⟨rfl, D, hT2.mono (fun i _ h => h.1), by omega, hBB⟩
  · have HW := Lib.hid (fun X (h : Duo X (Bes base W.heap.size) n B R D D) => Duo.cut_d h yn hny)
    have HV := Lib.hid (fun X (h : Duo X (Bes base W.heap.size) n B R (cutD D yn) D) => Duo.cut_r h yn hny)
    have hpl := pend_cut D yn
    generalize cutD D yn = D1 at *
    generalize cutE D yn = er at *
    go_wp2_with fail
    have hkd : Blk W5.drew W.heap.size _ 39 := kA'
    have HC : Hid (∀ X : World, Blk X W.heap.size #[.int .i64 ycall, .int .i64 yoff, .int .i64 yn, .string ys, .slice ka ykeep.length kc] 39 → X.cell? ⟨W.heap.size, 2, none⟩ = some (.int .i64 yn)) := fun X h => h.cell 2
    clear a0 a1 a2 a3 a4
    go_region_held3 (fun w' => w'.cell? ⟨W.heap.size, 2, none⟩ = some (.int .i64 yn))
      (first | exact HC.out _ hk2' | exact HC.out _ hk1' | exact HC.out _ hkd)
      (first | (have zz := hT1; clear zz; go_at_call 32; refine (HV.out w1 hT1).mono ?_; rintro e w2 ⟨rfl, hT2, hf2⟩; have hk2' := hk1'.frm hf2 (fun h => h.2 rfl)) | (go_at_call 24; refine (HW.out W5.drew hD5.drew).mono ?_; rintro e w1 ⟨rfl, hT1, hf1⟩; have hk1' := hkd.frm hf1 (fun h => h.2 rfl)))
    have hB2 := (hA.trans (((Below.refl _ W5).drew).trans (hf1.besBelow hbA))).trans (hf2.besBelow (Nat.le_trans hbA hf1.size))
    go_wp2
    go_ret
    exact ⟨rfl, D1, hT2.mono (fun i _ h => h.1), by omega, hB2⟩
  · obtain ⟨m, hm1, hm2, hm3⟩ : ∃ m : Nat, (if (100 : Int) < (ykeep.length : Int) then (100 : Int) else (ykeep.length : Int)) = (m : Int) ∧ m ≤ ykeep.length ∧ m ≤ 100 := by
      by_cases h : (100 : Int) < (ykeep.length : Int)
      · exact ⟨100, by rw [if_pos h]; rfl, by omega, by omega⟩
      · exact ⟨ykeep.length, by rw [if_neg h], by omega, by omega⟩
    have hmm : min (ykeep.length : Int) 100 = (m : Int) := by rw [← hm1]; split <;> omega
    have hmi : (0 : Int) ≤ (m : Int) ∧ (m : Int) ≤ (kc : Int) := by omega
    have hi5 := ints_take (HK.out W5 hA) hm2
    have hw := Duo.crash_r hD5 hpM _ _ hi5 yn
    have HI := Lib.hid (fun X (h : Below base W X) => ints_take (HK.out X h) hm2)
    have hlen : (ykeep.take m).length ≤ 1000 := by rw [List.length_take]; omega
    have HPL : ∀ E : DiskD, (crashD E (ykeep.take m) yn).pend.length = 0 := fun _ => rfl
    have hpl : (crashD D (ykeep.take m) yn).pend.length = 0 := rfl
    go_wp2_with fail
    refine hw.mono ?_
    rintro e w1 ⟨rfl, hT1, hf1⟩
    have hB1 := hA.trans (hf1.besBelow hbA)
    have hk1 := kA'.frm hf1 (fun h => h.2 rfl)
    have b2 := hk1.cell 2
    simp only [List.getElem?_toArray, List.getElem?_cons_succ, List.getElem?_cons_zero] at b2
    have hv := Duo.crash_d hT1 _ _ (HI.out w1 hB1) hlen yn
    clear hw a0 a1 a2 a3 a4
    go_wp2_with fail
    refine hv.mono ?_
    rintro e w2 ⟨rfl, hT2, hf2⟩
    have hB2 := hB1.trans (hf2.besBelow (Nat.le_trans hb hB1.size))
    go_wp2
    go_ret
    exact ⟨rfl, _, hT2.mono (fun i _ h => h.1), by omega, hB2⟩
end Go.Proofs.Ytfmdpmcniccioaa
