/- nadirlaw33.DiskAllSurvive: the walk. -/
import Derived.Test.YtfmdpmcniccioaaOn2
namespace Go.Proofs.Ytfmdpmcniccioaa
open Go.RowKit Go.Shelf Lib


set_option maxRecDepth 100000 in
set_option maxHeartbeats 4000000 in
theorem allSurvive_true (size : Int) (vl : Value) (l : List WP) (w : World) (hs : InR size) (hl : WpsAt w vl l) : Calls Try.prog 9 #[.int .i64 size, vl] w fun e w' => e = .returned (.bool true) ∧ Below w.heap.size w w' := by
  have hpb := pickI_bd size (n := 300) (by decide)
  have hpk := Lib.hid (fun W => pick_any size 300 W hs (by decide) (by decide))
  obtain ⟨p, hp⟩ := Int.eq_ofNat_of_zero_le hpb.1
  rw [hp] at hpk hpb
  have hn1 : 1 ≤ 1 + p := by omega
  have hn2 : 1 + p ≤ 4194304 := by omega
  have hcast : (1 : Int) + (p : Int) = ((1 + p : Nat) : Int) := by omega
  have hw1 : IntKind.i64.wrap (1 + (p : Int)) = ((1 + p : Nat) : Int) := by rw [wrapS _ (by omega) (by omega)]; omega
  have hnew := Lib.hid (fun W => new_own (1 + p) W hn1 hn2)
  have hon0 := Lib.hid (on_new hn1 hn2)
  have hN := Lib.hid (And.intro hn1 hn2)
  obtain ⟨la, lc, rfl, hl1, hl2⟩ := hl.len
  unfold maxLen at hl2
  have HL := Lib.hid hl
  clear hs hpb hp hcast hl hn1 hn2
  generalize 1 + p = n at *
  go_enter Try.func9, Try.ntmps9
  go_wp2_with fail
  refine (sane_true _).mono ?_
  rintro e w1 ⟨rfl, hB1⟩
  go_wp2_with fail
  refine (hpk.out _).mono ?_
  rintro e wq ⟨rfl, rfl⟩
  go_wp2_with fail
  refine (hnew.out _).mono ?_
  rintro e w2 ⟨B, rfl, hO2, hB2⟩
  have hb12 := hB2.size
  have HB1 := Lib.hid hB1
  go_wp2
  clear hB1 hnew hpk hw1
  go_loopw [8] (fun u8 wr => ∃ (k : Nat) (D : DiskD), k ≤ l.length ∧ k ≤ 60 ∧ u8 = .int .i64 k ∧ Own w1.heap.size wr B n D ∧ Hid (OnD n D) ∧ D.pend.length ≤ k ∧ Below w1.heap.size w1 wr) (fun u8 _ => (60 - intOf u8).toNat)
  case atStart => exact ⟨0, newD n, by omega, by omega, rfl, hO2, hon0, Nat.le_refl _, hB2⟩
  case round =>
    obtain ⟨k, D, hk, hk60, rfl, hO, hon, hpl, hBr⟩ := hrel
    rename World => wr
    by_cases hkl : k < l.length ∧ k < 60
    · obtain ⟨hkl, hk2⟩ := hkl
      have hBw := HB1.out.trans (hBr.mono HB1.out.size)
      have hx := List.getElem?_eq_getElem hkl
      generalize l[k] = x at hx
      obtain ⟨b, off, rfl, c0, c1, c2, hxi, hxs⟩ := (HL.out.below' hBw).get hx
      have hfi := fits_any x n hN.out.2 hxi wr
      have hle := fit_le x n
      have hki : (0 : Int) ≤ (k : Int) ∧ (k : Int) < (l.length : Int) := by omega
      generalize fitO x n = o at hfi hle
      generalize fitS x n = s at hfi hle
      obtain ⟨xo, xs, xb⟩ := x
      simp only at c0 c1 c2 hfi
      clear hx hxi hxs
      go_wp2_with fail
      refine hfi.mono ?_
      rintro e w4 ⟨rfl, hB4⟩
      have hO4 := OwnF.below hO hB4
      have hB4r := hBr.trans (hB4.mono hBr.size)
      have hA5 : Below w4.heap.size w4 (w4.alloc (.cells #[.int .i64 (o : Nat), .string s, .bool xb] 53)) := (Below.refl _ _).alloc (Nat.le_refl _) _
      have kA5 := Blk.new w4 #[.int .i64 (o : Nat), .string s, .bool xb] 53
      have hO5 : OwnF (w4.alloc (.cells #[.int .i64 (o : Nat), .string s, .bool xb] 53)) B n D (Bes w1.heap.size w4.heap.size) := (OwnF.mono hO4 (G := Bes w1.heap.size w4.heap.size) (fun k hk h => ⟨h, by omega⟩)).below hA5
      have hs5 : (w4.alloc (.cells #[.int .i64 (o : Nat), .string s, .bool xb] 53)).heap.size = w4.heap.size + 1 := by simp
      have hB5 := hB4r.trans (hA5.mono hB4r.size)
      obtain ⟨e1, on1, v1, d1, p1⟩ := on_write hon.out o s hle
      have hz5 := hB4r.size
      have hwr := write_F hO5 (fun k hk => ⟨by omega, by omega⟩) (by omega) (o : Nat) s
      rw [e1] at hwr
      have a0 := kA5.cell 0
      have a1 := kA5.cell 1
      simp only [List.getElem?_toArray, List.getElem?_cons_succ, List.getElem?_cons_zero] at a0 a1
      have hpl1 : (writeD D (o : Nat) s).pend.length ≤ k + 1 := by rw [p1, List.length_append]; simp; omega
      clear hfi c0 c1 c2 hO4 hB4 hB4r hO v1 d1 p1 e1 hA5 hs5
      generalize writeD D (o : Nat) s = D1 at *
      go_wp2_with fail
      generalize w4.alloc (.cells #[.int .i64 (o : Nat), .string s, .bool xb] 53) = W5 at *
      refine hwr.mono ?_
      rintro e w7 ⟨rfl, hO7, hf7⟩
      have kA7 := kA5.frm hf7 (fun h => h.2 rfl)
      have hO7' := hO7.mono (G := fun k => w1.heap.size ≤ k) (fun k _ h => h.1)
      have hB7 := hB5.trans (hf7.besBelow hB5.size)
      have a2 := kA7.cell 2
      simp only [List.getElem?_toArray, List.getElem?_cons_succ, List.getElem?_cons_zero] at a2
      clear hwr a0 a1 hf7 hO7 hO5 kA5 kA7 hB5
      have HON := Lib.hid on1
      have HO7 := Lib.hid hO7'
      clear hO7'
      cases xb with
      | false =>
        clear on1
        go_wp2
        go_roundw
        case rel => exact ⟨k + 1, D1, by omega, by omega, by go_num, HO7.out, HON, hpl1, hB7⟩
        case measure => simp [intOf]; omega
      | true =>
        have hsy := sync_f HO7.out
        obtain ⟨e2, on2, v2, -, p2⟩ := on_sync on1
        rw [e2] at hsy
        have hpl2 : (syncD D1).pend.length ≤ k + 1 := by rw [p2]; simp
        clear e2 v2 p2 on1 HON
        generalize syncD D1 = D2 at *
        go_wp2_with fail
        refine hsy.mono ?_
        rintro e w8 ⟨rfl, hO8, hf8⟩
        have hB8 := hB7.trans (hf8.ownBelow hB7.size)
        have HON := Lib.hid on2
        have HO8 := Lib.hid hO8
        clear on2 hO8 hsy a2 hf8
        go_wp2
        go_roundw
        case rel => exact ⟨k + 1, D2, by omega, by omega, by go_num, HO8.out, HON, hpl2, hB8⟩
        case measure => simp [intOf]; omega
    · have hrd := read_f hO 0 n
      obtain ⟨r1, r2⟩ := on_read hon.out
      rw [r1, r2] at hrd
      have HRD := Lib.hid hrd
      have HO := Lib.hid hO
      clear hrd r1 r2 hO
      by_cases hk2 : k < l.length
      · obtain rfl : k = 60 := by omega
        go_wp2_with fail
        refine (HRD.out).mono ?_
        rintro e wq ⟨rfl, rfl⟩
        go_wp2
        go_loopw [12, 13] (fun u12 u13 wt => ∃ m : Nat, m ≤ D.pend.length ∧ u13 = .int .i64 m ∧ wt.ownsRow wr.heap.size 3 1 u12 m ((allI m).map (Value.int .i64)) ∧ Below wr.heap.size wr wt) (fun _ u13 _ => (D.pend.length - intOf u13).toNat)
        case atStart => exact ⟨0, by omega, rfl, World.ownsRow_nil _ _ _ _, Below.refl _ _⟩
        case round =>
          obtain ⟨m, hm, rfl, hrow, hBt⟩ := hrel
          rename World => wt
          have hOt := OwnF.below HO.out hBt
          have hpe := pending_f hOt
          by_cases hml : m < D.pend.length
          · clear hOt
            go_wp2_with fail
            refine hpe.mono ?_
            rintro e wq ⟨rfl, rfl⟩
            clear hpe
            go_wp2_with (at_builtin; refine wpList_push E37 rfl _ _ rfl wr.heap.size hrow rfl rfl rfl (by unfold maxLen; omega) (by omega) hBt.size ?_; intro v' w9 hown' hgrow hb9)
            go_roundw
            case rel => exact ⟨m + 1, by omega, by go_num, by rw [allI_succ, List.map_append]; exact hown', hBt.trans hb9⟩
            case measure => simp [intOf]; omega
          · obtain rfl : m = D.pend.length := by omega
            have hia : IntsAt wt _ (allI D.pend.length) := owned_slice (by rw [allI_len]; exact hrow)
            have hcr := crash_f hOt _ _ hia (by rw [allI_len]; omega) (-1)
            have on2 := on_crash hon.out (allI D.pend.length) (-1)
            obtain ⟨q1, q2⟩ := crash_all hon.out.inv
            obtain ⟨r1, r2⟩ := on_read on2
            have on3 := on_crash on2 [] 0
            obtain ⟨q3, q4, -⟩ := crashD_nil (crashD D (allI D.pend.length) (-1)) 0
            obtain ⟨r3, r4⟩ := on_read on3
            rw [q1] at r2
            rw [q4, q2] at r4
            have HR := Lib.hid (And.intro (And.intro r1 r2) (And.intro r3 r4))
            have hB9 := hBr.trans (hBt.mono hBr.size)
            clear hOt hrow hia q1 q2 q3 q4 r1 r2 r3 r4 on2 on3
            generalize crashD D (allI D.pend.length) (-1) = D2 at *
            go_wp2_with fail
            refine hpe.mono ?_
            rintro e wq ⟨rfl, rfl⟩
            go_wp2_with fail
            refine hcr.mono ?_
            rintro e w10 ⟨rfl, hO10, hf10⟩
            have hB10 := hB9.trans (hf10.ownBelow hB9.size)
            have hr10 := read_f hO10 0 n
            rw [HR.out.1.1, HR.out.1.2] at hr10
            clear hcr hpe
            go_wp2_with fail
            refine hr10.mono ?_
            rintro e wq ⟨rfl, rfl⟩
            have hcr2 := crash_f hO10 _ [] (ints_nil w10) (by decide) 0
            clear hr10 hO10
            go_wp2_with fail
            refine hcr2.mono ?_
            rintro e w11 ⟨rfl, hO11, hf11⟩
            clear hcr2
            have hr11 := read_f hO11 0 n
            rw [HR.out.2.1, HR.out.2.2] at hr11
            go_wp2_with fail
            refine hr11.mono ?_
            rintro e wq ⟨rfl, rfl⟩
            go_wp2
            go_ret
            exact ⟨rfl, HB1.out.trans ((hB10.trans (hf11.ownBelow hB10.size)).mono HB1.out.size)⟩
      · obtain rfl : k = l.length := by omega
        go_wp2_with fail
        refine (HRD.out).mono ?_
        rintro e wq ⟨rfl, rfl⟩
        go_wp2
        go_loopw [12, 13] (fun u12 u13 wt => ∃ m : Nat, m ≤ D.pend.length ∧ u13 = .int .i64 m ∧ wt.ownsRow wr.heap.size 3 1 u12 m ((allI m).map (Value.int .i64)) ∧ Below wr.heap.size wr wt) (fun _ u13 _ => (D.pend.length - intOf u13).toNat)
        case atStart => exact ⟨0, by omega, rfl, World.ownsRow_nil _ _ _ _, Below.refl _ _⟩
        case round =>
          obtain ⟨m, hm, rfl, hrow, hBt⟩ := hrel
          rename World => wt
          have hOt := OwnF.below HO.out hBt
          have hpe := pending_f hOt
          by_cases hml : m < D.pend.length
          · clear hOt
            go_wp2_with fail
            refine hpe.mono ?_
            rintro e wq ⟨rfl, rfl⟩
            clear hpe
            go_wp2_with (at_builtin; refine wpList_push E37 rfl _ _ rfl wr.heap.size hrow rfl rfl rfl (by unfold maxLen; omega) (by omega) hBt.size ?_; intro v' w9 hown' hgrow hb9)
            go_roundw
            case rel => exact ⟨m + 1, by omega, by go_num, by rw [allI_succ, List.map_append]; exact hown', hBt.trans hb9⟩
            case measure => simp [intOf]; omega
          · obtain rfl : m = D.pend.length := by omega
            have hia : IntsAt wt _ (allI D.pend.length) := owned_slice (by rw [allI_len]; exact hrow)
            have hcr := crash_f hOt _ _ hia (by rw [allI_len]; omega) (-1)
            have on2 := on_crash hon.out (allI D.pend.length) (-1)
            obtain ⟨q1, q2⟩ := crash_all hon.out.inv
            obtain ⟨r1, r2⟩ := on_read on2
            have on3 := on_crash on2 [] 0
            obtain ⟨q3, q4, -⟩ := crashD_nil (crashD D (allI D.pend.length) (-1)) 0
            obtain ⟨r3, r4⟩ := on_read on3
            rw [q1] at r2
            rw [q4, q2] at r4
            have HR := Lib.hid (And.intro (And.intro r1 r2) (And.intro r3 r4))
            have hB9 := hBr.trans (hBt.mono hBr.size)
            clear hOt hrow hia q1 q2 q3 q4 r1 r2 r3 r4 on2 on3
            generalize crashD D (allI D.pend.length) (-1) = D2 at *
            go_wp2_with fail
            refine hpe.mono ?_
            rintro e wq ⟨rfl, rfl⟩
            go_wp2_with fail
            refine hcr.mono ?_
            rintro e w10 ⟨rfl, hO10, hf10⟩
            have hB10 := hB9.trans (hf10.ownBelow hB9.size)
            have hr10 := read_f hO10 0 n
            rw [HR.out.1.1, HR.out.1.2] at hr10
            clear hcr hpe
            go_wp2_with fail
            refine hr10.mono ?_
            rintro e wq ⟨rfl, rfl⟩
            have hcr2 := crash_f hO10 _ [] (ints_nil w10) (by decide) 0
            clear hr10 hO10
            go_wp2_with fail
            refine hcr2.mono ?_
            rintro e w11 ⟨rfl, hO11, hf11⟩
            clear hcr2
            have hr11 := read_f hO11 0 n
            rw [HR.out.2.1, HR.out.2.2] at hr11
            go_wp2_with fail
            refine hr11.mono ?_
            rintro e wq ⟨rfl, rfl⟩
            go_wp2
            go_ret
            exact ⟨rfl, HB1.out.trans ((hB10.trans (hf11.ownBelow hB10.size)).mono HB1.out.size)⟩
end Go.Proofs.Ytfmdpmcniccioaa
