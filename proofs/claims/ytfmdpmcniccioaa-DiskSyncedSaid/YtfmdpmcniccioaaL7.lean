/- nadirlaw33.DiskSynced: the walk. -/
import Derived.Test.YtfmdpmcniccioaaOn2
namespace Go.Proofs.Ytfmdpmcniccioaa
open Go.RowKit Go.Shelf Lib

set_option maxRecDepth 100000 in
set_option maxHeartbeats 4000000 in
theorem synced_true (size : Int) (vl : Value) (l : List WP) (torn : Int) (w : World) (hs : InR size) (hl : WpsAt w vl l) : Calls Try.prog 7 #[.int .i64 size, vl, .int .i64 torn] w fun e w' => e = .returned (.bool true) ∧ Below w.heap.size w w' := by
  have hpb := pickI_bd size (n := 300) (by decide)
  have hpk := Lib.hid (fun W => pick_any size 300 W hs (by decide) (by decide))
  obtain ⟨p, hp⟩ := Int.eq_ofNat_of_zero_le hpb.1
  rw [hp] at hpk hpb
  have hn1 : 1 ≤ 1 + p := by omega
  have hn2 : 1 + p ≤ 4194304 := by omega
  have hcast : (1 : Int) + (p : Int) = ((1 + p : Nat) : Int) := by omega
  have hw1 : IntKind.i64.wrap (1 + (p : Int)) = ((1 + p : Nat) : Int) := by rw [wrapS _ (by omega) (by omega)]; omega
  have hnew := Lib.hid (fun W => new_own (1 + p) W hn1 hn2)
  have hon0 := Lib.hid (on_new hn1 hn2)
  have hmk := mk40 (1 + p) hn2
  have hN := Lib.hid (And.intro hn1 hn2)
  obtain ⟨la, lc, rfl, hl1, hl2⟩ := hl.len
  unfold maxLen at hl2
  have HL := Lib.hid hl
  clear hs hpb hp hcast hl hn1 hn2
  generalize 1 + p = n at *
  go_enter Try.func7, Try.ntmps7
  go_wp2_with fail
  refine (sane_true _).mono ?_
  rintro e w1 ⟨rfl, hB1⟩
  go_wp2_with fail
  refine (hpk.out _).mono ?_
  rintro e wq ⟨rfl, rfl⟩
  go_wp2_with fail
  refine (hnew.out _).mono ?_
  rintro e w2 ⟨B, rfl, hO2, hB2⟩
  have hA : Below w2.heap.size w2 (w2.alloc (.cells (bcs (List.replicate n 0)).toArray 5)) := (Below.refl _ _).alloc (Nat.le_refl _) _
  have kg := Blk.new w2 (bcs (List.replicate n 0)).toArray 5
  have hO3 : OwnF (w2.alloc (.cells (bcs (List.replicate n 0)).toArray 5)) B n (newD n) (Bes w1.heap.size w2.heap.size) := (hO2.mono (G := Bes w1.heap.size w2.heap.size) (fun k hk h => ⟨h, by omega⟩)).below hA
  have hB3 := hB2.trans (hA.mono hB2.size)
  have hs3 : (w2.alloc (.cells (bcs (List.replicate n 0)).toArray 5)).heap.size = w2.heap.size + 1 := by simp
  have hb12 := hB2.size
  have HB1 := Lib.hid hB1
  have hcv0 := conv_all kg (List.length_replicate (n := n))
  go_wp2
  clear hcv0
  generalize w2.alloc (.cells (bcs (List.replicate n 0)).toArray 5) = W3 at kg hO3 hB3 hs3 ⊢
  have hg3 : w2.heap.size < W3.heap.size := by omega
  clear hA hO2 hB2 hs3 hB1 hmk hnew hpk hw1
  generalize w2.heap.size = g at *
  go_loopw [11, 12] (fun u11 u12 wr => ∃ (k : Nat) (D : DiskD), k ≤ l.length ∧ k ≤ 60 ∧ u12 = .int .i64 k ∧ u11 = .string (strOf D.dur) ∧ OwnF wr B n D (Bes w1.heap.size g) ∧ Hid (OnD n D) ∧ D.pend.length ≤ k ∧ Blk wr g (bcs D.vis).toArray 5 ∧ Below w1.heap.size w1 wr) (fun _ u12 _ => (60 - intOf u12).toNat)
  case atStart => exact ⟨0, newD n, by omega, by omega, rfl, rfl, hO3, hon0, Nat.le_refl _, kg, hB3⟩
  case round =>
    obtain ⟨k, D, hk, hk60, rfl, rfl, hO, hon, hpl, hgr, hBr⟩ := hrel
    rename World => wr
    have hgl := hgr.lt
    by_cases hkl : k < l.length ∧ k < 60
    · obtain ⟨hkl, hk2⟩ := hkl
      have hBw := HB1.out.trans (hBr.mono HB1.out.size)
      have hx := List.getElem?_eq_getElem hkl
      generalize l[k] = x at hx
      obtain ⟨b, off, rfl, c0, c1, c2, hxi, hxs⟩ := (HL.out.below' hBw).get hx
      have hfi := fits_any x n hN.out.2 hxi wr
      have hle := fit_le x n
      have hki : (0 : Int) ≤ (k : Int) ∧ (k : Int) < (l.length : Int) := by omega
      generalize fitO x n = o at hfi hle
      generalize fitS x n = s at hfi hle
      obtain ⟨xo, xs, xb⟩ := x
      simp only at c0 c1 c2 hfi
      clear hx hxi hxs
      go_wp2_with fail
      refine hfi.mono ?_
      rintro e w4 ⟨rfl, hB4⟩
      have hO4 := hO.below hB4
      have hg4 := hgr.below hB4 hgl
      have hB4r := hBr.trans (hB4.mono hBr.size)
      have hA5 : Below w4.heap.size w4 (w4.alloc (.cells #[.int .i64 (o : Nat), .string s, .bool xb] 53)) := (Below.refl _ _).alloc (Nat.le_refl _) _
      have kA5 := Blk.new w4 #[.int .i64 (o : Nat), .string s, .bool xb] 53
      have hO5 : OwnF (w4.alloc (.cells #[.int .i64 (o : Nat), .string s, .bool xb] 53)) B n D (fun k => Bes w1.heap.size g k ∧ k ≠ w4.heap.size) := (hO4.mono (G := fun k => Bes w1.heap.size g k ∧ k ≠ w4.heap.size) (fun k hk h => ⟨h, by omega⟩)).below hA5
      have hg5 := hg4.below hA5 hg4.lt
      have hB5 := hB4r.trans (hA5.mono hB4r.size)
      have hput := put_any (n := n) hg5 hon.out.inv.visLen hN.out.2 o s hle
      have hAg : w4.heap.size ≠ g := by have := hg4.lt; omega
      have hAl : g < w4.heap.size := hg4.lt
      clear hfi c0 c1 c2 hO4 hg4 hB4 hB4r hO hgr
      go_wp2_with fail
      generalize w4.alloc (.cells #[.int .i64 (o : Nat), .string s, .bool xb] 53) = W5 at *
      refine hput.mono ?_
      rintro e w6 ⟨rfl, hg6, hf6⟩
      have hO6 := hO5.frm hf6 (fun k _ h => h.1.2)
      have kA6 := kA5.frm hf6 hAg
      have hB6 := hB5.trans (hf6.below (B := w1.heap.size) hB5.size (fun k e => by subst e; have := HB1.out.size; omega))
      obtain ⟨e1, on1, v1, d1, p1⟩ := on_write hon.out o s hle
      have hwr := write_F hO6 (fun k hk => ⟨⟨by have := hB6.size; omega, by have := hg6.lt; omega⟩, by have := kA6.lt; omega⟩) (by omega) (o : Nat) s
      rw [e1] at hwr
      have a0 := kA6.cell 0
      have a1 := kA6.cell 1
      simp only [List.getElem?_toArray, List.getElem?_cons_succ, List.getElem?_cons_zero] at a0 a1
      rw [← v1] at hg6
      have hpl1 : (writeD D (o : Nat) s).pend.length ≤ k + 1 := by rw [p1, List.length_append]; simp; omega
      have lA6 := kA6.lt
      have HD1 : Hid (D.dur = (writeD D (o : Nat) s).dur) := d1.symm
      clear hput hf6 hO5 kA5 hB5 hg5 v1 d1 p1 e1 hA5
      generalize writeD D (o : Nat) s = D1 at *
      go_wp2_with fail
      refine hwr.mono ?_
      rintro e w7 ⟨rfl, hO7, hf7⟩
      have hg7 := hg6.frm hf7 (fun h => h.1.2 rfl)
      have kA7 := kA6.frm hf7 (fun h => h.2 rfl)
      have hf7' : Frm (Bes w1.heap.size g) w6 w7 := hf7.mono (fun k _ h => h.1)
      have hO7' := hO7.mono (G := Bes w1.heap.size g) (fun k _ h => h.1)
      have hB7 := hB6.trans (hf7'.besBelow hB6.size)
      have a2 := kA7.cell 2
      simp only [List.getElem?_toArray, List.getElem?_cons_succ, List.getElem?_cons_zero] at a2
      clear hwr a0 a1 hf7 hf7' hO6 hg6 kA6 lA6
      cases xb with
      | false =>
        have HON := Lib.hid on1
        have HG := Lib.hid hg7
        have HO7 := Lib.hid hO7'
        clear on1 hg7 hO7' hO7
        go_wp2
        go_roundw
        case rel => exact ⟨k + 1, D1, by omega, by omega, by go_num, by rw [HD1.out], HO7.out, HON, hpl1, HG.out, hB7⟩
        case measure => simp [intOf]; omega
      | true =>
        have hsy := sync_f hO7
        obtain ⟨e2, on2, v2, d2, p2⟩ := on_sync on1
        rw [e2] at hsy
        rw [← v2] at hg7
        have HD2 : Hid ((syncD D1).dur = (syncD D1).vis) := d2.trans v2.symm
        have hpl2 : (syncD D1).pend.length ≤ k + 1 := by rw [p2]; simp
        clear e2 v2 p2 d2 on1 HD1
        generalize syncD D1 = D2 at *
        go_wp2_with fail
        refine hsy.mono ?_
        rintro e w8 ⟨rfl, hO8, hf8⟩
        have hg8 := hg7.frm hf8 (fun h => h.1.2 rfl)
        have kA8 := kA7.frm hf8 (fun h => h.2 rfl)
        have hf8' : Frm (Bes w1.heap.size g) w7 w8 := hf8.mono (fun k _ h => h.1)
        have hO8' := hO8.mono (G := Bes w1.heap.size g) (fun k _ h => h.1)
        have a2' := kA8.cell 2
        simp only [List.getElem?_toArray, List.getElem?_cons_succ, List.getElem?_cons_zero] at a2'
        have hB8 := hB7.trans (hf8'.besBelow hB7.size)
        have hcv := conv_all hg8 on2.inv.visLen
        have HON := Lib.hid on2
        have HG := Lib.hid hg8
        have HO8 := Lib.hid hO8'
        clear on2 hg8 hO8 hO8' hsy hg7 hO7 hO7' hf8 hf8' kA8 kA7
        go_wp2
        go_roundw
        case rel => exact ⟨k + 1, D2, by omega, by omega, by go_num, by rw [HD2.out], HO8.out, HON, hpl2, HG.out, hB8⟩
        case measure => simp [intOf]; omega
    · clear hgr
      have hBw := HB1.out.trans (hBr.mono HB1.out.size)
      have hcr := crash_f hO _ [] (ints_nil wr) (by decide) torn
      have hon2 := on_crash hon.out [] torn
      obtain ⟨q1, q2, q3⟩ := crashD_nil D torn
      obtain ⟨r1, r2⟩ := on_read hon2
      have hlen : Hid ((crashD D [] torn).pend.length = 0) := by show _ = _; rw [q3]; rfl
      rw [q2] at r2
      have HR1 := Lib.hid r1
      have HR2 := Lib.hid r2
      clear hO q1 q2 q3 r1 r2 hon2
      generalize crashD D [] torn = Dc at *
      have hend : ∀ (_ : ¬ (k < l.length ∧ k < 60)), Hid True := fun _ => trivial
      by_cases hk2 : k < l.length
      · obtain rfl : k = 60 := by omega
        go_wp2_with fail
        refine hcr.mono ?_
        rintro e w3 ⟨rfl, hO3, hf3⟩
        have hrd := read_f hO3 0 n
        rw [HR1.out, HR2.out] at hrd
        have hpe := pending_f hO3
        rw [hlen.out] at hpe
        go_wp2_with fail
        refine hrd.mono ?_
        rintro e wq ⟨rfl, rfl⟩
        go_wp2_with fail
        refine hpe.mono ?_
        rintro e wq ⟨rfl, rfl⟩
        go_wp2
        go_ret
        exact ⟨rfl, HB1.out.trans ((hBr.trans (hf3.besBelow hBr.size)).mono HB1.out.size)⟩
      · obtain rfl : k = l.length := by omega
        go_wp2_with fail
        refine hcr.mono ?_
        rintro e w3 ⟨rfl, hO3, hf3⟩
        have hrd := read_f hO3 0 n
        rw [HR1.out, HR2.out] at hrd
        have hpe := pending_f hO3
        rw [hlen.out] at hpe
        go_wp2_with fail
        refine hrd.mono ?_
        rintro e wq ⟨rfl, rfl⟩
        go_wp2_with fail
        refine hpe.mono ?_
        rintro e wq ⟨rfl, rfl⟩
        go_wp2
        go_ret
        exact ⟨rfl, HB1.out.trans ((hBr.trans (hf3.besBelow hBr.size)).mono HB1.out.size)⟩
end Go.Proofs.Ytfmdpmcniccioaa
