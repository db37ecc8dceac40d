/- nadirlaw33.DiskCut: the walk. -/
import Derived.Test.YtfmdpmcniccioaaOn3
namespace Go.Proofs.Ytfmdpmcniccioaa
open Go.RowKit Go.Shelf Lib

set_option maxRecDepth 100000 in
set_option maxHeartbeats 4000000 in
theorem cutLaw_true (size cn : Int) (vl : Value) (l : List WP) (w : World) (hs : InR size) (hcn : InR cn) (hl : WpsAt w vl l) : Calls Try.prog 10 #[.int .i64 size, .int .i64 cn, vl] w fun e w' => e = .returned (.bool true) ∧ Below w.heap.size w w' := by
  have hpb := pickI_bd size (n := 100) (by decide)
  have hpk := Lib.hid (fun W => pick_any size 100 W hs (by decide) (by decide))
  have hpb2 := pickI_bd cn (n := 20) (by decide)
  have hpk2 := Lib.hid (fun W => pick_any cn 20 W hcn (by decide) (by decide))
  obtain ⟨p, hp⟩ := Int.eq_ofNat_of_zero_le hpb.1
  obtain ⟨c, hc⟩ := Int.eq_ofNat_of_zero_le hpb2.1
  rw [hp] at hpk hpb
  rw [hc] at hpk2 hpb2
  have hn1 : 1 ≤ 1 + p := by omega
  have hn2 : 1 + p ≤ 4194304 := by omega
  have hc20 : c < 20 := by omega
  have hcast : (1 : Int) + (p : Int) = ((1 + p : Nat) : Int) := by omega
  have hw1 : IntKind.i64.wrap (1 + (p : Int)) = ((1 + p : Nat) : Int) := by rw [wrapS _ (by omega) (by omega)]; omega
  have hw5 : IntKind.i64.wrap ((c : Int) + 5) = ((c + 5 : Nat) : Int) := by rw [wrapS _ (by omega) (by omega)]; omega
  have hnew := Lib.hid (fun W => new_own (1 + p) W hn1 hn2)
  obtain ⟨ce1, ce2, hcs, hcv⟩ := cutI_start hn1 hn2 (show c < 1000 by omega)
  have hmk := mk40 (1 + p) hn2
  have hN := Lib.hid (And.intro hn1 hn2)
  obtain ⟨la, lc, rfl, hl1, hl2⟩ := hl.len
  unfold maxLen at hl2
  have HL := Lib.hid hl
  clear hs hcn hpb hpb2 hp hc hcast hl hn1 hn2
  generalize 1 + p = n at *
  go_enter Try.func10, Try.ntmps10
  go_wp2_with fail
  refine (sane_true _).mono ?_
  rintro e w1 ⟨rfl, hB1⟩
  go_wp2_with fail
  refine (hpk.out _).mono ?_
  rintro e wq ⟨rfl, rfl⟩
  go_wp2_with fail
  refine (hpk2.out _).mono ?_
  rintro e wq ⟨rfl, rfl⟩
  go_wp2_with fail
  refine (hnew.out _).mono ?_
  rintro e wa ⟨B, rfl, hOa, hBa⟩
  have hct := cut_own hOa hBa.size ((c + 5 : Nat) : Int) (by omega)
  rw [ce1] at hct
  clear hnew hpk hpk2 hw1 hOa ce1
  go_wp2_with fail
  refine hct.mono ?_
  rintro e wb ⟨rfl, hOb, hBb⟩
  have hBb' := hBa.trans hBb
  have hct2 := cut_own hOb hBb'.size (c : Int) (by omega)
  rw [ce2] at hct2
  clear hct hOb ce2 hBa hBb hw5
  go_wp2_with fail
  refine hct2.mono ?_
  rintro e w2 ⟨rfl, hO2, hBc⟩
  have hB2 := hBb'.trans hBc
  clear hct2 hBb' hBc
  have hA : Below w2.heap.size w2 (w2.alloc (.cells (bcs (List.replicate n 0)).toArray 5)) := (Below.refl _ _).alloc (Nat.le_refl _) _
  have kg := Blk.new w2 (bcs (List.replicate n 0)).toArray 5
  have hb12 := hB2.size
  generalize cutD (cutD (newD n) ((c + 5 : Nat) : Int)) (c : Int) = D0 at *
  have hO3 : OwnF (w2.alloc (.cells (bcs (List.replicate n 0)).toArray 5)) B n D0 (Bes w1.heap.size w2.heap.size) := (OwnF.mono hO2 (G := Bes w1.heap.size w2.heap.size) (fun k hk h => ⟨h, by omega⟩)).below hA
  have hB3 := hB2.trans (hA.mono hB2.size)
  have hs3 : (w2.alloc (.cells (bcs (List.replicate n 0)).toArray 5)).heap.size = w2.heap.size + 1 := by simp
  rw [← hcv] at kg
  have HB1 := Lib.hid hB1
  have HCS := Lib.hid hcs
  rw [← hcv] at hO3 hB3 hs3
  go_wp2
  rw [← hcv]
  generalize w2.alloc (.cells (bcs D0.vis).toArray 5) = W3 at kg hO3 hB3 hs3 ⊢
  have hg3 : w2.heap.size < W3.heap.size := by omega
  clear hA hO2 hB2 hs3 hB1 hmk hcv hcs
  generalize w2.heap.size = g at *
  go_loopw [11, 12] (fun u11 u12 wr => ∃ (k : Nat) (D : DiskD), k ≤ l.length ∧ k ≤ 40 ∧ u12 = .int .i64 k ∧ OwnF wr B n D (Bes w1.heap.size g) ∧ Hid (CutI n c k D) ∧ Blk wr g (bcs D.vis).toArray 5 ∧ wr.ownsRow (g + 1) 3 1 u11 (min k c) ((allI (min k c)).map (Value.int .i64)) ∧ Below w1.heap.size w1 wr) (fun _ u12 _ => (40 - intOf u12).toNat)
  case atStart => exact ⟨0, D0, by omega, by omega, rfl, hO3, HCS, kg, by rw [Nat.zero_min]; exact World.ownsRow_nil _ _ _ _, hB3⟩
  case round =>
    obtain ⟨k, D, hk, hk60, rfl, hO, hon, hgr, hrow, hBr⟩ := hrel
    rename World => wr
    have hgl := hgr.lt
    by_cases hkl : k < l.length ∧ k < 40
    · obtain ⟨hkl, hk2⟩ := hkl
      have hBw := HB1.out.trans (hBr.mono HB1.out.size)
      have hx := List.getElem?_eq_getElem hkl
      generalize l[k] = x at hx
      obtain ⟨b, off, rfl, c0, c1, c2, hxi, hxs⟩ := (HL.out.below' hBw).get hx
      have hfi := fits_any x n hN.out.2 hxi wr
      have hle := fit_le x n
      have hki : (0 : Int) ≤ (k : Int) ∧ (k : Int) < (l.length : Int) := by omega
      generalize fitO x n = o at hfi hle
      generalize fitS x n = s at hfi hle
      obtain ⟨xo, xs, xb⟩ := x
      simp only at c0 c1 c2 hfi
      clear hx hxi hxs
      go_wp2_with fail
      refine hfi.mono ?_
      rintro e w4 ⟨rfl, hB4⟩
      have hO4 := hO.below hB4
      have hg4 := hgr.below hB4 hgl
      have hrow4 := owned_kept hrow (fun i hi => hB4.block i (hrow.lt i hi).2)
      have hB4r := hBr.trans (hB4.mono hBr.size)
      have hA5 : Below w4.heap.size w4 (w4.alloc (.cells #[.int .i64 (o : Nat), .string s, .bool xb] 53)) := (Below.refl _ _).alloc (Nat.le_refl _) _
      have kA5 := Blk.new w4 #[.int .i64 (o : Nat), .string s, .bool xb] 53
      have hrow5 := owned_kept hrow4 (fun i hi => hA5.block i (hrow4.lt i hi).2)
      have hO5 := ((hO4.below hA5).away kA5 (by decide) (by decide) (by decide)).awayRow hrow5 (by decide) (by decide) (by decide)
      have hg5 := hg4.below hA5 hg4.lt
      have hB5 := hB4r.trans (hA5.mono hB4r.size)
      have hs5 : (w4.alloc (.cells #[.int .i64 (o : Nat), .string s, .bool xb] 53)).heap.size = w4.heap.size + 1 := by simp
      have hAl : g < w4.heap.size := hg4.lt
      have hz5 := hB4r.size
      have a0 := kA5.cell 0
      have a1 := kA5.cell 1
      simp only [List.getElem?_toArray, List.getElem?_cons_succ, List.getElem?_cons_zero] at a0 a1
      have hpl := hon.out.len
      have hwr := write_F hO5 (fun i hi => ⟨⟨⟨by omega, by omega⟩, by omega⟩, fun e => by have := (hrow5.lt i e).2; omega⟩) (by omega) (o : Nat) s
      have hrg : ∀ i, Value.ownBlock _ = some i → i ≠ g := fun i hi e => by have := (hrow5.lt i hi).1; omega
      have hrA : ∀ i, Value.ownBlock _ = some i → i ≠ w4.heap.size := fun i hi e => by have := (hrow4.lt i hi).2; omega
      clear hfi c0 c1 c2 hO4 hg4 hrow4 hB4 hB4r hO hgr hrow hs5 hA5
      by_cases hkc : k < c
      · obtain ⟨e1, on1, v1⟩ := hon.out.yes hkc o s hle
        rw [e1] at hwr
        generalize writeD D (o : Nat) s = D1 at *
        have hm1 : min k c = k := by omega
        have hm2 : min (k + 1) c = k + 1 := by omega
        rw [hm1] at hrow5
        have HON := Lib.hid on1
        clear on1 e1
        go_wp2_with fail
        generalize w4.alloc (.cells #[.int .i64 (o : Nat), .string s, .bool xb] 53) = W5 at *
        refine hwr.mono ?_
        rintro e w7 ⟨rfl, hO7, hf7⟩
        have hg7 := hg5.frm hf7 (fun h => h.1.1.2 rfl)
        have kA7 := kA5.frm hf7 (fun h => h.1.2 rfl)
        have hrow7 := owned_kept hrow5 (fun i hi => hf7.block i (hrow5.lt i hi).2 (fun h => h.2 hi))
        have hB7 := hB5.trans (hf7.below (B := w1.heap.size) hB5.size (fun i h => h.1.1.1))
        have a2 := kA7.cell 0
        have a3 := kA7.cell 1
        simp only [List.getElem?_toArray, List.getElem?_cons_succ, List.getElem?_cons_zero] at a2 a3
        have hput := put_any (n := n) hg7 hon.out.inv.visLen hN.out.2 o s hle
        rw [← v1] at hput
        clear hwr a0 a1 hO5 hg5 kA5 hrow5 hB5 kA7 v1
        go_wp2_with fail
        refine hput.mono ?_
        rintro e w8 ⟨rfl, hg8, hf8⟩
        have hO8 := (hO7.frm hf8 (fun i _ h => h.1.1.2)).mono (G := Bes w1.heap.size g) (fun i _ h => h.1.1)
        have hrow8 := owned_kept hrow7 (fun i hi => hf8.block i (hrow7.lt i hi).2 (hrg i hi))
        have hO8' := hO8.awayRow hrow8 (by decide) (by decide) (by decide)
        have hB8 := hB7.trans (hf8.below (B := w1.heap.size) hB7.size (fun i e => by subst e; omega))
        have HG := Lib.hid hg8
        have HO8 := Lib.hid hO8'
        have hsz8 : g + 1 ≤ w8.heap.size := hg8.lt
        clear hput a2 a3 hO7 hf7 hg7 hO8 hrow7 hB7 hf8 hg8 hO8'
        go_wp2_with (at_builtin; refine wpList_push E37 rfl _ _ rfl (g + 1) hrow8 rfl rfl rfl (by unfold maxLen; omega) (by omega) hsz8 ?_; intro v' w9 hown' hgrow hb9)
        have hfr : Frm (fun i => Value.ownBlock _ = some i) w8 w9 := ((Frm.refl _ w8).alloc _).grown hgrow (fun i h _ => h)
        go_roundw
        case rel =>
          exact ⟨k + 1, D1, by omega, by omega, by go_num, (HO8.out.frm hfr (fun i _ h => h.2)).mono (fun i _ h => h.1), HON, HG.out.frm hfr (fun h => hrg _ h rfl), by rw [hm2, allI_succ, List.map_append]; exact hown', hB8.trans (hb9.mono (by omega))⟩
        case measure => simp [intOf]; omega
      · obtain ⟨e1, e2, on1⟩ := hon.out.no (by omega) o s
        rw [e1, e2] at hwr
        have hm1 : min k c = c := by omega
        have hm2 : min (k + 1) c = c := by omega
        rw [hm1] at hrow5
        have HON := Lib.hid on1
        clear on1 e1 e2
        go_wp2_with fail
        generalize w4.alloc (.cells #[.int .i64 (o : Nat), .string s, .bool xb] 53) = W5 at *
        refine hwr.mono ?_
        rintro e w7 ⟨rfl, hO7, hf7⟩
        have hg7 := Lib.hid (hg5.frm hf7 (fun h => h.1.1.2 rfl))
        have hrow7 := Lib.hid (owned_kept hrow5 (fun i hi => hf7.block i (hrow5.lt i hi).2 (fun h => h.2 hi)))
        have hB7 := hB5.trans (hf7.below (B := w1.heap.size) hB5.size (fun i h => h.1.1.1))
        have HO7 := Lib.hid (hO7.mono (G := Bes w1.heap.size g) (fun i _ h => h.1.1))
        clear hwr a0 a1 hO5 hg5 kA5 hrow5 hB5 hf7 hO7 hrg hrA
        go_wp2
        go_roundw
        case rel => exact ⟨k + 1, D, by omega, by omega, by go_num, HO7.out, HON, hg7.out, by rw [hm2]; exact hrow7.out, hB7⟩
        case measure => simp [intOf]; omega
    · clear hgl
      have hgo : ∀ (q : k < c), Hid (syncE D = 0) := fun q => hon.out.go q
      by_cases hkc : k < c
      · have hm1 : min k c = k := by omega
        rw [hm1] at hrow
        obtain ⟨na, nc, rfl, hq1, hq2⟩ := owned_len hrow
        have hsy := sync_f hO
        rw [(hgo hkc).out] at hsy
        obtain rfl : k = l.length := by omega
        clear hrow hgr hO
        go_wp2_with fail
        refine hsy.mono ?_
        rintro e w3 ⟨rfl, hO3, hf3⟩
        have hB3 := hBr.trans (hf3.besBelow hBr.size)
        clear hsy hf3 hO3
        go_wp2
        go_ret
        exact ⟨rfl, HB1.out.trans (hB3.mono HB1.out.size)⟩
      · have hm1 : min k c = c := by omega
        rw [hm1] at hrow
        obtain ⟨na, nc, rfl, hq1, hq2⟩ := owned_len hrow
        obtain ⟨s1, s2, s3, s4, s5, s6⟩ := hon.out.stop (by omega)
        have hO' := hO.awayRow hrow (by decide) (by decide) (by decide)
        have hrd := read_f hO' 0 0
        have hsy := sync_f hO'
        rw [s2] at hrd
        rw [s3, s4] at hsy
        have on2 := inv_crash hon.out.inv (allI c) (-1)
        obtain ⟨q1, q2⟩ := crash_all hon.out.inv
        rw [s1] at q1 q2
        obtain ⟨r1, r2⟩ := on_read on2
        rw [q1] at r2
        obtain ⟨x1, x2, -, -, -⟩ := on_write on2 0 ⟨#[120]⟩ (by have := hN.out.1; show 0 + 1 ≤ n; omega)
        obtain ⟨y1, -⟩ := on_sync x2
        have x1' : writeE (crashD D (allI c) (-1)) 0 ⟨#[120]⟩ = 0 := x1
        have y1' : syncE (writeD (crashD D (allI c) (-1)) 0 ⟨#[120]⟩) = 0 := y1
        have HC := Lib.hid (And.intro (And.intro s5 s6) (And.intro (And.intro r1 r2) (And.intro x1' y1')))
        have HP := Lib.hid s1
        clear hO hO' s1 s2 s3 s4 s5 s6 on2 q1 q2 r1 r2 x1 x2 y1 x1' y1' hgo
        by_cases hk2 : k < l.length
        · obtain rfl : k = 40 := by omega
          go_wp2_with fail
          refine hrd.mono ?_
          rintro e wq ⟨rfl, rfl⟩
          clear hrd
          go_wp2_with fail
          refine hsy.mono ?_
          rintro e w3 ⟨rfl, hO3, hf3⟩
          have hct := cut_f hO3 3 (by decide)
          rw [HC.out.1.1, HC.out.1.2] at hct
          have hrow3 := owned_kept hrow (fun i hi => hf3.block i (hrow.lt i hi).2 (fun h => h.2 hi))
          have hg3 := hgr.frm hf3 (fun h => h.1.2 rfl)
          have hB3 := hBr.trans (hf3.below (B := w1.heap.size) hBr.size (fun i h => h.1.1))
          clear hsy hf3 hO3 hrow hgr hBr
          go_wp2_with fail
          refine hct.mono ?_
          rintro e w4 ⟨rfl, hO4, hf4⟩
          have hrow4 := owned_kept hrow3 (fun i hi => hf4.block i (hrow3.lt i hi).2 (fun h => h.2 hi))
          have hg4 := hg3.frm hf4 (fun h => h.1.2 rfl)
          have hB4 := hB3.trans (hf4.below (B := w1.heap.size) hB3.size (fun i h => h.1.1))
          have hpe := pending_f hO4
          rw [HP.out] at hpe
          have hsz := size_f hO4
          have hia : IntsAt w4 _ (allI c) := owned_slice (by rw [allI_len]; exact hrow4)
          have hcr := crash_f hO4 _ _ hia (by rw [allI_len]; omega) (-1)
          clear hct hf4 hO4 hrow3 hg3 hB3 hrow4 hia
          go_wp2_with fail
          refine hpe.mono ?_
          rintro e wq ⟨rfl, rfl⟩
          go_wp2_with fail
          refine hsz.mono ?_
          rintro e wq ⟨rfl, rfl⟩
          clear hpe hsz
          go_wp2_with fail
          refine hcr.mono ?_
          rintro e w5 ⟨rfl, hO5, hf5⟩
          have hg5 := hg4.frm hf5 (fun h => h.1.2 rfl)
          have hB5 := hB4.trans (hf5.below (B := w1.heap.size) hB4.size (fun i h => h.1.1))
          have hr5 := read_f hO5 0 n
          rw [HC.out.2.1.1, HC.out.2.1.2] at hr5
          have hcv := conv_all hg5 hon.out.inv.visLen
          have hwr := write_f hO5 (by show ([] : List WrD).length ≤ _; decide) 0 ⟨#[120]⟩
          rw [HC.out.2.2.1] at hwr
          clear hcr hf5 hO5 hg4 hB4 hg5
          go_wp2_with fail
          refine hr5.mono ?_
          rintro e wq ⟨rfl, rfl⟩
          clear hr5
          go_wp2_with fail
          refine hwr.mono ?_
          rintro e w6 ⟨rfl, hO6, hf6⟩
          have hB6 := hB5.trans (hf6.below (B := w1.heap.size) hB5.size (fun i h => h.1.1))
          have hs6 := sync_f hO6
          rw [HC.out.2.2.2] at hs6
          have hz5 := hB5.size
          clear hwr hf6 hO6
          go_wp2_with fail
          refine hs6.mono ?_
          rintro e w7 ⟨rfl, -, hf7⟩
          go_wp2
          go_ret
          exact ⟨rfl, HB1.out.trans ((hB6.trans (hf7.below (B := w1.heap.size) hB6.size (fun i h => by rcases h with h | h; exact h.1.1; omega))).mono HB1.out.size)⟩
        · obtain rfl : k = l.length := by omega
          go_wp2_with fail
          refine hrd.mono ?_
          rintro e wq ⟨rfl, rfl⟩
          clear hrd
          go_wp2_with fail
          refine hsy.mono ?_
          rintro e w3 ⟨rfl, hO3, hf3⟩
          have hct := cut_f hO3 3 (by decide)
          rw [HC.out.1.1, HC.out.1.2] at hct
          have hrow3 := owned_kept hrow (fun i hi => hf3.block i (hrow.lt i hi).2 (fun h => h.2 hi))
          have hg3 := hgr.frm hf3 (fun h => h.1.2 rfl)
          have hB3 := hBr.trans (hf3.below (B := w1.heap.size) hBr.size (fun i h => h.1.1))
          clear hsy hf3 hO3 hrow hgr hBr
          go_wp2_with fail
          refine hct.mono ?_
          rintro e w4 ⟨rfl, hO4, hf4⟩
          have hrow4 := owned_kept hrow3 (fun i hi => hf4.block i (hrow3.lt i hi).2 (fun h => h.2 hi))
          have hg4 := hg3.frm hf4 (fun h => h.1.2 rfl)
          have hB4 := hB3.trans (hf4.below (B := w1.heap.size) hB3.size (fun i h => h.1.1))
          have hpe := pending_f hO4
          rw [HP.out] at hpe
          have hsz := size_f hO4
          have hia : IntsAt w4 _ (allI c) := owned_slice (by rw [allI_len]; exact hrow4)
          have hcr := crash_f hO4 _ _ hia (by rw [allI_len]; omega) (-1)
          clear hct hf4 hO4 hrow3 hg3 hB3 hrow4 hia
          go_wp2_with fail
          refine hpe.mono ?_
          rintro e wq ⟨rfl, rfl⟩
          go_wp2_with fail
          refine hsz.mono ?_
          rintro e wq ⟨rfl, rfl⟩
          clear hpe hsz
          go_wp2_with fail
          refine hcr.mono ?_
          rintro e w5 ⟨rfl, hO5, hf5⟩
          have hg5 := hg4.frm hf5 (fun h => h.1.2 rfl)
          have hB5 := hB4.trans (hf5.below (B := w1.heap.size) hB4.size (fun i h => h.1.1))
          have hr5 := read_f hO5 0 n
          rw [HC.out.2.1.1, HC.out.2.1.2] at hr5
          have hcv := conv_all hg5 hon.out.inv.visLen
          have hwr := write_f hO5 (by show ([] : List WrD).length ≤ _; decide) 0 ⟨#[120]⟩
          rw [HC.out.2.2.1] at hwr
          clear hcr hf5 hO5 hg4 hB4 hg5
          go_wp2_with fail
          refine hr5.mono ?_
          rintro e wq ⟨rfl, rfl⟩
          clear hr5
          go_wp2_with fail
          refine hwr.mono ?_
          rintro e w6 ⟨rfl, hO6, hf6⟩
          have hB6 := hB5.trans (hf6.below (B := w1.heap.size) hB5.size (fun i h => h.1.1))
          have hs6 := sync_f hO6
          rw [HC.out.2.2.2] at hs6
          have hz5 := hB5.size
          clear hwr hf6 hO6
          go_wp2_with fail
          refine hs6.mono ?_
          rintro e w7 ⟨rfl, -, hf7⟩
          go_wp2
          go_ret
          exact ⟨rfl, HB1.out.trans ((hB6.trans (hf7.below (B := w1.heap.size) hB6.size (fun i h => by rcases h with h | h; exact h.1.1; omega))).mono HB1.out.size)⟩
end Go.Proofs.Ytfmdpmcniccioaa
