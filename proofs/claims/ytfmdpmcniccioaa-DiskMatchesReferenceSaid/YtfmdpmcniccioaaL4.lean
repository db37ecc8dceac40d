/- nadirlaw33.DiskMatchesReference: the walk. -/
import Derived.Test.YtfmdpmcniccioaaReadS
import Derived.Deep.RegionLaw
import Derived.Deep.RegionHeld3
namespace Go.Proofs.Ytfmdpmcniccioaa
open Go.RowKit Go.Shelf Lib

theorem wp_suchD {P : Program} {c : Code} {Q : Exit → Act → World → Prop} {a : Act} {fr : DiskD → Option Addr → Nat → Act} {w : World} (S : DiskD → World → Prop) (h : c.wp P (NoPanic fun e a' w' => e = .normal ∧ ∃ D pa pc, a' = fr D pa pc ∧ S D w') a w) (k : ∀ D pa pc w', S D w' → Q .normal (fr D pa pc) w') : c.wp P Q a w :=
  Code.wp_mono (fun e a' w' hh => by obtain ⟨rfl, D, pa, pc, rfl, hb⟩ := NoPanic.imp e a' w' hh; exact k D pa pc w' hb) h
set_option maxRecDepth 100000 in
set_option maxHeartbeats 40000000 in
theorem matches_true (size : Int) (vl : Value) (l : List StD) (w : World) (hs : InR size) (hl : StsAt w vl l) : Calls Try.prog 4 #[.int .i64 size, vl] w fun e w' => e = .returned (.bool true) ∧ Below w.heap.size w w' := by
  have hpb := pickI_bd size (n := 400) (by decide)
  have hpk := Lib.hid (fun W => pick_any size 400 W hs (by decide) (by decide))
  obtain ⟨p, hp⟩ := Int.eq_ofNat_of_zero_le hpb.1
  rw [hp] at hpk hpb
  have hn1 : 1 ≤ 1 + p := by omega
  have hn2 : 1 + p ≤ 4194304 := by omega
  have hcast : (1 : Int) + (p : Int) = ((1 + p : Nat) : Int) := by omega
  have hw1 : IntKind.i64.wrap (1 + (p : Int)) = ((1 + p : Nat) : Int) := by rw [wrapS _ (by omega) (by omega)]; omega
  have hnew := Lib.hid (fun W => new_own (1 + p) W hn1 hn2)
  have hnewr := Lib.hid (fun W => new_ref (1 + p) W hn1 hn2)
  have hI0 := Inv.new hn1 hn2
  obtain ⟨la, lc, rfl, hl1, hl2⟩ := hl.len
  unfold maxLen at hl2
  have HL := Lib.hid hl
  clear hs hpb hp hcast hl hn1 hn2
  generalize 1 + p = n at *
  go_enter Try.func4, Try.ntmps4
  go_wp2_with fail
  refine (sane_true _).mono ?_
  rintro e w1 ⟨rfl, hB1⟩
  go_wp2_with fail
  refine (hpk.out _).mono ?_
  rintro e wq ⟨rfl, rfl⟩
  go_wp2_with fail
  refine (hnew.out _).mono ?_
  rintro e w2 ⟨B, rfl, hO2, hB2⟩
  go_wp2_with fail
  refine (hnewr.out _).mono ?_
  rintro e w3 ⟨R, vs, rfl, hR3, hRb, hvb, hB3⟩
  have hT := Duo.new hO2 hB2.size hR3 hI0 hRb hvb hB3
  have hBz := hB2.trans (hB3.mono hB2.size)
  have HB1 := Lib.hid hB1
  clear hO2 hR3 hRb hvb hB2 hB3 hI0
  go_wp2
  clear hB1 hnew hnewr hpk hw1
  go_loopw [10] (fun u10 wr => ∃ (k : Nat) (D : DiskD), k ≤ l.length ∧ k ≤ 60 ∧ u10 = .int .i64 k ∧ Duo wr (fun i => w1.heap.size ≤ i) n B R D D ∧ D.pend.length ≤ k ∧ Below w1.heap.size w1 wr) (fun u10 _ => (60 - intOf u10).toNat)
  case atStart => exact ⟨0, newD n, by omega, by omega, rfl, hT, Nat.le_refl _, hBz⟩
  case round =>
    obtain ⟨k, D, hk, hk60, rfl, hT, hpl, hBr⟩ := hrel
    rename World => wr
    by_cases hkl : k < l.length ∧ k < 60
    · obtain ⟨hkl, hk2⟩ := hkl
      have hBw := HB1.out.trans (hBr.mono HB1.out.size)
      have hx := List.getElem?_eq_getElem hkl
      generalize l[k] = x at hx
      obtain ⟨b, off, vk, rfl, c0, c1, c2, c3, c4, hxk, hxc, hxn⟩ := HL.out.get hx
      have mv : ∀ {i : Nat} {u : Value}, w.cell? ⟨b, i, none⟩ = some u → wr.drew.cell? ⟨b, i, none⟩ = some u := fun {i u} hc => (hBw.drew.cell (World.block_lt_of_cell? _ _ hc)).trans hc
      replace c0 := mv c0
      replace c1 := mv c1
      replace c2 := mv c2
      replace c3 := mv c3
      replace c4 := mv c4
      have HKK : Hid (∀ W', Below w1.heap.size wr.drew W' → IntsAt W' vk x.keep) := fun W' hb => hxk.below (hBw.drew.trans (hb.mono HB1.out.size))
      have hbs := hBr.size
      have hst := step_any x vk hT.drew (by exact hbs) (by omega) HKK.out hxc hxn
      have hki : (0 : Int) ≤ (k : Int) ∧ (k : Int) < (l.length : Int) := by omega
      obtain ⟨xc, xo, xn, xs, xk⟩ := x
      simp only at c0 c1 c2 c3 hst
      have HBR := Lib.hid hBr.drew
      clear hx hxk hxc hxn hT HKK mv
      go_wp2_with fail
      apply wp_suchD (fun D' w' => Duo w' (fun i => w1.heap.size ≤ i) n B R D' D' ∧ D'.pend.length ≤ k + 1 ∧ Below w1.heap.size w1 w')
      · go_region_law (first | (go_simp; go_at_call 19; refine hst.mono ?_; rintro e w4 ⟨rfl, D4, hT4, hpl4, hB4⟩; obtain ⟨vs4, vl4, hA4, hI4, hF4⟩ := hT4.r2; obtain ⟨pa4, pc4, rfl, hq1, hq2⟩ := owned_len hA4.pen; have r1 := hA4.box.cell 1; simp only [List.getElem?_toArray, List.getElem?_cons_succ, List.getElem?_cons_zero] at r1; have hpe := pending_f hT4.o1; have hsz := size_f hT4.o1) | (go_simp; go_at_call 17; refine hpe.mono ?_; rintro e wq ⟨rfl, rfl⟩) | (go_simp; go_at_call 16; refine hsz.mono ?_; rintro e wq ⟨rfl, rfl⟩))
        all_goals (refine NoPanic.normal ?_; exact ⟨rfl, D4, pa4, pc4, rfl, hT4, by omega, HBR.out.trans hB4⟩)
      rintro D4 pa4 pc4 w4 ⟨hT4, hpl4, hB4⟩
      have hr1 := read_f hT4.o1 0 n
      have hr2 := read_ref hT4.r2 (by omega) 0 n
      generalize readS D4 0 n = rs at hr1 hr2
      generalize readE D4 0 n = er at hr1 hr2
      have HT4 := Lib.hid (And.intro hT4 hB4)
      have hb4 := hB4.size
      clear hT4 hB4
      go_wp2_with fail
      refine hr1.mono ?_
      rintro e wq ⟨rfl, rfl⟩
      clear hr1
      go_wp2_with fail
      refine hr2.mono ?_
      rintro e w5 ⟨rfl, hB5⟩
      clear hr2
      have hT5 := Lib.hid (And.intro (HT4.out.1.below hB5) (HT4.out.2.trans (hB5.mono hb4)))
      clear hB5
      go_wp2
      go_roundw
      case rel => exact ⟨k + 1, D4, by omega, by omega, by go_num, hT5.out.1, hpl4, hT5.out.2⟩
      case measure => simp [intOf]; omega
    · by_cases hk2 : k < l.length
      · obtain rfl : k = 60 := by omega
        go_wp2
        go_ret
        exact ⟨rfl, HB1.out.trans (hBr.mono HB1.out.size)⟩
      · obtain rfl : k = l.length := by omega
        go_wp2
        go_ret
        exact ⟨rfl, HB1.out.trans (hBr.mono HB1.out.size)⟩
end Go.Proofs.Ytfmdpmcniccioaa
