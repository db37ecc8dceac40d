/- nadirref23.Ints, Same: equal lists, equal programs. -/
import Derived.Test.YtblmpmapcdpaiaaP17
import Derived.BigQuiet
import Derived.WalkSmall
import Derived.Deep.QuietTactic
namespace Go.Proofs.Ytblmpmapcdpaiaa
open Go.RowKit Lib

set_option maxRecDepth 100000 in
set_option maxHeartbeats 1000000 in
theorem ints_same (v1 v2 : Value) (l : List Int) (w : World) (h1 : IntsAt w v1 l) (h2 : IntsAt w v2 l) :
    Calls Try.prog 25 #[v1, v2] w fun e w' => e = .returned (.bool true) ∧ Below w.heap.size w w' := by
  have H1 := Lib.hid h1
  have H2 := Lib.hid h2
  obtain ⟨a, c, rfl, ha, hc⟩ := h1.len
  obtain ⟨b, d, rfl, hb, hd⟩ := h2.len
  unfold maxLen at hc hd
  clear h1 h2
  go_enter Try.func25, Try.ntmps25
  go_wp2
  go_loopw [5] (fun u5 wr => ∃ k : Nat, k ≤ l.length ∧ u5 = .int .i64 k ∧ Below w.heap.size w wr) (fun u5 _ => (l.length - intOf u5).toNat)
  case atStart => exact ⟨0, by omega, rfl, Below.refl _ _⟩
  case round =>
    obtain ⟨k, hk, rfl, hB⟩ := hrel
    by_cases hkl : k < l.length
    · have hs := Lib.hid (getD_some 0 hkl)
      obtain ⟨p1, o1, e1, c1⟩ := (H1.out.below hB).get hs.out
      obtain ⟨p2, o2, e2, c2⟩ := (H2.out.below hB).get hs.out
      cases e1
      cases e2
      generalize l.getD k 0 = x at c1 c2
      clear hs
      have hk2 : (0 : Int) ≤ (k : Int) ∧ (k : Int) < (l.length : Int) := by omega
      go_wp2_with fail
      go_quiet (fail)
      go_wp2
      go_roundw
      case rel => exact ⟨k + 1, by omega, by go_num, below_drewN hB _⟩
      case measure => simp [intOf]; omega
    · obtain rfl : k = l.length := by omega
      go_wp2
      go_ret
      exact ⟨rfl, hB⟩

set_option maxRecDepth 100000 in
set_option maxHeartbeats 2000000 in
theorem same_same (v1 v2 : Value) (p : ProgD) (w : World) (h1 : ProgV w v1 p) (h2 : ProgV w v2 p) :
    Calls Try.prog 38 #[v1, v2] w fun e w' => e = .returned (.bool true) ∧ Below w.heap.size w w' := by
  obtain ⟨r1, g1, rfl, hr1, hg1⟩ := h1
  obtain ⟨r2, g2, rfl, hr2, hg2⟩ := h2
  have HR1 := Lib.hid hr1
  have HR2 := Lib.hid hr2
  obtain ⟨a, c, rfl, ha, hc⟩ := (show SlicesLen r1 p.rows.length from hr1.len)
  obtain ⟨b, d, rfl, hb, hd⟩ := (show SlicesLen r2 p.rows.length from hr2.len)
  unfold maxLen at hc hd
  have hB0 : Below w.heap.size w ((w.alloc (.cells #[.int .i64 p.vars, .slice a p.rows.length c, g1] 29)).alloc (.cells #[.int .i64 p.vars, .slice b p.rows.length d, g2] 29)) := ((Below.refl _ _).alloc (Nat.le_refl _) _).alloc (by simp) _
  have hx := ints_same g1 g2 p.gain _ (hg1.below hB0) (hg2.below hB0)
  clear hr1 hr2 hg1 hg2
  go_enter Try.func38, Try.ntmps38
  go_wp2_with fail
  refine hx.mono ?_
  rintro e w1 ⟨rfl, hB⟩
  have hB1 := hB0.trans (hB.mono hB0.size)
  have hz1 : w.heap.size + 2 ≤ w1.heap.size := by have := hB.size; simp at this; omega
  have kp : Blk w1 w.heap.size #[.int .i64 p.vars, .slice a p.rows.length c, g1] 29 := ((Blk.new _ _ _).alloc _).below hB (by simp; omega)
  have kq : Blk w1 (w.heap.size + 1) #[.int .i64 p.vars, .slice b p.rows.length d, g2] 29 := (Blk.newAt _ _ _ (by simp)).below hB (by simp)
  clear hx
  go_wp2
  go_loopw [5] (fun u5 wr => ∃ k : Nat, k ≤ p.rows.length ∧ u5 = .int .i64 k ∧ Below w1.heap.size w1 wr) (fun u5 _ => (p.rows.length - intOf u5).toNat)
  case atStart => exact ⟨0, by omega, rfl, Below.refl _ _⟩
  case round =>
    obtain ⟨k, hk, rfl, hBk⟩ := hrel
    have i1 := (kp.below hBk (by omega)).cell 1
    have j1 := (kq.below hBk (by omega)).cell 1
    have hwz := hBk.size
    simp only [List.getElem?_toArray, List.getElem?_cons_succ, List.getElem?_cons_zero] at i1 j1
    by_cases hkl : k < p.rows.length
    · have hs := getD_some dR hkl
      have hBw := hB1.trans (hBk.mono hB1.size)
      obtain ⟨p1, o1, vc1, e1, c0, c1, c2, c3, c4, c5, hc1⟩ := (HR1.out.below hBw).get hs
      obtain ⟨p2, o2, vc2, e2, d0, d1, d2, d3, d4, d5, hc2⟩ := (HR2.out.below hBw).get hs
      cases e1
      cases e2
      generalize p.rows.getD k dR = r at *
      clear hs
      have l1 := World.block_lt_of_cell? _ _ c0
      have l2 := World.block_lt_of_cell? _ _ d0
      simp only at l1 l2
      have lz0 : w.heap.size < wr.heap.size := by omega
      have lz1 : w.heap.size + 1 < wr.heap.size := by omega
      have hBa : Below wr.heap.size wr ((wr.alloc (.cells #[.int .i64 r.kind, .int .i64 r.a, .int .i64 r.b, .int .i64 r.at_, vc1, .int .i64 r.most] 26)).alloc (.cells #[.int .i64 r.kind, .int .i64 r.a, .int .i64 r.b, .int .i64 r.at_, vc2, .int .i64 r.most] 26)) := ((Below.refl _ _).alloc (Nat.le_refl _) _).alloc (by simp) _
      have hx := ints_same vc1 vc2 r.coef _ (hc1.below hBa) (hc2.below hBa)
      obtain ⟨a1, b1, rfl, -, -⟩ := hc1.len
      obtain ⟨a2, b2, rfl, -, -⟩ := hc2.len
      clear hc1 hc2
      go_wp2_with fail
      refine hx.mono ?_
      rintro e w2 ⟨rfl, hB2⟩
      go_wp2
      go_roundw
      case rel => exact ⟨k + 1, by omega, by go_num, hBk.trans ((hBa.trans (hB2.mono hBa.size)).mono hBk.size)⟩
      case measure => simp [intOf]; omega
    · obtain rfl : k = p.rows.length := by omega
      go_wp2
      go_ret
      exact ⟨rfl, hB1.trans (hBk.mono hB1.size)⟩

/-- The chapter's example. -/
def exP : ProgD := ⟨3, [⟨0, 0, 0, 0, [2, 3, 1], 5⟩, ⟨0, 0, 0, 0, [1, 0, 1], 1⟩], [5, 4, 3]⟩
theorem ints_blk {W : World} {B : Nat} {l : List Int} (hb : Blk W B (l.map (Value.int .i64)).toArray 3) (hl : l.length ≤ maxLen) : IntsAt W (.slice (some ⟨B, 0, none⟩) l.length l.length) l :=
  ⟨_, _, rfl, Nat.le_refl _, hl, fun _ => ⟨B, 0, rfl, fun j y hj => by rw [Nat.zero_add]; refine (hb.cell j).trans ?_; simp [hj]⟩⟩
theorem rows_blk {W : World} {B : Nat} {cs : Array Value} {l : List RowD} (hb : Blk W B cs 26) (hf : FlatC 6 RowCs W cs.toList l) (hl : l.length ≤ maxLen) : RowsAt W (.slice (some ⟨B, 0, none⟩) l.length l.length) l :=
  ⟨_, _, rfl, Nat.le_refl _, hl, fun _ => ⟨B, 0, rfl, fun j y hj => by
    obtain ⟨ds, d1, d2, d3⟩ := hf.get j y hj
    exact ⟨ds, d1, fun i c hc => by rw [Nat.zero_add]; exact (hb.cell _).trans (by simpa using d2 i c hc), d3⟩⟩⟩
set_option maxRecDepth 100000 in
set_option maxHeartbeats 1000000 in
theorem example_all (w : World) :
    Calls Try.prog 58 #[] w fun e w' => ∃ rb vg, e = .returned (.agg #[.int .i64 3, .slice (some ⟨rb, 0, none⟩) 2 2, vg]) ∧ RowsAt w' (.slice (some ⟨rb, 0, none⟩) 2 2) exP.rows ∧ IntsAt w' vg exP.gain ∧ Below w.heap.size w w' := by
  go_enter Try.func58, Try.ntmps58
  go_wp2
  refine bodyPost_ret (v := .agg #[.int .i64 3, .slice (some ⟨w.heap.size + 1 + 1 + 1, 0, none⟩) 2 2, .slice (some ⟨w.heap.size + 1 + 1 + 1 + 1, 0, none⟩) 3 3]) (by simp [results, Try.results58, go_sem]) rfl ?_
  refine ⟨_, _, rfl, ?_, ints_blk (l := exP.gain) (Blk.newAt _ _ _ (by simp)) (by decide), ((((((Below.refl _ _).alloc (Nat.le_refl _) _).alloc (by simp <;> omega) _).alloc (by simp <;> omega) _).alloc (by simp <;> omega) _).alloc (by simp <;> omega) _)⟩
  refine rows_blk (l := exP.rows) ((Blk.newAt _ _ _ (by simp)).alloc _) ?_ (by decide)
  refine ⟨_, _, rfl, rfl, ⟨_, rfl, ints_blk (l := [2, 3, 1]) ((((Blk.newAt _ _ _ (by simp)).alloc _).alloc _).alloc _) (by decide)⟩, _, [], rfl, rfl, ⟨_, rfl, ints_blk (l := [1, 0, 1]) (((Blk.newAt _ _ _ (by simp)).alloc _).alloc _) (by decide)⟩, rfl⟩
end Go.Proofs.Ytblmpmapcdpaiaa
