/- package nadirref18: pick, Passes; pick of the laws. -/
import Derived.Test.YtmajkagmcdlncaaC10
namespace Go.Proofs.Ytmajkagmcdlncaa
open Go.RowKit
open L18 (Pass Slot noPass noSlot X3 x0 pickV pickV_bd atK passK passesK passesG)

theorem wrapS (n : Int) (h₀ : -9223372036854775808 ≤ n) (h₁ : n ≤ 9223372036854775807) : IntKind.i64.wrap n = n := by rw [IntKind.wrap_i64]; omega
theorem pickV_pos {c n : Int} (h : ¬ c < 0) : pickV c n = c % n := by
  unfold pickV; rw [if_neg h]; exact Int.tmod_eq_emod_of_nonneg (by omega)
theorem pickV_neg {c n : Int} (h : c < 0) : pickV c n = -(Int.tmod (c + 1) n) := by
  unfold pickV; rw [if_pos h, Int.neg_tmod]
set_option maxRecDepth 100000 in
theorem pick13 (c n : Int) (w : World) (hc : InR c) (hn : 0 < n) (hn2 : n ≤ 9223372036854775807) : Calls Try.prog 13 #[.int .i64 c, .int .i64 n] w fun e w' => e = .returned (.int .i64 (pickV c n)) ∧ w = w' := by
  have hp := pickV_bd c hn
  obtain ⟨hc1, hc2⟩ := hc
  have hn0 : ¬ n = 0 := by omega
  by_cases h : c < 0
  · have hw1 : IntKind.i64.wrap (c + 1) = c + 1 := wrapS _ (by omega) (by omega)
    have hw2 : IntKind.i64.wrap (-(c + 1)) = -(c + 1) := wrapS _ (by omega) (by omega)
    rw [pickV_neg h] at hp ⊢
    have hw3 : IntKind.i64.wrap (-(Int.tmod (c + 1) n)) = -(Int.tmod (c + 1) n) := wrapS _ (by omega) (by omega)
    clear hp
    go_enter Try.func13, Try.ntmps13
    go_wp2
    go_ret
    exact ⟨rfl, rfl⟩
  · rw [pickV_pos h] at hp ⊢
    have hw3 : IntKind.i64.wrap (c % n) = c % n := wrapS _ (by omega) (by omega)
    clear hp
    go_enter Try.func13, Try.ntmps13
    go_wp2
    go_ret
    exact ⟨rfl, rfl⟩
set_option maxRecDepth 100000 in
theorem pick38 (c n : Int) (w : World) (hc : InR c) (hn : 0 < n) (hn2 : n ≤ 9223372036854775807) : Calls Try.prog 38 #[.int .i64 c, .int .i64 n] w fun e w' => e = .returned (.int .i64 (pickV c n)) ∧ w = w' := by
  have hp := pickV_bd c hn
  obtain ⟨hc1, hc2⟩ := hc
  have hn0 : ¬ n = 0 := by omega
  by_cases h : c < 0
  · have hw1 : IntKind.i64.wrap (c + 1) = c + 1 := wrapS _ (by omega) (by omega)
    have hw2 : IntKind.i64.wrap (-(c + 1)) = -(c + 1) := wrapS _ (by omega) (by omega)
    rw [pickV_neg h] at hp ⊢
    have hw3 : IntKind.i64.wrap (-(Int.tmod (c + 1) n)) = -(Int.tmod (c + 1) n) := wrapS _ (by omega) (by omega)
    clear hp
    go_enter Try.func38, Try.ntmps38
    go_wp2
    go_ret
    exact ⟨rfl, rfl⟩
  · rw [pickV_pos h] at hp ⊢
    have hw3 : IntKind.i64.wrap (c % n) = c % n := wrapS _ (by omega) (by omega)
    clear hp
    go_enter Try.func38, Try.ntmps38
    go_wp2
    go_ret
    exact ⟨rfl, rfl⟩
def XC (_ : World) (cs : List Value) (x : X3) : Prop := cs = [.int .i64 x.1, .int .i64 x.2.1, .int .i64 x.2.2]
abbrev XsAt (w : World) (v : Value) (l : List X3) : Prop := StructsOf 3 XC w v l
theorem XsAt.later {w w' : World} {v : Value} {l : List X3} (h : XsAt w v l) (hb : Below w.heap.size w w') : XsAt w' v l := StructsOf.below (R := XC) (fun _ _ _ _ h _ => h) h hb
theorem XsAt.get {w : World} {a : Option Addr} {len cap : Nat} {l : List X3} (h : XsAt w (.slice a len cap) l) {k : Nat} {x : X3} (hk : l[k]? = some x) :
    ∃ b off, a = some ⟨b, off, none⟩ ∧ w.cell? ⟨b, off + k * 3, none⟩ = some (.int .i64 x.1) ∧ w.cell? ⟨b, off + k * 3 + 1, none⟩ = some (.int .i64 x.2.1) ∧ w.cell? ⟨b, off + k * 3 + 2, none⟩ = some (.int .i64 x.2.2) := by
  obtain ⟨b, off, cs, e, -, h2, rfl⟩ := h.at hk
  exact ⟨b, off, e, h2 0 _ rfl, h2 1 _ rfl, h2 2 _ rfl⟩
def XR (x : X3) : Prop := InR x.1 ∧ InR x.2.1 ∧ InR x.2.2
theorem E32 : ElemOK Try.prog 32 30 (.agg #[.int .i64 0, .int .i64 0, .int .i64 0, .int .i64 0, .int .i64 0, .int .i64 0]) 6 48 := ⟨Try.underlying32, by kernel_rfl, rfl, by decide⟩
def passCs (p : Pass) : List Value := [.int .i64 p.sat, .int .i64 p.stn, .int .i64 p.sf, .int .i64 p.su, .int .i64 p.cf, .int .i64 p.cu]
/-- An own row of passes. -/
def OwnP (W : World) (B : Nat) (v : Value) (l : List Pass) : Prop := W.ownsRow B 30 6 v l.length (flat passCs l)
theorem OwnP.passes {W : World} {B : Nat} {v : Value} {l : List Pass} (h : OwnP W B v l) : PassesAt W v l := owned_structs (f := passCs) (fun _ => rfl) h (fun _ _ => rfl)
theorem tdiv3_bd {b : Int} (h : InR b) : InR (b.tdiv 3) := by
  obtain ⟨h1, h2⟩ := h
  rcases Int.lt_or_le b 0 with h | h
  · have e : b.tdiv 3 = -((-b).tdiv 3) := by rw [Int.neg_tdiv, Int.neg_neg]
    have : (-b).tdiv 3 = (-b) / 3 := Int.tdiv_eq_ediv_of_nonneg (by omega)
    exact ⟨by omega, by omega⟩
  · have : b.tdiv 3 = b / 3 := Int.tdiv_eq_ediv_of_nonneg h
    exact ⟨by omega, by omega⟩
set_option maxRecDepth 100000 in
set_option maxHeartbeats 2000000 in
theorem passes11 (v : Value) (x : List X3) (w : World) (hv : XsAt w v x) (hx : ∀ y ∈ x, XR y) :
    Calls Try.prog 11 #[v] w fun e w' => ∃ v', e = .returned v' ∧ OwnP w' w.heap.size v' (passesG x) ∧ Below w.heap.size w w' := by
  have HV := Lib.hid hv
  have HX := Lib.hid hx
  obtain ⟨a, cap, rfl, hle, hcm⟩ := hv.len
  unfold maxLen at hcm
  clear hv hx
  obtain ⟨m, hm⟩ : ∃ m, min x.length 12 = m := ⟨_, rfl⟩
  unfold passesG
  rw [hm]
  go_enter Try.func11, Try.ntmps11
  go_wp2
  go_loopw [3, 4, 5, 6] (fun u3 u4 u5 _ wr => ∃ k : Nat, k ≤ m ∧ u5 = .int .i64 k ∧ u4 = .int .i64 (atK x k) ∧ OwnP wr w.heap.size u3 (passesK x k) ∧ Below w.heap.size w wr) (fun _ _ u5 _ _ => (m - intOf u5).toNat)
  case atStart => exact ⟨0, by omega, rfl, rfl, World.ownsRow_nil _ _ _ _, Below.refl _ _⟩
  case round =>
    obtain ⟨k, hk, rfl, rfl, hown, hBr⟩ := hrel
    by_cases hkl : k < m
    · have hkx : k < x.length := by omega
      have hk12 : k < 12 := by omega
      have j1 : (0 : Int) ≤ (k : Int) ∧ (k : Int) < (x.length : Int) := by omega
      obtain ⟨b, off, rfl, c0, c1, c2⟩ := (XsAt.later HV.out hBr).get (getD_some x0 hkx)
      have hxr := HX.out _ (L18.getD_mem x0 hkx)
      have HPS := Lib.hid (L18.passesK_succ x k)
      have HPL := Lib.hid (L18.passesK_len x k)
      have hat := L18.atK_bd x k
      have hat1 := L18.atK_bd x (k + 1)
      have hak : atK x (k + 1) = atK x k + 1 + pickV (x.getD k x0).1 700 := rfl
      have hpk : passK x k = ⟨pickV (x.getD k x0).2.1 3, pickV ((x.getD k x0).2.1.tdiv 3) 3, atK x (k + 1) + 2, atK x (k + 1) + 8 + pickV (x.getD k x0).2.2 20 - 2, atK x (k + 1), atK x (k + 1) + 8 + pickV (x.getD k x0).2.2 20⟩ := rfl
      rw [hpk] at HPS
      clear hpk
      generalize x.getD k x0 = y at c0 c1 c2 hxr hak HPS
      obtain ⟨hr0, hr1, hr2⟩ := hxr
      have q0 := pickV_bd y.1 (n := 700) (by decide)
      have q1 := pickV_bd y.2.1 (n := 3) (by decide)
      have q2 := pickV_bd (y.2.1.tdiv 3) (n := 3) (by decide)
      have q3 := pickV_bd y.2.2 (n := 20) (by decide)
      have H0 := Lib.hid (fun W => pick38 y.1 700 W hr0 (by decide) (by decide))
      have H1 := Lib.hid (fun W => pick38 y.2.1 3 W hr1 (by decide) (by decide))
      have H2 := Lib.hid (fun W => pick38 (y.2.1.tdiv 3) 3 W (tdiv3_bd hr1) (by decide) (by decide))
      have H3 := Lib.hid (fun W => pick38 y.2.2 20 W hr2 (by decide) (by decide))
      have HAK := Lib.hid hak
      generalize atK x k = at0 at hat hak HAK ⊢
      generalize pickV y.1 700 = p0 at q0 hak H0 HAK
      clear hr0 hr2
      obtain ⟨at1, hae⟩ : ∃ z, atK x (k + 1) = z := ⟨_, rfl⟩
      rw [hae] at hat1 hak HAK HPS
      have HAE := Lib.hid hae
      clear hae
      generalize pickV y.2.1 3 = p1 at q1 H1 HPS
      generalize pickV (y.2.1.tdiv 3) 3 = p2 at q2 H2 HPS
      generalize pickV y.2.2 20 = p3 at q3 H3 HPS
      have wr1 : IntKind.i64.wrap (at0 + 1) = at0 + 1 := wrapS _ (by omega) (by omega)
      have wr2 : IntKind.i64.wrap (at0 + 1 + p0) = at1 := by rw [← hak]; exact wrapS _ (by omega) (by omega)
      have wr3 : IntKind.i64.wrap (at1 + 8) = at1 + 8 := wrapS _ (by omega) (by omega)
      have wr4 : IntKind.i64.wrap (at1 + 8 + p3) = at1 + 8 + p3 := wrapS _ (by omega) (by omega)
      have wr5 : IntKind.i64.wrap (at1 + 2) = at1 + 2 := wrapS _ (by omega) (by omega)
      have wr6 : IntKind.i64.wrap (at1 + 8 + p3 - 2) = at1 + 8 + p3 - 2 := wrapS _ (by omega) (by omega)
      have hq3 : IntKind.i64.wrap (y.2.1.tdiv 3) = y.2.1.tdiv 3 := wrapS _ (tdiv3_bd hr1).1 (tdiv3_bd hr1).2
      have lb : b < wr.heap.size := World.block_lt_of_cell? _ _ c0
      clear hak hr1
      go_wp2_with fail
      refine (H0.out _).mono ?_
      rintro e w2 ⟨rfl, rfl⟩
      go_upto_region 7 with (fail)
      have HC := Lib.hid (fun W (hW : Below wr.heap.size wr W) => show W.cell? ⟨b, off + k * 3, none⟩ = some (.int .i64 y.1) ∧ W.cell? ⟨b, off + k * 3 + 1, none⟩ = some (.int .i64 y.2.1) ∧ W.cell? ⟨b, off + k * 3 + 2, none⟩ = some (.int .i64 y.2.2) from ⟨(hW.cell (p := ⟨b, off + k * 3, none⟩) lb).trans c0, (hW.cell (p := ⟨b, off + k * 3 + 1, none⟩) lb).trans c1, (hW.cell (p := ⟨b, off + k * 3 + 2, none⟩) lb).trans c2⟩)
      clear c0 c1 c2
      apply wp_one
      · go_region_held3 (fun w' => Below wr.heap.size wr w' ∧ w'.cell? ⟨b, off + k * 3, none⟩ = some (.int .i64 y.1) ∧ w'.cell? ⟨b, off + k * 3 + 1, none⟩ = some (.int .i64 y.2.1) ∧ w'.cell? ⟨b, off + k * 3 + 2, none⟩ = some (.int .i64 y.2.2))
          (first | exact ⟨(Below.refl _ _).drew, HC.out _ (Below.refl _ _).drew⟩ | exact ‹Below wr.heap.size wr _ ∧ _› | (have hh := (‹Below wr.heap.size wr _ ∧ _›).1; exact ⟨hh.alloc hh.size _, HC.out _ (hh.alloc hh.size _)⟩) | exact ⟨((Below.refl _ _).alloc (Nat.le_refl _) _).drew, HC.out _ ((Below.refl _ _).alloc (Nat.le_refl _) _).drew⟩)
          (first
            | (go_at_call 38; (with_reducible refine (H1.out _).mono ?_); rintro e wq ⟨rfl, rfl⟩)
            | (go_at_call 38; (with_reducible refine (H2.out _).mono ?_); rintro e wq ⟨rfl, rfl⟩)
            | (go_at_call 38; (with_reducible refine (H3.out _).mono ?_); rintro e wq ⟨rfl, rfl⟩))
        all_goals exact ⟨rfl, rfl, rfl⟩
      · go_upto_region 9 with (fail)
        have hB2 : Below w.heap.size w (wr.alloc (.cells #[.int .i64 p1, .int .i64 p2, .int .i64 (at1 + 2), .int .i64 (at1 + 8 + p3 - 2), .int .i64 at1, .int .i64 (at1 + 8 + p3)] 30)).drew := (hBr.alloc hBr.size _).drew
        have hown2 : (wr.alloc (.cells #[.int .i64 p1, .int .i64 p2, .int .i64 (at1 + 2), .int .i64 (at1 + 8 + p3 - 2), .int .i64 at1, .int .i64 (at1 + 8 + p3)] 30)).drew.ownsRow w.heap.size 30 6 u3 (passesK x k).length (flat passCs (passesK x k)) := owned_below hown ((Below.refl _ _).alloc (Nat.le_refl _) _).drew
        have kb : Blk (wr.alloc (.cells #[.int .i64 p1, .int .i64 p2, .int .i64 (at1 + 2), .int .i64 (at1 + 8 + p3 - 2), .int .i64 at1, .int .i64 (at1 + 8 + p3)] 30)).drew wr.heap.size #[.int .i64 p1, .int .i64 p2, .int .i64 (at1 + 2), .int .i64 (at1 + 8 + p3 - 2), .int .i64 at1, .int .i64 (at1 + 8 + p3)] 30 := Blk.new wr _ _
        generalize (wr.alloc (.cells #[.int .i64 p1, .int .i64 p2, .int .i64 (at1 + 2), .int .i64 (at1 + 8 + p3 - 2), .int .i64 at1, .int .i64 (at1 + 8 + p3)] 30)).drew = V at hB2 hown2 kb ⊢
        have d0 := kb.cell 0
        have d1 := kb.cell 1
        have d2 := kb.cell 2
        have d3 := kb.cell 3
        have d4 := kb.cell 4
        have d5 := kb.cell 5
        simp at d0 d1 d2 d3 d4 d5
        rw [HPL.out] at hown2
        clear kb hown HC
        go_wp2_with (at_builtin; refine wpList_pushN E32 rfl _ _ rfl w.heap.size hown2 rfl rfl rfl (by intro u hu; simp at hu; rcases hu with rfl | rfl | rfl | rfl | rfl | rfl <;> rfl) (by unfold maxLen; omega) (by omega) hB2.size ?_; intro v' w3 hown' hgrow hb1)
        go_roundw
        case rel => exact ⟨k + 1, by omega, by go_num, by rw [← HAE.out], by
          unfold OwnP
          rw [HPS.out, List.length_append, HPL.out]
          rw [show flat passCs (passesK x k ++ [⟨p1, p2, at1 + 2, at1 + 8 + p3 - 2, at1, at1 + 8 + p3⟩]) = flat passCs (passesK x k) ++ passCs ⟨p1, p2, at1 + 2, at1 + 8 + p3 - 2, at1, at1 + 8 + p3⟩ by unfold flat; simp]
          exact hown', hB2.trans hb1⟩
        case measure => simp [intOf]; omega
    · obtain rfl : k = m := by omega
      have HD : Hid (decide ((k : Int) < (x.length : Int)) = decide (k < x.length)) := by show _ = _; congr 1; exact propext ⟨fun h => by omega, fun h => by omega⟩
      by_cases h1 : k < x.length
      · have h2 : ¬ k < 12 := by omega
        have e2 : decide ((k : Int) < 12) = false := decide_eq_false (by omega)
        go_wp2
        go_ret
        exact ⟨_, rfl, hown, hBr⟩
      · have e2 : decide (k < x.length) = false := decide_eq_false h1
        go_wp2
        go_ret
        exact ⟨_, rfl, hown, hBr⟩
end Go.Proofs.Ytmajkagmcdlncaa
