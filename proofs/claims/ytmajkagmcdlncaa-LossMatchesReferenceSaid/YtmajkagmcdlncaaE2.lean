/- package nadirref18: Option. -/
import Derived.Test.YtmajkagmcdlncaaE1
namespace Go.Proofs.Ytmajkagmcdlncaa
open Go.RowKit
open L18 (Pass Slot noPass noSlot pickV pickV_bd optK optStep optV optK_succ)

theorem E26 : ElemOK Try.prog 26 63 (.agg #[.int .i64 0, .int .i64 0, .int .i64 0]) 3 24 := ⟨Try.underlying26, by kernel_rfl, rfl, by decide⟩
def slotCs (s : Slot) : List Value := [.int .i64 s.pass, .int .i64 s.fr, .int .i64 s.to]
/-- An own row of slots. -/
def OwnS (W : World) (B : Nat) (v : Value) (l : List Slot) : Prop := W.ownsRow B 63 3 v l.length (flat slotCs l)
theorem OwnS.slots {W : World} {B : Nat} {v : Value} {l : List Slot} (h : OwnS W B v l) : SlotsAt W v l := owned_structs (f := slotCs) (fun _ => rfl) h (fun _ _ => rfl)
theorem OwnS.len {W : World} {B : Nat} {v : Value} {l : List Slot} (h : OwnS W B v l) : ∃ (a : Option Addr) (cap : Nat), v = .slice a l.length cap ∧ l.length ≤ cap ∧ cap ≤ maxLen := owned_len h
abbrev oC (id : Int) (vs : Value) : Array Value := #[.int .i64 id, .int .i64 0, .int .i64 0, .int .i64 0, .int .i64 0, .int .i64 0, .int .i64 0, .int .i64 1, vs]
abbrev oZ : Array Value := #[.int .i64 0, .int .i64 0, .int .i64 0, .int .i64 0, .int .i64 0, .int .i64 0, .int .i64 0, .int .i64 0, .slice none 0 0]
def SureOK (l : List Pass) : Prop := ∀ n, n < l.length → 0 ≤ (l.getD n noPass).sf ∧ (l.getD n noPass).sf < (l.getD n noPass).su ∧ (l.getD n noPass).su ≤ 10000
theorem optK_bd {l : List Pass} (hl : 0 < l.length) (hs : SureOK l) (x : List Int) : ∀ k, k ≤ x.length → 0 ≤ (optK l x k).2 ∧ (optK l x k).2 ≤ 10000
  | 0, _ => by simp [optK]
  | k + 1, h => by
    have ih := optK_bd hl hs x k (by omega)
    rw [optK_succ (by omega)]
    have hp := pickV_bd (x.getD k 0) (n := (l.length : Int)) (by omega)
    have h1 := hs (pickV (x.getD k 0) l.length).toNat (by omega)
    unfold optStep
    generalize optK l x k = st at ih
    have e : L18.passAt l (pickV (x.getD k 0) l.length) = l.getD (pickV (x.getD k 0) l.length).toNat noPass := rfl
    rw [e]
    generalize l.getD (pickV (x.getD k 0) l.length).toNat noPass = p at h1
    split
    · exact ih
    · split
      · simp only; omega
      · exact ih
theorem optK_full6 {l : List Pass} {x : List Int} {k : Nat} (h : 6 ≤ (optK l x k).1.length) (hk : k ≤ x.length) : optK l x x.length = optK l x k := L18.optK_full h x.length hk (Nat.le_refl _)
theorem optK_len6 {l : List Pass} (hl : 0 < l.length) (x : List Int) {k : Nat} (h : k ≤ x.length) : (optK l x k).1.length ≤ 6 := (L18.optK_ok hl x k h).2.1
def optHd (id : Int) : OptH := ⟨id, 0, 0, 0, 0, 0, 0, 1⟩
/-- What the option under construction is. -/
structure OAt (w W : World) (id : Int) (v : Value) (s : List Slot) : Prop where
  res : Blk W w.heap.size oZ 28
  obj : Blk W (w.heap.size + 1) (oC id v) 28
  row : OwnS W (w.heap.size + 2) v s
  below : Below w.heap.size w W
theorem OAt.size {w W : World} {id : Int} {v : Value} {s : List Slot} (h : OAt w W id v s) : w.heap.size + 2 ≤ W.heap.size := by have := h.obj.lt; omega
theorem OAt.stored {w W W' : World} {id : Int} {v v' : Value} {s s' : List Slot} (h : OAt w W id v s) (hb : Below (w.heap.size + 2) W W') (hown : OwnS W' (w.heap.size + 2) v' s') : OAt w (W'.setCell ⟨w.heap.size + 1, 8, none⟩ v') id v' s' where
  res := (h.res.below hb (by omega)).other _ (by simp)
  obj := by have := (h.obj.below hb (by omega)).set 8 v'; simpa using this
  row := owned_kept hown fun g hg => by
    obtain ⟨cur, -, h2⟩ := owned_block hown hg
    exact Below.heap_setCell _ _ _ _ (by simp; omega)
  below := (h.below.trans (hb.mono (by omega))).setCell (by simp) _
theorem OAt.fresh {w W : World} {id : Int} {v : Value} {s : List Slot} (h : OAt w W id v s) (q : Slot) :
    OAt w ((W.alloc (.cells #[.int .i64 q.pass, .int .i64 q.fr, .int .i64 q.to] 63)).setCell ⟨w.heap.size + 1, 8, none⟩ (.slice (some ⟨W.heap.size, 0, none⟩) 1 1)) id (.slice (some ⟨W.heap.size, 0, none⟩) 1 1) [q] :=
  h.stored (((Below.refl _ _).alloc (Nat.le_refl _) _).mono h.size) ⟨rfl, .inr ⟨W.heap.size, 1, #[.int .i64 q.pass, .int .i64 q.fr, .int .i64 q.to], rfl, h.size, Blk.newAt _ _ _ rfl, Nat.le_refl _, by unfold maxLen; decide, rfl, rfl⟩⟩
/-- The result's cells as they are filled. -/
structure FilA (w W : World) (cs : Array Value) (v : Value) (s : List Slot) : Prop where
  res : Blk W w.heap.size cs 28
  row : OwnS W (w.heap.size + 2) v s
  below : Below w.heap.size w W
theorem FilA.set {w W : World} {cs : Array Value} {v : Value} {s : List Slot} (h : FilA w W cs v s) (i : Nat) (u : Value) : FilA w (W.setCell ⟨w.heap.size, i, none⟩ u) (cs.setIfInBounds i u) v s where
  res := h.res.set i u
  row := owned_kept h.row fun g hg => by
    obtain ⟨cur, -, h2⟩ := owned_block h.row hg
    exact Below.heap_setCell _ _ _ _ (by simp; omega)
  below := h.below.setCell (Nat.le_refl _) u
theorem FilA.done {w W : World} {cs ds : Array Value} {v : Value} {s : List Slot} (e : cs = ds) (h : FilA w W cs v s) : Blk W.drew w.heap.size ds 28 ∧ OwnS W.drew (w.heap.size + 2) v s ∧ Below w.heap.size w W.drew := by
  subst e
  exact ⟨h.res, owned_below h.row (Below.refl _ _).drew, h.below.drew⟩
theorem fil_cells (id : Int) (v : Value) : (((((((((oZ.setIfInBounds 0 (.int .i64 id)).setIfInBounds 1 (.int .i64 0)).setIfInBounds 2 (.int .i64 0)).setIfInBounds 3 (.int .i64 0)).setIfInBounds 4 (.int .i64 0)).setIfInBounds 5 (.int .i64 0)).setIfInBounds 6 (.int .i64 0)).setIfInBounds 7 (.int .i64 1)).setIfInBounds 8 v) = oC id v := by simp [oZ, oC]
theorem OAt.filled {w W : World} {id : Int} {v : Value} {s : List Slot} (h : OAt w W id v s) :
    Blk ((((((((((W.setCell ⟨w.heap.size, 0, none⟩ (.int .i64 id)).setCell ⟨w.heap.size, 1, none⟩ (.int .i64 0)).setCell ⟨w.heap.size, 2, none⟩ (.int .i64 0)).setCell ⟨w.heap.size, 3, none⟩ (.int .i64 0)).setCell ⟨w.heap.size, 4, none⟩ (.int .i64 0)).setCell ⟨w.heap.size, 5, none⟩ (.int .i64 0)).setCell ⟨w.heap.size, 6, none⟩ (.int .i64 0)).setCell ⟨w.heap.size, 7, none⟩ (.int .i64 1)).setCell ⟨w.heap.size, 8, none⟩ v)).drew w.heap.size (oC id v) 28 ∧ OwnS ((((((((((W.setCell ⟨w.heap.size, 0, none⟩ (.int .i64 id)).setCell ⟨w.heap.size, 1, none⟩ (.int .i64 0)).setCell ⟨w.heap.size, 2, none⟩ (.int .i64 0)).setCell ⟨w.heap.size, 3, none⟩ (.int .i64 0)).setCell ⟨w.heap.size, 4, none⟩ (.int .i64 0)).setCell ⟨w.heap.size, 5, none⟩ (.int .i64 0)).setCell ⟨w.heap.size, 6, none⟩ (.int .i64 0)).setCell ⟨w.heap.size, 7, none⟩ (.int .i64 1)).setCell ⟨w.heap.size, 8, none⟩ v)).drew (w.heap.size + 2) v s ∧ Below w.heap.size w ((((((((((W.setCell ⟨w.heap.size, 0, none⟩ (.int .i64 id)).setCell ⟨w.heap.size, 1, none⟩ (.int .i64 0)).setCell ⟨w.heap.size, 2, none⟩ (.int .i64 0)).setCell ⟨w.heap.size, 3, none⟩ (.int .i64 0)).setCell ⟨w.heap.size, 4, none⟩ (.int .i64 0)).setCell ⟨w.heap.size, 5, none⟩ (.int .i64 0)).setCell ⟨w.heap.size, 6, none⟩ (.int .i64 0)).setCell ⟨w.heap.size, 7, none⟩ (.int .i64 1)).setCell ⟨w.heap.size, 8, none⟩ v)).drew := by
  have h0 : FilA w W oZ v s := ⟨h.res, h.row, h.below⟩
  exact FilA.done (fil_cells id v) (((((((((h0.set 0 (.int .i64 id)).set 1 (.int .i64 0)).set 2 (.int .i64 0)).set 3 (.int .i64 0)).set 4 (.int .i64 0)).set 5 (.int .i64 0)).set 6 (.int .i64 0)).set 7 (.int .i64 1)).set 8 v)
set_option maxRecDepth 100000 in
set_option maxHeartbeats 2000000 in
theorem option12o (id : Int) (vp vx : Value) (l : List Pass) (x : List Int) (w : World) (hp : PassesAt w vp l) (hv : IntsAt w vx x) (hs : SureOK l) (hx : ∀ y ∈ x, InR y) (hl : l.length ≤ 64) :
    Calls Try.prog 12 #[.int .i64 id, vp, vx] w fun e w' => (∃ vs, e = .returned (.tuple #[.agg (oC id vs), .bool (decide (0 < (optV l x).length))]) ∧ OwnS w' (w.heap.size + 2) vs (optV l x)) ∧ Below w.heap.size w w' := by
  have HV := Lib.hid hv
  have HP := Lib.hid hp
  have HX := Lib.hid hx
  have HS := Lib.hid hs
  obtain ⟨a, cap, rfl, hle, hcm⟩ := hv.len
  obtain ⟨pa, pc, rfl, ple, pcm⟩ := hp.len
  unfold maxLen at hcm pcm
  clear hv hx hp hs
  have hO0 : OAt w ((w.alloc (.cells oZ 28)).alloc (.cells (oC id (.slice none 0 0)) 28)) id (.slice none 0 0) [] :=
    ⟨(Blk.new w _ _).alloc _, Blk.newAt _ _ _ (by simp), World.ownsRow_nil _ _ _ _, ((Below.refl _ _).alloc (Nat.le_refl _) _).alloc (by simp) _⟩
  have HO0 := Lib.hid hO0
  clear hO0
  by_cases hl0 : 0 < l.length
  · go_enter Try.func12, Try.ntmps12
    go_wp2
    have hO := HO0.out
    generalize (w.alloc (.cells oZ 28)).alloc (.cells (oC id (.slice none 0 0)) 28) = V at hO ⊢
    go_loopw [9, 10, 11, 12] (fun u9 u10 _ _ wr => ∃ k : Nat, k ≤ x.length ∧ u10 = .int .i64 k ∧ u9 = .int .i64 (optK l x k).2 ∧ ∃ v, OAt w wr id v (optK l x k).1) (fun _ u10 _ _ _ => (x.length - intOf u10).toNat)
    case atStart => exact ⟨0, by omega, rfl, rfl, _, hO⟩
    case round =>
      obtain ⟨k, hk, rfl, rfl, v8, hA⟩ := hrel
      clear hO HO0
      have HA := Lib.hid hA
      have hbd := optK_bd hl0 HS.out x k hk
      have hl6 := optK_len6 hl0 x hk
      obtain ⟨sa, sc, rfl, sl1, sl2⟩ := hA.row.len
      have k8 := hA.obj.cell 8
      have f8 := hA.obj.frozen 8
      simp at k8
      have hsz := hA.size
      clear hA
      have hl0d : decide ((0 : Int) < (l.length : Int)) = true := decide_eq_true (by omega)
      by_cases h6 : (optK l x k).1.length < 6
      · by_cases hkx : k < x.length
        · have HST := Lib.hid (optK_succ (l := l) hkx)
          unfold optStep at HST
          rw [if_neg (by omega)] at HST
          obtain ⟨b, off, rfl, c0⟩ := (HV.out.below HA.out.below).get (getD_some 0 hkx)
          have hxr := HX.out _ (L18.getD_mem 0 hkx)
          generalize x.getD k 0 = c at c0 hxr HST
          have hpb := pickV_bd c (n := (l.length : Int)) (by omega)
          have hpk := pick38 c (l.length : Int) wr hxr (by omega) (by omega)
          obtain ⟨pn, hpn⟩ : ∃ pn : Nat, pickV c l.length = pn := ⟨(pickV c l.length).toNat, by omega⟩
          rw [hpn] at hpk hpb HST
          have hpnl : pn < l.length := by omega
          have j1 : (0 : Int) ≤ (pn : Int) ∧ (pn : Int) < (l.length : Int) := by omega
          obtain ⟨b', off', rfl, -, -, p2, p3, -, -⟩ := (PassesAt.later HP.out HA.out.below).get (getD_some noPass hpnl)
          have hsf := HS.out pn hpnl
          have hpa : L18.passAt l (pn : Int) = l.getD pn noPass := rfl
          rw [hpa] at HST
          generalize l.getD pn noPass = p at p2 p3 hsf HST
          obtain ⟨st, hst⟩ : ∃ st, optK l x k = st := ⟨_, rfl⟩
          rw [hst] at HST HA hbd h6 k8 sl1 ⊢
          obtain ⟨sl, at0⟩ := st
          dsimp only at HST HA hbd h6 k8 sl1 ⊢
          obtain ⟨mx, hmx⟩ : ∃ m, max p.sf at0 = m := ⟨_, rfl⟩
          have hmx2 : (if p.sf < at0 then at0 else p.sf) = mx := by rw [← hmx, Int.max_def]; split <;> (try split) <;> omega
          have hmb : 0 ≤ mx ∧ mx ≤ 10000 := by omega
          rw [hmx] at HST
          have hw1 : IntKind.i64.wrap (mx + 1) = mx + 1 := wrapS _ (by omega) (by omega)
          have hb' : b' < wr.heap.size := World.block_lt_of_cell? _ _ p2
          clear hst hpa hxr hpn
          by_cases hfit : mx + 1 ≤ p.su
          · have d1 : decide (mx + 1 ≤ p.su) = true := decide_eq_true hfit
            have HS2 := Lib.hid (HST.out.trans (if_pos hfit))
            clear HST hfit
            go_upto_region 9 with (with_reducible (refine hpk.mono ?_); rintro e wq ⟨rfl, rfl⟩)
            have hrow := HA.out.row
            unfold OwnS at hrow
            go_wp2_with (at_builtin; refine wpList_pushN E26 rfl _ _ rfl (w.heap.size + 2) hrow rfl rfl rfl (by intro u hu; simp at hu; rcases hu with rfl | rfl | rfl <;> rfl) (by unfold maxLen; omega) (by omega) hsz ?_; intro v' w3 hown' hgrow hb1; obtain ⟨na, nc, rfl, hn1, hn2⟩ := owned_len hown'; have ko := (HA.out.obj.below hb1 (by omega)); have k8' := ko.cell 8; have f8' := ko.frozen 8; simp only [List.getElem?_toArray, List.getElem?_cons_succ, List.getElem?_cons_zero] at k8')
            have hA2 := HA.out.stored hb1 (s' := sl ++ [⟨pn, mx, mx + 1⟩]) (by unfold OwnS; rw [List.length_append, show flat slotCs (sl ++ [⟨(pn : Int), mx, mx + 1⟩]) = flat slotCs sl ++ slotCs ⟨(pn : Int), mx, mx + 1⟩ by unfold flat; simp]; exact hown')
            clear hrow hown' hgrow
            go_wp2
            go_roundw
            case rel => exact ⟨k + 1, by omega, by go_num, by rw [HS2.out], _, by rw [HS2.out]; exact hA2⟩
            case measure => simp [intOf]; omega
          · have d1 : decide (mx + 1 ≤ p.su) = false := decide_eq_false hfit
            have HS2 := Lib.hid (HST.out.trans (if_neg hfit))
            clear HST hfit
            go_wp2_with (with_reducible (refine hpk.mono ?_); rintro e wq ⟨rfl, rfl⟩)
            go_roundw
            case rel => exact ⟨k + 1, by omega, by go_num, by rw [HS2.out], _, by rw [HS2.out]; exact HA.out⟩
            case measure => simp [intOf]; omega
        · have hkx2 : k = x.length := by omega
          have HOV := Lib.hid (show optV l x = if (optK l x k).1 = [] then [⟨0, (L18.passAt l 0).sf, (L18.passAt l 0).sf + 1⟩] else (optK l x k).1 by unfold optV; rw [if_neg (fun h => by rw [h] at hl0; simp at hl0), ← hkx2])
          have hkxd : decide (k < x.length) = false := decide_eq_false hkx
          clear hkx2
          generalize (optK l x k).2 = at0
          generalize (optK l x k).1 = sl at HOV HA k8 h6 sl1 ⊢
          by_cases hs0 : sl.length = 0
          · have hs1 : sl = [] := List.eq_nil_of_length_eq_zero hs0
            have e1 : ((sl.length : Int) == 0) = true := beq_iff_eq.2 (by omega)
            obtain ⟨b', off', rfl, -, -, p2, -, -, -⟩ := (PassesAt.later HP.out HA.out.below).get (getD_some noPass hl0)
            have hsf := HS.out 0 hl0
            have HPA := Lib.hid (show (L18.passAt l 0).sf = (l.getD 0 noPass).sf from rfl)
            obtain ⟨sf0, hsf0⟩ : ∃ z, (l.getD 0 noPass).sf = z := ⟨_, rfl⟩
            rw [hsf0] at hsf p2 HPA
            have hw1 : IntKind.i64.wrap (sf0 + 1) = sf0 + 1 := wrapS _ (by omega) (by omega)
            have j1 : (0 : Int) < (l.length : Int) := by omega
            simp at p2
            have HA2 := HA.out.fresh ⟨0, sf0, sf0 + 1⟩
            clear hsf0
            have HS1 := Lib.hid hs1
            clear hs1
            have hs1 := HS1
            clear HS1
            have hn1 : ¬ w.heap.size + 1 = wr.heap.size := by omega
            have hn2 : ¬ wr.heap.size = w.heap.size + 1 := by omega
            have f8a : (wr.alloc (.cells #[.int .i64 0, .int .i64 sf0, .int .i64 (sf0 + 1)] 63)).frozen? ⟨w.heap.size + 1, 8, none⟩ = false := (HA.out.obj.alloc _).frozen 8
            have k8a : (wr.alloc (.cells #[.int .i64 0, .int .i64 sf0, .int .i64 (sf0 + 1)] 63)).cell? ⟨w.heap.size + 1, 8, none⟩ = some (.slice sa sl.length sc) := (HA.out.obj.alloc _).cell 8
            go_upto_region 14 with (fail)
            clear f8a k8a
            generalize ((wr.alloc (.cells #[.int .i64 0, .int .i64 sf0, .int .i64 (sf0 + 1)] 63)).setCell ⟨w.heap.size + 1, 8, none⟩ (.slice (some ⟨wr.heap.size, 0, none⟩) 1 1)) = V at HA2 ⊢
            have HA2 := Lib.hid HA2
            clear k8 f8
            have hA := HA2.out
            have kr := hA.res
            have ko := hA.obj
            have fr0 := kr.frozen
            have z0 := kr.cell 0
            have z1 := kr.cell 1
            have z2 := kr.cell 2
            have z3 := kr.cell 3
            have z4 := kr.cell 4
            have z5 := kr.cell 5
            have z6 := kr.cell 6
            have z7 := kr.cell 7
            have z8 := kr.cell 8
            have o0 := ko.cell 0
            have o1 := ko.cell 1
            have o2 := ko.cell 2
            have o3 := ko.cell 3
            have o4 := ko.cell 4
            have o5 := ko.cell 5
            have o6 := ko.cell 6
            have o7 := ko.cell 7
            have o8 := ko.cell 8
            simp at o0 o1 o2 o3 o4 o5 o6 o7 o8 z0 z1 z2 z3 z4 z5 z6 z7 z8
            have hF := hA.filled
            clear ko kr hA
            apply wp_one
            · go_region
              all_goals exact ⟨rfl, rfl, rfl⟩
            · obtain ⟨hF1, hF2, hF3⟩ := hF
              clear fr0 o0 o1 o2 o3 o4 o5 o6 o7 o8 z0 z1 z2 z3 z4 z5 z6 z7 z8
              generalize (((((((((V.setCell ⟨w.heap.size, 0, none⟩ (.int .i64 id)).setCell ⟨w.heap.size, 1, none⟩ (.int .i64 0)).setCell ⟨w.heap.size, 2, none⟩ (.int .i64 0)).setCell ⟨w.heap.size, 3, none⟩ (.int .i64 0)).setCell ⟨w.heap.size, 4, none⟩ (.int .i64 0)).setCell ⟨w.heap.size, 5, none⟩ (.int .i64 0)).setCell ⟨w.heap.size, 6, none⟩ (.int .i64 0)).setCell ⟨w.heap.size, 7, none⟩ (.int .i64 1)).setCell ⟨w.heap.size, 8, none⟩ (.slice (some ⟨wr.heap.size, 0, none⟩) 1 1)).drew = V at hF1 hF2 hF3 ⊢
              have z0 := hF1.cell 0
              have z1 := hF1.cell 1
              have z2 := hF1.cell 2
              have z3 := hF1.cell 3
              have z4 := hF1.cell 4
              have z5 := hF1.cell 5
              have z6 := hF1.cell 6
              have z7 := hF1.cell 7
              have z8 := hF1.cell 8
              simp at z0 z1 z2 z3 z4 z5 z6 z7 z8
              go_wp2
              refine bodyPost_ret (v := .tuple #[.agg #[.int .i64 id, .int .i64 0, .int .i64 0, .int .i64 0, .int .i64 0, .int .i64 0, .int .i64 0, .int .i64 1, (.slice (some ⟨wr.heap.size, 0, none⟩) 1 1)], .bool (decide (0 < ([⟨0, sf0, sf0 + 1⟩] : List Slot).length))]) (by simp [results, Try.results12, go_sem, z0, z1, z2, z3, z4, z5, z6, z7, z8]) rfl ⟨⟨_, by rw [HOV.out, if_pos hs1.out, HPA.out], by rw [HOV.out, if_pos hs1.out, HPA.out]; exact hF2⟩, hF3⟩
          · have e1 : ((sl.length : Int) == 0) = false := beq_eq_false_iff_ne.2 (by omega)
            go_upto_region 14 with (fail)
            have hA := HA.out
            have kr := hA.res
            have ko := hA.obj
            have fr0 := kr.frozen
            have z0 := kr.cell 0
            have z1 := kr.cell 1
            have z2 := kr.cell 2
            have z3 := kr.cell 3
            have z4 := kr.cell 4
            have z5 := kr.cell 5
            have z6 := kr.cell 6
            have z7 := kr.cell 7
            have z8 := kr.cell 8
            have o0 := ko.cell 0
            have o1 := ko.cell 1
            have o2 := ko.cell 2
            have o3 := ko.cell 3
            have o4 := ko.cell 4
            have o5 := ko.cell 5
            have o6 := ko.cell 6
            have o7 := ko.cell 7
            have o8 := ko.cell 8
            simp at o0 o1 o2 o3 o4 o5 o6 o7 o8 z0 z1 z2 z3 z4 z5 z6 z7 z8
            have hF := hA.filled
            clear ko kr hA f8
            apply wp_one
            · go_region
              all_goals exact ⟨rfl, rfl, rfl⟩
            · obtain ⟨hF1, hF2, hF3⟩ := hF
              clear fr0 o0 o1 o2 o3 o4 o5 o6 o7 o8 z0 z1 z2 z3 z4 z5 z6 z7 z8 k8
              generalize (((((((((wr.setCell ⟨w.heap.size, 0, none⟩ (.int .i64 id)).setCell ⟨w.heap.size, 1, none⟩ (.int .i64 0)).setCell ⟨w.heap.size, 2, none⟩ (.int .i64 0)).setCell ⟨w.heap.size, 3, none⟩ (.int .i64 0)).setCell ⟨w.heap.size, 4, none⟩ (.int .i64 0)).setCell ⟨w.heap.size, 5, none⟩ (.int .i64 0)).setCell ⟨w.heap.size, 6, none⟩ (.int .i64 0)).setCell ⟨w.heap.size, 7, none⟩ (.int .i64 1)).setCell ⟨w.heap.size, 8, none⟩ (.slice sa sl.length sc)).drew = V at hF1 hF2 hF3 ⊢
              have z0 := hF1.cell 0
              have z1 := hF1.cell 1
              have z2 := hF1.cell 2
              have z3 := hF1.cell 3
              have z4 := hF1.cell 4
              have z5 := hF1.cell 5
              have z6 := hF1.cell 6
              have z7 := hF1.cell 7
              have z8 := hF1.cell 8
              simp at z0 z1 z2 z3 z4 z5 z6 z7 z8
              go_wp2
              refine bodyPost_ret (v := .tuple #[.agg #[.int .i64 id, .int .i64 0, .int .i64 0, .int .i64 0, .int .i64 0, .int .i64 0, .int .i64 0, .int .i64 1, (.slice sa sl.length sc)], .bool (decide (0 < sl.length))]) (by simp [results, Try.results12, go_sem, z0, z1, z2, z3, z4, z5, z6, z7, z8]) rfl ⟨⟨_, by rw [HOV.out, if_neg (fun h => hs0 (by rw [h]; rfl))], by rw [HOV.out, if_neg (fun h => hs0 (by rw [h]; rfl))]; exact hF2⟩, hF3⟩
      · have HOV := Lib.hid (show optV l x = (optK l x k).1 by unfold optV; rw [if_neg (fun h => by rw [h] at hl0; simp at hl0), optK_full6 (by omega) hk, if_neg (fun h => by rw [h] at h6; simp at h6)])
        generalize (optK l x k).2 = at0
        generalize (optK l x k).1 = sl at HOV HA k8 h6 sl1 ⊢
        have e1 : ((sl.length : Int) == 0) = false := beq_eq_false_iff_ne.2 (by omega)
        by_cases hkx : k < x.length
        · have hkxd : decide (k < x.length) = true := decide_eq_true hkx
          go_upto_region 14 with (fail)
          have hA := HA.out
          have kr := hA.res
          have ko := hA.obj
          have fr0 := kr.frozen
          have z0 := kr.cell 0
          have z1 := kr.cell 1
          have z2 := kr.cell 2
          have z3 := kr.cell 3
          have z4 := kr.cell 4
          have z5 := kr.cell 5
          have z6 := kr.cell 6
          have z7 := kr.cell 7
          have z8 := kr.cell 8
          have o0 := ko.cell 0
          have o1 := ko.cell 1
          have o2 := ko.cell 2
          have o3 := ko.cell 3
          have o4 := ko.cell 4
          have o5 := ko.cell 5
          have o6 := ko.cell 6
          have o7 := ko.cell 7
          have o8 := ko.cell 8
          simp at o0 o1 o2 o3 o4 o5 o6 o7 o8 z0 z1 z2 z3 z4 z5 z6 z7 z8
          have hF := hA.filled
          clear ko kr hA f8
          apply wp_one
          · go_region
            all_goals exact ⟨rfl, rfl, rfl⟩
          · obtain ⟨hF1, hF2, hF3⟩ := hF
            clear fr0 o0 o1 o2 o3 o4 o5 o6 o7 o8 z0 z1 z2 z3 z4 z5 z6 z7 z8 k8
            generalize (((((((((wr.setCell ⟨w.heap.size, 0, none⟩ (.int .i64 id)).setCell ⟨w.heap.size, 1, none⟩ (.int .i64 0)).setCell ⟨w.heap.size, 2, none⟩ (.int .i64 0)).setCell ⟨w.heap.size, 3, none⟩ (.int .i64 0)).setCell ⟨w.heap.size, 4, none⟩ (.int .i64 0)).setCell ⟨w.heap.size, 5, none⟩ (.int .i64 0)).setCell ⟨w.heap.size, 6, none⟩ (.int .i64 0)).setCell ⟨w.heap.size, 7, none⟩ (.int .i64 1)).setCell ⟨w.heap.size, 8, none⟩ (.slice sa sl.length sc)).drew = V at hF1 hF2 hF3 ⊢
            have z0 := hF1.cell 0
            have z1 := hF1.cell 1
            have z2 := hF1.cell 2
            have z3 := hF1.cell 3
            have z4 := hF1.cell 4
            have z5 := hF1.cell 5
            have z6 := hF1.cell 6
            have z7 := hF1.cell 7
            have z8 := hF1.cell 8
            simp at z0 z1 z2 z3 z4 z5 z6 z7 z8
            go_wp2
            refine bodyPost_ret (v := .tuple #[.agg #[.int .i64 id, .int .i64 0, .int .i64 0, .int .i64 0, .int .i64 0, .int .i64 0, .int .i64 0, .int .i64 1, (.slice sa sl.length sc)], .bool (decide (0 < sl.length))]) (by simp [results, Try.results12, go_sem, z0, z1, z2, z3, z4, z5, z6, z7, z8]) rfl ⟨⟨_, by rw [HOV.out], by rw [HOV.out]; exact hF2⟩, hF3⟩
        · have hkxd : decide (k < x.length) = false := decide_eq_false hkx
          go_upto_region 14 with (fail)
          have hA := HA.out
          have kr := hA.res
          have ko := hA.obj
          have fr0 := kr.frozen
          have z0 := kr.cell 0
          have z1 := kr.cell 1
          have z2 := kr.cell 2
          have z3 := kr.cell 3
          have z4 := kr.cell 4
          have z5 := kr.cell 5
          have z6 := kr.cell 6
          have z7 := kr.cell 7
          have z8 := kr.cell 8
          have o0 := ko.cell 0
          have o1 := ko.cell 1
          have o2 := ko.cell 2
          have o3 := ko.cell 3
          have o4 := ko.cell 4
          have o5 := ko.cell 5
          have o6 := ko.cell 6
          have o7 := ko.cell 7
          have o8 := ko.cell 8
          simp at o0 o1 o2 o3 o4 o5 o6 o7 o8 z0 z1 z2 z3 z4 z5 z6 z7 z8
          have hF := hA.filled
          clear ko kr hA f8
          apply wp_one
          · go_region
            all_goals exact ⟨rfl, rfl, rfl⟩
          · obtain ⟨hF1, hF2, hF3⟩ := hF
            clear fr0 o0 o1 o2 o3 o4 o5 o6 o7 o8 z0 z1 z2 z3 z4 z5 z6 z7 z8 k8
            generalize (((((((((wr.setCell ⟨w.heap.size, 0, none⟩ (.int .i64 id)).setCell ⟨w.heap.size, 1, none⟩ (.int .i64 0)).setCell ⟨w.heap.size, 2, none⟩ (.int .i64 0)).setCell ⟨w.heap.size, 3, none⟩ (.int .i64 0)).setCell ⟨w.heap.size, 4, none⟩ (.int .i64 0)).setCell ⟨w.heap.size, 5, none⟩ (.int .i64 0)).setCell ⟨w.heap.size, 6, none⟩ (.int .i64 0)).setCell ⟨w.heap.size, 7, none⟩ (.int .i64 1)).setCell ⟨w.heap.size, 8, none⟩ (.slice sa sl.length sc)).drew = V at hF1 hF2 hF3 ⊢
            have z0 := hF1.cell 0
            have z1 := hF1.cell 1
            have z2 := hF1.cell 2
            have z3 := hF1.cell 3
            have z4 := hF1.cell 4
            have z5 := hF1.cell 5
            have z6 := hF1.cell 6
            have z7 := hF1.cell 7
            have z8 := hF1.cell 8
            simp at z0 z1 z2 z3 z4 z5 z6 z7 z8
            go_wp2
            refine bodyPost_ret (v := .tuple #[.agg #[.int .i64 id, .int .i64 0, .int .i64 0, .int .i64 0, .int .i64 0, .int .i64 0, .int .i64 0, .int .i64 1, (.slice sa sl.length sc)], .bool (decide (0 < sl.length))]) (by simp [results, Try.results12, go_sem, z0, z1, z2, z3, z4, z5, z6, z7, z8]) rfl ⟨⟨_, by rw [HOV.out], by rw [HOV.out]; exact hF2⟩, hF3⟩
  · have hln : l = [] := List.eq_nil_of_length_eq_zero (by omega)
    have HOV := Lib.hid (show optV l x = [] by unfold optV; rw [if_pos hln])
    have hl00 : l.length = 0 := by omega
    rw [hl00]
    clear hln hl00
    go_enter Try.func12, Try.ntmps12
    go_wp2
    have hO := HO0.out
    generalize (w.alloc (.cells oZ 28)).alloc (.cells (oC id (.slice none 0 0)) 28) = V at hO ⊢
    go_loopw [9, 10, 11, 12] (fun u9 u10 _ _ wr => u10 = .int .i64 0 ∧ OAt w wr id (.slice none 0 0) []) (fun _ u10 _ _ _ => 0)
    case atStart => exact ⟨rfl, hO⟩
    case round =>
      obtain ⟨rfl, hA⟩ := hrel
      clear hO HO0
      have HA := Lib.hid hA
      have k8 := hA.obj.cell 8
      simp at k8
      clear hA
      by_cases hkx : 0 < x.length
      · have hkxd : decide (0 < x.length) = true := decide_eq_true hkx
        go_upto_region 14 with (fail)
        have hA := HA.out
        have kr := hA.res
        have ko := hA.obj
        have fr0 := kr.frozen
        have z0 := kr.cell 0
        have z1 := kr.cell 1
        have z2 := kr.cell 2
        have z3 := kr.cell 3
        have z4 := kr.cell 4
        have z5 := kr.cell 5
        have z6 := kr.cell 6
        have z7 := kr.cell 7
        have z8 := kr.cell 8
        have o0 := ko.cell 0
        have o1 := ko.cell 1
        have o2 := ko.cell 2
        have o3 := ko.cell 3
        have o4 := ko.cell 4
        have o5 := ko.cell 5
        have o6 := ko.cell 6
        have o7 := ko.cell 7
        have o8 := ko.cell 8
        simp at o0 o1 o2 o3 o4 o5 o6 o7 o8 z0 z1 z2 z3 z4 z5 z6 z7 z8
        have hF := hA.filled
        clear ko kr hA
        apply wp_one
        · go_region
          all_goals exact ⟨rfl, rfl, rfl⟩
        · obtain ⟨hF1, hF2, hF3⟩ := hF
          clear fr0 o0 o1 o2 o3 o4 o5 o6 o7 o8 z0 z1 z2 z3 z4 z5 z6 z7 z8
          generalize (((((((((wr.setCell ⟨w.heap.size, 0, none⟩ (.int .i64 id)).setCell ⟨w.heap.size, 1, none⟩ (.int .i64 0)).setCell ⟨w.heap.size, 2, none⟩ (.int .i64 0)).setCell ⟨w.heap.size, 3, none⟩ (.int .i64 0)).setCell ⟨w.heap.size, 4, none⟩ (.int .i64 0)).setCell ⟨w.heap.size, 5, none⟩ (.int .i64 0)).setCell ⟨w.heap.size, 6, none⟩ (.int .i64 0)).setCell ⟨w.heap.size, 7, none⟩ (.int .i64 1)).setCell ⟨w.heap.size, 8, none⟩ (.slice none 0 0)).drew = V at hF1 hF2 hF3 ⊢
          have z0 := hF1.cell 0
          have z1 := hF1.cell 1
          have z2 := hF1.cell 2
          have z3 := hF1.cell 3
          have z4 := hF1.cell 4
          have z5 := hF1.cell 5
          have z6 := hF1.cell 6
          have z7 := hF1.cell 7
          have z8 := hF1.cell 8
          simp at z0 z1 z2 z3 z4 z5 z6 z7 z8
          go_wp2
          refine bodyPost_ret (v := .tuple #[.agg #[.int .i64 id, .int .i64 0, .int .i64 0, .int .i64 0, .int .i64 0, .int .i64 0, .int .i64 0, .int .i64 1, (.slice none 0 0)], .bool (decide (0 < ([] : List Slot).length))]) (by simp [results, Try.results12, go_sem, z0, z1, z2, z3, z4, z5, z6, z7, z8]) rfl ⟨⟨_, by rw [HOV.out], by rw [HOV.out]; exact hF2⟩, hF3⟩
      · have hkxd : decide (0 < x.length) = false := decide_eq_false hkx
        go_upto_region 14 with (fail)
        have hA := HA.out
        have kr := hA.res
        have ko := hA.obj
        have fr0 := kr.frozen
        have z0 := kr.cell 0
        have z1 := kr.cell 1
        have z2 := kr.cell 2
        have z3 := kr.cell 3
        have z4 := kr.cell 4
        have z5 := kr.cell 5
        have z6 := kr.cell 6
        have z7 := kr.cell 7
        have z8 := kr.cell 8
        have o0 := ko.cell 0
        have o1 := ko.cell 1
        have o2 := ko.cell 2
        have o3 := ko.cell 3
        have o4 := ko.cell 4
        have o5 := ko.cell 5
        have o6 := ko.cell 6
        have o7 := ko.cell 7
        have o8 := ko.cell 8
        simp at o0 o1 o2 o3 o4 o5 o6 o7 o8 z0 z1 z2 z3 z4 z5 z6 z7 z8
        have hF := hA.filled
        clear ko kr hA
        apply wp_one
        · go_region
          all_goals exact ⟨rfl, rfl, rfl⟩
        · obtain ⟨hF1, hF2, hF3⟩ := hF
          clear fr0 o0 o1 o2 o3 o4 o5 o6 o7 o8 z0 z1 z2 z3 z4 z5 z6 z7 z8
          generalize (((((((((wr.setCell ⟨w.heap.size, 0, none⟩ (.int .i64 id)).setCell ⟨w.heap.size, 1, none⟩ (.int .i64 0)).setCell ⟨w.heap.size, 2, none⟩ (.int .i64 0)).setCell ⟨w.heap.size, 3, none⟩ (.int .i64 0)).setCell ⟨w.heap.size, 4, none⟩ (.int .i64 0)).setCell ⟨w.heap.size, 5, none⟩ (.int .i64 0)).setCell ⟨w.heap.size, 6, none⟩ (.int .i64 0)).setCell ⟨w.heap.size, 7, none⟩ (.int .i64 1)).setCell ⟨w.heap.size, 8, none⟩ (.slice none 0 0)).drew = V at hF1 hF2 hF3 ⊢
          have z0 := hF1.cell 0
          have z1 := hF1.cell 1
          have z2 := hF1.cell 2
          have z3 := hF1.cell 3
          have z4 := hF1.cell 4
          have z5 := hF1.cell 5
          have z6 := hF1.cell 6
          have z7 := hF1.cell 7
          have z8 := hF1.cell 8
          simp at z0 z1 z2 z3 z4 z5 z6 z7 z8
          go_wp2
          refine bodyPost_ret (v := .tuple #[.agg #[.int .i64 id, .int .i64 0, .int .i64 0, .int .i64 0, .int .i64 0, .int .i64 0, .int .i64 0, .int .i64 1, (.slice none 0 0)], .bool (decide (0 < ([] : List Slot).length))]) (by simp [results, Try.results12, go_sem, z0, z1, z2, z3, z4, z5, z6, z7, z8]) rfl ⟨⟨_, by rw [HOV.out], by rw [HOV.out]; exact hF2⟩, hF3⟩
theorem option12 (id : Int) (vp vx : Value) (l : List Pass) (x : List Int) (w : World) (hp : PassesAt w vp l) (hv : IntsAt w vx x) (hs : SureOK l) (hx : ∀ y ∈ x, InR y) (hl : l.length ≤ 64) :
    Calls Try.prog 12 #[.int .i64 id, vp, vx] w fun e w' => (∃ v', e = .returned (.tuple #[v', .bool (decide (0 < (optV l x).length))]) ∧ OptV w' v' ⟨optHd id, optV l x⟩) ∧ Below w.heap.size w w' := by
  refine (option12o id vp vx l x w hp hv hs hx hl).mono ?_
  rintro e w' ⟨⟨vs, rfl, h⟩, hb⟩
  exact ⟨⟨_, rfl, vs, rfl, h.slots⟩, hb⟩
end Go.Proofs.Ytmajkagmcdlncaa
