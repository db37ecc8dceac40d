/- package disk: Crash. -/
import Derived.Test.YtfmdpmcniccioaaPlain2
namespace Go.Proofs.Ytfmdpmcniccioaa
open Go.RowKit Go.Shelf Lib

theorem crash_nil (vk : Value) (torn : Int) (w : World) : Calls Try.prog 25 #[.pointer none, vk, .int .i64 torn] w fun e w' => e = .returned (.int .i64 1) ∧ Below w.heap.size w w' := by
  go_enter Try.func25, Try.ntmps25
  go_wp2
  go_ret
  exact ⟨rfl, (Below.refl _ _).alloc (Nat.le_refl _) _⟩
/-- Only the durable content has been written. -/
theorem DiskAt.durSet {W W' : World} {B bD bV : Nat} {vp : Value} {n : Nat} {D : DiskD} {x : List UInt8} (h : DiskAt W B bD bV vp n D) (hx : Blk W' bD (bcs x).toArray 5) (hf : Frm (fun k => k = bD) W W') : DiskAt W' B bD bV vp n { D with dur := x } :=
  ⟨h.box.frm hf h.neD, hx, h.vis.frm hf h.ne.symm, owned_kept h.pen (fun g hg => hf.block g (h.pen.lt g hg).2 (h.neP g hg).2.1), h.ne⟩
theorem DiskAt.pendCell {W : World} {B bD bV : Nat} {pa : Option Addr} {m c n : Nat} {D : DiskD} (h : DiskAt W B bD bV (.slice pa m c) n D) {i : Nat} (hi : i < D.pend.length) :
    ∃ pg, pa = some ⟨pg, 0, none⟩ ∧ W.cell? ⟨pg, i * 2, none⟩ = some (.int .i64 ((D.pend.getD i dW).off : Nat)) ∧ W.cell? ⟨pg, i * 2 + 1, none⟩ = some (.string (D.pend.getD i dW).s) := by
  obtain ⟨h1, h2⟩ := wcs_get (getD_some dW hi)
  rcases h.pen.2 with ⟨-, h0⟩ | ⟨g, cap, cur, e, -⟩
  · omega
  · cases e
    have a := h.pen.cells rfl _ _ h1
    have b := h.pen.cells rfl _ _ h2
    rw [add_zero_off] at a b
    exact ⟨g, rfl, a, b⟩
set_option maxRecDepth 100000 in
set_option maxHeartbeats 2000000 in
theorem crash_any {w : World} {B bD bV : Nat} {vp : Value} {n : Nat} {D : DiskD} (h : DiskAt w B bD bV vp n D) (hI : Inv n D) (vk : Value) (kl : List Int) (hk : IntsAt w vk kl) (hks : kl.length ≤ 1000) (torn : Int) :
    Calls Try.prog 25 #[.pointer (some ⟨B, 0, none⟩), vk, .int .i64 torn] w fun e w' => ∃ vp', e = .returned (.int .i64 0) ∧ DiskAt w' B bD bV vp' n (crashD D kl torn) ∧ vp'.ownBlock = vp.ownBlock ∧ Frm (Foot B bD bV vp) w w' := by
  obtain ⟨ka, kc, rfl, hk1, hk2⟩ := hk.len
  have hA1 : Below w.heap.size w (w.alloc (.cells #[.pointer (some ⟨B, 0, none⟩)] 23)) := (Below.refl _ _).alloc (Nat.le_refl _) _
  have kC := Blk.new w #[.pointer (some ⟨B, 0, none⟩)] 23
  have hA2 : Below w.heap.size w ((w.alloc (.cells #[.pointer (some ⟨B, 0, none⟩)] 23)).alloc (.cells #[.slice ka kl.length kc] 37)) := hA1.alloc (by simp) _
  have hv := values_made ka kl.length kc (w.alloc (.cells #[.pointer (some ⟨B, 0, none⟩)] 23))
  have hso := sorted_values (w.heap.size + 1) kl w ((w.alloc (.cells #[.pointer (some ⟨B, 0, none⟩)] 23)).alloc (.cells #[.slice ka kl.length kc] 37)) (.slice ka kl.length kc) hk hA2 hks ⟨_, _, Blk.newAt _ _ _ (by simp)⟩
  have kC2 := kC.alloc (.cells #[.slice ka kl.length kc] 37)
  have h2 := h.below hA2
  have hz2 : ((w.alloc (.cells #[.pointer (some ⟨B, 0, none⟩)] 23)).alloc (.cells #[.slice ka kl.length kc] 37)).heap.size = w.heap.size + 2 := by simp
  have hsl : (sortI kl).length ≤ 1000 := by simp [sortI]; exact hks
  have H := Lib.hid h
  have HI := Lib.hid hI
  have HSL := Lib.hid hsl
  clear h hI hk hA1 kC hsl
  go_enter Try.func25, Try.ntmps25
  go_wp2_with fail
  refine hv.mono ?_
  rintro e w' ⟨rfl, rfl⟩
  clear hv
  generalize (w.alloc (.cells #[.pointer (some ⟨B, 0, none⟩)] 23)).alloc (.cells #[.slice ka kl.length kc] 37) = W1 at *
  go_wp2_with fail
  refine hso.mono ?_
  rintro e w2 ⟨v2, rfl, hown2, hB2⟩
  clear hso
  have hcp := compact_own hown2 hB2.size HSL.out
  clear hown2
  go_wp2_with fail
  refine hcp.mono ?_
  rintro e w3 ⟨v3, rfl, hown3, hB3⟩
  clear hcp
  have hB13 := hB2.trans hB3
  have h3 := h2.below hB13
  have kC3 := kC2.below hB13 kC2.lt
  obtain ⟨pa, pc, rfl, hp1, hp2⟩ := owned_len h3.pen
  have i4 := h3.box.cell 4
  unfold dkc at i4
  have c0 := kC3.cell 0
  simp only [List.getElem?_toArray, List.getElem?_cons_succ, List.getElem?_cons_zero] at i4 c0
  have hcl := Lib.compact_length_le (sortI kl)
  have hde := deleteFunc_any (C := w.heap.size) (B := B) (m := D.pend.length) ⟨hown3, c0, pa, pc, i4⟩ hB13.size (by omega) (by have := H.out.box.lt; omega) (by have := HSL.out; omega)
  unfold cF at hde
  have hmf : ∀ (fn : Fn) (first cap : Array Value) (w : World), (Instr.makeFunc fn first cap).run Try.prog w = .ok (.func fn first cap) w := fun _ _ _ _ => rfl
  clear hown3 i4 c0 hcl h2 kC2
  go_wp2_with fail
  refine hde.mono ?_
  rintro e w4 ⟨v4, rfl, hown4, hB4⟩
  have hord : inL D.pend.length (Lib.compact (sortI kl)) = (keptI D.pend.length kl).map fun i : Nat => (i : Int) := ordI_eq _ _
  rw [hord, List.length_map, List.map_map] at hown4
  have hB34 : Below w3.heap.size w3 w4 → True := fun _ => trivial
  have h4 : DiskAt w4 B bD bV (.slice pa D.pend.length pc) n D := h3.frm (F := fun k => W1.heap.size ≤ k) ⟨hB4.os, hB4.tape, hB4.output, hB4.size, fun k _ hk => hB4.block k (by omega)⟩ (fun k hk => by have := H.out.lt k hk; omega)
  have kC4 : Blk w4 w.heap.size #[.pointer (some ⟨B, 0, none⟩)] 23 := (hB4.block _ (by omega)).trans kC3
  have hfw : Frm (Foot B bD bV (.slice pa D.pend.length pc)) w w4 := (Frm.of_below hA2).trans (Frm.of_below (F := Foot B bD bV (.slice pa D.pend.length pc)) (hB13.trans hB4)) (fun _ _ h => h)
  obtain ⟨oa, oc, rfl, ho1, ho2⟩ := owned_len hown4
  unfold maxLen at ho2
  have hlo := H.out.dur.lt
  have hcl : w.heap.size ≠ bD := by omega
  have hordc : ∀ k i, (keptI D.pend.length kl)[k]? = some i → ∃ g, oa = some (⟨g, 0, none⟩ : Addr) ∧ g ≠ bD ∧ w4.cell? ⟨g, k, none⟩ = some (.int .i64 (i : Nat)) := fun k i hki => by
    rcases hown4.2 with ⟨e, h0⟩ | ⟨g, cap, cur, e, hg, hgb, -⟩
    · rw [List.eq_nil_of_length_eq_zero h0] at hki; simp at hki
    · cases e
      have := hown4.cells rfl k (.int .i64 (i : Nat)) (by rw [List.getElem?_map, hki]; rfl)
      rw [add_zero_off] at this
      exact ⟨g, rfl, (show Blk w4 g cur 3 from hgb).ne h4.dur (by decide), this⟩
  have HO := Lib.hid hordc
  have hkl := keptI_len D.pend.length kl
  have hst := Lib.hid (fun k i (h : (keptI D.pend.length kl)[k]? = some i) => durK_succ (torn := torn) h)
  have hlt := Lib.hid (fun k i (h : (keptI D.pend.length kl)[k]? = some i) => (keptW_get h).2)
  have hall := Lib.hid (durK_all D kl torn)
  have HFW := Lib.hid hfw
  have hpm : D.pend.length ≤ 9223372036854775807 := by unfold maxLen at hp2; omega
  clear hde hmf hord hB34 hown4 hordc h3 hB2 hB3 hB4 hB13 hA2 kC3 hfw hz2
  generalize hks2 : keptI D.pend.length kl = ks at *
  go_wp2
  go_loopw [22] (fun u22 wr => ∃ k : Nat, k ≤ ks.length ∧ u22 = .int .i64 k ∧ DiskAt wr B bD bV (.slice pa D.pend.length pc) n { D with dur := durK D kl torn k } ∧ Frm (fun i => i = bD) w4 wr) (fun u22 _ => (ks.length - intOf u22).toNat)
  case atStart => exact ⟨0, by omega, rfl, h4, Frm.refl _ _⟩
  case round =>
    obtain ⟨k, hk, rfl, hDr, hfr⟩ := hrel
    rename World => wr
    have kCr := kC4.frm hfr hcl
    have c0 := kCr.cell 0
    simp only [List.getElem?_toArray, List.getElem?_cons_zero] at c0
    have lC := kCr.lt
    have lB := hDr.box.lt
    by_cases hkl2 : k < ks.length
    · have hki := List.getElem?_eq_getElem hkl2
      generalize ks[k] = i at hki
      obtain ⟨g, rfl, hgne, hoc⟩ := HO.out k i hki
      have hoc2 : wr.cell? ⟨g, k, none⟩ = some (.int .i64 (i : Nat)) := (World.cell?_of_block (w := w4) (a := ⟨g, k, none⟩) (hfr.block g (World.block_lt_of_cell? _ _ hoc) hgne)).trans hoc
      have hil := hlt.out k i hki
      obtain ⟨pg, rfl, q0, q1⟩ := hDr.pendCell hil
      have hfitw := HI.out.fit (D.pend.getD i dW) (by rw [List.getD_eq_getElem?_getD, List.getElem?_eq_getElem hil]; exact List.getElem_mem hil)
      have hdl := durK_len HI.out kl torn k
      have hstep := hst.out k i hki
      simp only at q0 q1
      generalize D.pend.getD i dW = y at q0 q1 hfitw hstep
      obtain ⟨o, s⟩ := y
      simp only at q0 q1 hfitw
      have i4 := hDr.box.cell 4
      unfold dkc at i4
      simp only [List.getElem?_toArray, List.getElem?_cons_succ, List.getElem?_cons_zero] at i4
      have hii : (0 : Int) ≤ (i : Int) ∧ (i : Int) < (D.pend.length : Int) := by omega
      have hki2 : (0 : Int) ≤ (k : Int) ∧ (k : Int) < (ks.length : Int) := by omega
      have hwk : IntKind.i64.wrap ((ks.length : Int) - 1) = (ks.length : Int) - 1 := by rw [IntKind.wrap_i64]; omega
      clear hoc hki hil
      by_cases hlast : k + 1 = ks.length
      · have q2 : ((k : Int) == (ks.length : Int) - 1) = true := beq_iff_eq.2 (by omega)
        rw [if_pos hlast] at hstep
        clear hlast
        by_cases ht : 0 ≤ torn
        · have q3 : decide (0 ≤ torn) = true := decide_eq_true ht
          obtain ⟨q, hq, hqm⟩ : ∃ q : Nat, (if (s.size : Int) < torn then (s.size : Int) else torn) = (q : Int) ∧ q = min torn.toNat s.size := ⟨min torn.toNat s.size, by rw [Nat.min_def]; split <;> split <;> omega, rfl⟩
          have hst2 : durK D kl torn (k + 1) = putB (durK D kl torn k) o (bts (s.extract 0 q)) := by rw [hstep]; unfold tornW; rw [if_pos ht, hqm]; rfl
          have HST := Lib.hid hst2
          have hqs : q ≤ s.size := by omega
          have hq' : min torn (s.size : Int) = (q : Int) := by omega
          have hqi : (0 : Int) ≤ (q : Int) ∧ (q : Int) ≤ (s.size : Int) := by omega
          have hfit : o + (s.extract 0 q).size ≤ n := by have := cutS_size s q hqs; unfold cutS at this; omega
          clear hstep hst2 hqm ht hfitw
          have hAa : Below wr.heap.size wr (wr.alloc (.cells #[.int .i64 (o : Nat), .string (s.extract 0 q)] 69)).drew := ((Below.refl _ _).alloc (Nat.le_refl _) _).drew
          have hDa := hDr.below hAa
          have hon := onto_any (n := n) hDa.dur hdl o (s.extract 0 q) hfit
          have HD := Lib.hid hDa
          have HFa : Hid (Frm (fun i => i = bD) w4 (wr.alloc (.cells #[.int .i64 (o : Nat), .string (s.extract 0 q)] 69)).drew) := (hfr.alloc _).drew
          have kA := Blk.new wr #[.int .i64 (o : Nat), .string (s.extract 0 q)] 69
          have kCa := kCr.alloc (.cells #[.int .i64 (o : Nat), .string (s.extract 0 q)] 69)
          have kBa := hDr.box.alloc (.cells #[.int .i64 (o : Nat), .string (s.extract 0 q)] 69)
          clear hDa hDr hfr hAa kCr
          go_wp2_with fail
          generalize wr.alloc (.cells #[.int .i64 (o : Nat), .string (s.extract 0 q)] 69) = W6 at *
          have a0 := kA.cell 0
          have a1 := kA.cell 1
          have c0 := kCa.cell 0
          have i2 := kBa.cell 2
          unfold dkc at i2
          simp only [List.getElem?_toArray, List.getElem?_cons_succ, List.getElem?_cons_zero] at a0 a1 c0 i2
          go_still_tail 5, (by kernel_rfl)
          change wpList _ _ _ _ _ W6.drew
          clear a0 a1 c0 i2 kA kCa kBa
          go_wp2_with fail
          refine hon.mono ?_
          rintro e w6 ⟨rfl, hx6, hf6⟩
          have h6 := HD.out.durSet hx6 hf6
          have HF6 := Lib.hid (HFa.out.trans hf6 (fun i _ e => e))
          have HG := Lib.hid h6
          clear hon hx6 hf6 h6 HD HFa
          go_wp2
          go_roundw
          case rel => exact ⟨k + 1, by omega, by go_num, by rw [HST.out]; exact HG.out, HF6.out⟩
          case measure => simp [intOf]; omega
        · have q3 : decide (0 ≤ torn) = false := decide_eq_false ht
          have hst2 : durK D kl torn (k + 1) = putB (durK D kl torn k) o (bts s) := by rw [hstep]; unfold tornW; rw [if_neg ht]; rfl
          have HST := Lib.hid hst2
          have hfit := hfitw
          clear hstep hst2 ht hfitw
          have hAa : Below wr.heap.size wr (wr.alloc (.cells #[.int .i64 (o : Nat), .string s] 69)).drew := ((Below.refl _ _).alloc (Nat.le_refl _) _).drew
          have hDa := hDr.below hAa
          have hon := onto_any (n := n) hDa.dur hdl o s hfit
          have HD := Lib.hid hDa
          have HFa : Hid (Frm (fun i => i = bD) w4 (wr.alloc (.cells #[.int .i64 (o : Nat), .string s] 69)).drew) := (hfr.alloc _).drew
          have kA := Blk.new wr #[.int .i64 (o : Nat), .string s] 69
          have kCa := kCr.alloc (.cells #[.int .i64 (o : Nat), .string s] 69)
          have kBa := hDr.box.alloc (.cells #[.int .i64 (o : Nat), .string s] 69)
          clear hDa hDr hfr hAa kCr
          go_wp2_with fail
          generalize wr.alloc (.cells #[.int .i64 (o : Nat), .string s] 69) = W6 at *
          have a0 := kA.cell 0
          have a1 := kA.cell 1
          have c0 := kCa.cell 0
          have i2 := kBa.cell 2
          unfold dkc at i2
          simp only [List.getElem?_toArray, List.getElem?_cons_succ, List.getElem?_cons_zero] at a0 a1 c0 i2
          go_still_tail 5, (by kernel_rfl)
          change wpList _ _ _ _ _ W6.drew
          clear a0 a1 c0 i2 kA kCa kBa
          go_wp2_with fail
          refine hon.mono ?_
          rintro e w6 ⟨rfl, hx6, hf6⟩
          have h6 := HD.out.durSet hx6 hf6
          have HF6 := Lib.hid (HFa.out.trans hf6 (fun i _ e => e))
          have HG := Lib.hid h6
          clear hon hx6 hf6 h6 HD HFa
          go_wp2
          go_roundw
          case rel => exact ⟨k + 1, by omega, by go_num, by rw [HST.out]; exact HG.out, HF6.out⟩
          case measure => simp [intOf]; omega
      · have q2 : ((k : Int) == (ks.length : Int) - 1) = false := beq_eq_false_iff_ne.2 (by omega)
        rw [if_neg hlast] at hstep
        have HST : Hid (durK D kl torn (k + 1) = putB (durK D kl torn k) o (bts s)) := hstep
        have hfit := hfitw
        clear hlast hstep hfitw
        have hAa : Below wr.heap.size wr (wr.alloc (.cells #[.int .i64 (o : Nat), .string s] 69)).drew := ((Below.refl _ _).alloc (Nat.le_refl _) _).drew
        have hDa := hDr.below hAa
        have hon := onto_any (n := n) hDa.dur hdl o s hfit
        have HD := Lib.hid hDa
        have HFa : Hid (Frm (fun i => i = bD) w4 (wr.alloc (.cells #[.int .i64 (o : Nat), .string s] 69)).drew) := (hfr.alloc _).drew
        have kA := Blk.new wr #[.int .i64 (o : Nat), .string s] 69
        have kCa := kCr.alloc (.cells #[.int .i64 (o : Nat), .string s] 69)
        have kBa := hDr.box.alloc (.cells #[.int .i64 (o : Nat), .string s] 69)
        clear hDa hDr hfr hAa kCr
        go_wp2_with fail
        generalize wr.alloc (.cells #[.int .i64 (o : Nat), .string s] 69) = W6 at *
        have a0 := kA.cell 0
        have a1 := kA.cell 1
        have c0 := kCa.cell 0
        have i2 := kBa.cell 2
        unfold dkc at i2
        simp only [List.getElem?_toArray, List.getElem?_cons_succ, List.getElem?_cons_zero] at a0 a1 c0 i2
        go_still_tail 5, (by kernel_rfl)
        change wpList _ _ _ _ _ W6.drew
        clear a0 a1 c0 i2 kA kCa kBa
        go_wp2_with fail
        refine hon.mono ?_
        rintro e w6 ⟨rfl, hx6, hf6⟩
        have h6 := HD.out.durSet hx6 hf6
        have HF6 := Lib.hid (HFa.out.trans hf6 (fun i _ e => e))
        have HG := Lib.hid h6
        clear hon hx6 hf6 h6 HD HFa
        go_wp2
        go_roundw
        case rel => exact ⟨k + 1, by omega, by go_num, by rw [HST.out]; exact HG.out, HF6.out⟩
        case measure => simp [intOf]; omega
    · obtain rfl : k = ks.length := by omega
      have hcd := durK_len HI.out kl torn ks.length
      rw [hall.out] at hDr hcd
      have hvl := HI.out.visLen
      have hse := settle_crash (D := { D with dur := crashB D kl torn }) (hDr.below (W' := wr.drew) (Below.refl _ _).drew) hcd hvl
      have i1 := hDr.box.cell 1
      have i2 := hDr.box.cell 2
      have i3 := hDr.box.cell 3
      unfold dkc at i1 i2 i3
      simp only [List.getElem?_toArray, List.getElem?_cons_succ, List.getElem?_cons_zero] at i1 i2 i3
      have HFR := Lib.hid (hfr.drew)
      have HKC := Lib.hid kCr
      have nCB : w.heap.size ≠ B := by have := H.out.box.lt; omega
      have nCV : w.heap.size ≠ bV := by have := H.out.vis.lt; omega
      have nCP : ∀ g, (Value.slice pa D.pend.length pc).ownBlock = some g → w.heap.size ≠ g := fun g hg e => by have := (H.out.pen.lt g hg).2; omega
      have hnf : ¬ Foot B bD bV (.slice pa D.pend.length pc) w.heap.size := by
        rintro (e | e | e | e)
        · exact nCB e
        · exact hcl e
        · exact nCV e
        · exact nCP _ e rfl
      have HNF := Lib.hid hnf
      clear hDr hfr kCr hcd hvl nCP nCV hnf
      go_wp2_with fail
      go_still_tail 9, (by kernel_rfl)
      change wpList _ _ _ _ _ wr.drew
      clear i1 i2 i3 c0
      go_wp2_with fail
      refine hse.mono ?_
      rintro e w6 ⟨vp', rfl, h6, hvp, hf6⟩
      have kC6 : Blk w6 w.heap.size #[.pointer (some ⟨B, 0, none⟩)] 23 := (show Blk wr.drew w.heap.size #[.pointer (some ⟨B, 0, none⟩)] 23 from HKC.out).frm hf6 HNF.out
      have c0 := kC6.cell 0
      have j0 := h6.box.cell 0
      have j1 := h6.box.cell 1
      have f0 := h6.box.frozen 0
      have f1 := h6.box.frozen 1
      unfold dkc at j0 j1
      simp only [List.getElem?_toArray, List.getElem?_cons_succ, List.getElem?_cons_zero] at c0 j0 j1
      have HF6 := Lib.hid ((HFR.out.mono (G := Foot B bD bV (.slice pa D.pend.length pc)) (fun k _ e => .inr (.inl e))).trans hf6 (fun _ _ h => h))
      have H6 := Lib.hid h6
      clear hse h6 hf6 kC6
      go_wp2
      go_ret
      obtain ⟨k1, k2, k3, k4, k5⟩ := H6.out
      have nD := H6.out.neD
      have nV := H6.out.neV
      have nP := H6.out.neP
      exact ⟨vp', rfl, ⟨(k1.set 0 _).set 1 _, (k2.other _ nD.symm).other _ nD.symm, (k3.other _ nV.symm).other _ nV.symm, owned_kept k4 (fun g hg => (Below.heap_setCell _ _ _ _ (nP g hg).1).trans (Below.heap_setCell _ _ _ _ (nP g hg).1)), k5⟩, hvp, ((HFW.out.trans HF6.out (fun _ _ h => h)).setCell (fun _ => .inl rfl) _).setCell (fun _ => .inl rfl) _⟩
end Go.Proofs.Ytfmdpmcniccioaa
