/- package journal: calls as values; first. -/
import Derived.Test.YtnckpnbecmmcpaaGreatDoorJD
import Derived.Test.YtnckpnbecmmcpaaGreatDoorMK2
namespace Go.Proofs.YtnckpnbecmmcpaaGreatDoor
open Go.RowKit Lib
/-- A function value that does a call on a disk, in every world in which only the blocks F have changed. -/
def ActsD (w0 : World) (B n : Nat) (F : Nat → Prop) (fv : Value) (f : DoD) : Prop :=
  ∃ (g : Nat) (xs ys : Array Value), fv = .func (.func g) xs ys ∧ (∀ args w, (callFunc g args).run Tryz.prog w = .ok (.enter g args) w) ∧
    ∀ V D, Frm F w0 V → OwnF V B n D F → D.pend.length ≤ 900000 → Calls Tryz.prog g (xs ++ ys) V fun e V' => e = .returned (.int .i64 (f D).1) ∧ OwnF V' B n (f D).2 F ∧ Frm F V V' ∧ (f D).2.pend.length ≤ D.pend.length + 1
theorem ActsD.later {w0 w1 : World} {B n : Nat} {F : Nat → Prop} {fv : Value} {f : DoD} (h : ActsD w0 B n F fv f) (hf : Frm F w0 w1) : ActsD w1 B n F fv f := by
  obtain ⟨g, xs, ys, h1, h2, h3⟩ := h
  exact ⟨g, xs, ys, h1, h2, fun V D hV => h3 V D (hf.trans hV (fun _ _ h => h))⟩
theorem pend_write' (D : DiskD) (o : Int) (s : ByteArray) : (writeD D o s).pend.length ≤ D.pend.length + 1 := by
  unfold writeD usedD
  split
  · split <;> simp
  · omega
theorem pend_sync' (D : DiskD) : (syncD D).pend.length ≤ D.pend.length := by
  unfold syncD
  split
  · exact Nat.le_refl _
  · exact Nat.zero_le _
theorem sync_acts (w0 : World) (B n : Nat) (F : Nat → Prop) : ActsD w0 B n F (.func (.func 42) #[.pointer (some ⟨B, 0, none⟩)] #[]) syO :=
  ⟨42, _, _, rfl, enters_of Tryz.func42 (by kernel_rfl) rfl, fun V D _ ho _ => (sync_f ho).mono fun _ _ ⟨h1, h2, h3⟩ => ⟨h1, h2, h3, by have := pend_sync' D; show (syncD D).pend.length ≤ _; omega⟩⟩
theorem frm_cell {F : Nat → Prop} {W W' : World} (h : Frm F W W') {b o : Nat} {v : Value} (hc : W.cell? ⟨b, o, none⟩ = some v) (hb : ¬ F b) : W'.cell? ⟨b, o, none⟩ = some v := by
  have hbk := h.block b (World.block_lt_of_cell? _ _ hc) hb
  unfold World.cell? at hc ⊢
  simp only at hc ⊢
  rw [hbk]; exact hc
attribute [local irreducible] wpStill
set_option maxRecDepth 100000 in
set_option maxHeartbeats 4000000 in
theorem write_acts {w0 : World} {B n : Nat} {F : Nat → Prop} {q1 q2 q3 Jb : Nat} {at_ : Int} {s : ByteArray} (hF : ∀ k, w0.heap.size ≤ k → F k)
    (h1 : w0.cell? ⟨q1, 0, none⟩ = some (.pointer (some ⟨Jb, 0, none⟩))) (h2 : w0.cell? ⟨q2, 0, none⟩ = some (.int .i64 at_)) (h3 : w0.cell? ⟨q3, 0, none⟩ = some (.string s)) (h4 : w0.cell? ⟨Jb, 3, none⟩ = some (.pointer (some ⟨B, 0, none⟩)))
    (n1 : ¬ F q1) (n2 : ¬ F q2) (n3 : ¬ F q3) (n4 : ¬ F Jb) : ActsD w0 B n F (.func (.func 72) #[] #[.pointer (some ⟨q1, 0, none⟩), .pointer (some ⟨q2, 0, none⟩), .pointer (some ⟨q3, 0, none⟩)]) (wrO at_ s) := by
  refine ⟨72, _, _, rfl, enters_of Tryz.func72 (by kernel_rfl) rfl, fun V D hV ho hp => ?_⟩
  have c1 := frm_cell hV h1 n1
  have c2 := frm_cell hV h2 n2
  have c3 := frm_cell hV h3 n3
  have c4 := frm_cell hV h4 n4
  have hs := hV.size
  have HW := Lib.hid (write_F (W := V.drew) (ho.below (Below.refl _ _).drew) (fun k hk => hF k (Nat.le_trans hs hk)) (by omega) at_ s)
  have HC := Lib.hid (fun V' (hf : Frm F V.drew V') => (show V'.cell? ⟨q1, 0, none⟩ = some (.pointer (some ⟨Jb, 0, none⟩)) ∧ V'.cell? ⟨q2, 0, none⟩ = some (.int .i64 at_) ∧ V'.cell? ⟨q3, 0, none⟩ = some (.string s) ∧ V'.cell? ⟨Jb, 3, none⟩ = some (.pointer (some ⟨B, 0, none⟩)) from
    ⟨frm_cell hf c1 n1, frm_cell hf c2 n2, frm_cell hf c3 n3, frm_cell hf c4 n4⟩))
  clear h1 h2 h3 h4 hV ho
  have HE := Lib.hid (show wrO at_ s D = (writeE D at_ s, writeD D at_ s) from rfl)
  go_enter Tryz.func72, Tryz.ntmps72
  go_upto_region 1 with (fail)
  refine wp_region_noPanic ?_
  refine wp_region_held_drew (S := (fun w' => w'.cell? ⟨q1, 0, none⟩ = some (.pointer (some ⟨Jb, 0, none⟩)) ∧ w'.cell? ⟨q2, 0, none⟩ = some (.int .i64 at_) ∧ w'.cell? ⟨q3, 0, none⟩ = some (.string s) ∧ w'.cell? ⟨Jb, 3, none⟩ = some (.pointer (some ⟨B, 0, none⟩)))) (by kernel_rfl) ⟨c1, c2, c3, c4⟩ (fun hHeld => ?_)
  refine wpAnyH_take (i := 0) (oi := { dst := some 4, op := Op.load 28 (Operand.tmp 0), type := 28, pos := "journal.go:87", after := #[], guard := none }) (v := ?_) rfl (by kernel_rfl) (by kernel_rfl) (by kernel_rfl) (fun _ _ _ h => h) (Or.inl ⟨by kernel_rfl, ?_⟩) (by assumption) ?_
  rotate_left
  · intro w hSw
    (try dsimp only at hSw)
    go_simp
    all_goals (with_reducible rfl)
  (try simp only [Act.put, List.setIfInBounds_toArray, List.set_cons_zero, List.set_cons_succ])
  refine wpAnyH_take (i := 1) (oi := { dst := some 5, op := Op.nilCheck (Operand.tmp 4), type := 0, pos := "journal.go:87", after := #[{ on := 0, ground := Ground.data }], guard := none }) (v := ?_) rfl (by kernel_rfl) (by kernel_rfl) (by kernel_rfl) (fun _ _ _ h => h) (Or.inl ⟨by kernel_rfl, ?_⟩) (by assumption) ?_
  rotate_left
  · intro w hSw
    (try dsimp only at hSw)
    go_simp
    all_goals (with_reducible rfl)
  (try simp only [Act.put, List.setIfInBounds_toArray, List.set_cons_zero, List.set_cons_succ])
  refine wpAnyH_take (i := 2) (oi := { dst := some 6, op := Op.fieldAddr 74 (Operand.tmp 5) 1, type := 0, pos := "journal.go:87", after := #[{ on := 1, ground := Ground.data }], guard := none }) (v := ?_) rfl (by kernel_rfl) (by kernel_rfl) (by kernel_rfl) (fun _ _ _ h => h) (Or.inl ⟨by kernel_rfl, ?_⟩) (by assumption) ?_
  rotate_left
  · intro w hSw
    (try dsimp only at hSw)
    go_simp
    all_goals (with_reducible rfl)
  (try simp only [Act.put, List.setIfInBounds_toArray, List.set_cons_zero, List.set_cons_succ])
  refine wpAnyH_take (i := 3) (oi := { dst := some 7, op := Op.load 27 (Operand.tmp 6), type := 27, pos := "journal.go:87", after := #[{ on := 2, ground := Ground.data }], guard := none }) (v := ?_) rfl (by kernel_rfl) (by kernel_rfl) (by kernel_rfl) (fun _ _ _ h => h) (Or.inl ⟨by kernel_rfl, ?_⟩) (by assumption) ?_
  rotate_left
  · intro w hSw
    (try dsimp only at hSw)
    go_simp
    all_goals (with_reducible rfl)
  (try simp only [Act.put, List.setIfInBounds_toArray, List.set_cons_zero, List.set_cons_succ])
  refine wpAnyH_take (i := 4) (oi := { dst := some 8, op := Op.load 3 (Operand.tmp 1), type := 3, pos := "journal.go:87", after := #[], guard := none }) (v := ?_) rfl (by kernel_rfl) (by kernel_rfl) (by kernel_rfl) (fun _ _ _ h => h) (Or.inl ⟨by kernel_rfl, ?_⟩) (by assumption) ?_
  rotate_left
  · intro w hSw
    (try dsimp only at hSw)
    go_simp
    all_goals (with_reducible rfl)
  (try simp only [Act.put, List.setIfInBounds_toArray, List.set_cons_zero, List.set_cons_succ])
  refine wpAnyH_take (i := 5) (oi := { dst := some 9, op := Op.load 9 (Operand.tmp 2), type := 9, pos := "journal.go:87", after := #[], guard := none }) (v := ?_) rfl (by kernel_rfl) (by kernel_rfl) (by kernel_rfl) (fun _ _ _ h => h) (Or.inl ⟨by kernel_rfl, ?_⟩) (by assumption) ?_
  rotate_left
  · intro w hSw
    (try dsimp only at hSw)
    go_simp
    all_goals (with_reducible rfl)
  (try simp only [Act.put, List.setIfInBounds_toArray, List.set_cons_zero, List.set_cons_succ])
  refine wpAnyH_one1 (i := 6) (o := { dst := some 10, op := Op.call { callee := Callee.value (Operand.func 13), args := #[Operand.tmp 7, Operand.tmp 8, Operand.tmp 9], argTypes := #[27, 3, 9] }, type := 33, pos := "journal.go:87", after := #[{ on := 3, ground := Ground.data }, { on := 4, ground := Ground.data }, { on := 5, ground := Ground.data }], guard := none }) (by kernel_rfl) rfl (fun K hK => ?_)
  go_simp
  go_at_call 13
  refine HW.out.mono ?_
  rintro e w9 ⟨rfl, h9, f9⟩
  refine hK.out _ _ ?_ (fun hHeld2 => ?_)
  · exact HC.out w9 f9
  clear hHeld
  have hHeld := hHeld2
  clear hHeld2
  clear hK K
  (try simp only [Act.put, List.setIfInBounds_toArray, List.set_cons_zero, List.set_cons_succ])
  refine wpAnyH_take (i := 7) (oi := { dst := some 3, op := Op.assign (Operand.tmp 10), type := 33, pos := "journal.go:87", after := #[{ on := 6, ground := Ground.data }, { on := 6, ground := Ground.chain }, { on := 0, ground := Ground.phase }, { on := 1, ground := Ground.phase }, { on := 2, ground := Ground.phase }, { on := 3, ground := Ground.phase }, { on := 4, ground := Ground.phase }, { on := 5, ground := Ground.phase }, { on := 6, ground := Ground.phase }], guard := none }) (v := ?_) rfl (by kernel_rfl) (by kernel_rfl) (by kernel_rfl) (fun _ _ _ h => h) (Or.inl ⟨by kernel_rfl, ?_⟩) (by assumption) ?_
  rotate_left
  · intro w hSw
    (try dsimp only at hSw)
    go_simp
    all_goals (with_reducible rfl)
  (try simp only [Act.put, List.setIfInBounds_toArray, List.set_cons_zero, List.set_cons_succ])
  refine wpAnyH_done (by kernel_rfl) ?_ _
  refine NoPanic.normal ?_
  clear hHeld
  have hfin : Frm F V w9 := (Frm.refl F V).drew.trans f9 (fun _ _ h => h)
  clear HW HC f9
  go_wp2
  go_ret
  rw [HE.out]
  exact ⟨rfl, h9, hfin, pend_write' D at_ s⟩
set_option maxRecDepth 100000 in
theorem writing41 (Jb : Nat) (at_ : Int) (s : ByteArray) (w : World) : Calls Tryz.prog 41 #[.pointer (some ⟨Jb, 0, none⟩), .int .i64 at_, .string s] w fun e w' =>
    e = .returned (.func (.func 72) #[] #[.pointer (some ⟨w.heap.size, 0, none⟩), .pointer (some ⟨w.heap.size + 1, 0, none⟩), .pointer (some ⟨w.heap.size + 2, 0, none⟩)]) ∧
    ((w.alloc (.cells #[.pointer (some ⟨Jb, 0, none⟩)] 28)).alloc (.cells #[.int .i64 at_] 3)).alloc (.cells #[.string s] 9) = w' := by
  go_enter Tryz.func41, Tryz.ntmps41
  go_wp2
  go_ret
  exact ⟨rfl, rfl⟩
theorem seqD_cons (f : DoD) (fs : List DoD) (D : DiskD) (h : (f D).1 = 0) : seqD (f :: fs) D = seqD fs (f D).2 := by
  show (if (f D).1 = 0 then seqD fs (f D).2 else f D) = _
  rw [if_pos h]
theorem seqD_stop (f : DoD) (fs : List DoD) (D : DiskD) (h : (f D).1 ≠ 0) : seqD (f :: fs) D = f D := by
  show (if (f D).1 = 0 then seqD fs (f D).2 else f D) = _
  rw [if_neg h]
set_option maxRecDepth 100000 in
set_option maxHeartbeats 4000000 in
theorem first40 {w0 : World} {B n : Nat} {F : Nat → Prop} {D : DiskD} (fs : List (Value × DoD)) (g : Nat) (hg : Blk w0 g (fs.map (·.1)).toArray 85) (hFg : ¬ F g) (hfs : ∀ p ∈ fs, ActsD w0 B n F p.1 p.2) (hl : fs.length ≤ 10) (hl0 : 0 < fs.length) (ho : OwnF w0 B n D F) (hp : D.pend.length ≤ 100000) :
    Calls Tryz.prog 40 #[.slice (some ⟨g, 0, none⟩) fs.length fs.length] w0 fun e w' => e = .returned (.int .i64 (seqD (fs.map (·.2)) D).1) ∧ OwnF w' B n (seqD (fs.map (·.2)) D).2 F ∧ Frm F w0 w' := by
  have HG := Lib.hid (And.intro hg hFg)
  have HFS := Lib.hid hfs
  clear hg hFg hfs
  go_enter Tryz.func40, Tryz.ntmps40
  go_wp2
  go_loopw [4, 5, 8] (fun _ _ u8 wr => ∃ (i : Nat) (E : DiskD), i ≤ fs.length ∧ u8 = .int .i64 (i : Int) ∧ seqD (fs.map (·.2)) D = seqD ((fs.drop i).map (·.2)) E ∧ OwnF wr B n E F ∧ Frm F w0 wr ∧ E.pend.length ≤ 100000 + i) (fun _ _ u8 _ => (fs.length - intOf u8).toNat)
  case atStart => exact ⟨0, D, by omega, rfl, by rw [List.drop_zero], ho, Frm.refl _ _, by omega⟩
  case round =>
    obtain ⟨i, E, hi, rfl, hs, hoE, hf, hpE⟩ := hrel
    by_cases hlt : i < fs.length
    · have d1 : decide (i < fs.length) = true := decide_eq_true hlt
      have ii : (0 : Int) ≤ (i : Int) ∧ (i : Int) < (fs.length : Int) := by omega
      obtain ⟨p, hpd⟩ : ∃ p, fs[i] = p := ⟨_, rfl⟩
      have hmem : p ∈ fs := by rw [← hpd]; exact List.getElem_mem hlt
      have hdrop : (fs.drop i).map (·.2) = p.2 :: (fs.drop (i + 1)).map (·.2) := by rw [List.drop_eq_getElem_cons hlt, hpd]; rfl
      obtain ⟨gf, xs, ys, hpv, hent, hcall⟩ := HFS.out p hmem
      have hc : wr.cell? ⟨g, i, none⟩ = some (.func (.func gf) xs ys) := by
        rw [(HG.out.1.frm hf HG.out.2).cell, List.getElem?_toArray, List.getElem?_map, List.getElem?_eq_getElem hlt, hpd, ← hpv]; rfl
      rw [hdrop] at hs
      have hcl := hcall wr E hf hoE (by omega)
      have HCL := Lib.hid hcl
      have HS := Lib.hid hs
      have HF := Lib.hid hf
      clear hcl hs hcall hpd hdrop hmem hpv hf hoE
      go_wp2_with fail
      refine HCL.out.mono ?_
      rintro e w9 ⟨rfl, h9, f9, p9⟩
      by_cases hz : (p.2 E).1 = 0
      · have q0 : ((p.2 E).1 == 0) = true := beq_iff_eq.2 hz
        have q1 : ((p.2 E).1 != 0) = false := by rw [bne, q0]; rfl
        have hs2 := HS.out.trans (seqD_cons _ _ _ hz)
        have HX := Lib.hid (And.intro hs2 (And.intro h9 (And.intro (HF.out.trans f9 (fun _ _ h => h)) p9)))
        clear hs2 h9 f9 p9 hz
        generalize (p.2 E).1 = z at q0 q1 ⊢
        go_wp2
        go_roundw
        case rel => exact ⟨i + 1, _, by omega, by go_num, HX.out.1, HX.out.2.1, HX.out.2.2.1, by have := HX.out.2.2.2; omega⟩
        case measure => simp [intOf]; omega
      · have q0 : ((p.2 E).1 == 0) = false := beq_eq_false_iff_ne.2 hz
        have q1 : ((p.2 E).1 != 0) = true := by rw [bne, q0]; rfl
        have hs2 := HS.out.trans (seqD_stop _ _ _ hz)
        have HX := Lib.hid (And.intro hs2 (And.intro h9 (HF.out.trans f9 (fun _ _ h => h))))
        clear h9 f9 p9 hz hs2
        generalize hzz : (p.2 E).1 = z at q0 q1 ⊢
        have HZ := Lib.hid hzz
        clear hzz
        go_wp2
        go_ret
        refine ⟨?_, ?_, HX.out.2.2⟩
        · rw [HX.out.1, HZ.out]; rfl
        · rw [HX.out.1]; exact HX.out.2.1
    · have he : i = fs.length := by omega
      have d1 : decide (i < fs.length) = false := decide_eq_false hlt
      have hnil : (fs.drop i).map (·.2) = [] := by rw [he, List.drop_length]; rfl
      rw [hnil] at hs
      have HX := Lib.hid (And.intro hs (And.intro hoE hf))
      clear hs hoE hf he hnil
      go_wp2
      go_ret
      refine ⟨?_, ?_, HX.out.2.2⟩
      · rw [HX.out.1]; rfl
      · rw [HX.out.1]; exact HX.out.2.1
end Go.Proofs.YtnckpnbecmmcpaaGreatDoor
