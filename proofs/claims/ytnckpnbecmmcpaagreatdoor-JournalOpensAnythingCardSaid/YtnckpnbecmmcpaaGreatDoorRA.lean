/- nadirref34: Room, Open. -/
import Derived.Test.YtnckpnbecmmcpaaGreatDoorTW
import Derived.BigQuiet
namespace Go.Proofs.YtnckpnbecmmcpaaGreatDoor
open Go.RowKit Go.Shelf Lib
open W01 (putsT putsE strN strE strC)
theorem KouAt.frm {G : Nat → Prop} {W W' : World} {base Kb R : Nat} {J : JouD} (h : KouAt W base Kb R J) (hf : Frm G W W') (hK : ¬ G Kb) (hr : ∀ k cs, Blk W k cs 9 → base ≤ k → ¬ G k) : KouAt W' base Kb R J := by
  obtain ⟨vr, h1, h2⟩ := h.ex
  refine ⟨vr, h1.frm hf hK, owned_kept h2 (fun g hg => ?_)⟩
  obtain ⟨cur, hc, hb⟩ := owned_block h2 hg
  exact hf.block g hc.lt (hr g _ hc hb)
set_option maxRecDepth 100000 in
theorem room21 {W : World} {base Kb R n : Nat} {J : JouD} {D : DiskD} {F : Nat → Prop} (hK : KouAt W base Kb R J) (h : RefF W R n D F) (hn : tapeN J.L ≤ 1000000000) :
    Calls Tryz.prog 21 #[.pointer (some ⟨Kb, 0, none⟩)] W fun e w' => e = .returned (.int .i64 ((n : Int) - (tapeN J.L : Int))) ∧ Below W.heap.size W w' := by
  obtain ⟨vs, vl, hA, hI, -⟩ := h
  obtain ⟨sg, sc, rfl⟩ := Go.Joins.ownsRow_form hA.sure hI.pos
  obtain ⟨vr, hb, -⟩ := hK.ex
  have hn2 := hI.most
  have c0 := hb.cell 0
  have c2 := hb.cell 2
  have d0 := hA.box.cell 0
  simp only [List.getElem?_toArray, List.getElem?_cons_succ, List.getElem?_cons_zero] at c0 c2 d0
  generalize tapeN J.L = a at *
  have hw : IntKind.i64.wrap ((n : Int) - (a : Int)) = (n : Int) - (a : Int) := wrapS _ (by omega) (by omega)
  clear hA hI hb hK
  go_enter Tryz.func21, Tryz.ntmps21
  go_wp2_with fail
  go_quiet (fail)
  go_wp2
  go_ret
  exact ⟨rfl, below_drewN (Below.refl _ _) _⟩
/-- What the reference's Open returns. -/
def OpenedK (w' : World) (base R n : Nat) (D : DiskD) (e : Ending) : Prop :=
  (openE n D ≠ 0 ∧ e = .returned (.tuple #[.pointer none, .int .i64 (openE n D)])) ∨ (openE n D = 0 ∧ ∃ Kb, e = .returned (.tuple #[.pointer (some ⟨Kb, 0, none⟩), .int .i64 0]) ∧ base ≤ Kb ∧ KouAt w' base Kb R ⟨openL n D, false⟩)
theorem opened_bad {W w' : World} {R n : Nat} {D : DiskD} {F : Nat → Prop} (h : openE n D = 342 ∧ openD n D = D) (hR : RefF W R n D F) (hb : Below W.heap.size W w') :
    OpenedK w' W.heap.size R n D (.returned (.tuple #[.pointer none, .int .i64 342])) ∧ RefF w' R n (openD n D) F ∧ Frm F W w' := by
  unfold OpenedK
  rw [h.1, h.2]
  exact ⟨.inl ⟨by decide, rfl⟩, hR.below hb, Frm.of_below hb⟩
theorem opened_ok {W w' : World} {R Kb n : Nat} {D E : DiskD} {L : List ByteArray} {F : Nat → Prop} (h : openE n D = 0 ∧ openD n D = E ∧ openL n D = L) (hKb : W.heap.size ≤ Kb) (hK : KouAt w' W.heap.size Kb R ⟨L, false⟩) (hR : RefF w' R n E F) (hf : Frm F W w') :
    OpenedK w' W.heap.size R n D (.returned (.tuple #[.pointer (some ⟨Kb, 0, none⟩), .int .i64 0])) ∧ RefF w' R n (openD n D) F ∧ Frm F W w' := by
  unfold OpenedK
  rw [h.1, h.2.1, h.2.2]
  exact ⟨.inr ⟨rfl, Kb, rfl, hKb, hK⟩, hR, hf⟩
theorem opened_err {W w' : World} {R n : Nat} {D E : DiskD} {e : Int} {L : List ByteArray} {F : Nat → Prop} (h : openE n D = e ∧ openD n D = E ∧ openL n D = L) (he : ¬ e = 0) (hR : RefF w' R n E F) (hf : Frm F W w') :
    OpenedK w' W.heap.size R n D (.returned (.tuple #[.pointer none, .int .i64 e])) ∧ RefF w' R n (openD n D) F ∧ Frm F W w' := by
  unfold OpenedK
  rw [h.1, h.2.1]
  exact ⟨.inl ⟨he, rfl⟩, hR, hf⟩
theorem seq_trim (D : DiskD) (a : Int) (z : ByteArray) : (writeE D a z = 0 → seqD [wrO a z, syO] D = (syncE (writeD D a z), syncD (writeD D a z))) ∧ (¬ writeE D a z = 0 → seqD [wrO a z, syO] D = (writeE D a z, writeD D a z)) := by
  refine ⟨fun h => ?_, fun h => ?_⟩
  · have e : (wrO a z D).1 = 0 := h
    unfold seqD
    rw [if_pos e]
    unfold seqD
    by_cases h2 : (syO (wrO a z D).2).1 = 0
    · rw [if_pos h2]
      have h3 : syncE (writeD D a z) = 0 := h2
      rw [h3]; rfl
    · rw [if_neg h2]; rfl
  · have e : ¬ (wrO a z D).1 = 0 := h
    unfold seqD
    rw [if_neg e]; rfl
set_option maxRecDepth 100000 in
set_option maxHeartbeats 8000000 in
theorem open50 {W : World} {R n : Nat} {D : DiskD} {F : Nat → Prop} (h : RefF W R n D F) (hF : ∀ k, W.heap.size ≤ k → F k) (hp : D.pend.length ≤ 90000) (hn : n ≤ 100000) :
    Calls Tryz.prog 50 #[.pointer (some ⟨R, 0, none⟩)] W fun e w' => OpenedK w' W.heap.size R n D e ∧ RefF w' R n (openD n D) F ∧ Frm F W w' := by
  have HR := Lib.hid h
  have hI := h.inv
  have hread := read_ref h (by omega) 0 (n : Int)
  obtain ⟨vs, vl, hA, -, -⟩ := h
  obtain ⟨sg, sc, rfl⟩ := Go.Joins.ownsRow_form hA.sure hI.pos
  have d0 := hA.box.cell 0
  simp only [List.getElem?_toArray, List.getElem?_cons_zero] at d0
  have hszI := read_size hI
  by_cases hr : readE D 0 n = 0
  · have hsz := hszI hr
    clear hszI
    have q0 : (readE D 0 n == 0) = true := beq_iff_eq.2 hr
    have q0n : (readE D 0 n != 0) = false := by rw [bne, q0]; rfl
    have HO := Lib.hid (fun L e (hl : loadS (readS D 0 n) = some (L, e)) => openE_some hr hl)
    have HO2 := Lib.hid (fun (hl : loadS (readS D 0 n) = none) => openE_none hr hl)
    have HP := Lib.hid hp
    obtain ⟨s, hs⟩ : ∃ s, readS D 0 n = s := ⟨_, rfl⟩
    rw [hs] at hread hsz HO HO2
    rw [hr] at hread q0 q0n
    clear hr hs
    subst hsz
    have h43 := fun W => head43 (.slice none 0 0) [] W (strs_nil W) (fun t h => by cases h)
    have HZ0 := Lib.hid (show headS ([] : List ByteArray) = headS [] from rfl)
    generalize hzz : headS [] = zz at h43 HZ0
    have HZZ := Lib.hid hzz
    clear hA hI hp hzz
    go_enter Tryz.func50, Tryz.ntmps50
    go_wp2_with fail
    refine hread.mono ?_
    rintro e w1 ⟨rfl, b1⟩
    go_wp2_with fail
    obtain ⟨Kb, hKb0⟩ : ∃ Kb, w1.heap.size = Kb := ⟨_, rfl⟩
    have hk0 : Blk (w1.alloc (.cells #[.pointer (some ⟨R, 0, none⟩), .slice none 0 0, .int .i64 0, .bool false] 43)) Kb #[.pointer (some ⟨R, 0, none⟩), .slice none 0 0, .int .i64 0, .bool false] 43 := Blk.newAt _ _ _ hKb0.symm
    have hbA : Below W.heap.size W (w1.alloc (.cells #[.pointer (some ⟨R, 0, none⟩), .slice none 0 0, .int .i64 0, .bool false] 43)) := b1.alloc b1.size _
    have hKb : W.heap.size ≤ Kb := by rw [← hKb0]; exact b1.size
    rw [hKb0]
    refine (h43 _).mono ?_
    rintro e w2 ⟨rfl, b2⟩
    have hk2 := hk0.below b2 hk0.lt
    have hB2 := hbA.trans (b2.mono hbA.size)
    clear hk0 hbA b1 b2 hread d0 h43 hKb0
    go_wp2
    go_loopw [8, 9, 10, 11] (fun u8 _ _ _ wr => ∃ (L : List ByteArray) (vr : Value), Blk wr Kb #[.pointer (some ⟨R, 0, none⟩), vr, .int .i64 (tapeN L : Int), .bool false] 43 ∧ wr.ownsRow W.heap.size 9 1 vr L.length (L.map Value.string) ∧ u8 = .string (headS L) ∧
        Below W.heap.size W wr ∧ tapeN L ≤ s.size ∧ loadS s = (loadA s (headS L) (tapeN L)).map fun x => (L ++ x.1, x.2)) (fun _ _ _ _ wr => s.size - tsz wr Kb)
    case atStart => exact ⟨[], _, hk2, World.ownsRow_nil _ _ _ _, by rw [HZZ.out], hB2, Nat.zero_le _, by
      show loadA s z32 0 = (loadA s z32 0).map _
      cases loadA s z32 0 <;> rfl⟩
    case round =>
      clear hk2 hB2 q0 q0n
      obtain ⟨L, vr, hbk, ho, rfl, hB, hle, hld⟩ := hrel
      rename World => wr
      have c2 := hbk.cell 2
      simp only [List.getElem?_toArray, List.getElem?_cons_zero, List.getElem?_cons_succ] at c2
      have hLn := tapeN_len L
      have hms : tsz wr Kb = tapeN L := by unfold tsz; rw [c2]; simp [intOf]
      obtain ⟨a, ha⟩ : ∃ a, tapeN L = a := ⟨_, rfl⟩
      rw [ha] at c2 hle hLn hld hbk hms
      have HMS := Lib.hid hms
      have HA := Lib.hid ha
      clear ha hms
      by_cases hgo : a < s.size ∧ byA s a ≠ 0
      · obtain ⟨hlta, hb0⟩ := hgo
        have HC0 := Lib.hid (show a < s.size ∧ byA s a ≠ 0 from ⟨hlta, hb0⟩)
        have d1 : decide ((a : Int) < (s.size : Int)) = true := decide_eq_true (by omega)
        have d1b : decide (a < s.size) = true := decide_eq_true hlta
        have ii : (0 : Int) ≤ (a : Int) ∧ (a : Int) < (s.size : Int) := by omega
        have hgi : s[a]? = some s[a] := getElem?_pos s a hlta
        have HBY := Lib.hid (byA_get hlta)
        rw [byA_get hlta] at hb0
        have q0 : ((s[a].toNat : Int) == 0) = false := beq_eq_false_iff_ne.2 (by omega)
        have q0n : ((s[a].toNat : Int) != 0) = true := by rw [bne, q0]; rfl
        have wa : IntKind.i64.wrap ((a : Int) + 1) = (a : Int) + 1 := by rw [wrapS _ (by omega) (by omega)]
        have HSTR := Lib.hid (W01.rstrU s ((a : Int) + 1) wr (by unfold maxLen; omega) (by omega) (by omega))
        have HLD := Lib.hid hld
        have HH := Lib.hid (And.intro hbk (And.intro ho hB))
        clear hld hb0 hbk ho hB
        have hbadF := Lib.hid (fun (hn : ¬ RecOK s (headS L) a) => HO2.out (by rw [HLD.out, loadA_bad HC0.out hn]; rfl))
        by_cases hb1 : s[a].toNat = 1
        · have q1 : ((s[a].toNat : Int) == 1) = true := beq_iff_eq.2 (by omega)
          have q1n : ((s[a].toNat : Int) != 1) = false := by rw [bne, q1]; rfl
          have HMK := Lib.hid (show byA s a = 1 from HBY.out.trans hb1)
          clear hb1
          rcases W01.str_unique s (a + 1) (by omega) with ⟨-, -, h10⟩ | ⟨v, e, e1, e2, e3, e4, e5, -, e7, e8⟩
          · rw [← show ((a : Int) + 1) = ((a + 1 : Nat) : Int) by omega] at h10
            have z1 : (strC s ((a : Int) + 1) == 0) = false := by rw [h10]; decide
            have z1n : (strC s ((a : Int) + 1) != 0) = true := by rw [h10]; decide
            have hob := Lib.hid (hbadF.out (fun hr => by have := hr.str; rw [h10] at this; cases this))
            clear h10
            go_wp2_with fail
            refine HSTR.out.mono ?_
            rintro e w5 ⟨rfl, b5⟩
            have c5 := (b5.cell (World.block_lt_of_cell? _ _ c2)).trans c2
            have hb5 := HH.out.2.2.trans (b5.mono HH.out.2.2.size)
            go_wp2
            go_ret2
            exact opened_bad hob.out HR.out hb5
          · rw [← show ((a : Int) + 1) = ((a + 1 : Nat) : Int) by omega] at e1 e2 e3
            obtain ⟨e32, he32⟩ : ∃ m, e + 32 = m := ⟨_, rfl⟩
            have we : IntKind.i64.wrap ((e : Int) + 32) = (e32 : Int) := by rw [wrapS _ (by omega) (by omega)]; omega
            have hv : strN s ((a : Int) + 1) = v := e1
            rw [e1, e2, e3] at HSTR
            have HCH := Lib.hid (fun w => chain57 (headS L) v w (headS_size L) e8)
            have HE := Lib.hid (And.intro e1 (And.intro e2 (And.intro e3 (And.intro e4 (And.intro e7 (And.intro he32 e8))))))
            have hsi := Lib.hid (stored_iff (head := headS L) hlta HMK.out (by rw [hv]; exact e7) e4)
            rw [hv, he32] at hsi
            have q9 : (0 : Int) ≤ (e : Int) ∧ (e : Int) ≤ (e32 : Int) := by omega
            have q9b : e ≤ e32 := by omega
            by_cases hfit : e32 ≤ s.size
            · have z2 : decide ((s.size : Int) < (e32 : Int)) = false := decide_eq_false (by omega)
              have z2b : decide (s.size < e32) = false := decide_eq_false (by omega)
              have z2c : (e32 : Int) ≤ (s.size : Int) := by omega
              clear hv e1 e2 e3 e4 e5 e7 e8 he32
              by_cases hdig : s.extract e e32 = chainS (headS L) v
              · have z3 : ((s.extract e e32).toList == (chainS (headS L) v).toList) = true := beq_iff_eq.2 (by rw [hdig])
                have z3n : ((s.extract e e32).toList != (chainS (headS L) v).toList) = false := by rw [bne, z3]; rfl
                have hrec : RecOK s (headS L) a := ⟨HMK.out, HE.out.2.2.1, by rw [HE.out.2.1]; have := HE.out.2.2.2.2.2.1; omega, by rw [HE.out.2.1, HE.out.1, Int.toNat_natCast, HE.out.2.2.2.2.2.1]; exact hdig⟩
                have hnext := load_snoc hlta hrec (by rw [HLD.out])
                rw [HE.out.1, HE.out.2.1, Int.toNat_natCast, HE.out.2.2.2.2.2.1] at hnext
                have hsame := hsi.out.2 hdig
                have hsz : a + (storedS (headS L) v).size = e32 := by
                  rw [← hsame, ByteArray.size_extract]; have := HE.out.2.2.2.1; have := HE.out.2.2.2.2.2.1; omega
                have htn : tapeN (L ++ [v]) = e32 := by rw [tapeN_snoc, HA.out, hsz]
                have hmeas : s.size - e32 < s.size - a := by have := HE.out.2.2.2.1; have := HE.out.2.2.2.2.2.1; omega
                have HNX := Lib.hid (And.intro hnext (And.intro htn (And.intro hmeas hfit)))
                have HHS := Lib.hid (headS_snoc L v)
                obtain ⟨hd', hhd⟩ : ∃ x, chainS (headS L) v = x := ⟨_, rfl⟩
                rw [hhd] at z3 z3n HCH HHS
                clear hsame hdig hrec hnext hsz htn hmeas hhd
                go_wp2_with fail
                refine HSTR.out.mono ?_
                rintro ex w5 ⟨rfl, b5⟩
                have c5 := (b5.cell (World.block_lt_of_cell? _ _ c2)).trans c2
                go_wp2_with fail
                refine (HCH.out _).mono ?_
                rintro ex w6 ⟨rfl, b6⟩
                have b56 := b5.trans (b6.mono b5.size)
                have k6 := HH.out.1.below b56 HH.out.1.lt
                have o6 := owned_below HH.out.2.1 b56
                have B6 := HH.out.2.2.trans (b56.mono HH.out.2.2.size)
                have k6c := k6.cell 1
                simp only [List.getElem?_toArray, List.getElem?_cons_zero, List.getElem?_cons_succ] at k6c
                have hne : ∀ g, vr.ownBlock = some g → g ≠ Kb := fun g hg => by
                  obtain ⟨cur, hcb, -⟩ := owned_block o6 hg
                  exact hcb.ne k6 (by decide)
                have HW6 := Lib.hid (And.intro k6 (And.intro o6 (And.intro B6 hne)))
                have B6s := B6.size
                clear b5 b6 b56 k6 o6 B6 c5 hne
                go_wp2_with (at_builtin; refine wpList_push E22 rfl _ _ rfl W.heap.size HW6.out.2.1 rfl rfl rfl (by unfold maxLen; omega) (by omega) B6s ?_; intro v' w9 hown' hgrow hb9; obtain ⟨pa, pc, rfl, -, -⟩ := owned_len hown'; have k9 : Blk w9 Kb #[.pointer (some ⟨R, 0, none⟩), vr, .int .i64 (a : Int), .bool false] 43 := (hgrow.block Kb (by have := HW6.out.1.lt; simp; omega) (fun e => HW6.out.2.2.2 Kb e.symm rfl)).trans (HW6.out.1.alloc _); have k9c := k9.cell 1; have k9f := k9.frozen 1; simp only [List.getElem?_toArray, List.getElem?_cons_zero, List.getElem?_cons_succ] at k9c; have hne9 : ∀ g, (Value.slice pa (L.length + 1) pc).ownBlock = some g → g ≠ Kb := (fun g hg => by obtain ⟨cur, hcb, -⟩ := owned_block hown' hg; exact hcb.ne k9 (by decide)); have k9s := k9.set 1 (.slice pa (L.length + 1) pc); have k9d := k9s.cell 2; have k9e := k9s.frozen 2; simp only [List.setIfInBounds_toArray, List.set_cons_zero, List.set_cons_succ, List.getElem?_toArray, List.getElem?_cons_zero, List.getElem?_cons_succ] at k9d)
                have kf := k9s.set 2 (.int .i64 (e32 : Int))
                simp only [List.setIfInBounds_toArray, List.set_cons_zero, List.set_cons_succ] at kf
                have o9 : ((w9.setCell ⟨Kb, 1, none⟩ (.slice pa (L.length + 1) pc)).setCell ⟨Kb, 2, none⟩ (.int .i64 (e32 : Int))).ownsRow W.heap.size 9 1 (.slice pa (L.length + 1) pc) (L ++ [v]).length ((L ++ [v]).map Value.string) := by
                  rw [List.length_append, List.map_append]
                  exact owned_kept hown' (fun g hg => by rw [Below.heap_setCell _ _ _ _ (hne9 g hg), Below.heap_setCell _ _ _ _ (hne9 g hg)])
                have B9 : Below W.heap.size W ((w9.setCell ⟨Kb, 1, none⟩ (.slice pa (L.length + 1) pc)).setCell ⟨Kb, 2, none⟩ (.int .i64 (e32 : Int))) := by
                  have bb := HW6.out.2.2.1.trans hb9
                  exact bb.trans (((Frm.refl (fun k => k = Kb) w9).setCell (fun _ => rfl) _ |>.setCell (fun _ => rfl) _).below bb.size (fun k h => by subst h; exact hKb))
                have hms9 : tsz ((w9.setCell ⟨Kb, 1, none⟩ (.slice pa (L.length + 1) pc)).setCell ⟨Kb, 2, none⟩ (.int .i64 (e32 : Int))) Kb = e32 := by
                  unfold tsz
                  rw [kf.cell 2]; simp [intOf]
                have HFN := Lib.hid (And.intro kf (And.intro o9 (And.intro B9 hms9)))
                clear kf o9 B9 hms9 k9s k9d k9e k9 k9c k9f hne9 hgrow hb9 hown'
                go_roundw
                case rel =>
                  exact ⟨L ++ [v], _, by rw [HNX.out.2.1]; exact HFN.out.1, HFN.out.2.1, by rw [HHS.out], HFN.out.2.2.1, by rw [HNX.out.2.1]; exact HNX.out.2.2.2, by rw [HNX.out.2.1]; exact HNX.out.1⟩
                case measure => rw [HFN.out.2.2.2, HMS.out]; exact HNX.out.2.2.1
              · have z3 : ((s.extract e e32).toList == (chainS (headS L) v).toList) = false := beq_eq_false_iff_ne.2 (fun h => hdig (W01.str_toList h))
                have z3n : ((s.extract e e32).toList != (chainS (headS L) v).toList) = true := by rw [bne, z3]; rfl
                have hob := Lib.hid (hbadF.out (fun hr => by
                  have hd := hr.dig
                  rw [HE.out.2.1, HE.out.1, Int.toNat_natCast, HE.out.2.2.2.2.2.1] at hd
                  exact hdig hd))
                obtain ⟨hd', hhd⟩ : ∃ x, chainS (headS L) v = x := ⟨_, rfl⟩
                rw [hhd] at z3 z3n HCH
                clear hdig hhd
                go_wp2_with fail
                refine HSTR.out.mono ?_
                rintro ex w5 ⟨rfl, b5⟩
                have c5 := (b5.cell (World.block_lt_of_cell? _ _ c2)).trans c2
                have hb5 := HH.out.2.2.trans (b5.mono HH.out.2.2.size)
                go_wp2_with fail
                refine (HCH.out _).mono ?_
                rintro ex w6 ⟨rfl, b6⟩
                have hb6 := hb5.trans (b6.mono hb5.size)
                go_wp2
                go_ret2
                exact opened_bad hob.out HR.out hb6
            · have z2 : decide ((s.size : Int) < (e32 : Int)) = true := decide_eq_true (by omega)
              have z2b : decide (s.size < e32) = true := decide_eq_true (by omega)
              have hob := Lib.hid (hbadF.out (fun hr => by have := hr.fit; rw [e2] at this; omega))
              clear hv e1 e2 e3 e4 e5 e7 e8 he32
              go_wp2_with fail
              refine HSTR.out.mono ?_
              rintro ex w5 ⟨rfl, b5⟩
              have c5 := (b5.cell (World.block_lt_of_cell? _ _ c2)).trans c2
              have hb5 := HH.out.2.2.trans (b5.mono HH.out.2.2.size)
              go_wp2_with fail
              refine (HCH.out _).mono ?_
              rintro ex w6 ⟨rfl, b6⟩
              have hb6 := hb5.trans (b6.mono hb5.size)
              go_wp2
              go_ret2
              exact opened_bad hob.out HR.out hb6
        · have q1 : ((s[a].toNat : Int) == 1) = false := beq_eq_false_iff_ne.2 (by omega)
          have q1n : ((s[a].toNat : Int) != 1) = true := by rw [bne, q1]; rfl
          have hob := Lib.hid (hbadF.out (fun hr => hb1 (HBY.out.symm.trans hr.mark)))
          clear hb1
          go_wp2_with fail
          refine HSTR.out.mono ?_
          rintro ex w5 ⟨rfl, b5⟩
          have c5 := (b5.cell (World.block_lt_of_cell? _ _ c2)).trans c2
          have hb5 := HH.out.2.2.trans (b5.mono HH.out.2.2.size)
          go_wp2
          go_ret2
          exact opened_bad hob.out HR.out hb5
      · have hst := loadA_stop (s := s) (head := headS L) (a := a) hgo
        have hfin : loadS s = some (L, a) := by rw [hld, hst]; simp
        by_cases hlta : a < s.size
        · have hb0 : byA s a = 0 := Classical.byContradiction (fun h => hgo ⟨hlta, h⟩)
          have d1 : decide ((a : Int) < (s.size : Int)) = true := decide_eq_true (by omega)
          have d1b : decide (a < s.size) = true := decide_eq_true hlta
          have ii : (0 : Int) ≤ (a : Int) ∧ (a : Int) < (s.size : Int) := by omega
          have hgi : s[a]? = some s[a] := getElem?_pos s a hlta
          rw [byA_get hlta] at hb0
          have q0 : ((s[a].toNat : Int) == 0) = true := beq_iff_eq.2 (by omega)
          have q0n : ((s[a].toNat : Int) != 0) = false := by rw [bne, q0]; rfl
          clear hb0 hgo
          have HX := HO.out L a hfin
          obtain ⟨m, hm⟩ : ∃ m, s.size - a = m := ⟨_, rfl⟩
          have wsub : IntKind.i64.wrap ((s.size : Int) - (a : Int)) = (m : Int) := by rw [wrapS _ (by omega) (by omega)]; omega
          have hmk : ∀ V : World, (Instr.makeSlice 39 (.int .i64 (m : Int)) (.int .i64 (m : Int))).run Tryz.prog V = .ok (.slice (some ⟨V.heap.size, 0, none⟩) m m) (V.alloc (.cells (bcs (List.replicate m 0)).toArray 5)) := fun V => mk40 m (by omega) V
          generalize hzc : (bcs (List.replicate m 0)).toArray = zc at hmk
          have hcv : (convert 39 9 (.slice (some ⟨wr.heap.size, 0, none⟩) m m)).run Tryz.prog (wr.alloc (.cells zc 5)) = .ok (.string (zeroS m)) (wr.alloc (.cells zc 5)) := by
            have : strOf (List.replicate m 0) = zeroS m := zero_made m
            rw [← this, ← hzc]
            exact conv_all (w := wr.alloc (.cells (bcs (List.replicate m 0)).toArray 5)) (n := m) (Blk.new wr _ 5) (by rw [List.length_replicate])
          have hbz : Below wr.heap.size wr (wr.alloc (.cells zc 5)) := (Below.refl _ _).alloc (Nat.le_refl _) _
          have hKz : KouAt (wr.alloc (.cells zc 5)) W.heap.size Kb R ⟨L, false⟩ := KouAt.below ⟨vr, by rw [HA.out]; exact hbk, ho⟩ hbz
          have hbV := hB.trans (hbz.mono hB.size)
          have c2z : (wr.alloc (.cells zc 5)).cell? ⟨Kb, 2, none⟩ = some (.int .i64 (a : Int)) := (hbk.below hbz hbk.lt).cell 2
          have hZ : allZ s a = decide (s.extract a s.size = zeroS (s.size - a)) := rfl
          rw [hm] at hZ
          have hT2 : trim2 s.size a = [wrO (a : Int) (zeroS m), syO] := by unfold trim2; rw [hm]
          rw [hT2] at HX
          have q7 : (0 : Int) ≤ (a : Int) ∧ (a : Int) ≤ (s.size : Int) := by omega
          have q8 : a ≤ s.size := hle
          have HV := Lib.hid (And.intro hKz hbV)
          have HKL := Lib.hid (And.intro hKb (And.intro hbk.lt hB.size))
          obtain ⟨zs, hzs⟩ : ∃ zs, zeroS m = zs := ⟨_, rfl⟩
          rw [hzs] at hcv hZ HX
          clear hfin hbk ho hKz hbV hzc hm hT2 hzs hbz hld hst
          cases hz : allZ s a with
          | true =>
            have z3 : ((s.extract a s.size).toList == zs.toList) = true := beq_iff_eq.2 (by rw [hz] at hZ; rw [of_decide_eq_true hZ.symm])
            have z3n : ((s.extract a s.size).toList != zs.toList) = false := by rw [bne, z3]; rfl
            rw [hz] at HX
            simp only [if_true] at HX
            have HXX := Lib.hid HX
            clear hZ hz HX
            go_wp2
            go_ret2
            exact opened_ok HXX.out HKL.out.1 HV.out.1 (HR.out.below HV.out.2) (Frm.of_below HV.out.2)
          | false =>
            have z3 : ((s.extract a s.size).toList == zs.toList) = false := beq_eq_false_iff_ne.2 (fun h => by rw [hz] at hZ; exact of_decide_eq_false hZ.symm (W01.str_toList h))
            have z3n : ((s.extract a s.size).toList != zs.toList) = true := by rw [bne, z3]; rfl
            rw [hz] at HX
            simp only [Bool.false_eq_true, if_false] at HX
            clear hZ hz
            obtain ⟨V, hV⟩ : ∃ V, wr.alloc (.cells zc 5) = V := ⟨_, rfl⟩
            have hVs : wr.heap.size + 1 = V.heap.size := by rw [← hV]; simp
            rw [hV] at HV c2z hcv
            have hRV : RefF V R s.size D (fun k => (F k ∧ k < W.heap.size) ∨ V.heap.size ≤ k) := ((HR.out.mono (G := fun k => F k ∧ k < W.heap.size) (fun k hk h => ⟨h, hk⟩)).below HV.out.2).mono (fun k _ h => .inl h)
            have hwr := write_ref hRV (fun k hk => .inr hk) (by have := HP.out; omega) (a : Int) zs
            have HWR := Lib.hid hwr
            have hVW := HV.out.2.size
            have HSQ := Lib.hid (seq_trim D (a : Int) zs)
            have HKF := Lib.hid (fun (w' : World) (hf : Frm (fun k => (F k ∧ k < W.heap.size) ∨ V.heap.size ≤ k) V w') => show KouAt w' W.heap.size Kb R ⟨L, false⟩ from HV.out.1.frm hf (fun h => by have := HKL.out.1; have := HKL.out.2.1; omega) (fun k cs hk hb h => by have := hk.lt; omega))
            have HFF := Lib.hid (fun (w' : World) (hf : Frm (fun k => (F k ∧ k < W.heap.size) ∨ V.heap.size ≤ k) V w') => show Frm F W w' from (Frm.of_below HV.out.2).trans hf (fun k hk h => by rcases h with h | h; exact h.1; omega))
            have HMO := Lib.hid (fun (w' : World) (E : DiskD) (h : RefF w' R s.size E (fun k => (F k ∧ k < W.heap.size) ∨ V.heap.size ≤ k)) => show RefF w' R s.size E F from h.mono (fun k _ h => by rcases h with h | h; exact h.1; exact hF k (by omega)))
            clear hwr hRV
            by_cases hw : writeE D (a : Int) zs = 0
            · have y0 : (writeE D (a : Int) zs == 0) = true := beq_iff_eq.2 hw
              have y0n : (writeE D (a : Int) zs != 0) = false := by rw [bne, y0]; rfl
              rw [HSQ.out.1 hw] at HX
              have HXX := Lib.hid HX
              clear HX
              have HPW := Lib.hid (pend_write' D (a : Int) zs)
              generalize writeD D (a : Int) zs = D1 at HWR HPW HXX
              generalize writeE D (a : Int) zs = we at HWR y0 y0n
              go_wp2_with fail
              (try rw [hV])
              refine HWR.out.mono ?_
              rintro e w5 ⟨rfl, r5, f5⟩
              have hsy := Lib.hid (sync_ref r5 (fun k hk => .inr (Nat.le_trans f5.size hk)) (by have := HP.out; have := HPW.out; omega))
              generalize syncD D1 = D2 at hsy HXX
              generalize syncE D1 = se at hsy HXX
              go_wp2_with fail
              refine hsy.out.mono ?_
              rintro e w6 ⟨rfl, r6, f6⟩
              clear hsy
              by_cases hse : se = 0
              · have x0 : (se == 0) = true := beq_iff_eq.2 hse
                have x0n : (se != 0) = false := by rw [bne, x0]; rfl
                have f6' := f5.trans f6 (fun _ _ h => h)
                subst hse
                go_wp2
                go_ret2
                exact opened_ok HXX.out HKL.out.1 (HKF.out _ f6') (HMO.out _ _ r6) (HFF.out _ f6')
              · have x0 : (se == 0) = false := beq_eq_false_iff_ne.2 hse
                have x0n : (se != 0) = true := by rw [bne, x0]; rfl
                have f6' := f5.trans f6 (fun _ _ h => h)
                have HNE := Lib.hid hse
                clear hse
                go_wp2
                go_ret2
                exact opened_err HXX.out HNE.out (HMO.out _ _ r6) (HFF.out _ f6')
            · have y0 : (writeE D (a : Int) zs == 0) = false := beq_eq_false_iff_ne.2 hw
              have y0n : (writeE D (a : Int) zs != 0) = true := by rw [bne, y0]; rfl
              rw [HSQ.out.2 hw] at HX
              have HXX := Lib.hid HX
              clear HX
              have HNE := Lib.hid hw
              generalize writeD D (a : Int) zs = D1 at HWR HXX
              generalize writeE D (a : Int) zs = we at HWR y0 y0n HNE HXX
              clear hw
              go_wp2_with ((try rw [hV]); go_at_call 16; refine HWR.out.mono ?_; rintro e w5 ⟨rfl, r5, f5⟩)
              go_ret2
              exact opened_err HXX.out HNE.out (HMO.out _ _ r5) (HFF.out _ f5)
        · have d1 : decide ((a : Int) < (s.size : Int)) = false := decide_eq_false (by omega)
          have d1b : decide (a < s.size) = false := decide_eq_false hlta
          clear hgo
          have HX := HO.out L a hfin
          obtain ⟨m, hm⟩ : ∃ m, s.size - a = m := ⟨_, rfl⟩
          have wsub : IntKind.i64.wrap ((s.size : Int) - (a : Int)) = (m : Int) := by rw [wrapS _ (by omega) (by omega)]; omega
          have hmk : ∀ V : World, (Instr.makeSlice 39 (.int .i64 (m : Int)) (.int .i64 (m : Int))).run Tryz.prog V = .ok (.slice (some ⟨V.heap.size, 0, none⟩) m m) (V.alloc (.cells (bcs (List.replicate m 0)).toArray 5)) := fun V => mk40 m (by omega) V
          generalize hzc : (bcs (List.replicate m 0)).toArray = zc at hmk
          have hcv : (convert 39 9 (.slice (some ⟨wr.heap.size, 0, none⟩) m m)).run Tryz.prog (wr.alloc (.cells zc 5)) = .ok (.string (zeroS m)) (wr.alloc (.cells zc 5)) := by
            have : strOf (List.replicate m 0) = zeroS m := zero_made m
            rw [← this, ← hzc]
            exact conv_all (w := wr.alloc (.cells (bcs (List.replicate m 0)).toArray 5)) (n := m) (Blk.new wr _ 5) (by rw [List.length_replicate])
          have hbz : Below wr.heap.size wr (wr.alloc (.cells zc 5)) := (Below.refl _ _).alloc (Nat.le_refl _) _
          have hKz : KouAt (wr.alloc (.cells zc 5)) W.heap.size Kb R ⟨L, false⟩ := KouAt.below ⟨vr, by rw [HA.out]; exact hbk, ho⟩ hbz
          have hbV := hB.trans (hbz.mono hB.size)
          have c2z : (wr.alloc (.cells zc 5)).cell? ⟨Kb, 2, none⟩ = some (.int .i64 (a : Int)) := (hbk.below hbz hbk.lt).cell 2
          have hZ : allZ s a = decide (s.extract a s.size = zeroS (s.size - a)) := rfl
          rw [hm] at hZ
          have hT2 : trim2 s.size a = [wrO (a : Int) (zeroS m), syO] := by unfold trim2; rw [hm]
          rw [hT2] at HX
          have q7 : (0 : Int) ≤ (a : Int) ∧ (a : Int) ≤ (s.size : Int) := by omega
          have q8 : a ≤ s.size := hle
          have HV := Lib.hid (And.intro hKz hbV)
          have HKL := Lib.hid (And.intro hKb (And.intro hbk.lt hB.size))
          obtain ⟨zs, hzs⟩ : ∃ zs, zeroS m = zs := ⟨_, rfl⟩
          rw [hzs] at hcv hZ HX
          clear hfin hbk ho hKz hbV hzc hm hT2 hzs hbz hld hst
          cases hz : allZ s a with
          | true =>
            have z3 : ((s.extract a s.size).toList == zs.toList) = true := beq_iff_eq.2 (by rw [hz] at hZ; rw [of_decide_eq_true hZ.symm])
            have z3n : ((s.extract a s.size).toList != zs.toList) = false := by rw [bne, z3]; rfl
            rw [hz] at HX
            simp only [if_true] at HX
            have HXX := Lib.hid HX
            clear hZ hz HX
            go_wp2
            go_ret2
            exact opened_ok HXX.out HKL.out.1 HV.out.1 (HR.out.below HV.out.2) (Frm.of_below HV.out.2)
          | false =>
            have z3 : ((s.extract a s.size).toList == zs.toList) = false := beq_eq_false_iff_ne.2 (fun h => by rw [hz] at hZ; exact of_decide_eq_false hZ.symm (W01.str_toList h))
            have z3n : ((s.extract a s.size).toList != zs.toList) = true := by rw [bne, z3]; rfl
            rw [hz] at HX
            simp only [Bool.false_eq_true, if_false] at HX
            clear hZ hz
            obtain ⟨V, hV⟩ : ∃ V, wr.alloc (.cells zc 5) = V := ⟨_, rfl⟩
            have hVs : wr.heap.size + 1 = V.heap.size := by rw [← hV]; simp
            rw [hV] at HV c2z hcv
            have hRV : RefF V R s.size D (fun k => (F k ∧ k < W.heap.size) ∨ V.heap.size ≤ k) := ((HR.out.mono (G := fun k => F k ∧ k < W.heap.size) (fun k hk h => ⟨h, hk⟩)).below HV.out.2).mono (fun k _ h => .inl h)
            have hwr := write_ref hRV (fun k hk => .inr hk) (by have := HP.out; omega) (a : Int) zs
            have HWR := Lib.hid hwr
            have hVW := HV.out.2.size
            have HSQ := Lib.hid (seq_trim D (a : Int) zs)
            have HKF := Lib.hid (fun (w' : World) (hf : Frm (fun k => (F k ∧ k < W.heap.size) ∨ V.heap.size ≤ k) V w') => show KouAt w' W.heap.size Kb R ⟨L, false⟩ from HV.out.1.frm hf (fun h => by have := HKL.out.1; have := HKL.out.2.1; omega) (fun k cs hk hb h => by have := hk.lt; omega))
            have HFF := Lib.hid (fun (w' : World) (hf : Frm (fun k => (F k ∧ k < W.heap.size) ∨ V.heap.size ≤ k) V w') => show Frm F W w' from (Frm.of_below HV.out.2).trans hf (fun k hk h => by rcases h with h | h; exact h.1; omega))
            have HMO := Lib.hid (fun (w' : World) (E : DiskD) (h : RefF w' R s.size E (fun k => (F k ∧ k < W.heap.size) ∨ V.heap.size ≤ k)) => show RefF w' R s.size E F from h.mono (fun k _ h => by rcases h with h | h; exact h.1; exact hF k (by omega)))
            clear hwr hRV
            by_cases hw : writeE D (a : Int) zs = 0
            · have y0 : (writeE D (a : Int) zs == 0) = true := beq_iff_eq.2 hw
              have y0n : (writeE D (a : Int) zs != 0) = false := by rw [bne, y0]; rfl
              rw [HSQ.out.1 hw] at HX
              have HXX := Lib.hid HX
              clear HX
              have HPW := Lib.hid (pend_write' D (a : Int) zs)
              generalize writeD D (a : Int) zs = D1 at HWR HPW HXX
              generalize writeE D (a : Int) zs = we at HWR y0 y0n
              go_wp2_with fail
              (try rw [hV])
              refine HWR.out.mono ?_
              rintro e w5 ⟨rfl, r5, f5⟩
              have hsy := Lib.hid (sync_ref r5 (fun k hk => .inr (Nat.le_trans f5.size hk)) (by have := HP.out; have := HPW.out; omega))
              generalize syncD D1 = D2 at hsy HXX
              generalize syncE D1 = se at hsy HXX
              go_wp2_with fail
              refine hsy.out.mono ?_
              rintro e w6 ⟨rfl, r6, f6⟩
              clear hsy
              by_cases hse : se = 0
              · have x0 : (se == 0) = true := beq_iff_eq.2 hse
                have x0n : (se != 0) = false := by rw [bne, x0]; rfl
                have f6' := f5.trans f6 (fun _ _ h => h)
                subst hse
                go_wp2
                go_ret2
                exact opened_ok HXX.out HKL.out.1 (HKF.out _ f6') (HMO.out _ _ r6) (HFF.out _ f6')
              · have x0 : (se == 0) = false := beq_eq_false_iff_ne.2 hse
                have x0n : (se != 0) = true := by rw [bne, x0]; rfl
                have f6' := f5.trans f6 (fun _ _ h => h)
                have HNE := Lib.hid hse
                clear hse
                go_wp2
                go_ret2
                exact opened_err HXX.out HNE.out (HMO.out _ _ r6) (HFF.out _ f6')
            · have y0 : (writeE D (a : Int) zs == 0) = false := beq_eq_false_iff_ne.2 hw
              have y0n : (writeE D (a : Int) zs != 0) = true := by rw [bne, y0]; rfl
              rw [HSQ.out.2 hw] at HX
              have HXX := Lib.hid HX
              clear HX
              have HNE := Lib.hid hw
              generalize writeD D (a : Int) zs = D1 at HWR HXX
              generalize writeE D (a : Int) zs = we at HWR y0 y0n HNE HXX
              clear hw
              go_wp2_with ((try rw [hV]); go_at_call 16; refine HWR.out.mono ?_; rintro e w5 ⟨rfl, r5, f5⟩)
              go_ret2
              exact opened_err HXX.out HNE.out (HMO.out _ _ r5) (HFF.out _ f5)
  · obtain ⟨o1, o2⟩ := openE_of hr
    have q0 : (readE D 0 n == 0) = false := beq_eq_false_iff_ne.2 hr
    have q0n : (readE D 0 n != 0) = true := by rw [bne, q0]; rfl
    unfold OpenedK
    rw [o1, o2]
    generalize readE D 0 n = er at *
    generalize readS D 0 n = rs at *
    clear hA hI hp hszI o1 o2
    go_enter Tryz.func50, Tryz.ntmps50
    go_wp2_with fail
    refine hread.mono ?_
    rintro e w1 ⟨rfl, b1⟩
    go_wp2
    go_ret2
    exact ⟨.inl ⟨hr, rfl⟩, HR.out.below b1, Frm.of_below b1⟩
end Go.Proofs.YtnckpnbecmmcpaaGreatDoor
