/- nadirref34: Append. -/
import Derived.Test.YtnckpnbecmmcpaaGreatDoorRA
namespace Go.Proofs.YtnckpnbecmmcpaaGreatDoor
open Go.RowKit Go.Shelf Lib
theorem tapeN_few : ∀ (l : List ByteArray), (∀ t ∈ l, t.size ≤ 100) → tapeN l ≤ 142 * l.length
  | [], _ => Nat.zero_le _
  | t :: l, h => by
    have h1 := tapeN_few l (fun s hs => h s (by simp [hs]))
    have h2 := tapeN_append [t] l
    rw [List.singleton_append, tapeN_one] at h2
    have h3 := h t (by simp)
    have h4 := putsT_size t (by omega)
    rw [List.length_cons]
    omega
theorem fin12 {W w' : World} {Kb R n : Nat} {F : Nat → Prop} {x x' a : Int} {y y' b : JouD} {z z' c : DiskD} (h : x = x' ∧ y = y' ∧ z = z') (o : x = a ∧ y = b ∧ z = c)
    (p : Ending.returned (.int .i64 a) = .returned (.int .i64 a) ∧ RefF w' R n c F ∧ KouAt w' 0 Kb R b ∧ Frm (fun k => F k ∨ k = Kb) W w') :
    Ending.returned (.int .i64 a) = .returned (.int .i64 x') ∧ RefF w' R n z' F ∧ KouAt w' 0 Kb R y' ∧ Frm (fun k => F k ∨ k = Kb) W w' := by
  obtain ⟨rfl, rfl, rfl⟩ := h
  obtain ⟨rfl, rfl, rfl⟩ := o
  exact p
theorem seq_0 {f : DoD} {fs : List DoD} {D : DiskD} (h : (f D).1 = 0) : seqD (f :: fs) D = seqD fs (f D).2 := by rw [seqD, if_pos h]
theorem seq_N {f : DoD} {fs : List DoD} {D : DiskD} (h : ¬ (f D).1 = 0) : seqD (f :: fs) D = f D := by rw [seqD, if_neg h]
theorem headS_add (L m : List ByteArray) (x : ByteArray) : headS (L ++ (m ++ [x])) = chainS (headS (L ++ m)) x := by rw [← List.append_assoc, headS_snoc]
/-- What stands between the blocks of an older world and a disk's own. -/
def Lo (W : World) (F : Nat → Prop) (s : Nat) (k : Nat) : Prop := (F k ∧ ¬ Oth W k ∧ k < W.heap.size) ∨ s ≤ k
theorem ref_lo {W w5 : World} {R n : Nat} {D : DiskD} {F : Nat → Prop} (h : RefF W R n D F) (hb : Below W.heap.size W w5) : RefF w5 R n D (Lo W F w5.heap.size) :=
  ((h.byType.mono (G := fun k => F k ∧ ¬ Oth W k ∧ k < W.heap.size) (fun _ hk h => ⟨h.1, h.2, hk⟩)).below hb).mono (fun _ _ h => .inl h)
theorem lo_up {W w : World} {R n s : Nat} {D : DiskD} {F : Nat → Prop} (h : RefF w R n D (Lo W F s)) (hs : W.heap.size ≤ s) (hF : ∀ k, W.heap.size ≤ k → F k) : RefF w R n D F := h.mono (fun k _ h => by
  rcases h with h | h
  · exact h.1
  · exact hF k (Nat.le_trans hs h))
theorem lo_frm {W w5 w : World} {F : Nat → Prop} (hb : Below W.heap.size W w5) (hf : Frm (Lo W F w5.heap.size) w5 w) (hF : ∀ k, W.heap.size ≤ k → F k) : Frm F W w :=
  (Frm.of_below hb).trans hf (fun k hk h => by
    rcases h with h | h
    · exact h.1
    · exact hF k (by have := hb.size; omega))
/-- Older blocks of other types are kept. -/
theorem lo_blk {W w5 w : World} {F : Nat → Prop} {k : Nat} {cs : Array Value} {t : TypeId} (hb : Below W.heap.size W w5) (hf : Frm (Lo W F w5.heap.size) w5 w) (h : Blk W k cs t) (ht : t ≠ 97 ∧ t ≠ 5 ∧ t ≠ 92 ∧ t ≠ 67 ∧ t ≠ 100) : Blk w k cs t :=
  (h.below hb h.lt).frm hf (fun a => by
    have := h.lt
    have := hb.size
    rcases a with a | a
    · exact a.2.1 ⟨cs, t, h, ht⟩
    · omega)
theorem lo_row {W w5 w : World} {F : Nat → Prop} {base n : Nat} {v : Value} {xs : List Value} (hb : Below W.heap.size W w5) (hf : Frm (Lo W F w5.heap.size) w5 w) (h : W.ownsRow base 9 1 v n xs) : w.ownsRow base 9 1 v n xs :=
  owned_kept h (fun g hg => by
    obtain ⟨cur, hc, -⟩ := owned_block h hg
    exact (lo_blk hb hf hc (by decide)).trans hc.symm)
theorem lo_trans {W w5 w6 w7 : World} {F : Nat → Prop} (h : Frm (Lo W F w5.heap.size) w5 w6) (h2 : Frm (Lo W F w5.heap.size) w6 w7) : Frm (Lo W F w5.heap.size) w5 w7 := h.trans h2 (fun _ _ h => h)
/-- What an Append that goes well leaves. -/
theorem done12 {W w5 w9 w10 w11 : World} {Kb R n a z : Nat} {L l : List ByteArray} {E : DiskD} {F : Nat → Prop} {vr v1 : Value} {pa : Option Addr} {pc mm : Nat} (hb : Below W.heap.size W w5) (f9 : Frm (Lo W F w5.heap.size) w5 w9) (r9 : RefF w9 R n E (Lo W F w5.heap.size)) (hF : ∀ k, W.heap.size ≤ k → F k)
    (k10 : Blk w10 Kb #[.pointer (some ⟨R, 0, none⟩), vr, .int .i64 (a : Int), .bool false] 43) (b10 : Below w9.heap.size w9 w10) (o1 : w10.ownsRow W.heap.size 9 1 v1 ([] ++ L).length (([] ++ L).map Value.string)) (hg2 : w10.grownBy w11 v1.ownBlock)
    (o2 : w11.ownsRow W.heap.size 9 1 (.slice pa mm pc) (L ++ l).length ((L ++ l).map Value.string)) (k11 : Blk w11 Kb #[.pointer (some ⟨R, 0, none⟩), vr, .int .i64 (a : Int), .bool false] 43)
    (k13 : Blk ((w11.setCell ⟨Kb, 1, none⟩ (.slice pa mm pc)).setCell ⟨Kb, 2, none⟩ (.int .i64 ((a : Int) + (z : Int)))) Kb #[.pointer (some ⟨R, 0, none⟩), .slice pa mm pc, .int .i64 ((a : Int) + (z : Int)), .bool false] 43) (_hm : (L ++ l).length = mm) (ht : tapeN (L ++ l) = a + z) :
    Ending.returned (.int .i64 0) = .returned (.int .i64 ((0, E) : Int × DiskD).1) ∧ RefF ((w11.setCell ⟨Kb, 1, none⟩ (.slice pa mm pc)).setCell ⟨Kb, 2, none⟩ (.int .i64 ((a : Int) + (z : Int)))) R n ((0, E) : Int × DiskD).2 F ∧
      KouAt ((w11.setCell ⟨Kb, 1, none⟩ (.slice pa mm pc)).setCell ⟨Kb, 2, none⟩ (.int .i64 ((a : Int) + (z : Int)))) 0 Kb R (if ((0, E) : Int × DiskD).1 = 0 then ⟨L ++ l, false⟩ else ⟨L, true⟩) ∧
      Frm (fun k => F k ∨ k = Kb) W ((w11.setCell ⟨Kb, 1, none⟩ (.slice pa mm pc)).setCell ⟨Kb, 2, none⟩ (.int .i64 ((a : Int) + (z : Int)))) := by
  have fz : Frm (fun i => v1.ownBlock = some i ∨ i = Kb) w10 ((w11.setCell ⟨Kb, 1, none⟩ (.slice pa mm pc)).setCell ⟨Kb, 2, none⟩ (.int .i64 ((a : Int) + (z : Int)))) :=
    (((Frm.refl (fun i => v1.ownBlock = some i ∨ i = Kb) w10).grown hg2 (fun k hk _ => .inl hk)).setCell (fun _ => .inr rfl) _).setCell (fun _ => .inr rfl) _
  have hO : Oth w10 Kb := ⟨_, _, k10, by decide⟩
  have hO1 : ∀ i, v1.ownBlock = some i → Oth w10 i ∧ W.heap.size ≤ i := fun i hi => by
    obtain ⟨cur, hcb, hge⟩ := owned_block o1 hi
    exact ⟨⟨_, _, hcb, by decide⟩, hge⟩
  refine ⟨rfl, ?_, ?_, ?_⟩
  · refine lo_up (s := w5.heap.size) (W := W) ?_ hb.size hF
    refine ((r9.below b10).byType.frm fz (fun i _ h e => ?_)).mono (fun _ _ h => h.1)
    rcases e with e | e
    · exact h.2 (hO1 i e).1
    · subst e; exact h.2 hO
  · rw [if_pos rfl]
    refine ⟨_, by rw [ht]; exact k13, ?_⟩
    refine owned_kept (ownsRow_base o2 (Nat.zero_le _)) (fun g hg => ?_)
    obtain ⟨cur, hcb, -⟩ := owned_block o2 hg
    have hne : g ≠ Kb := hcb.ne k11 (by decide)
    rw [Below.heap_setCell _ _ _ _ hne, Below.heap_setCell _ _ _ _ hne]
  · have f10 : Frm F W w10 := (lo_frm hb f9 hF).trans (Frm.of_below (F := fun _ => False) b10) (fun _ _ h => h.elim)
    refine (f10.mono (fun _ _ h => .inl h)).trans fz (fun i hi h => ?_)
    rcases h with h | h
    · have := (hO1 i h).2; omega
    · exact .inr h
/-- What an Append that fails leaves. -/
theorem broken12 {W w5 w : World} {Kb R n a : Nat} {L : List ByteArray} {l0 : List ByteArray} {E : DiskD} {F : Nat → Prop} {vr : Value} {ee : Int} (hb : Below W.heap.size W w5) (k : Blk w Kb #[.pointer (some ⟨R, 0, none⟩), vr, .int .i64 (a : Int), .bool false] 43)
    (r : RefF w R n E (Lo W F w5.heap.size)) (f : Frm (Lo W F w5.heap.size) w5 w) (hF : ∀ k, W.heap.size ≤ k → F k) (ho : W.ownsRow 0 9 1 vr L.length (L.map Value.string)) (ha : tapeN L = a) (hne : ¬ ee = 0) :
    Ending.returned (.int .i64 ee) = .returned (.int .i64 ((ee, E) : Int × DiskD).1) ∧ RefF (w.setCell ⟨Kb, 3, none⟩ (.bool true)) R n ((ee, E) : Int × DiskD).2 F ∧
      KouAt (w.setCell ⟨Kb, 3, none⟩ (.bool true)) 0 Kb R (if ((ee, E) : Int × DiskD).1 = 0 then ⟨L ++ l0, false⟩ else ⟨L, true⟩) ∧ Frm (fun k => F k ∨ k = Kb) W (w.setCell ⟨Kb, 3, none⟩ (.bool true)) := by
  have hO : Oth w Kb := ⟨_, _, k, by decide⟩
  have fk : Frm (fun i => i = Kb) w (w.setCell ⟨Kb, 3, none⟩ (.bool true)) := (Frm.refl (fun i => i = Kb) w).setCell (fun _ => rfl) _
  refine ⟨rfl, ?_, ?_, ?_⟩
  · refine lo_up (s := w5.heap.size) (W := W) ?_ hb.size hF
    exact (r.byType.frm fk (fun i _ h e => by subst e; exact h.2 hO)).mono (fun _ _ h => h.1)
  · rw [if_neg hne]
    have ks := k.set 3 (.bool true)
    refine ⟨vr, by rw [ha]; exact ks, ?_⟩
    have h1 := lo_row hb f ho
    refine owned_kept h1 (fun g hg => ?_)
    obtain ⟨cur, hcb, -⟩ := owned_block h1 hg
    exact fk.block g hcb.lt (fun e => hcb.ne k (by decide) e)
  · exact (((lo_frm hb f hF).mono (fun _ _ h => .inl h)).trans fk (fun _ _ h => .inr h))
attribute [local irreducible] wpStill
set_option maxRecDepth 100000 in
set_option maxHeartbeats 16000000 in
theorem append12 {W : World} {Kb R n : Nat} {J : JouD} {D : DiskD} {F : Nat → Prop} {base2 : Nat} (hK : KouAt W 0 Kb R J) (h : RefF W R n D F) (hF : ∀ k, W.heap.size ≤ k → F k) (hp : D.pend.length ≤ 90000) (hn : n ≤ 100000) (hfit : tapeN J.L ≤ n) (hJL : ∀ t ∈ J.L, t.size ≤ 65536)
    (vl : Value) (l : List ByteArray) (hl : W.ownsRow base2 9 1 vl l.length (l.map Value.string)) (hls : ∀ t ∈ l, t.size ≤ 100) (hll : l.length ≤ 6) :
    Calls Tryz.prog 12 #[.pointer (some ⟨Kb, 0, none⟩), vl] W fun e w' => e = .returned (.int .i64 (appE n J D l)) ∧ RefF w' R n (appD n J D l) F ∧ KouAt w' 0 Kb R (appJ n J D l) ∧ Frm (fun k => F k ∨ k = Kb) W w' := by
  obtain ⟨vr, hb, ho⟩ := hK.ex
  obtain ⟨L, br⟩ := J
  simp only at hb ho hfit hJL
  have c0 := hb.cell 0
  have c1 := hb.cell 1
  have c2 := hb.cell 2
  have c3 := hb.cell 3
  simp only [List.getElem?_toArray, List.getElem?_cons_succ, List.getElem?_cons_zero] at c0 c1 c2 c3
  have HKK := Lib.hid hK
  have HR := Lib.hid h
  have HB := Lib.hid hb
  have HO := Lib.hid (And.intro ho (And.intro hl (strs_own hl)))
  obtain ⟨va, vc, rfl, hvc1, hvc2⟩ := strs_len (strs_own hl)
  unfold maxLen at hvc2
  obtain ⟨e0, he0⟩ : ∃ x, appE n ⟨L, br⟩ D l = x := ⟨_, rfl⟩
  obtain ⟨J0, hJ0⟩ : ∃ x, appJ n ⟨L, br⟩ D l = x := ⟨_, rfl⟩
  obtain ⟨D0, hD0⟩ : ∃ x, appD n ⟨L, br⟩ D l = x := ⟨_, rfl⟩
  have HAP := Lib.hid (And.intro he0 (And.intro hJ0 hD0))
  rw [he0, hJ0, hD0]
  clear he0 hJ0 hD0
  cases br with
  | true =>
    have HGO := Lib.hid (append_nilCase (n := n) (J := ⟨L, true⟩) (D := D) (l := l) (.inl rfl))
    clear hb ho hl hK h
    go_enter Tryz.func12, Tryz.ntmps12
    go_wp2
    go_ret
    exact fin12 HAP.out HGO.out ⟨rfl, HR.out, HKK.out, Frm.refl _ _⟩
  | false =>
    have hlong : ¬ ((JouD.mk L false).broken = true ∨ longB l = true) := by
      rintro (h | h)
      · cases h
      · unfold longB at h
        rw [List.any_eq_true] at h
        obtain ⟨t, ht, h2⟩ := h
        have := hls t ht
        simp at h2; omega
    have hfew := tapeN_few l hls
    have HLN := Lib.hid hlong
    have HF := Lib.hid hF
    have HLS := Lib.hid hls
    have hLlen := tapeN_len L
    have h43 := fun V (hV : Below W.heap.size W V) => head43 vr L V ((strs_own ho).below hV) hJL
    have H43 := Lib.hid (h43 W (Below.refl _ _))
    have HA := Lib.hid (fun (m : List ByteArray) x => And.intro (outS_snoc L m x) (headS_add L m x))
    have H00 := Lib.hid (show outS L (l.take 0) = (⟨#[]⟩ : ByteArray) from rfl)
    have H01 := Lib.hid (show headS (L ++ l.take 0) = headS L by rw [List.take_zero, List.append_nil])
    have HOS := Lib.hid (fun m => outS_size L m)
    have HHS := Lib.hid (fun m => headS_size (L ++ m))
    clear hb ho hl hK h hlong hls h43 hJL hF
    go_enter Tryz.func12, Tryz.ntmps12
    go_wp2_with fail
    refine H43.out.mono ?_
    rintro e w1 ⟨rfl, b1⟩
    go_wp2
    go_loopw [5, 6, 7, 8, 9] (fun u5 u6 u7 _ _ wr => ∃ i : Nat, i ≤ l.length ∧ u7 = .int .i64 (i : Int) ∧ u5 = .string (outS L (l.take i)) ∧ u6 = .string (headS (L ++ l.take i)) ∧ Below W.heap.size W wr) (fun _ _ u7 _ _ _ => (l.length - intOf u7).toNat)
    case atStart => exact ⟨0, by omega, rfl, by rw [H00.out], by rw [H01.out], b1⟩
    case round =>
      clear b1 c0 c1 c2 c3
      obtain ⟨i, hi, rfl, rfl, rfl, hB⟩ := hrel
      rename World => wr
      by_cases hlt : i < l.length
      · have d1 : decide (i < l.length) = true := decide_eq_true hlt
        have i0 : (0 : Int) ≤ (i : Int) ∧ (i : Int) < (l.length : Int) := by omega
        obtain ⟨b, o, rfl, hc⟩ := strs_get (HO.out.2.2.below hB) hlt
        have hts := HLS.out _ (List.getElem_mem hlt)
        have hst := HA.out (l.take i) l[i]
        rw [← List.take_succ_eq_append_getElem hlt] at hst
        have HST := Lib.hid hst
        have hos := HOS.out (l.take i)
        have htl : tapeN (l.take i) ≤ 142 * (l.take i).length := tapeN_few _ (fun t ht => HLS.out t (List.mem_of_mem_take ht))
        rw [List.length_take] at htl
        have hH := HHS.out (l.take i)
        have hrs := storedS_size (headS (L ++ l.take i)) l[i]
        have hps := putsT_size l[i] (by omega)
        have hS44 := fun V => stored44 (headS (L ++ l.take i)) l[i] V hH (by omega)
        generalize outS L (l.take i) = oo at HST hos ⊢
        generalize headS (L ++ l.take i) = hd at HST hH hrs hS44 ⊢
        generalize l[i] = t at hc HST hts hrs hps hS44
        generalize storedS hd t = st at HST hrs hS44
        generalize chainS hd t = cs at HST hS44
        have cat : ¬ 9223372036854775807 < oo.size + st.size := by omega
        have hdt : decide ((65536 : Int) < (t.size : Int)) = false := decide_eq_false (by omega)
        have hdtb : decide (65536 < t.size) = false := decide_eq_false (by omega)
        clear hst hH hrs hps htl hos
        go_wp2_with fail
        refine (hS44 wr).mono ?_
        rintro e w9 ⟨rfl, b9⟩
        have B9 := hB.trans (b9.mono hB.size)
        clear hS44 hB b9 hc
        go_wp2
        go_roundw
        case rel => exact ⟨i + 1, by omega, by go_num, by rw [HST.out.1], by rw [HST.out.2], B9⟩
        case measure => simp [intOf]; omega
      · have he : i = l.length := by omega
        have d1 : decide (i < l.length) = false := decide_eq_false hlt
        rw [he, List.take_length]
        have hos := HOS.out l
        obtain ⟨out, hout⟩ : ∃ out, outS L l = out := ⟨_, rfl⟩
        have HOUT := Lib.hid hout
        rw [hout] at hos ⊢
        have hosz : out.size ≤ 1000 := by omega
        clear hos
        generalize headS (L ++ l) = hd
        obtain ⟨a, ha⟩ : ∃ a, tapeN L = a := ⟨_, rfl⟩
        have HAE := Lib.hid ha
        have hroom := room21 (HKK.out.below hB) (HR.out.below hB) (by show tapeN L ≤ _; omega)
        rw [show ((n : Int) - ((tapeN (JouD.mk L false).L : Nat) : Int)) = (n : Int) - (a : Int) by rw [← ha]] at hroom
        rw [ha] at hfit hLlen HB
        have HBB := Lib.hid hB
        clear he hout ha
        go_wp2_with fail
        refine hroom.mono ?_
        rintro e w5 ⟨rfl, b5⟩
        have B5 := HBB.out.trans (b5.mono HBB.out.size)
        have hs5 := B5.size
        clear hroom b5 hB HBB
        by_cases hful : (n : Int) - (a : Int) < (out.size : Int)
        · have e1 : decide ((n : Int) - (a : Int) < (out.size : Int)) = true := decide_eq_true hful
          have HGO := Lib.hid (append_full (n := n) (J := ⟨L, false⟩) (D := D) (l := l) HLN.out (by rw [HOUT.out]; show (n : Int) - (tapeN L : Int) < _; rw [HAE.out]; exact hful))
          clear hful
          go_wp2
          go_ret
          exact fin12 HAP.out HGO.out ⟨rfl, HR.out.below B5, HKK.out.below B5, (Frm.of_below B5)⟩
        · have e1 : decide ((n : Int) - (a : Int) < (out.size : Int)) = false := decide_eq_false hful
          have e1c : (out.size : Int) ≤ (n : Int) - (a : Int) := by omega
          have hfull2 : ¬ (n : Int) - ((tapeN (JouD.mk L false).L : Nat) : Int) < ((outS (JouD.mk L false).L l).size : Int) := by
            show ¬ (n : Int) - ((tapeN L : Nat) : Int) < ((outS L l).size : Int)
            rw [HOUT.out, HAE.out]; exact hful
          by_cases hz : out.size = 0
          · have HGO := Lib.hid (append_none (n := n) (J := ⟨L, false⟩) (D := D) (l := l) HLN.out hfull2 (by show (outS L l).size = 0; rw [HOUT.out]; exact hz))
            have hoe : out = ⟨#[]⟩ := W01.str_ext (List.eq_nil_of_length_eq_zero hz)
            have e2c : out.toList.isEmpty = true := by rw [hoe, Lib.toList_data]; rfl
            clear hful hoe hfull2 hz
            go_wp2
            go_ret
            exact fin12 HAP.out HGO.out ⟨rfl, HR.out.below B5, HKK.out.below B5, (Frm.of_below B5)⟩
          · have hgo := (append_go (n := n) (J := ⟨L, false⟩) (D := D) (l := l) HLN.out hfull2 (by show ¬ (outS L l).size = 0; rw [HOUT.out]; exact hz))
            have hoe : out.toList ≠ [] := fun h => hz (by rw [Lib.toList_data] at h; exact congrArg List.length h)
            have e2c : out.toList.isEmpty = false := by rw [List.isEmpty_eq_false_iff]; exact hoe
            obtain ⟨S, hS⟩ : ∃ S, seqD (app4 L l) D = S := ⟨_, rfl⟩
            have HGO := Lib.hid (show appE n ⟨L, false⟩ D l = S.1 ∧ appJ n ⟨L, false⟩ D l = (if S.1 = 0 then ⟨L ++ l, false⟩ else ⟨L, true⟩) ∧ appD n ⟨L, false⟩ D l = S.2 by
              rw [← hS]; exact hgo)
            unfold app4 at hS
            rw [HAE.out, HOUT.out] at hS
            have hw1 : IntKind.i64.wrap ((a : Int) + 1) = (a : Int) + 1 := wrapS _ (by omega) (by omega)
            have hw2 : IntKind.i64.wrap ((a : Int) + (out.size : Int)) = (a : Int) + (out.size : Int) := wrapS _ (by omega) (by omega)
            have q1 : (0 : Int) ≤ 1 ∧ (1 : Int) ≤ (out.size : Int) := by omega
            have q1b : 1 ≤ out.size := by omega
            have hr5 := ref_lo HR.out B5
            have k5 := HB.out.below B5 HB.out.lt
            have HK5 := Lib.hid (fun (w : World) (hf : Frm (Lo W F w5.heap.size) w5 w) => show Blk w Kb #[.pointer (some ⟨R, 0, none⟩), vr, .int .i64 (a : Int), .bool false] 43 from lo_blk B5 hf HB.out (by decide))
            have c0 := k5.cell 0
            have c2 := k5.cell 2
            simp only [List.getElem?_toArray, List.getElem?_cons_succ, List.getElem?_cons_zero] at c0 c2
            have HW1 := Lib.hid (write_ref (W := w5.drew) (hr5.below ((Below.refl _ _).drew)) (fun k hk => .inr hk) (by omega) ((a : Int) + 1) (out.extract 1 out.size))
            obtain ⟨x1, hx1⟩ : ∃ x, out.extract 1 out.size = x := ⟨_, rfl⟩
            obtain ⟨x0, hx0⟩ : ∃ x, out.extract 0 1 = x := ⟨_, rfl⟩
            rw [hx1] at HW1
            rw [hx1, hx0] at hS
            have HP := Lib.hid hp
            have HB5 := Lib.hid B5
            clear hgo hful hoe hfull2 hz hr5 k5 B5 hp
            go_wp2_with fail
            go_still_tail 11, (by kernel_rfl)
            change wpList _ _ _ _ _ w5.drew
            (try rw [hx1])
            go_wp2_with fail
            refine HW1.out.mono ?_
            rintro e w6 ⟨rfl, r6, f6⟩
            have F6 : Frm (Lo W F w5.heap.size) w5 w6 := ((Frm.refl (Lo W F w5.heap.size) w5).drew).trans f6 (fun _ _ h => h)
            have HP6 := Lib.hid (show (writeD D ((a : Int) + 1) x1).pend.length ≤ 90001 by have := pend_write' D ((a : Int) + 1) x1; have := HP.out; omega)
            clear HW1 f6 c0 c2
            by_cases hE1 : writeE D ((a : Int) + 1) x1 = 0
            · have hS : seqD [syO, wrO (a : Int) x0, syO] (writeD D ((a : Int) + 1) x1) = S := (seq_0 hE1).symm.trans hS
              have y0 : (writeE D ((a : Int) + 1) x1 == 0) = true := beq_iff_eq.2 hE1
              generalize writeE D ((a : Int) + 1) x1 = ee at *
              generalize writeD D ((a : Int) + 1) x1 = D1 at *
              clear hE1
              have HS1 := Lib.hid (sync_ref r6 (fun k hk => .inr (Nat.le_trans F6.size hk)) (by have := HP6.out; omega))
              have k6 := HK5.out _ F6
              have c0 := k6.cell 0
              have c2 := k6.cell 2
              simp only [List.getElem?_toArray, List.getElem?_cons_succ, List.getElem?_cons_zero] at c0 c2
              clear k6 r6
              go_wp2_with fail
              refine HS1.out.mono ?_
              rintro e w7 ⟨rfl, r7, f7⟩
              have F7 := lo_trans F6 f7
              have HP7 := Lib.hid (show (syncD D1).pend.length ≤ 90001 by have := pend_sync' D1; have := HP6.out; omega)
              clear HS1 f7 c0 c2 y0
              by_cases hE2 : syncE D1 = 0
              · have hS : seqD [wrO (a : Int) x0, syO] (syncD D1) = S := (seq_0 hE2).symm.trans hS
                have y0 : (syncE D1 == 0) = true := beq_iff_eq.2 hE2
                generalize syncE D1 = ee2 at *
                generalize syncD D1 = D2 at *
                clear hE2
                have HW2 := Lib.hid (write_ref (W := w7.drew) (r7.below ((Below.refl _ _).drew)) (fun k hk => .inr (Nat.le_trans F7.size hk)) (by have := HP7.out; omega) (a : Int) x0)
                have k7 := HK5.out _ F7
                have c0 := k7.cell 0
                have c2 := k7.cell 2
                simp only [List.getElem?_toArray, List.getElem?_cons_succ, List.getElem?_cons_zero] at c0 c2
                clear k7 r7
                go_wp2_with fail
                go_still_tail 10, (by kernel_rfl)
                change wpList _ _ _ _ _ w7.drew
                (try rw [hx0])
                go_wp2_with fail
                refine HW2.out.mono ?_
                rintro e w8 ⟨rfl, r8, f8⟩
                have F8 : Frm (Lo W F w5.heap.size) w5 w8 := lo_trans (lo_trans F7 ((Frm.refl (Lo W F w5.heap.size) w7).drew)) f8
                have HP8 := Lib.hid (show (writeD D2 (a : Int) x0).pend.length ≤ 90002 by have := pend_write' D2 (a : Int) x0; have := HP7.out; omega)
                clear HW2 f8 c0 c2 y0
                by_cases hE3 : writeE D2 (a : Int) x0 = 0
                · have hS : seqD [syO] (writeD D2 (a : Int) x0) = S := (seq_0 hE3).symm.trans hS
                  have y0 : (writeE D2 (a : Int) x0 == 0) = true := beq_iff_eq.2 hE3
                  generalize writeE D2 (a : Int) x0 = ee3 at *
                  generalize writeD D2 (a : Int) x0 = D3 at *
                  clear hE3
                  have HS2 := Lib.hid (sync_ref r8 (fun k hk => .inr (Nat.le_trans F8.size hk)) (by have := HP8.out; omega))
                  have k8 := HK5.out _ F8
                  have c0 := k8.cell 0
                  have c2 := k8.cell 2
                  simp only [List.getElem?_toArray, List.getElem?_cons_succ, List.getElem?_cons_zero] at c0 c2
                  clear k8 r8
                  go_wp2_with fail
                  refine HS2.out.mono ?_
                  rintro e w9 ⟨rfl, r9, f9⟩
                  have F9 := lo_trans F8 f9
                  clear HS2 f9 c0 c2 y0
                  by_cases hE4 : syncE D3 = 0
                  · have hS : (0, syncD D3) = S := (seq_0 hE4).symm.trans hS
                    have y0 : (syncE D3 == 0) = true := beq_iff_eq.2 hE4
                    have y0n : (syncE D3 != 0) = false := by rw [bne, y0]; rfl
                    generalize syncE D3 = ee4 at *
                    generalize syncD D3 = D4 at *
                    subst hE4
                    have k9 := HK5.out _ F9
                    have c1 := k9.cell 1
                    simp only [List.getElem?_toArray, List.getElem?_cons_succ, List.getElem?_cons_zero] at c1
                    have HQ := Lib.hid (And.intro k9 (And.intro (lo_row HB5.out F9 HO.out.1) (And.intro (lo_row HB5.out F9 HO.out.2.1) (And.intro r9 F9))))
                    have hs9 := F9.size
                    have hLl : L.length ≤ 100000 := by omega
                    clear k9 r9
                    go_wp2_with (first
                      | (at_builtin; refine wpList_cat rfl _ _ rfl W.heap.size 0 (l := []) (World.ownsRow_nil _ _ _ _) HQ.out.2.1 rfl rfl (by show 0 + L.length ≤ _; omega) (by omega) ?_; intro v1 w10 hown1 hg1; have b10 : Below w9.heap.size w9 w10 := (Below.refl _ _).grown hg1 (Nat.le_refl _) (fun k hk => by cases hk))
                      | (at_builtin; refine wpList_cat rfl _ _ rfl W.heap.size base2 (l := L) hown1 (owned_below HQ.out.2.2.1 b10) rfl rfl (by omega) (by have := b10.size; omega) ?_; intro v2 w11 hown2 hg2; obtain ⟨pa, pc, hv2, -, -⟩ := owned_len hown2; obtain ⟨mm, hmm⟩ : ∃ m, (L ++ l).length = m := ⟨_, rfl⟩; rw [hmm] at hv2; subst hv2; have HMM := Lib.hid hmm; clear hmm; have k10 := HQ.out.1.below b10 HQ.out.1.lt; have hne1 : ∀ g, v1.ownBlock = some g → g ≠ Kb := (fun g hg => by obtain ⟨cur, hcb, -⟩ := owned_block hown1 hg; exact hcb.ne k10 (by decide)); have k11 : Blk w11 Kb #[.pointer (some ⟨R, 0, none⟩), vr, .int .i64 (a : Int), .bool false] 43 := (hg2.block Kb k10.lt (fun e => hne1 Kb e.symm rfl)).trans k10; have d1' := k11.cell 1; have d1f := k11.frozen 1; simp only [List.getElem?_toArray, List.getElem?_cons_succ, List.getElem?_cons_zero] at d1'; have k12 := k11.set 1 (.slice pa mm pc); have d2 := k12.cell 2; have d2f := k12.frozen 2; simp only [List.setIfInBounds_toArray, List.set_cons_zero, List.set_cons_succ, List.getElem?_toArray, List.getElem?_cons_zero, List.getElem?_cons_succ] at d2))
                    go_ret
                    have k13 := k12.set 2 (.int .i64 ((a : Int) + (out.size : Int)))
                    simp only [List.setIfInBounds_toArray, List.set_cons_zero, List.set_cons_succ] at k13
                    have htt : tapeN (L ++ l) = a + out.size := by rw [tapeN_append, HAE.out, ← HOS.out l, HOUT.out]
                    subst hS
                    exact fin12 HAP.out HGO.out (by exact done12 HB5.out HQ.out.2.2.2.2 HQ.out.2.2.2.1 HF.out k10 b10 hown1 hg2 hown2 k11 k13 HMM.out htt)
                  · have hS : (syncE D3, syncD D3) = S := (seq_N hE4).symm.trans hS
                    have hNE := hE4
                    generalize syncE D3 = ee at *
                    generalize syncD D3 = DD at *
                    clear hE4
                    have y0 : (ee == 0) = false := beq_eq_false_iff_ne.2 hNE
                    have y0n : (ee != 0) = true := by rw [bne, y0]; rfl
                    have k9 := HK5.out _ F9
                    have c3 := k9.cell 3
                    have f3 := k9.frozen 3
                    simp only [List.getElem?_toArray, List.getElem?_cons_succ, List.getElem?_cons_zero] at c3
                    have HFIN := Lib.hid (And.intro k9 (And.intro r9 F9))
                    have HNE := Lib.hid hNE
                    clear k9 r9 F9 hNE
                    go_wp2
                    go_ret
                    subst hS
                    exact fin12 HAP.out HGO.out (by exact broken12 HB5.out HFIN.out.1 HFIN.out.2.1 HFIN.out.2.2 HF.out HO.out.1 HAE.out HNE.out)
                · have hS : (writeE D2 (a : Int) x0, writeD D2 (a : Int) x0) = S := (seq_N hE3).symm.trans hS
                  have hNE := hE3
                  generalize writeE D2 (a : Int) x0 = ee at *
                  generalize writeD D2 (a : Int) x0 = DD at *
                  clear hE3
                  have y0 : (ee == 0) = false := beq_eq_false_iff_ne.2 hNE
                  have y0n : (ee != 0) = true := by rw [bne, y0]; rfl
                  have k8 := HK5.out _ F8
                  have c3 := k8.cell 3
                  have f3 := k8.frozen 3
                  simp only [List.getElem?_toArray, List.getElem?_cons_succ, List.getElem?_cons_zero] at c3
                  have HFIN := Lib.hid (And.intro k8 (And.intro r8 F8))
                  have HNE := Lib.hid hNE
                  clear k8 r8 F8 hNE
                  go_wp2
                  go_ret
                  subst hS
                  exact fin12 HAP.out HGO.out (by exact broken12 HB5.out HFIN.out.1 HFIN.out.2.1 HFIN.out.2.2 HF.out HO.out.1 HAE.out HNE.out)
              · have hS : (syncE D1, syncD D1) = S := (seq_N hE2).symm.trans hS
                have hNE := hE2
                generalize syncE D1 = ee at *
                generalize syncD D1 = DD at *
                clear hE2
                have y0 : (ee == 0) = false := beq_eq_false_iff_ne.2 hNE
                have y0n : (ee != 0) = true := by rw [bne, y0]; rfl
                have k7 := HK5.out _ F7
                have c3 := k7.cell 3
                have f3 := k7.frozen 3
                simp only [List.getElem?_toArray, List.getElem?_cons_succ, List.getElem?_cons_zero] at c3
                have HFIN := Lib.hid (And.intro k7 (And.intro r7 F7))
                have HNE := Lib.hid hNE
                clear k7 r7 F7 hNE
                go_wp2
                go_ret
                subst hS
                exact fin12 HAP.out HGO.out (by exact broken12 HB5.out HFIN.out.1 HFIN.out.2.1 HFIN.out.2.2 HF.out HO.out.1 HAE.out HNE.out)
            · have hS : (writeE D ((a : Int) + 1) x1, writeD D ((a : Int) + 1) x1) = S := (seq_N hE1).symm.trans hS
              have hNE := hE1
              generalize writeE D ((a : Int) + 1) x1 = ee at *
              generalize writeD D ((a : Int) + 1) x1 = DD at *
              clear hE1
              have y0 : (ee == 0) = false := beq_eq_false_iff_ne.2 hNE
              have y0n : (ee != 0) = true := by rw [bne, y0]; rfl
              have k6 := HK5.out _ F6
              have c3 := k6.cell 3
              have f3 := k6.frozen 3
              simp only [List.getElem?_toArray, List.getElem?_cons_succ, List.getElem?_cons_zero] at c3
              have HFIN := Lib.hid (And.intro k6 (And.intro r6 F6))
              have HNE := Lib.hid hNE
              clear k6 r6 F6 hNE
              go_wp2
              go_ret
              subst hS
              exact fin12 HAP.out HGO.out (by exact broken12 HB5.out HFIN.out.1 HFIN.out.2.1 HFIN.out.2.2 HF.out HO.out.1 HAE.out HNE.out)
end Go.Proofs.YtnckpnbecmmcpaaGreatDoor
