/- nadirlaw03: IntegerMatchesReference. -/
import Derived.Test.YtjnpenljgfdaiaaGreatDoorLK
import Derived.Test.YtjnpenljgfdaiaaGreatDoorG9
namespace Go.Proofs.YtjnpenljgfdaiaaGreatDoor
open Go.RowKit Go.Shelf Lib

theorem made_size (s : ByteArray) (m : Nat) (hm : m ≤ 200) : (N3.S (madeV s m)).size ≤ 300 := S_size (N3.lim_of (madeV_lt s m) hm)

theorem i64_bd {x : Int} (h : (Lit.int .i64 x).wf = true) : -9223372036854775808 ≤ x ∧ x ≤ 9223372036854775807 := by
  simp [Lit.wf, IntKind.min, IntKind.max, IntKind.signed, IntKind.bits] at h
  exact ⟨by omega, by omega⟩
set_option maxRecDepth 100000 in
set_option maxHeartbeats 8000000 in
theorem law_ref (a b : ByteArray) (n : Int) (w : World) (ha : a.size ≤ 9223372036854775807) (hb : b.size ≤ 9223372036854775807) (l2 : -9223372036854775808 ≤ n) (u2 : n ≤ 9223372036854775807) (he : EnvW w) :
    Calls Tryz.prog 11 #[.string a, .string b, .int .i64 n] w fun e w' => e = .returned (.bool true) ∧ Below w.heap.size w w' := by
  have HE := Lib.hid he
  have F0 := Lib.hid (fun V (_ : EnvW V) => sane_true V ‹EnvW V›)
  obtain ⟨ca, hca⟩ : ∃ c, c = min a.size 210 := ⟨_, rfl⟩
  obtain ⟨cb, hcb⟩ : ∃ c, c = min b.size 210 := ⟨_, rfl⟩
  obtain ⟨p0, hp0⟩ : ∃ t, t = a.extract 0 ca := ⟨_, rfl⟩
  obtain ⟨q0, hq0⟩ : ∃ t, t = b.extract 0 cb := ⟨_, rfl⟩
  have hps : p0.size ≤ 300 := by rw [hp0, ByteArray.size_extract]; omega
  have hqs : q0.size ≤ 300 := by rw [hq0, ByteArray.size_extract]; omega
  have hmina : ∀ (ts : Array TypeId) (t : TypeId) (W : World), (Builtin.min_ ts t #[.int .i64 (a.size : Int), .int .i64 210]).run Tryz.prog W = .ok (.int .i64 (ca : Int)) W := by
    intro ts t W
    simp only [Builtin.min_, Builtin.min2, List.foldlM_cons, List.foldlM_nil, Sem.run_bind, Sem.run_pure, Result.andThen]
    congr 2
    omega
  have hminb : ∀ (ts : Array TypeId) (t : TypeId) (W : World), (Builtin.min_ ts t #[.int .i64 (b.size : Int), .int .i64 210]).run Tryz.prog W = .ok (.int .i64 (cb : Int)) W := by
    intro ts t W
    simp only [Builtin.min_, Builtin.min2, List.foldlM_cons, List.foldlM_nil, Sem.run_bind, Sem.run_pure, Result.andThen]
    congr 2
    omega
  have hsla : ∀ W : World, (Instr.slice 9 (.string a) none (some (.int .i64 (ca : Int))) none).run Tryz.prog W = .ok (.string p0) W := fun W => by
    have := run_slice_string_h (P := Tryz.prog) W 9 a Tryz.underlying9 .i64 (ca : Int) (by omega) (by omega)
    rw [this, hp0]; rfl
  have hslb : ∀ W : World, (Instr.slice 9 (.string b) none (some (.int .i64 (cb : Int))) none).run Tryz.prog W = .ok (.string q0) W := fun W => by
    have := run_slice_string_h (P := Tryz.prog) W 9 b Tryz.underlying9 .i64 (cb : Int) (by omega) (by omega)
    rw [this, hq0]; rfl
  have M1 := Lib.hid (fun V (_ : EnvW V) => made_any p0 70 V (by decide) (by omega))
  have M2 := Lib.hid (fun V (_ : EnvW V) => made_any q0 30 V (by decide) (by omega))
  have M3 := Lib.hid (fun V (_ : EnvW V) => made_any p0 12 V (by decide) (by omega))
  have M4 := Lib.hid (fun V (_ : EnvW V) => fromInt10 n V l2 u2)
  have N1 := Lib.hid (fun V (hV : EnvW V) => fromInt_f n l2 u2 V hV)
  have s1 := made_size p0 70 (by decide)
  have s2 := made_size q0 30 (by decide)
  have s3 := made_size p0 12 (by decide)
  have s4 : (N3.S n).size ≤ 300 := S_size (by have : (9223372036854775808 : Nat) < N3.lim := by decide
                                              omega)
  generalize N3.S (madeV p0 70) = p1 at *
  generalize N3.S (madeV q0 30) = q1 at *
  generalize N3.S (madeV p0 12) = p2 at *
  generalize N3.S n = q2 at *
  clear he hp0 hq0 hca hcb ha hb
  go_enter Tryz.func11, Tryz.ntmps11
  go_wp2_with omega
  refine (F0.out _ HE.out).mono ?_
  rintro e W1 ⟨rfl, hb1⟩
  have hB1 := hb1
  go_wp2_with omega
  refine (M1.out _ (HE.out.below hB1)).mono ?_
  rintro e W2 ⟨rfl, hb2⟩
  have hB2 := hB1.trans (hb2.mono hB1.size)
  go_wp2_with omega
  refine (M2.out _ (HE.out.below hB2)).mono ?_
  rintro e W3 ⟨rfl, hb3⟩
  have hB3 := hB2.trans (hb3.mono hB2.size)
  go_wp2_with omega
  refine (M3.out _ (HE.out.below hB3)).mono ?_
  rintro e W4 ⟨rfl, hb4⟩
  have hB4 := hB3.trans (hb4.mono hB3.size)
  go_wp2_with omega
  refine (M4.out _ (HE.out.below hB4)).mono ?_
  rintro e W5 ⟨rfl, hb5⟩
  have hB5 := hB4.trans (hb5.mono hB4.size)
  go_wp2_with omega
  have hBk := BlkT.newAt W5 #[.string p0, .string q0, .string p1, .string q1, .string p2, .string q2] 51 rfl
  generalize hW6 : W5.alloc (.cells #[.string p0, .string q0, .string p1, .string q1, .string p2, .string q2] 51) = W6 at *
  have hb6 : Below W5.heap.size W5 W6 := hW6 ▸ (Below.refl _ _).alloc (Nat.le_refl _) _
  have hB6 := hB5.trans (hb6.mono hB5.size)
  generalize W5.heap.size = gB at *
  have hlt6 := hBk.lt
  clear hW6 hb6
  go_loopw [9, 50] (fun _ u50 wr => ∃ i : Nat, i ≤ 3 ∧ u50 = .int .i64 (i : Nat) ∧ Below W6.heap.size W6 wr) (fun _ u50 _ => ((3 : Int) - Go.RowKit.intOf u50).toNat)
  case atStart => exact ⟨0, by decide, rfl, Below.refl _ _⟩
  case round =>
    obtain ⟨i, hi, rfl, hBr⟩ := hrel
    rename World => wr
    have hBw := hB6.trans (hBr.mono hB6.size)
    have hbk := hBk.below hBr hlt6
    by_cases hi3 : i < 3
    · obtain ⟨p, q, hp, hq, hc0, hc1⟩ : ∃ p q : ByteArray, p.size ≤ 300 ∧ q.size ≤ 300 ∧ wr.cell? ⟨gB, i * 2, none⟩ = some (.string p) ∧ wr.cell? ⟨gB, i * 2 + 1, none⟩ = some (.string q) := by
        rcases (show i = 0 ∨ i = 1 ∨ i = 2 by omega) with rfl | rfl | rfl
        · exact ⟨p0, q0, hps, hqs, by rw [hbk.cell]; rfl, by rw [hbk.cell]; rfl⟩
        · exact ⟨p1, q1, s1, s2, by rw [hbk.cell]; rfl, by rw [hbk.cell]; rfl⟩
        · exact ⟨p2, q2, s3, s4, by rw [hbk.cell]; rfl, by rw [hbk.cell]; rfl⟩
      have hki : (0 : Int) ≤ (i : Int) ∧ (i : Int) < 3 := by omega
      have hwi : IntKind.i64.wrap ((i : Int) + 1) = ((i + 1 : Nat) : Int) := by rw [IntKind.wrap_i64]; omega
      have Aadd := Lib.hid (fun V (hV : EnvW V) => add_f p q V (by omega) (by omega) hV)
      have Badd := Lib.hid (fun V (_ : EnvW V) => add10 p q V (by omega) (by omega))
      have Asub := Lib.hid (fun V (hV : EnvW V) => sub_f p q V (by omega) (by omega) hV)
      have Bsub := Lib.hid (fun V (_ : EnvW V) => sub10 p q V (by omega) (by omega))
      have Amul := Lib.hid (fun V (hV : EnvW V) => mul_f p q V (by omega) (by omega) hV)
      have Bmul := Lib.hid (fun V (_ : EnvW V) => mul10 p q V (by omega) (by omega))
      have Adiv := Lib.hid (fun V (hV : EnvW V) => div_f p q V (by omega) (by omega) hV)
      have Bdiv := Lib.hid (fun V (_ : EnvW V) => div10 p q V (by omega) (by omega))
      have Agcd := Lib.hid (fun V (hV : EnvW V) => gcd_f p q V (by omega) (by omega) hV)
      have Bgcd := Lib.hid (fun V (_ : EnvW V) => gcd10 p q V (by omega) (by omega))
      have Aroot := Lib.hid (fun V (hV : EnvW V) => root_f p V (by omega) hV)
      have Broot := Lib.hid (fun V (_ : EnvW V) => root10 p V (by omega))
      have AtoInt := Lib.hid (fun V (hV : EnvW V) => toInt_f p V (by omega) hV)
      have BtoInt := Lib.hid (fun V (_ : EnvW V) => toInt10 p V (by omega))
      generalize N3.outS (N3.addO p q) = adds at *
      generalize N3.outE (N3.addO p q) = adde at *
      generalize N3.outS (N3.subO p q) = subs at *
      generalize N3.outE (N3.subO p q) = sube at *
      generalize N3.outS (N3.mulO p q) = muls at *
      generalize N3.outE (N3.mulO p q) = mule at *
      generalize N3.outS (N3.gcdO p q) = gcds at *
      generalize N3.outE (N3.gcdO p q) = gcde at *
      generalize N3.outS (N3.quoO p q) = quos at *
      generalize N3.outE (N3.quoO p q) = quoe at *
      generalize N3.outS (N3.remO p q) = rems at *
      generalize N3.outS (N3.rootO p) = roots at *
      generalize N3.outE (N3.rootO p) = roote at *
      generalize N3.toM p = tm at *
      generalize N3.toE p = te at *
      have AV := Lib.hid (fun V => valid_f p V (by omega))
      have BV := Lib.hid (fun V => valid10 p V (by omega))
      have AC := Lib.hid (fun V => compare_f p q V (by omega) (by omega))
      have BC := Lib.hid (fun V => compare10 p q V (by omega) (by omega))
      generalize N3.okS p = okp at *
      generalize N3.cmpS p q = cpq at *
      clear s1 s2 s3 s4 hps hqs hbk hp hq
      go_wp2_with omega
      have hWb : ∃ g9, g9 = wr.heap.size := ⟨_, rfl⟩
      generalize hW7 : wr.alloc (.cells #[.string p, .string q] 51) = W7
      have h9 : BlkT W7 wr.heap.size #[.string p, .string q] 51 := hW7 ▸ BlkT.newAt _ _ _ rfl
      have hb7 : Below wr.heap.size wr W7 := hW7 ▸ (Below.refl _ _).alloc (Nat.le_refl _) _
      have hB7r := hBr.trans (hb7.mono hBr.size)
      have hB7 := hBw.trans (hb7.mono hBw.size)
      generalize wr.heap.size = g9 at *
      clear hW7 hWb hc0 hc1 hb7
      have h9_7 := h9
      have hbr7 := hB7r
      have x0 := h9_7.cell 0
      have x1 := h9_7.cell 1
      have y0 := h9_7.frozen 0
      simp only [List.getElem?_toArray, List.getElem?_cons_succ, List.getElem?_cons_zero] at x0 x1
      go_wp2_with omega
      refine (Aadd.out _ (HE.out.below hB7)).mono ?_
      rintro e W8 ⟨rfl, hb8⟩
      have hB8 := hB7.trans (hb8.mono hB7.size)
      have h9_8 := h9_7.below hb8 h9_7.lt
      have hbr8 := hbr7.trans (hb8.mono hbr7.size)
      clear x0 x1 y0
      have x0 := h9_8.cell 0
      have x1 := h9_8.cell 1
      have y0 := h9_8.frozen 0
      simp only [List.getElem?_toArray, List.getElem?_cons_succ, List.getElem?_cons_zero] at x0 x1
      go_wp2_with omega
      refine (Badd.out _ (HE.out.below hB8)).mono ?_
      rintro e W9 ⟨rfl, hb9⟩
      have hB9 := hB8.trans (hb9.mono hB8.size)
      have h9_9 := h9_8.below hb9 h9_8.lt
      have hbr9 := hbr8.trans (hb9.mono hbr8.size)
      clear x0 x1 y0
      have x0 := h9_9.cell 0
      have x1 := h9_9.cell 1
      have y0 := h9_9.frozen 0
      simp only [List.getElem?_toArray, List.getElem?_cons_succ, List.getElem?_cons_zero] at x0 x1
      go_wp2_with omega
      refine (Asub.out _ (HE.out.below hB9)).mono ?_
      rintro e W10 ⟨rfl, hb10⟩
      have hB10 := hB9.trans (hb10.mono hB9.size)
      have h9_10 := h9_9.below hb10 h9_9.lt
      have hbr10 := hbr9.trans (hb10.mono hbr9.size)
      clear x0 x1 y0
      have x0 := h9_10.cell 0
      have x1 := h9_10.cell 1
      have y0 := h9_10.frozen 0
      simp only [List.getElem?_toArray, List.getElem?_cons_succ, List.getElem?_cons_zero] at x0 x1
      go_wp2_with omega
      refine (Bsub.out _ (HE.out.below hB10)).mono ?_
      rintro e W11 ⟨rfl, hb11⟩
      have hB11 := hB10.trans (hb11.mono hB10.size)
      have h9_11 := h9_10.below hb11 h9_10.lt
      have hbr11 := hbr10.trans (hb11.mono hbr10.size)
      clear x0 x1 y0
      have x0 := h9_11.cell 0
      have x1 := h9_11.cell 1
      have y0 := h9_11.frozen 0
      simp only [List.getElem?_toArray, List.getElem?_cons_succ, List.getElem?_cons_zero] at x0 x1
      go_wp2_with omega
      refine (Amul.out _ (HE.out.below hB11)).mono ?_
      rintro e W12 ⟨rfl, hb12⟩
      have hB12 := hB11.trans (hb12.mono hB11.size)
      have h9_12 := h9_11.below hb12 h9_11.lt
      have hbr12 := hbr11.trans (hb12.mono hbr11.size)
      clear x0 x1 y0
      have x0 := h9_12.cell 0
      have x1 := h9_12.cell 1
      have y0 := h9_12.frozen 0
      simp only [List.getElem?_toArray, List.getElem?_cons_succ, List.getElem?_cons_zero] at x0 x1
      go_wp2_with omega
      refine (Bmul.out _ (HE.out.below hB12)).mono ?_
      rintro e W13 ⟨rfl, hb13⟩
      have hB13 := hB12.trans (hb13.mono hB12.size)
      have h9_13 := h9_12.below hb13 h9_12.lt
      have hbr13 := hbr12.trans (hb13.mono hbr12.size)
      clear x0 x1 y0
      have x0 := h9_13.cell 0
      have x1 := h9_13.cell 1
      have y0 := h9_13.frozen 0
      simp only [List.getElem?_toArray, List.getElem?_cons_succ, List.getElem?_cons_zero] at x0 x1
      go_wp2_with omega
      refine (Adiv.out _ (HE.out.below hB13)).mono ?_
      rintro e W14 ⟨rfl, hb14⟩
      have hB14 := hB13.trans (hb14.mono hB13.size)
      have h9_14 := h9_13.below hb14 h9_13.lt
      have hbr14 := hbr13.trans (hb14.mono hbr13.size)
      clear x0 x1 y0
      have x0 := h9_14.cell 0
      have x1 := h9_14.cell 1
      have y0 := h9_14.frozen 0
      simp only [List.getElem?_toArray, List.getElem?_cons_succ, List.getElem?_cons_zero] at x0 x1
      go_wp2_with omega
      refine (Bdiv.out _ (HE.out.below hB14)).mono ?_
      rintro e W15 ⟨rfl, hb15⟩
      have hB15 := hB14.trans (hb15.mono hB14.size)
      have h9_15 := h9_14.below hb15 h9_14.lt
      have hbr15 := hbr14.trans (hb15.mono hbr14.size)
      clear x0 x1 y0
      have x0 := h9_15.cell 0
      have x1 := h9_15.cell 1
      have y0 := h9_15.frozen 0
      simp only [List.getElem?_toArray, List.getElem?_cons_succ, List.getElem?_cons_zero] at x0 x1
      go_wp2_with omega
      refine (Agcd.out _ (HE.out.below hB15)).mono ?_
      rintro e W16 ⟨rfl, hb16⟩
      have hB16 := hB15.trans (hb16.mono hB15.size)
      have h9_16 := h9_15.below hb16 h9_15.lt
      have hbr16 := hbr15.trans (hb16.mono hbr15.size)
      clear x0 x1 y0
      have x0 := h9_16.cell 0
      have x1 := h9_16.cell 1
      have y0 := h9_16.frozen 0
      simp only [List.getElem?_toArray, List.getElem?_cons_succ, List.getElem?_cons_zero] at x0 x1
      go_wp2_with omega
      refine (Bgcd.out _ (HE.out.below hB16)).mono ?_
      rintro e W17 ⟨rfl, hb17⟩
      have hB17 := hB16.trans (hb17.mono hB16.size)
      have h9_17 := h9_16.below hb17 h9_16.lt
      have hbr17 := hbr16.trans (hb17.mono hbr16.size)
      clear x0 x1 y0
      have x0 := h9_17.cell 0
      have x1 := h9_17.cell 1
      have y0 := h9_17.frozen 0
      simp only [List.getElem?_toArray, List.getElem?_cons_succ, List.getElem?_cons_zero] at x0 x1
      go_wp2_with omega
      refine (Aroot.out _ (HE.out.below hB17)).mono ?_
      rintro e W18 ⟨rfl, hb18⟩
      have hB18 := hB17.trans (hb18.mono hB17.size)
      have h9_18 := h9_17.below hb18 h9_17.lt
      have hbr18 := hbr17.trans (hb18.mono hbr17.size)
      clear x0 x1 y0
      have x0 := h9_18.cell 0
      have x1 := h9_18.cell 1
      have y0 := h9_18.frozen 0
      simp only [List.getElem?_toArray, List.getElem?_cons_succ, List.getElem?_cons_zero] at x0 x1
      go_wp2_with omega
      refine (Broot.out _ (HE.out.below hB18)).mono ?_
      rintro e W19 ⟨rfl, hb19⟩
      have hB19 := hB18.trans (hb19.mono hB18.size)
      have h9_19 := h9_18.below hb19 h9_18.lt
      have hbr19 := hbr18.trans (hb19.mono hbr18.size)
      clear x0 x1 y0
      have x0 := h9_19.cell 0
      have x1 := h9_19.cell 1
      have y0 := h9_19.frozen 0
      simp only [List.getElem?_toArray, List.getElem?_cons_succ, List.getElem?_cons_zero] at x0 x1
      go_wp2_with omega
      refine (AtoInt.out _ (HE.out.below hB19)).mono ?_
      rintro e W20 ⟨rfl, hb20⟩
      have hB20 := hB19.trans (hb20.mono hB19.size)
      have h9_20 := h9_19.below hb20 h9_19.lt
      have hbr20 := hbr19.trans (hb20.mono hbr19.size)
      clear x0 x1 y0
      have x0 := h9_20.cell 0
      have x1 := h9_20.cell 1
      have y0 := h9_20.frozen 0
      simp only [List.getElem?_toArray, List.getElem?_cons_succ, List.getElem?_cons_zero] at x0 x1
      go_wp2_with omega
      refine (BtoInt.out _ (HE.out.below hB20)).mono ?_
      rintro e W21 ⟨rfl, hb21⟩
      have hB21 := hB20.trans (hb21.mono hB20.size)
      have h9_21 := h9_20.below hb21 h9_20.lt
      have hbr21 := hbr20.trans (hb21.mono hbr20.size)
      clear x0 x1 y0
      have x0 := h9_21.cell 0
      have x1 := h9_21.cell 1
      have y0 := h9_21.frozen 0
      simp only [List.getElem?_toArray, List.getElem?_cons_succ, List.getElem?_cons_zero] at x0 x1
      go_wp2_with omega
      have HK := Lib.hid (fun w' (h : Below W21.heap.size W21 w') => And.intro ((h9_21.below h h9_21.lt).cell 0) ((h9_21.below h h9_21.lt).cell 1))
      have HVA := Lib.hid (fun w' (h : Below W21.heap.size W21 w') => AV.out w')
      go_region_held3 (fun w' => Below W21.heap.size W21 w' ∧ w'.cell? ⟨g9, 0, none⟩ = some (.string p) ∧ w'.cell? ⟨g9, 1, none⟩ = some (.string q))
        (first | exact ⟨(Below.refl _ _).drew, HK.out _ (Below.refl _ _).drew⟩ | (have hh := (‹Below W21.heap.size W21 _ ∧ _›).1; have hb := hh.trans (hBq.mono hh.size); exact ⟨hb, HK.out _ hb⟩) | go_keep)
        (first
          | (go_at_call 39; (with_reducible refine (AV.out _).mono ?_); rintro e wq ⟨rfl, hBq⟩)
          | (go_at_call 53; (with_reducible refine (BV.out _).mono ?_); rintro e wq ⟨rfl, rfl⟩)
          | (go_at_call 38; (with_reducible refine (AC.out _).mono ?_); rintro e wq ⟨rfl, hBq⟩)
          | (go_at_call 54; (with_reducible refine (BC.out _).mono ?_); rintro e wq ⟨rfl, hBq⟩))
      all_goals (
        go_wp2_with fail
        go_roundw
        case rel => exact ⟨i + 1, by omega, by go_num, hbr21.trans ((‹Below W21.heap.size W21 _ ∧ _›).1.mono hbr21.size)⟩
        case measure => simp [Go.RowKit.intOf]; omega)
    · obtain rfl : i = 3 := by omega
      have hki : ¬ ((3 : Nat) : Int) < 3 := by omega
      clear hbk
      go_wp2_with omega
      refine (N1.out _ (HE.out.below hBw)).mono ?_
      rintro e X1 ⟨rfl, hx1⟩
      have hX1 := hBw.trans (hx1.mono hBw.size)
      go_wp2_with omega
      refine (M4.out _ (HE.out.below hX1)).mono ?_
      rintro e X2 ⟨rfl, hx2⟩
      have hX2 := hX1.trans (hx2.mono hX1.size)
      go_wp2_with omega
      go_ret
      exact ⟨rfl, hX2⟩
end Go.Proofs.YtjnpenljgfdaiaaGreatDoor
