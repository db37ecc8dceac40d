/- package integer: an integer as a string. -/
import Derived.Test.YtjnpenljgfdaiaaGreatDoorV5
namespace Go.Proofs.YtjnpenljgfdaiaaGreatDoor
open Go.RowKit Go.Shelf Lib
attribute [local go_sem] Oper.semAt_some

theorem isB_of {T e : TypeId} {B b : Nat} {bs : List Value} {V V' : World} (h : IsBuilderF T e B b bs V) (hk : ∀ (k : Nat) (c : Array Value) (t : TypeId) (fz : Nat × Nat), V.heap[k]? = some (Obj.cells c t fz) → V'.heap[k]? = some (Obj.cells c t fz)) : IsBuilderF T e B b bs V' := by
  have one : ∀ p, BuilderAtF T e B b p bs V → BuilderAtF T e B b p bs V' := by
    rintro p ⟨h1, v, h2, h3, h4⟩
    refine ⟨h1, v, hk _ _ _ _ h2, ⟨h3.1, h3.2.imp_right ?_⟩, h4⟩
    rintro ⟨g, cap, cur, fz, q1, q2, q3, q4⟩
    exact ⟨g, cap, cur, fz, q1, q2, hk _ _ _ _ q3, q4⟩
  exact h.imp (one _) (one _)
theorem isB_below {T e : TypeId} {B b : Nat} {bs : List Value} {V V' : World} (h : IsBuilderF T e B b bs V) (hb : Below V.heap.size V V') : IsBuilderF T e B b bs V' :=
  isB_of h fun k _ _ _ hk => (hb.block k (Array.getElem?_eq_some_iff.1 hk).1).trans hk
theorem isB_cells {T e : TypeId} {B b : Nat} {bs : List Value} {V : World} (h : IsBuilderF T e B b bs V) : ∃ c, V.heap[b]? = some (.cells c T (0, 0)) := by
  rcases h with ⟨-, v, h, -⟩ | ⟨-, v, h, -⟩ <;> exact ⟨_, h⟩
theorem keeps_others {T : TypeId} {B b : Nat} {V V' : World} {c : Array Value} (hc : V.heap[b]? = some (.cells c T (0, 0))) (hb : Below B V V') (ho : OthersKept 5 (some b) V V') : KeepsOthers V V' :=
  ⟨hb.size, fun k o hk hno => ho k o hk (fun e => by cases e; rw [hc] at hk; cases hk; cases hno) (fun c fz e => by rw [e] at hno; cases hno)⟩
theorem writeString_k (B b : Nat) (bs : List Value) (s : ByteArray) (w : World) (h : Lib.IsBuilderF 123 5 B b bs w) (hlen : bs.length + s.size ≤ 140737488355328) (hBw : B ≤ w.heap.size) :
    Calls Tryz.prog 115 #[.pointer (some ⟨b, 0, none⟩), .string s] w fun e w' => e = .returned (.tuple #[.int .i64 s.size, .nilIface]) ∧ (Lib.BuilderAtF 123 5 B b (.pointer (some ⟨b, 0, none⟩)) (bs ++ Lib.strCells s) w' ∧ Below B w w' ∧ Lib.OthersKept 5 (some b) w w') :=
  Any.Builder_WriteString_k (ρ := Tryz.lays105_ren) { Tryz.lays105 with } Tryz.Builder_Extra_105 B b bs s w h hlen hBw
theorem string_k (B b : Nat) (l : List UInt8) (w : World) (h : Lib.IsBuilderF 123 5 B b (Lib.byteCells l) w) (hBw : B ≤ w.heap.size) :
    Calls Tryz.prog 116 #[.pointer (some ⟨b, 0, none⟩)] w fun e w' => e = .returned (.string ⟨l.toArray⟩) ∧ (Lib.IsBuilderF 123 5 B b (Lib.byteCells l) w' ∧ Below B w w' ∧ Lib.OthersKept 5 (some b) w w') :=
  Any.Builder_String_any_k (ρ := Tryz.lays105_ren) { Tryz.lays105 with } Tryz.Builder_Extra_105 B b l w h hBw
theorem itoa_any (n : Int) (h0 : -9223372036854775808 ≤ n) (h1 : n ≤ 9223372036854775807) (w : World) (he : EnvW w) :
    Calls Tryz.prog 104 #[.int .i64 n] w fun e w' => e = .returned (.string (N3.S n)) ∧ Below w.heap.size w w' := by
  refine (Tryz.strconv_Itoa n h0 h1 w he.tab).mono ?_
  rintro e w' ⟨rfl, k, os, rfl⟩
  exact ⟨rfl, Lib.below_grow _ _ (Nat.le_refl _) _ _⟩
set_option maxRecDepth 100000 in
set_option maxHeartbeats 2000000 in
theorem text_any (b : Bool) (v : Value) (n : Nat) (w : World) (h1 : NumAt w v n) (l1 : (N3.toG n).length ≤ 1000) (he : EnvW w) :
    Calls Tryz.prog 86 #[.agg #[.bool b, v]] w fun e w' => e = .returned (.tuple #[.string (N3.outS (some (N3.sgn b n))), .int .i64 (N3.outE (some (N3.sgn b n)))]) ∧ Below w.heap.size w w' := by
  obtain ⟨a, cp, rfl, g1, g2⟩ := (show IntsAt w v _ from h1).len
  rw [castL_len] at g1
  by_cases hn0 : n = 0
  · subst hn0
    have e0 : N3.sgn b 0 = 0 := by cases b <;> rfl
    have hl : (castL (N3.toG 0)).length = 0 := by rw [N3.toG_zero]; rfl
    rw [e0, N3.outS_some (by decide), N3.outE_some (by decide), hl]
    have hS : N3.S 0 = ⟨#[48]⟩ := by unfold N3.S; rw [N3.itoa_zero]
    rw [hS]
    have hb1 : BlkT (w.alloc (.cells #[.bool b, .slice a 0 cp] 90)) w.heap.size #[.bool b, .slice a 0 cp] 90 := BlkT.newAt _ _ _ rfl
    have e1 := hb1.cell 1
    simp at e1
    clear h1
    go_enter Tryz.func86, Tryz.ntmps86
    go_wp2
    go_ret2
    exact ⟨rfl, (Below.refl _ _).alloc (Nat.le_refl _) _⟩
  · obtain ⟨W0, hW0⟩ : ∃ W0, ((w.alloc (.cells #[.bool b, .slice a (N3.toG n).length cp] 90)).alloc (.cells #[.pointer none, .slice none 0 0] 123)).alloc (.cells #[.slice a (N3.toG n).length cp] 88) = W0 := ⟨_, rfl⟩
    have hl0 : 0 < (N3.toG n).length := by
      refine Classical.byContradiction fun hc => hn0 (N3.toG_nil.1 (List.eq_nil_of_length_eq_zero (by omega)))
    have hq0 : (((N3.toG n).length : Int) == 0) = false := beq_eq_false_iff_ne.2 (by omega)
    have hsz : W0.heap.size = w.heap.size + 3 := by rw [← hW0]; simp
    have hB0 : Below w.heap.size w W0 := by rw [← hW0]; exact (((Below.refl _ _).alloc (Nat.le_refl _) _).alloc (by simp) _).alloc (by simp; omega) _
    have hb1 : BlkT W0 w.heap.size #[.bool b, .slice a (N3.toG n).length cp] 90 := by rw [← hW0]; exact ((BlkT.newAt _ _ _ rfl).alloc _).alloc _
    have hb2 : BlkT W0 (w.heap.size + 1) #[.pointer none, .slice none 0 0] 123 := by rw [← hW0]; exact (BlkT.newAt _ _ _ (by simp)).alloc _
    have hb3 : BlkT W0 (w.heap.size + 1 + 1) #[.slice a (N3.toG n).length cp] 88 := by rw [← hW0]; exact BlkT.newAt _ _ _ (by simp)
    have hbu : IsBuilderF 123 5 (w.heap.size + 1) (w.heap.size + 1) (byteCells []) W0 := .inl ⟨Nat.le_refl _, .slice none 0 0, hb2, World.ownsRowF_nil _ _ _ _, by simp [Value.ownBlock]⟩
    have hseq := Lib.hid (backward_seq 4 (by omega) (w.heap.size + 1 + 1) (N3.toG n) w W0 _ h1 hB0 (by omega) ⟨_, _, by rw [castL_len]; exact hb3⟩)
    have HN := Lib.hid hn0
    rw [castL_len] at h1 ⊢
    generalize hoS : N3.outS (some (N3.sgn b n)) = oS
    generalize hoE : N3.outE (some (N3.sgn b n)) = oE
    have HOS := Lib.hid hoS
    have HOE := Lib.hid hoE
    clear hoS hoE
    have HE := Lib.hid he
    clear he hn0 h1
    refine (callsIn_wide (n := 5)).1 ?_
    refine callsIn_of_wp_marks Tryz.func86 rfl trivial ?_ rfl
    simp only [Tryz.ntmps86, List.size_toArray, List.length_cons, List.length_nil, Nat.reduceAdd, Nat.reduceSub, Array.replicate_succ, Array.replicate_zero, List.push_toArray, List.append_toArray, List.nil_append, List.cons_append]
    refine wpIn_wide.2 ?_
    go_wp2_with fail
    refine (backward_made _ _ _ _).mono ?_
    rintro e w' ⟨rfl, rfl⟩
    go_wp2_with fail
    refine (wpIn_wide (n := 5)).1 ?_
    refine wpIn_rangeFunc_Mf (zs := fun k => False) rfl (by omega) (gf := 138) (lb := #[.pointer (some ⟨w.heap.size + 1 + 1, 0, none⟩)]) (by simp [Act.eval]) trivial Tryz.call138
      (fun k hk => hk.elim) hseq.out (fun h k => h.trans k)
      (fun W l o o' hl ho _ _ => KpC.putObj o' (by omega) (by omega) ho) (Below.refl _ _) (fun _ => rfl)
      (fun pre W => pre.length ≤ (N3.toG n).length ∧ BlkT W w.heap.size #[.bool b, .slice a (N3.toG n).length cp] 90 ∧ IsBuilderF 123 5 (w.heap.size + 1) (w.heap.size + 1) (byteCells (N3.txtK (N3.toG n) pre.length)) W ∧ BlkT W (w.heap.size + 1 + 1) #[.slice a (N3.toG n).length cp] 88 ∧ Below w.heap.size w W ∧ w.heap.size + 3 ≤ W.heap.size)
      (fun _ _ _ => False)
      (fun s A B hs ht => ⟨hs.1, ht.heap hs.2.1 (fun h => h) (.inr rfl), isB_of hs.2.2.1 (fun k c t fz hk => ht.heap hk (fun h => h) (.inr rfl)), ht.heap hs.2.2.2.1 (fun h => h) (.inr rfl), ht.below hs.2.2.2.2.1 (Nat.le_refl _) (by omega) (fun k hk h => h), Nat.le_trans hs.2.2.2.2.2 ht.size⟩)
      (fun _ _ _ _ hs _ => hs)
      ⟨by simp, hb1, by rw [show ([] : List (Nat × Nat)).length = 0 from rfl, N3.txtK_zero]; exact hbu, hb3, hB0, by omega⟩
      (fun x t => (((t.setIfInBounds 16 (.int .i64 (x.1 : Int))).setIfInBounds 17 (.int .i64 (x.2 : Int))).setIfInBounds 5 (.int .i64 (x.1 : Int))).setIfInBounds 6 (.int .i64 (x.2 : Int))) ?assign ?body ?done ?stop
    case assign =>
      intro l x W K hK
      dsimp only [encB]
      gi_wp2
      exact hK
    case body =>
      rintro l pre x W ⟨hpl, hc1, hbu, hpb, hB, hsz1⟩ ⟨hlt, rfl⟩
      have hx4 : (nthB (N3.toG n) pre.length).2 < 10000 := getD_lt (N3.toG_lt n) _
      have hi1 : (nthB (N3.toG n) pre.length).1 = (N3.toG n).length - 1 - pre.length := rfl
      have htk := N3.txtK_succ hlt
      have htl := N3.txtK_len (N3.toG_lt n) pre.length hpl
      rw [show (N3.toG n).getD ((N3.toG n).length - 1 - pre.length) 0 = (nthB (N3.toG n) pre.length).2 from rfl] at htk
      generalize nthB (N3.toG n) pre.length = xx at hx4 hi1 htk ⊢
      generalize N3.txtK (N3.toG n) pre.length = tk at htk htl hbu
      obtain ⟨Sx, hSx⟩ : ∃ S : ByteArray, S = N3.S (xx.2 : Int) := ⟨_, rfl⟩
      have hSd : Sx.data.toList = decDigits xx.2 := by rw [hSx]; unfold N3.S; rw [N3.itoa_nat]
      have hSl : Sx.size ≤ 4 := by rw [Lib.size_eq, hSd]; exact N3.dig4_len hx4
      have hit := Lib.hid (fun V (hV : EnvW V) => itoa_any (xx.2 : Int) (by omega) (by omega) V hV)
      rw [← hSx] at hit
      have hEW := HE.out.below hB
      have hlen := Lib.hid hlt
      have HTK := Lib.hid htk
      have hi1' := Lib.hid hi1
      have e2 := hc1.cell 1
      simp at e2
      have hw1 : IntKind.i64.wrap (((N3.toG n).length : Int) - 1) = ((N3.toG n).length : Int) - 1 := by rw [IntKind.wrap_i64]; omega
      have htl2 : tk.length ≤ 4000 := by omega
      clear hSx htk hpl htl
      by_cases hk0 : pre.length = 0
      · rw [if_pos hk0] at HTK
        have hlt2 : ¬ ((xx.1 : Int) < ((N3.toG n).length : Int) - 1) := by omega
        have HK0 := Lib.hid hk0
        clear hi1 hlt hk0
        gi_wp2_with fail
        refine ⟨trivial, ?_⟩
        refine (CallsIn.inRound l (callsIn_wide.2 (hit.out _ hEW))).mono ?_
        rintro e W1 ⟨rfl, hB1⟩
        have d1 := hc1.below hB1 hc1.lt
        have e2 := d1.cell 1
        simp at e2
        have hbu1 := isB_below hbu hB1
        gi_wp2_with fail
        refine ⟨trivial, ?_⟩
        refine (CallsIn.inRound l (callsIn_wide.2 (writeString_k (w.heap.size + 1) (w.heap.size + 1) _ Sx W1 hbu1 (by rw [byteCells_length]; omega) (by have := hB1.size; omega)))).mono ?_
        rintro e W2 ⟨rfl, hbu2, hB2, ho2⟩
        gi_wp2_with fail
        have hs1 := hB1.size
        have hBx := hB.trans (hB1.mono hB.size)
        refine ⟨(keeps_below hB1).trans (keeps_others (isB_cells hbu1).choose_spec hB2 ho2), ⟨(hB1.mono hB.size).trans (hB2.mono (by omega)), (ho2 _ _ (hpb.below hB1 hpb.lt) (by simp) (fun c fz e => by cases e)).trans (show W.heap[w.heap.size + 1 + 1]? = _ from hpb).symm⟩, by have := hlen.out; simp; omega, d1.below hB2 (by omega), ?_, ho2 _ _ (hpb.below hB1 hpb.lt) (by simp) (fun c fz e => by cases e), hBx.trans (hB2.mono (by omega)), by have := hB2.size; omega⟩
        rw [List.length_append, List.length_singleton, HTK.out, byteCells_append, ← hSd, ← strCells_eq]
        exact .inr hbu2
      · rw [if_neg hk0] at HTK
        have hlt2 : (xx.1 : Int) < ((N3.toG n).length : Int) - 1 := by omega
        have hw4 : IntKind.i64.wrap (4 - (Sx.size : Int)) = ((4 - Sx.size : Nat) : Int) := by rw [IntKind.wrap_i64]; omega
        have hrep := Lib.hid (fun V => Tryz.strings_Repeat ⟨#[48]⟩ (4 - Sx.size) V (by omega) (by show 1 * (4 - Sx.size) ≤ _; omega))
        rw [show (⟨#[48]⟩ : ByteArray).data.toList = [48] from rfl] at hrep
        obtain ⟨R, hR⟩ : ∃ R : ByteArray, R = ⟨(repeatL [48] (4 - Sx.size)).toArray⟩ := ⟨_, rfl⟩
        rw [← hR] at hrep
        have hRS : (R ++ Sx).data.toList = N3.pad4 xx.2 := by
          rw [ByteArray.data_append, Array.toList_append, hR, hSd, ← N3.pad_repeat, Lib.size_eq, hSd]
        have hRl : (R ++ Sx).size ≤ 4 := by rw [Lib.size_eq, hRS, N3.pad4_len hx4]; exact Nat.le_refl _
        have hRn : ¬ 9223372036854775807 < R.size + Sx.size := by rw [ByteArray.size_append] at hRl; omega
        have HRS := Lib.hid hRS
        clear hi1 hlt hk0 hR hRS
        gi_wp2_with fail
        refine ⟨trivial, ?_⟩
        refine (CallsIn.inRound l (callsIn_wide.2 (hit.out _ hEW))).mono ?_
        rintro e W1 ⟨rfl, hB1⟩
        have d1 := hc1.below hB1 hc1.lt
        have e2 := d1.cell 1
        simp at e2
        gi_wp2_with fail
        refine ⟨trivial, ?_⟩
        refine (CallsIn.inRound l (callsIn_wide.2 (hrep.out _))).mono ?_
        rintro e W2 ⟨rfl, hB2⟩
        have hB12 := hB1.trans (hB2.mono hB1.size)
        have hbu1 := isB_below hbu hB12
        have hs1 := hB12.size
        gi_wp2_with fail
        refine ⟨trivial, ?_⟩
        refine (CallsIn.inRound l (callsIn_wide.2 (writeString_k (w.heap.size + 1) (w.heap.size + 1) _ (R ++ Sx) W2 hbu1 (by rw [byteCells_length]; omega) (by omega)))).mono ?_
        rintro e W3 ⟨rfl, hbu2, hB3, ho2⟩
        gi_wp2_with fail
        have hBx := hB.trans (hB12.mono hB.size)
        refine ⟨(keeps_below hB12).trans (keeps_others (isB_cells hbu1).choose_spec hB3 ho2), ⟨(hB12.mono hB.size).trans (hB3.mono (by omega)), (ho2 _ _ (hpb.below hB12 hpb.lt) (by simp) (fun c fz e => by cases e)).trans (show W.heap[w.heap.size + 1 + 1]? = _ from hpb).symm⟩, by have := hlen.out; simp; omega, (d1.below hB2 d1.lt).below hB3 (by omega), ?_, ho2 _ _ (hpb.below hB12 hpb.lt) (by simp) (fun c fz e => by cases e), hBx.trans (hB3.mono (by omega)), by have := hB3.size; omega⟩
        rw [List.length_append, List.length_singleton, HTK.out, byteCells_append, ← HRS.out, ← strCells_eq]
        exact .inr hbu2
    case done =>
      rintro D ys W hD hys ⟨_, hc1, hbu, hpb, hB, hsz1⟩ hK
      rw [hys, N3.txtK_all] at hbu
      have hst := Lib.hid (string_k (w.heap.size + 1) (w.heap.size + 1) _ W hbu (by omega))
      have hlim := N3.txt_len n HN.out
      have hsg := N3.sgn_text b HN.out
      have hab := N3.sgn_abs b n
      have hD2 : D ≠ w.heap.size + 1 := by omega
      obtain ⟨T, hT⟩ : ∃ T : ByteArray, T = ⟨(N3.txt (N3.toG n)).toArray⟩ := ⟨_, rfl⟩
      have hTd : T.data.toList = N3.txt (N3.toG n) := by rw [hT]
      have hTs : T.size = (N3.txt (N3.toG n)).length := by rw [Lib.size_eq, hTd]
      rw [← hT] at hst
      rw [← hTs] at hlim
      rw [← hTd] at hsg
      clear hT hTs
      have HSG := Lib.hid hsg
      have HAB := Lib.hid hab
      go_wp2_with fail
      refine hst.out.mono ?_
      rintro e W1 ⟨rfl, -, hB1, ho1⟩
      have hK1 := ho1 _ _ hK (by simpa using hD2) (fun c fz e => by cases e)
      have d1 := hc1.below hB1 (by omega)
      have e1 := d1.cell 0
      simp at e1
      have hBx := hB.trans (hB1.mono (by omega))
      clear hsg hab hc1
      by_cases hle : T.size ≤ 200
      · have q1 : ¬ (200 : Int) < (T.size : Int) := by omega
        have hn := hlim.1 hle
        have hoS := HOS.out
        have hoE := HOE.out
        rw [N3.outS_some (by rw [HAB.out]; exact hn)] at hoS
        rw [N3.outE_some (by rw [HAB.out]; exact hn)] at hoE
        clear hlim
        cases b with
        | true =>
          have hres : N3.S (N3.sgn true n) = ⟨#[45]⟩ ++ T := bytes_ext (by
            unfold N3.S
            rw [HSG.out, ByteArray.data_append, Array.toList_append]; rfl)
          rw [hres] at hoS
          have HS := Lib.hid hoS.symm
          have HE2 := Lib.hid hoE.symm
          clear hoS hoE hres hn
          have q2 : ¬ 9223372036854775807 < 1 + T.size := by omega
          have q3 : ¬ 9223372036854775807 < (⟨#[45]⟩ : ByteArray).size + T.size := by show ¬ 9223372036854775807 < 1 + T.size; omega
          go_wp2_with fail
          refine ⟨by simp, .inl ⟨_, _, rfl, run_takeDeferred hK1, ?_⟩⟩
          exact ⟨.tuple #[.string (⟨#[45]⟩ ++ T), .int .i64 0], by simp [results, Tryz.results86, go_sem], by rw [HS.out, HE2.out], hBx.trans (belowK_b (w := w) (Nat.le_refl _) _ D _ _ (by omega) hK1 rfl rfl)⟩
        | false =>
          have hres : N3.S (N3.sgn false n) = T := bytes_ext (by
            unfold N3.S
            rw [HSG.out]; rfl)
          rw [hres] at hoS
          have HS := Lib.hid hoS.symm
          have HE2 := Lib.hid hoE.symm
          clear hoS hoE hres hn
          go_wp2_with fail
          refine ⟨by simp, .inl ⟨_, _, rfl, run_takeDeferred hK1, ?_⟩⟩
          exact ⟨.tuple #[.string (T), .int .i64 0], by simp [results, Tryz.results86, go_sem], by rw [HS.out, HE2.out], hBx.trans (belowK_b (w := w) (Nat.le_refl _) _ D _ _ (by omega) hK1 rfl rfl)⟩
      · have q1 : (200 : Int) < (T.size : Int) := by omega
        have hn : ¬ (N3.sgn b n).natAbs < N3.lim := by rw [HAB.out]; exact fun h => hle (hlim.2 h)
        have hoS := HOS.out
        have hoE := HOE.out
        rw [N3.outS_big hn] at hoS
        rw [N3.outE_big hn] at hoE
        have HS := Lib.hid hoS.symm
        have HE2 := Lib.hid hoE.symm
        clear hoS hoE hn
        clear hlim
        go_wp2_with fail
        refine ⟨by simp, .inl ⟨_, _, rfl, run_takeDeferred hK1, ?_⟩⟩
        exact ⟨.tuple #[.string (⟨#[]⟩), .int .i64 30], by simp [results, Tryz.results86, go_sem], by rw [HS.out, HE2.out], hBx.trans (belowK_b (w := w) (Nat.le_refl _) _ D _ _ (by omega) hK1 rfl rfl)⟩
    case stop =>
      intro D c pre W _ _ h _
      exact h.elim
end Go.Proofs.YtjnpenljgfdaiaaGreatDoor
