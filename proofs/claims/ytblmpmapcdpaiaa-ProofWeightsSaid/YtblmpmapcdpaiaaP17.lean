/- program.Without. -/
import Derived.Test.YtblmpmapcdpaiaaB4
namespace Go.Proofs.Ytblmpmapcdpaiaa
open Go.RowKit Lib

/-- The first k indices are in bounds, and ascend. -/
def idxK (l : List Int) (n : Int) : Nat → Bool
  | 0 => true
  | k + 1 => idxK l n k && inB (l.getD k 0) 0 (n - 1) && (decide (k = 0) || decide (l.getD (k - 1) 0 < l.getD k 0))
def dR : RowD := ⟨0, 0, 0, 0, [], 0⟩
/-- The rows among the first k that are not left out. -/
def wK (rows : List RowD) (l : List Int) : Nat → List RowD
  | 0 => []
  | k + 1 => wK rows l k ++ if decide ((k : Int) ∈ l) then [] else [rows.getD k dR]
theorem wK_len (rows : List RowD) (l : List Int) : ∀ k, (wK rows l k).length ≤ k := by
  intro k
  induction k with
  | zero => exact Nat.le_refl _
  | succ k ih =>
    simp only [wK, List.length_append]
    split <;> simp <;> omega
def withoutOK (p : ProgD) (l : List Int) : Bool := idxK l p.rows.length l.length && validB p
def withoutV (p : ProgD) (l : List Int) : ProgD := if withoutOK p l = true then ⟨p.vars, wK p.rows l p.rows.length, p.gain⟩ else ⟨0, [], []⟩
def withoutE (p : ProgD) (l : List Int) : Int := if withoutOK p l = true then 0 else 230

theorem idxK_sorted {l : List Int} {n : Int} (h : idxK l n l.length = true) : SortedI l := by
  have hk : ∀ k, k ≤ l.length → idxK l n k = true := by
    intro k hk
    obtain ⟨d, hd⟩ := Nat.exists_eq_add_of_le hk
    rw [hd] at h
    clear hk hd
    induction d with
    | zero => exact h
    | succ d ih =>
      rw [Nat.add_succ, idxK, Bool.and_eq_true, Bool.and_eq_true] at h
      exact ih h.1.1
  intro a b
  induction b with
  | zero => intro h; omega
  | succ b ih =>
    intro h1 h2
    have := hk (b + 1 + 1) (by omega)
    rw [idxK, Bool.and_eq_true] at this
    have h3 := this.2
    simp at h3
    rcases Nat.lt_or_ge a b with h4 | h4
    · have := ih h4 (by omega)
      have := h3
      simp only [List.getD_eq_getElem?_getD] at *
      omega
    · obtain rfl : a = b := by omega
      simp only [List.getD_eq_getElem?_getD]
      exact h3

theorem idxK_false {l : List Int} {n : Int} {k m : Nat} (h : idxK l n k = false) (hk : k ≤ m) : idxK l n m = false := by
  obtain ⟨d, rfl⟩ := Nat.exists_eq_add_of_le hk
  clear hk
  induction d with
  | zero => exact h
  | succ d ih => rw [Nat.add_succ, idxK, ih]; rfl
theorem with_bad {p : ProgD} {l : List Int} (h : withoutOK p l = false) : withoutE p l = 230 ∧ withoutV p l = ⟨0, [], []⟩ := by
  unfold withoutE withoutV; rw [h]; exact ⟨rfl, rfl⟩
theorem with_good {p : ProgD} {l : List Int} (h : withoutOK p l = true) : withoutE p l = 0 ∧ withoutV p l = ⟨p.vars, wK p.rows l p.rows.length, p.gain⟩ := by
  unfold withoutE withoutV; rw [h]; exact ⟨rfl, rfl⟩
theorem with_bad_idx {p : ProgD} {l : List Int} {k : Nat} (h : idxK l p.rows.length k = false) (hk : k ≤ l.length) : Hid (withoutE p l = 230 ∧ withoutV p l = ⟨0, [], []⟩) := by
  refine with_bad ?_
  unfold withoutOK; rw [idxK_false h hk]; rfl
theorem progV_zero (w : World) : ProgV w (.agg #[.int .i64 0, .slice none 0 0, .slice none 0 0]) ⟨0, [], []⟩ :=
  ⟨_, _, rfl, ⟨none, 0, rfl, by simp, by decide, fun h => by simp at h⟩, ⟨none, 0, rfl, by simp, by decide, fun h => by simp at h⟩⟩

set_option maxRecDepth 100000 in
set_option maxHeartbeats 2000000 in
theorem without_all (v vl : Value) (p : ProgD) (l : List Int) (w : World) (hv : ProgV w v p) (hl : IntsAt w vl l) (hn : l.length ≤ 1000000000) (hpr : p.rows.length ≤ 1000000000) :
    Calls Try.prog 36 #[v, vl] w fun e w' => ∃ v', e = .returned (.tuple #[v', .int .i64 (withoutE p l)]) ∧ ProgV w' v' (withoutV p l) ∧ Below w.heap.size w w' := by
  obtain ⟨vr, vg, rfl, hvr, hvg⟩ := hv
  obtain ⟨ra, rc, rfl, hr1, hr2⟩ := (show SlicesLen vr p.rows.length from hvr.len)
  have HL := Lib.hid hl
  have HR := Lib.hid hvr
  have HG := Lib.hid hvg
  obtain ⟨la, lc, rfl, hl1, hl2⟩ := hl.len
  unfold maxLen at hr2 hl2
  have HSZ : Hid (p.rows.length = p.rows.length) := rfl
  have hBl := fun k (h : idxK l p.rows.length k = false) (hk : k ≤ l.length) => with_bad_idx h hk
  have hid0 : ∀ k, idxK l p.rows.length (k + 1) = (idxK l p.rows.length k && inB (l.getD k 0) 0 ((p.rows.length : Int) - 1) && (decide (k = 0) || decide (l.getD (k - 1) 0 < l.getD k 0))) := fun k => rfl
  have HID := Lib.hid hid0
  have HBAD := Lib.hid hBl
  have hB0 : Below w.heap.size w ((w.alloc (.cells #[.int .i64 p.vars, .slice ra p.rows.length rc, vg] 29)).alloc (.cells #[.int .i64 0, .slice none 0 0, .slice none 0 0] 29)) := ((Below.refl _ _).alloc (Nat.le_refl _) _).alloc (by simp) _
  have HLat := Lib.hid (HL.out.below hB0)
  clear hl hvr hvg hid0 hBl
  go_enter Try.func36, Try.ntmps36
  go_wp2
  go_loop [15] (fun u15 => ∃ k : Nat, k ≤ l.length ∧ u15 = .int .i64 k ∧ Hid (idxK l p.rows.length k = true)) (fun u15 => (l.length - intOf u15).toNat)
  case atStart => exact ⟨0, by omega, rfl, Lib.hid rfl⟩
  case round =>
    obtain ⟨k, hk, rfl, hix⟩ := hrel
    by_cases hkl : k < l.length
    · have hsome := Lib.hid (getD_some 0 hkl)
      obtain ⟨b, off, rfl, hcell⟩ := HLat.out.get hsome.out
      have hwn : IntKind.i64.wrap ((p.rows.length : Int) - 1) = (p.rows.length : Int) - 1 := wrapS _ (by omega) (by omega)
      have hinb := isIn_any (l.getD k 0) 0 ((p.rows.length : Int) - 1)
      cases hin : inB (l.getD k 0) 0 ((p.rows.length : Int) - 1) with
      | false =>
        have HF := HBAD.out (k + 1) (by rw [HID.out, hin]; simp) (by omega)
        rw [hin] at hinb
        clear hin
        generalize l.getD k 0 = x at hcell hinb
        go_wp2_with fail
        refine (hinb _).mono ?_
        rintro e w' ⟨rfl, rfl⟩
        go_wp2
        refine bodyPost_ret (v := .tuple #[.agg #[.int .i64 0, .slice none 0 0, .slice none 0 0], .int .i64 230]) (by simp [results, Try.results36, go_sem]) rfl ?_
        rw [HF.out.1, HF.out.2]
        exact ⟨_, rfl, progV_zero _, hB0⟩
      | true =>
        rw [hin] at hinb
        cases k with
        | zero =>
          have HT := Lib.hid (show idxK l p.rows.length 1 = true by rw [HID.out, hin, hix.out]; rfl)
          clear hin
          generalize l.getD 0 0 = x at hcell hinb
          rw [Nat.add_zero] at hcell
          go_wp2_with fail
          refine (hinb _).mono ?_
          rintro e w' ⟨rfl, rfl⟩
          go_wp2
          exact ⟨⟨1, by omega, by go_num, HT⟩, by simp [intOf]; omega⟩
        | succ j =>
          have hjs := Lib.hid (getD_some (l := l) (k := j) 0 (by omega))
          obtain ⟨b2, off2, e2, hcell2⟩ := HLat.out.get hjs.out
          cases e2
          have hid := HID.out (j + 1)
          rw [hin, hix.out] at hid
          simp only [Nat.add_sub_cancel, Bool.true_and, Nat.succ_ne_zero, decide_false, Bool.false_or] at hid
          have hwj : IntKind.i64.wrap (((j + 1 : Nat) : Int) - 1) = (j : Int) := by rw [show ((j + 1 : Nat) : Int) - 1 = j from by omega]; exact wraps_i64 _ (by omega) (by omega)
          have hjp : (0 : Int) < ((j + 1 : Nat) : Int) := by omega
          have hj2 : (0 : Int) ≤ (j : Int) ∧ (j : Int) < l.length := by omega
          clear hin
          generalize l.getD (j + 1) 0 = x at hcell hinb hid
          generalize l.getD j 0 = y at hcell2 hid
          by_cases hxy : y < x
          · rw [decide_eq_true hxy] at hid
            have HT := Lib.hid hid
            have hle : ¬ x ≤ y := by omega
            clear hid hxy
            go_wp2_with fail
            refine (hinb _).mono ?_
            rintro e w' ⟨rfl, rfl⟩
            go_wp2
            exact ⟨⟨j + 1 + 1, by omega, by go_num, HT⟩, by simp [intOf]; omega⟩
          · rw [decide_eq_false hxy] at hid
            have HF := HBAD.out (j + 1 + 1) hid (by omega)
            have hle : x ≤ y := by omega
            clear hid hxy
            go_wp2_with fail
            refine (hinb _).mono ?_
            rintro e w' ⟨rfl, rfl⟩
            go_wp2
            refine bodyPost_ret (v := .tuple #[.agg #[.int .i64 0, .slice none 0 0, .slice none 0 0], .int .i64 230]) (by simp [results, Try.results36, go_sem]) rfl ?_
            rw [HF.out.1, HF.out.2]
            exact ⟨_, rfl, progV_zero _, hB0⟩
    · obtain rfl : k = l.length := by omega
      have hx := valid_all _ p _ ⟨_, vg, rfl, HR.out.below hB0, HG.out.below hB0⟩
      cases hval : validB p with
      | false =>
        have HF := Lib.hid (with_bad (p := p) (l := l) (by unfold withoutOK; rw [hval]; simp))
        rw [hval] at hx
        clear hval
        go_wp2_with fail
        refine hx.mono ?_
        rintro e w' ⟨rfl, hB⟩
        have kb : Blk w' (w.heap.size + 1) #[.int .i64 0, .slice none 0 0, .slice none 0 0] 29 := (Blk.newAt _ _ _ (by simp)).below hB (by simp)
        have i0 := kb.cell 0
        have i1 := kb.cell 1
        have i2 := kb.cell 2
        have f0 := kb.frozen 0
        have f1 := kb.frozen 1
        have f2 := kb.frozen 2
        simp only [List.getElem?_toArray, List.getElem?_cons_succ, List.getElem?_cons_zero] at i0 i1 i2
        go_wp2
        refine bodyPost_ret (v := .tuple #[.agg #[.int .i64 0, .slice none 0 0, .slice none 0 0], .int .i64 230]) (by simp [results, Try.results36, go_sem, i0, i1, i2]) rfl ?_
        rw [HF.out.1, HF.out.2]
        have hB2 : ∀ (i : Nat) (u : Value) (W : World), Below w.heap.size w W → Below w.heap.size w (W.setCell ⟨w.heap.size + 1, i, none⟩ u) := fun i u W h => h.setCell (p := ⟨w.heap.size + 1, i, none⟩) (by simp) u
        exact ⟨_, rfl, progV_zero _, hB2 _ _ _ (hB2 _ _ _ (hB2 _ _ _ (hB0.trans (hB.mono hB0.size))))⟩
      | true =>
        have HF := Lib.hid (with_good (p := p) (l := l) (by unfold withoutOK; rw [hval, hix.out]; rfl))
        have hgl : p.gain.length ≤ 1000000000 := by obtain ⟨v1, v2, v3, v4, v5, v6⟩ := validB_true hval; omega
        have hrl : ∀ r ∈ p.rows, r.coef.length ≤ 1000000000 := fun r hr => by obtain ⟨-, h2, -⟩ := validB_row hval hr; omega
        have hcl := Lib.hid (fun W (hW : Below w.heap.size w W) => clone_own vg p.gain W (HG.out.below hW) hgl)
        rw [hval] at hx
        clear hval
        go_wp2_with fail
        refine hx.mono ?_
        rintro e w1 ⟨rfl, hB⟩
        have hB1 := hB0.trans (hB.mono hB0.size)
        have hz1 : w.heap.size + 2 ≤ w1.heap.size := by have := hB.size; simp at this; omega
        have kp : Blk w1 w.heap.size #[.int .i64 p.vars, .slice ra p.rows.length rc, vg] 29 := ((Blk.new _ _ _).alloc _).below hB (by simp; omega)
        have kb : Blk w1 (w.heap.size + 1) #[.int .i64 0, .slice none 0 0, .slice none 0 0] 29 := (Blk.newAt _ _ _ (by simp)).below hB (by simp)
        have i0 := kp.cell 0
        have i1 := kp.cell 1
        have i2 := kp.cell 2
        simp only [List.getElem?_toArray, List.getElem?_cons_succ, List.getElem?_cons_zero] at i0 i1 i2
        have lp := kp.lt
        go_wp2_with fail
        go_region_held3 (fun w' => w'.cell? ⟨w.heap.size, 0, none⟩ = some (.int .i64 p.vars) ∧ w'.cell? ⟨w.heap.size, 1, none⟩ = some (.slice ra p.rows.length rc) ∧ w'.cell? ⟨w.heap.size, 2, none⟩ = some vg)
          (first | go_keep | exact ⟨by simpa using (kp2.alloc _).cell 0, by simpa using (kp2.alloc _).cell 1, by simpa using (kp2.alloc _).cell 2⟩ | exact ⟨by simpa using (((kp2.other (a := ⟨w1.heap.size, 0, none⟩) _ nel).other (a := ⟨w1.heap.size, 1, none⟩) _ nel).other (a := ⟨w1.heap.size, 2, none⟩) _ nel).cell 0, by simpa using (((kp2.other (a := ⟨w1.heap.size, 0, none⟩) _ nel).other (a := ⟨w1.heap.size, 1, none⟩) _ nel).other (a := ⟨w1.heap.size, 2, none⟩) _ nel).cell 1, by simpa using (((kp2.other (a := ⟨w1.heap.size, 0, none⟩) _ nel).other (a := ⟨w1.heap.size, 1, none⟩) _ nel).other (a := ⟨w1.heap.size, 2, none⟩) _ nel).cell 2⟩)
          (first | (go_at_call 78; refine (hcl.out _ (by first | exact hB1.drew | exact (hB1.alloc (by omega) _).drew)).mono ?_; rintro e w2 ⟨v2, rfl, hown2, hB2⟩; obtain ⟨va2, vc2, rfl, hva2, hvc2⟩ := owned_len hown2
                    have hB12 : Below w1.heap.size w1 w2 := by first | exact (Below.refl _ _).drew.trans hB2 | exact (((Below.refl _ _).alloc (Nat.le_refl _) _).drew).trans (hB2.mono (by show w1.heap.size ≤ _; simp))
                    have kp2 := kp.below hB12 lp
                    have p0 := kp2.cell 0
                    have p1 := kp2.cell 1
                    have p2 := kp2.cell 2
                    have lp2 := kp2.lt
                    simp only [List.getElem?_toArray, List.getElem?_cons_succ, List.getElem?_cons_zero] at p0 p1 p2
                    try (have ko2 : Blk w2 w1.heap.size #[.int .i64 0, .slice none 0 0, .slice none 0 0] 29 := (show Blk (World.drew (w1.alloc (.cells #[.int .i64 0, .slice none 0 0, .slice none 0 0] 29))) w1.heap.size _ _ from Blk.new _ _ _).below hB2 (by simp)
                         have o0 := ko2.cell 0
                         have o1 := ko2.cell 1
                         have o2 := ko2.cell 2
                         have g0 := ko2.frozen 0
                         have g1 := ko2.frozen 1
                         have g2 := ko2.frozen 2
                         have nel : w.heap.size ≠ w1.heap.size := by omega
                         simp only [List.getElem?_toArray, List.getElem?_cons_succ, List.getElem?_cons_zero] at o0 o1 o2)))
        · have hO : OutP w2.heap.size (w2.alloc (.cells #[.int .i64 p.vars, .slice none 0 0, .slice va2 p.gain.length vc2] 29)) p.vars (.slice none 0 0) (.slice va2 p.gain.length vc2) [] p.gain := by
            exact ⟨Blk.new _ _ _, ⟨[], World.ownsRow_nil _ _ _ _, rfl⟩, (show O3 w2 _ p.gain from ownsRow_base hown2 (Nat.zero_le _)).t (T3.of_below ((Below.refl _ _).alloc (Nat.le_refl _) _)), by simp⟩
          have hB5 : Below w1.heap.size w1 (w2.alloc (.cells #[.int .i64 p.vars, .slice none 0 0, .slice va2 p.gain.length vc2] 29)) := by
            exact hB12.trans (((Below.refl _ _).alloc (Nat.le_refl _) _).mono hB12.size)
          have hoB : w1.heap.size ≤ w2.heap.size := by first | exact Nat.le_refl _ | (have := hB12.size; omega)
          generalize (w2.alloc (.cells #[.int .i64 p.vars, .slice none 0 0, .slice va2 p.gain.length vc2] 29)) = w5 at hO hB5 ⊢
          clear i0 i1 i2
          have i1 := (kp.below hB5 lp).cell 1
          simp only [List.getElem?_toArray, List.getElem?_cons_succ, List.getElem?_cons_zero] at i1
          have hrl2 := Lib.hid hrl
          have hsr := Lib.hid (idxK_sorted hix.out)
          go_wp2
          go_loopw [55] (fun u55 wr => ∃ (k : Nat) (vk : Value), k ≤ p.rows.length ∧ u55 = .int .i64 k ∧ OutP w2.heap.size wr p.vars vk (.slice va2 p.gain.length vc2) (wK p.rows l k) p.gain ∧ Below w1.heap.size w1 wr) (fun u55 _ => (p.rows.length - intOf u55).toNat)
          case atStart => exact ⟨0, _, by omega, rfl, hO, hB5⟩
          case round =>
            obtain ⟨k, vk, hk, rfl, hOk, hBk⟩ := hrel
            by_cases hkl : k < p.rows.length
            · have hsome := getD_some dR hkl
              have hBw := hB1.trans (hBk.mono hB1.size)
              obtain ⟨b, off, vc, rfl, c0, c1, c2, c3, c4, c5, hcs⟩ := (HR.out.below hBw).get hsome
              have hrc := hrl2.out _ (List.mem_of_getElem? hsome)
              have hwk : wK p.rows l (k + 1) = wK p.rows l k ++ if decide ((k : Int) ∈ l) then [] else [p.rows.getD k dR] := rfl
              have hwl : (wK p.rows l k).length ≤ k := wK_len p.rows l k
              generalize p.rows.getD k dR = r at hsome c0 c1 c2 c3 c4 c5 hcs hrc hwk
              obtain ⟨ca, cc, rfl, hc1, hc2⟩ := hcs.len
              have hBa : Below wr.heap.size wr (wr.alloc (.cells #[.int .i64 r.kind, .int .i64 r.a, .int .i64 r.b, .int .i64 r.at_, .slice ca r.coef.length cc, .int .i64 r.most] 26)) := (Below.refl _ _).alloc (Nat.le_refl _) _
              have hs := search_any (.slice la l.length lc) l k _ (HL.out.below (hBw.trans (hBa.mono hBw.size))) hsr.out hn
              have hcl2 := Lib.hid (clone_own (.slice ca r.coef.length cc) r.coef _ (hcs.below hBa) hrc)
              clear hcs
              cases hm : decide ((k : Int) ∈ l) with
              | true =>
                rw [hm] at hs hwk
                rw [if_pos rfl, List.append_nil] at hwk
                have HW := Lib.hid hwk
                clear hm hwk
                go_wp2_with fail
                refine hs.mono ?_
                rintro e w' ⟨⟨k', rfl⟩, rfl⟩
                go_wp2
                go_roundw
                case rel => exact ⟨k + 1, vk, by omega, by go_num, by rw [HW.out]; exact hOk.below hBa, hBk.trans (hBa.mono hBk.size)⟩
                case measure => simp [intOf]; omega
              | false =>
                rw [hm] at hs hwk
                rw [if_neg (by decide)] at hwk
                have HW := Lib.hid hwk
                clear hm hwk
                go_wp2_with fail
                refine hs.mono ?_
                rintro e w' ⟨⟨k', rfl⟩, rfl⟩
                clear hs c0 c1 c2 c3 c4 c5 i1
                go_wp2_with fail
                refine hcl2.out.mono ?_
                rintro e w3 ⟨v3, rfl, hown3, hB3⟩
                obtain ⟨a3, c3', rfl, h31, h32⟩ := owned_len hown3
                have hBa3 := hBa.trans (hB3.mono hBa.size)
                have kt : Blk w3 wr.heap.size #[.int .i64 r.kind, .int .i64 r.a, .int .i64 r.b, .int .i64 r.at_, .slice ca r.coef.length cc, .int .i64 r.most] 26 := (Blk.new wr _ 26).below hB3 (by simp)
                have d0 := kt.cell 0
                have d1 := kt.cell 1
                have d2 := kt.cell 2
                have d3 := kt.cell 3
                have d4 := kt.cell 4
                have d5 := kt.cell 5
                have g4 := kt.frozen 4
                obtain ⟨cs, ho1, ho2⟩ := hOk.own
                obtain ⟨ka, kc, rfl, hk1, hk2⟩ := owned_len ho1
                have hx3 := (hOk.below hBa3).box
                have lox := hOk.box.lt
                have e1 := hx3.cell 1
                simp only [List.getElem?_toArray, List.getElem?_cons_succ, List.getElem?_cons_zero] at d0 d1 d2 d3 d4 d5 e1
                have hset : (w3.setCell ⟨wr.heap.size, 4, none⟩ (.slice a3 r.coef.length c3')).ownsRow (w2.heap.size + 1) 26 6 _ _ cs := ownsRow_set_ne (owned_below ho1 hBa3) (fun g hg e => by have := (ho1.lt g hg).2; omega) 4 _
                have hsz3 := hBa3.size
                have hsw : (w3.setCell ⟨wr.heap.size, 4, none⟩ (.slice a3 r.coef.length c3')).heap.size = w3.heap.size := by simp
                have hso := hOk.sz
                have HOK := Lib.hid hOk
                have HT := Lib.hid kt
                clear hOk kt
                go_wp2_with (at_builtin; refine wpList_pushN E27 rfl _ _ rfl (w2.heap.size + 1) hset rfl (by rw [hsw]; rfl) rfl (by intro u hu; simp at hu; rcases hu with rfl | rfl | rfl | rfl | rfl | rfl <;> rfl) (by unfold maxLen; omega) (by omega) (by simp; omega) ?_; intro v' w5 hown' hgrow hb5; obtain ⟨hbx, hO5⟩ := HOK.out.pushed ho1 ho2 (Nat.le_refl _) HT.out hBa3 (ownsRow_base hown3 (Nat.zero_le _)) hgrow hown'; obtain ⟨na, nc, rfl, hn1, hn2⟩ := owned_len hown'; have f1 := hbx.frozen 1; have x1 := hbx.cell 1; simp only [List.getElem?_toArray, List.getElem?_cons_succ, List.getElem?_cons_zero] at x1)
                go_roundw
                case rel =>
                  refine ⟨k + 1, _, by omega, by go_num, by rw [HW.out]; exact hO5, ?_⟩
                  exact ((((hBk.trans (hBa3.mono hBk.size)).setCell (p := ⟨wr.heap.size, 4, none⟩) hBk.size _).trans (hb5.mono (by omega))).setCell (p := ⟨w2.heap.size, 1, none⟩) hoB _)
                case measure => simp [intOf]; omega
            · obtain rfl : k = p.rows.length := by omega
              have kb2 := kb.below hBk (by omega)
              have hbx := hOk.box
              obtain ⟨cs, ho1, ho2⟩ := hOk.own
              obtain ⟨ka, kc, rfl, hk1, hk2⟩ := owned_len ho1
              have a0 := hbx.cell 0
              have a1 := hbx.cell 1
              have a2 := hbx.cell 2
              have b0 := kb2.cell 0
              have b1 := kb2.cell 1
              have b2 := kb2.cell 2
              have g0 := kb2.frozen 0
              have g1 := kb2.frozen 1
              have g2 := kb2.frozen 2
              simp only [List.getElem?_toArray, List.getElem?_cons_succ, List.getElem?_cons_zero] at a0 a1 a2 b0 b1 b2
              clear i1
              go_wp2
              refine bodyPost_ret (v := .tuple #[.agg #[.int .i64 p.vars, .slice ka (wK p.rows l p.rows.length).length kc, .slice va2 p.gain.length vc2], .int .i64 0]) (by simp [results, Try.results36, go_sem, b0, b1, b2]) rfl ?_
              rw [HF.out.1, HF.out.2]
              have t1 := ((T3.set kb2 (by decide) 0 (.int .i64 p.vars)).trans (T3.set (kb2.set 0 (.int .i64 p.vars)) (by decide) 1 (.slice ka (wK p.rows l p.rows.length).length kc))).trans (T3.set ((kb2.set 0 (.int .i64 p.vars)).set 1 (.slice ka (wK p.rows l p.rows.length).length kc)) (by decide) 2 (.slice va2 p.gain.length vc2))
              have hlo : w.heap.size + 1 < w2.heap.size + 1 := by omega
              have o1 := ownsRow_setCell_below (a := ⟨w.heap.size + 1, 2, none⟩) (ownsRow_setCell_below (a := ⟨w.heap.size + 1, 1, none⟩) (ownsRow_setCell_below (a := ⟨w.heap.size + 1, 0, none⟩) ho1 hlo (.int .i64 p.vars)) hlo (.slice ka (wK p.rows l p.rows.length).length kc)) hlo (.slice va2 p.gain.length vc2)
              have hB2 : ∀ (i : Nat) (u : Value) (W : World), Below w.heap.size w W → Below w.heap.size w (W.setCell ⟨w.heap.size + 1, i, none⟩ u) := fun i u W h => h.setCell (p := ⟨w.heap.size + 1, i, none⟩) (by simp) u
              exact ⟨_, rfl, ⟨_, _, rfl, flat_view o1 (ho2.to (fun _ _ k => (k.t t1).row)), (hOk.g.t t1).ints⟩, hB2 _ _ _ (hB2 _ _ _ (hB2 _ _ _ (hB1.trans (hBk.mono hB1.size))))⟩
        · have hO : OutP w1.heap.size (((w2.setCell ⟨w1.heap.size, 0, none⟩ (.int .i64 p.vars)).setCell ⟨w1.heap.size, 1, none⟩ (.slice none 0 0)).setCell ⟨w1.heap.size, 2, none⟩ (.slice va2 p.gain.length vc2)) p.vars (.slice none 0 0) (.slice va2 p.gain.length vc2) [] p.gain := by
            exact ⟨((ko2.set 0 (.int .i64 p.vars)).set 1 (.slice none 0 0)).set 2 (.slice va2 p.gain.length vc2), ⟨[], World.ownsRow_nil _ _ _ _, rfl⟩, (show O3 w2 _ p.gain from ownsRow_base hown2 (Nat.zero_le _)).t (((T3.set ko2 (by decide) 0 (.int .i64 p.vars)).trans (T3.set (ko2.set 0 (.int .i64 p.vars)) (by decide) 1 (.slice none 0 0))).trans (T3.set ((ko2.set 0 (.int .i64 p.vars)).set 1 (.slice none 0 0)) (by decide) 2 (.slice va2 p.gain.length vc2))), by have := ko2.lt; simp; omega⟩
          have hB5 : Below w1.heap.size w1 (((w2.setCell ⟨w1.heap.size, 0, none⟩ (.int .i64 p.vars)).setCell ⟨w1.heap.size, 1, none⟩ (.slice none 0 0)).setCell ⟨w1.heap.size, 2, none⟩ (.slice va2 p.gain.length vc2)) := by
            exact ((hB12.setCell (p := ⟨w1.heap.size, 0, none⟩) (Nat.le_refl _) _).setCell (p := ⟨w1.heap.size, 1, none⟩) (Nat.le_refl _) _).setCell (p := ⟨w1.heap.size, 2, none⟩) (Nat.le_refl _) _
          have hoB : w1.heap.size ≤ w1.heap.size := by first | exact Nat.le_refl _ | (have := hB12.size; omega)
          generalize (((w2.setCell ⟨w1.heap.size, 0, none⟩ (.int .i64 p.vars)).setCell ⟨w1.heap.size, 1, none⟩ (.slice none 0 0)).setCell ⟨w1.heap.size, 2, none⟩ (.slice va2 p.gain.length vc2)) = w5 at hO hB5 ⊢
          clear i0 i1 i2
          have i1 := (kp.below hB5 lp).cell 1
          simp only [List.getElem?_toArray, List.getElem?_cons_succ, List.getElem?_cons_zero] at i1
          have hrl2 := Lib.hid hrl
          have hsr := Lib.hid (idxK_sorted hix.out)
          go_wp2
          go_loopw [55] (fun u55 wr => ∃ (k : Nat) (vk : Value), k ≤ p.rows.length ∧ u55 = .int .i64 k ∧ OutP w1.heap.size wr p.vars vk (.slice va2 p.gain.length vc2) (wK p.rows l k) p.gain ∧ Below w1.heap.size w1 wr) (fun u55 _ => (p.rows.length - intOf u55).toNat)
          case atStart => exact ⟨0, _, by omega, rfl, hO, hB5⟩
          case round =>
            obtain ⟨k, vk, hk, rfl, hOk, hBk⟩ := hrel
            by_cases hkl : k < p.rows.length
            · have hsome := getD_some dR hkl
              have hBw := hB1.trans (hBk.mono hB1.size)
              obtain ⟨b, off, vc, rfl, c0, c1, c2, c3, c4, c5, hcs⟩ := (HR.out.below hBw).get hsome
              have hrc := hrl2.out _ (List.mem_of_getElem? hsome)
              have hwk : wK p.rows l (k + 1) = wK p.rows l k ++ if decide ((k : Int) ∈ l) then [] else [p.rows.getD k dR] := rfl
              have hwl : (wK p.rows l k).length ≤ k := wK_len p.rows l k
              generalize p.rows.getD k dR = r at hsome c0 c1 c2 c3 c4 c5 hcs hrc hwk
              obtain ⟨ca, cc, rfl, hc1, hc2⟩ := hcs.len
              have hBa : Below wr.heap.size wr (wr.alloc (.cells #[.int .i64 r.kind, .int .i64 r.a, .int .i64 r.b, .int .i64 r.at_, .slice ca r.coef.length cc, .int .i64 r.most] 26)) := (Below.refl _ _).alloc (Nat.le_refl _) _
              have hs := search_any (.slice la l.length lc) l k _ (HL.out.below (hBw.trans (hBa.mono hBw.size))) hsr.out hn
              have hcl2 := Lib.hid (clone_own (.slice ca r.coef.length cc) r.coef _ (hcs.below hBa) hrc)
              clear hcs
              cases hm : decide ((k : Int) ∈ l) with
              | true =>
                rw [hm] at hs hwk
                rw [if_pos rfl, List.append_nil] at hwk
                have HW := Lib.hid hwk
                clear hm hwk
                go_wp2_with fail
                refine hs.mono ?_
                rintro e w' ⟨⟨k', rfl⟩, rfl⟩
                go_wp2
                go_roundw
                case rel => exact ⟨k + 1, vk, by omega, by go_num, by rw [HW.out]; exact hOk.below hBa, hBk.trans (hBa.mono hBk.size)⟩
                case measure => simp [intOf]; omega
              | false =>
                rw [hm] at hs hwk
                rw [if_neg (by decide)] at hwk
                have HW := Lib.hid hwk
                clear hm hwk
                go_wp2_with fail
                refine hs.mono ?_
                rintro e w' ⟨⟨k', rfl⟩, rfl⟩
                clear hs c0 c1 c2 c3 c4 c5 i1
                go_wp2_with fail
                refine hcl2.out.mono ?_
                rintro e w3 ⟨v3, rfl, hown3, hB3⟩
                obtain ⟨a3, c3', rfl, h31, h32⟩ := owned_len hown3
                have hBa3 := hBa.trans (hB3.mono hBa.size)
                have kt : Blk w3 wr.heap.size #[.int .i64 r.kind, .int .i64 r.a, .int .i64 r.b, .int .i64 r.at_, .slice ca r.coef.length cc, .int .i64 r.most] 26 := (Blk.new wr _ 26).below hB3 (by simp)
                have d0 := kt.cell 0
                have d1 := kt.cell 1
                have d2 := kt.cell 2
                have d3 := kt.cell 3
                have d4 := kt.cell 4
                have d5 := kt.cell 5
                have g4 := kt.frozen 4
                obtain ⟨cs, ho1, ho2⟩ := hOk.own
                obtain ⟨ka, kc, rfl, hk1, hk2⟩ := owned_len ho1
                have hx3 := (hOk.below hBa3).box
                have lox := hOk.box.lt
                have e1 := hx3.cell 1
                simp only [List.getElem?_toArray, List.getElem?_cons_succ, List.getElem?_cons_zero] at d0 d1 d2 d3 d4 d5 e1
                have hset : (w3.setCell ⟨wr.heap.size, 4, none⟩ (.slice a3 r.coef.length c3')).ownsRow (w1.heap.size + 1) 26 6 _ _ cs := ownsRow_set_ne (owned_below ho1 hBa3) (fun g hg e => by have := (ho1.lt g hg).2; omega) 4 _
                have hsz3 := hBa3.size
                have hsw : (w3.setCell ⟨wr.heap.size, 4, none⟩ (.slice a3 r.coef.length c3')).heap.size = w3.heap.size := by simp
                have hso := hOk.sz
                have HOK := Lib.hid hOk
                have HT := Lib.hid kt
                clear hOk kt
                go_wp2_with (at_builtin; refine wpList_pushN E27 rfl _ _ rfl (w1.heap.size + 1) hset rfl (by rw [hsw]; rfl) rfl (by intro u hu; simp at hu; rcases hu with rfl | rfl | rfl | rfl | rfl | rfl <;> rfl) (by unfold maxLen; omega) (by omega) (by simp; omega) ?_; intro v' w5 hown' hgrow hb5; obtain ⟨hbx, hO5⟩ := HOK.out.pushed ho1 ho2 (Nat.le_refl _) HT.out hBa3 (ownsRow_base hown3 (Nat.zero_le _)) hgrow hown'; obtain ⟨na, nc, rfl, hn1, hn2⟩ := owned_len hown'; have f1 := hbx.frozen 1; have x1 := hbx.cell 1; simp only [List.getElem?_toArray, List.getElem?_cons_succ, List.getElem?_cons_zero] at x1)
                go_roundw
                case rel =>
                  refine ⟨k + 1, _, by omega, by go_num, by rw [HW.out]; exact hO5, ?_⟩
                  exact ((((hBk.trans (hBa3.mono hBk.size)).setCell (p := ⟨wr.heap.size, 4, none⟩) hBk.size _).trans (hb5.mono (by omega))).setCell (p := ⟨w1.heap.size, 1, none⟩) hoB _)
                case measure => simp [intOf]; omega
            · obtain rfl : k = p.rows.length := by omega
              have kb2 := kb.below hBk (by omega)
              have hbx := hOk.box
              obtain ⟨cs, ho1, ho2⟩ := hOk.own
              obtain ⟨ka, kc, rfl, hk1, hk2⟩ := owned_len ho1
              have a0 := hbx.cell 0
              have a1 := hbx.cell 1
              have a2 := hbx.cell 2
              have b0 := kb2.cell 0
              have b1 := kb2.cell 1
              have b2 := kb2.cell 2
              have g0 := kb2.frozen 0
              have g1 := kb2.frozen 1
              have g2 := kb2.frozen 2
              simp only [List.getElem?_toArray, List.getElem?_cons_succ, List.getElem?_cons_zero] at a0 a1 a2 b0 b1 b2
              clear i1
              go_wp2
              refine bodyPost_ret (v := .tuple #[.agg #[.int .i64 p.vars, .slice ka (wK p.rows l p.rows.length).length kc, .slice va2 p.gain.length vc2], .int .i64 0]) (by simp [results, Try.results36, go_sem, b0, b1, b2]) rfl ?_
              rw [HF.out.1, HF.out.2]
              have t1 := ((T3.set kb2 (by decide) 0 (.int .i64 p.vars)).trans (T3.set (kb2.set 0 (.int .i64 p.vars)) (by decide) 1 (.slice ka (wK p.rows l p.rows.length).length kc))).trans (T3.set ((kb2.set 0 (.int .i64 p.vars)).set 1 (.slice ka (wK p.rows l p.rows.length).length kc)) (by decide) 2 (.slice va2 p.gain.length vc2))
              have hlo : w.heap.size + 1 < w1.heap.size + 1 := by omega
              have o1 := ownsRow_setCell_below (a := ⟨w.heap.size + 1, 2, none⟩) (ownsRow_setCell_below (a := ⟨w.heap.size + 1, 1, none⟩) (ownsRow_setCell_below (a := ⟨w.heap.size + 1, 0, none⟩) ho1 hlo (.int .i64 p.vars)) hlo (.slice ka (wK p.rows l p.rows.length).length kc)) hlo (.slice va2 p.gain.length vc2)
              have hB2 : ∀ (i : Nat) (u : Value) (W : World), Below w.heap.size w W → Below w.heap.size w (W.setCell ⟨w.heap.size + 1, i, none⟩ u) := fun i u W h => h.setCell (p := ⟨w.heap.size + 1, i, none⟩) (by simp) u
              exact ⟨_, rfl, ⟨_, _, rfl, flat_view o1 (ho2.to (fun _ _ k => (k.t t1).row)), (hOk.g.t t1).ints⟩, hB2 _ _ _ (hB2 _ _ _ (hB2 _ _ _ (hB1.trans (hBk.mono hB1.size))))⟩
end Go.Proofs.Ytblmpmapcdpaiaa
