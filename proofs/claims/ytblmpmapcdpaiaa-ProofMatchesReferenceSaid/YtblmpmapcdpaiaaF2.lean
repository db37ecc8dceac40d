/- nadirlaw26.some. -/
import Derived.Test.YtblmpmapcdpaiaaP17
import Derived.StillTailTactics
namespace Go.Proofs.Ytblmpmapcdpaiaa
open Go.RowKit Go.Shelf Lib Go.Joins

theorem wp_oneF {P : Program} {c : Code} {Q : Exit → Act → World → Prop} {a fr : Act} {w wo : World} (h : c.wp P (fun e a' w' => e = .normal ∧ a' = fr ∧ w' = wo) a w) (k : Q .normal fr wo) : c.wp P Q a w :=
  Code.wp_mono (fun e a' w' h => by obtain ⟨rfl, rfl, rfl⟩ := h; exact k) h
def cutO (r : RowD) : RowD := { r with coef := r.coef.take 12 }
def fewO (rows : List RowD) (k : Nat) : List RowD := (rows.take k).map cutO
def fewQ (p : ProgD) : ProgD := ⟨p.vars, fewO p.rows 20, p.gain.take 12⟩
theorem fewO_succ {rows : List RowD} {k : Nat} {r : RowD} (h : rows[k]? = some r) : fewO rows (k + 1) = fewO rows k ++ [cutO r] := by
  obtain ⟨hk, rfl⟩ := List.getElem?_eq_some_iff.1 h
  unfold fewO; rw [List.take_succ_eq_append_getElem hk, List.map_append]; rfl
theorem fewO_len {rows : List RowD} {k : Nat} (h : k ≤ rows.length) : (fewO rows k).length = k := by unfold fewO; simp; omega
theorem fewO_end {rows : List RowD} {k : Nat} (h : k ≤ rows.length) (h2 : k ≤ 20) (h3 : ¬ (k < rows.length ∧ k < 20)) : fewO rows 20 = fewO rows k := by
  unfold fewO
  rcases Nat.lt_or_ge k rows.length with h4 | h4
  · obtain rfl : k = 20 := by omega
    rfl
  · rw [List.take_of_length_le h4, List.take_of_length_le (by omega)]
theorem SliceOf.take {α : Type} {f : α → Value} {w : World} {a : Option Addr} {len cap : Nat} {l : List α} (h : SliceOf f w (.slice a len cap) l) (n : Nat) : SliceOf f w (.slice a (min n l.length) cap) (l.take n) := by
  obtain ⟨a', cap', e, h2, h3, h4⟩ := h
  cases e
  refine ⟨a, cap, by rw [List.length_take], by rw [List.length_take]; omega, h3, fun hl => ?_⟩
  obtain ⟨b, off, rfl, h5⟩ := h4 (by rw [List.length_take] at hl; omega)
  refine ⟨b, off, rfl, fun j y hj => h5 j y ?_⟩
  rw [List.getElem?_take] at hj
  split at hj
  · exact hj
  · cases hj
set_option maxRecDepth 100000 in
set_option maxHeartbeats 2000000 in
theorem some_any (v : Value) (p : ProgD) (w : World) (hv : ProgV w v p) :
    Calls Try.prog 44 #[v] w fun e w' => ∃ ra rc ga gc, e = .returned (.agg #[.int .i64 p.vars, .slice ra (fewQ p).rows.length rc, .slice ga (fewQ p).gain.length gc]) ∧ ProgV w' (.agg #[.int .i64 p.vars, .slice ra (fewQ p).rows.length rc, .slice ga (fewQ p).gain.length gc]) (fewQ p) ∧ (ra = none → rc = 0) ∧ Below w.heap.size w w' := by
  obtain ⟨vr, vg, rfl, hvr, hvg⟩ := hv
  obtain ⟨ra, rc, rfl, hr1, hr2⟩ := (show SlicesLen vr p.rows.length from hvr.len)
  obtain ⟨ga, gc, rfl, hg1, hg2⟩ := (show SlicesLen vg p.gain.length from hvg.len)
  unfold maxLen at hr2 hg2
  have HR := Lib.hid hvr
  have HG := Lib.hid hvg
  have HZ : Hid (p.rows.length = p.rows.length) := rfl
  clear hvr hvg
  go_enter Try.func44, Try.ntmps44
  go_wp2
  have kp := (Blk.new w #[.int .i64 p.vars, .slice ra p.rows.length rc, .slice ga p.gain.length gc] 29).alloc (.cells #[.int .i64 0, .slice none 0 0, .slice none 0 0] 29)
  have kz := Blk.newAt (w.alloc (.cells #[.int .i64 p.vars, .slice ra p.rows.length rc, .slice ga p.gain.length gc] 29)) #[.int .i64 0, .slice none 0 0, .slice none 0 0] 29 (n := w.heap.size + 1) (by simp)
  have hB0 : Below w.heap.size w ((w.alloc (.cells #[.int .i64 p.vars, .slice ra p.rows.length rc, .slice ga p.gain.length gc] 29)).alloc (.cells #[.int .i64 0, .slice none 0 0, .slice none 0 0] 29)) := ((Below.refl _ _).alloc (Nat.le_refl _) _).alloc (by simp) _
  have hV : ((w.alloc (.cells #[.int .i64 p.vars, .slice ra p.rows.length rc, .slice ga p.gain.length gc] 29)).alloc (.cells #[.int .i64 0, .slice none 0 0, .slice none 0 0] 29)).heap.size = w.heap.size + 2 := by simp
  generalize (w.alloc (.cells #[.int .i64 p.vars, .slice ra p.rows.length rc, .slice ga p.gain.length gc] 29)).alloc (.cells #[.int .i64 0, .slice none 0 0, .slice none 0 0] 29) = V at kp kz hB0 hV ⊢
  have i0 := kp.cell 0
  have i1 := kp.cell 1
  have i2 := kp.cell 2
  simp only [List.getElem?_toArray, List.getElem?_cons_succ, List.getElem?_cons_zero] at i0 i1 i2
  have lp := kp.lt
  have HV := Lib.hid hV
  clear hV
  obtain ⟨m, hm, hmg⟩ : ∃ m : Nat, (if (12 : Int) < (p.gain.length : Int) then (12 : Int) else (p.gain.length : Int)) = (m : Int) ∧ m = min 12 p.gain.length := ⟨_, by rw [Nat.min_def]; split <;> split <;> omega, rfl⟩
  have hm1 : m ≤ gc := by omega
  have hm2 : (0 : Int) ≤ (m : Int) ∧ (m : Int) ≤ (gc : Int) := by omega
  have HM := Lib.hid hmg
  clear hmg
  apply wp_oneF
  · go_region_held3 (fun w' => w'.cell? ⟨w.heap.size, 0, none⟩ = some (.int .i64 p.vars) ∧ w'.cell? ⟨w.heap.size, 1, none⟩ = some (.slice ra p.rows.length rc) ∧ w'.cell? ⟨w.heap.size, 2, none⟩ = some (.slice ga p.gain.length gc))
      (go_keep) (fail)
    all_goals exact ⟨rfl, rfl, rfl⟩
  have hB1 : Below w.heap.size w (V.alloc (.cells #[.int .i64 p.vars, .slice none 0 0, .slice ga m gc] 29)).drew := (hB0.alloc hB0.size _).drew
  have ko : Blk (V.alloc (.cells #[.int .i64 p.vars, .slice none 0 0, .slice ga m gc] 29)).drew V.heap.size #[.int .i64 p.vars, .slice none 0 0, .slice ga m gc] 29 := Blk.new V _ 29
  have hs1 : (V.alloc (.cells #[.int .i64 p.vars, .slice none 0 0, .slice ga m gc] 29)).drew.heap.size = V.heap.size + 1 := by show (V.alloc _).heap.size = _; simp
  replace kp : Blk (V.alloc (.cells #[.int .i64 p.vars, .slice none 0 0, .slice ga m gc] 29)).drew _ _ _ := kp.alloc _
  replace kz : Blk (V.alloc (.cells #[.int .i64 p.vars, .slice none 0 0, .slice ga m gc] 29)).drew _ _ _ := kz.alloc _
  clear i0 i1 i2
  generalize (V.alloc (.cells #[.int .i64 p.vars, .slice none 0 0, .slice ga m gc] 29)).drew = X at hB1 ko hs1 kp kz ⊢
  have hoB : w.heap.size + 2 = V.heap.size := HV.out.symm
  generalize V.heap.size = oB at *
  have i1 := kp.cell 1
  simp only [List.getElem?_toArray, List.getElem?_cons_succ, List.getElem?_cons_zero] at i1
  have HS1 := Lib.hid hs1
  clear hs1 hm1 hm2 hm
  go_wp2
  go_loopw [4] (fun u4 wr => ∃ (k : Nat) (vk : Value) (cs : List Value), k ≤ p.rows.length ∧ k ≤ 20 ∧ u4 = .int .i64 k ∧ Blk wr oB #[.int .i64 p.vars, vk, .slice ga m gc] 29 ∧ wr.ownsRow (oB + 1) 26 6 vk k cs ∧ FlatC 6 RowCs w cs (fewO p.rows k) ∧ Below oB X wr) (fun u4 _ => (20 - intOf u4).toNat)
  case atStart => exact ⟨0, _, [], by omega, by omega, rfl, ko, World.ownsRow_nil _ _ _ _, rfl, Below.refl _ _⟩
  case round =>
    obtain ⟨k, vk, cs, hk, hk20, rfl, hob, hown, hfl, hBk⟩ := hrel
    rename World => wr
    have hBw : Below w.heap.size w wr := hB1.trans (hBk.mono (by omega))
    have kpk := kp.below hBk (by omega)
    have kzk := kz.below hBk (by omega)
    clear i1
    have i1 := kpk.cell 1
    simp only [List.getElem?_toArray, List.getElem?_cons_succ, List.getElem?_cons_zero] at i1
    by_cases hkl : k < p.rows.length ∧ k < 20
    · obtain ⟨hkl, hk2⟩ := hkl
      have hsome := getD_some dR hkl
      have HF := Lib.hid (fewO_succ hsome)
      obtain ⟨b, off, vc, rfl, c0, c1, c2, c3, c4, c5, hcs⟩ := (HR.out.below hBw).get hsome
      obtain ⟨b', off', vc', e, -, -, -, -, d4, -, hcs0⟩ := HR.out.get hsome
      cases e
      obtain rfl : vc' = vc := by have := (hBw.cell (World.block_lt_of_cell? _ _ d4)).trans d4; exact Option.some.inj (this.symm.trans c4)
      generalize p.rows.getD k dR = r at hsome c0 c1 c2 c3 c4 c5 hcs HF hcs0
      obtain ⟨ca, cc, rfl, hc1, hc2⟩ := hcs.len
      unfold maxLen at hc2
      obtain ⟨m2, hm, hmg⟩ : ∃ m2 : Nat, (if (12 : Int) < (r.coef.length : Int) then (12 : Int) else (r.coef.length : Int)) = (m2 : Int) ∧ m2 = min 12 r.coef.length := ⟨_, by rw [Nat.min_def]; split <;> split <;> omega, rfl⟩
      have hm1 : m2 ≤ cc := by omega
      have hm2 : (0 : Int) ≤ (m2 : Int) ∧ (m2 : Int) ≤ (cc : Int) := by omega
      have HM2 := Lib.hid hmg
      clear hmg d4
      obtain ⟨ka, kc, rfl, hk1, hk3⟩ := owned_len hown
      have e1 := hob.cell 1
      simp only [List.getElem?_toArray, List.getElem?_cons_succ, List.getElem?_cons_zero] at e1
      have lox := hob.lt
      have hA : Below wr.heap.size wr (wr.alloc (.cells #[.int .i64 r.kind, .int .i64 r.a, .int .i64 r.b, .int .i64 r.at_, .slice ca m2 cc, .int .i64 r.most] 26)) := (Below.refl _ _).alloc (Nat.le_refl _) _
      have hset : (wr.alloc (.cells #[.int .i64 r.kind, .int .i64 r.a, .int .i64 r.b, .int .i64 r.at_, .slice ca m2 cc, .int .i64 r.most] 26)).ownsRow (oB + 1) 26 6 _ _ cs := owned_below hown hA
      have hsw : (wr.alloc (.cells #[.int .i64 r.kind, .int .i64 r.a, .int .i64 r.b, .int .i64 r.at_, .slice ca m2 cc, .int .i64 r.most] 26)).heap.size = wr.heap.size + 1 := by simp
      have hszX := HS1.out
      have hszk := hBk.size
      have HOWN := Lib.hid hown
      clear hown
      go_wp2_with (at_builtin; refine wpList_pushN E27 rfl _ _ rfl (oB + 1) hset rfl (by rw [hsw]; rfl) rfl (by intro u hu; simp at hu; rcases hu with rfl | rfl | rfl | rfl | rfl | rfl <;> rfl) (by unfold maxLen; omega) (by omega) (by simp; omega) ?_; intro v' w5 hown' hgrow hb5; obtain ⟨na, nc, rfl, hn1, hn2⟩ := owned_len hown'; have hB5 : Below oB wr w5 := ((hA.mono (Nat.le_of_lt lox)).trans (hb5.mono (Nat.le_succ oB))); have hbx : Blk w5 oB _ _ := ((hob.alloc _).below hb5 (Nat.lt_succ_self oB)); have f1 := hbx.frozen 1; have x1 := hbx.cell 1; simp only [List.getElem?_toArray, List.getElem?_cons_succ, List.getElem?_cons_zero] at x1)
      go_roundw
      case rel =>
        refine ⟨k + 1, _, _, by omega, by omega, by go_num, hbx.set 1 _, ownsRow_setCell_below (a := ⟨oB, 1, none⟩) hown' (by simp) _, ?_, (hBk.trans hB5).setCell (p := ⟨oB, 1, none⟩) (Nat.le_refl _) _⟩
        rw [HF.out]
        exact FlatC.app hfl (FlatC.one rfl ⟨_, rfl, by have := SliceOf.take hcs0 12; rw [HM2.out]; exact this⟩)
      case measure => simp [intOf]; omega
    · obtain ⟨ka, kc, rfl, hk1, hk3⟩ := owned_len hown
      have a0 := hob.cell 0
      have a1 := hob.cell 1
      have a2 := hob.cell 2
      have b0 := kzk.cell 0
      have b1 := kzk.cell 1
      have b2 := kzk.cell 2
      have g0 := kzk.frozen 0
      have g1 := kzk.frozen 1
      have g2 := kzk.frozen 2
      simp only [List.getElem?_toArray, List.getElem?_cons_succ, List.getElem?_cons_zero] at a0 a1 a2 b0 b1 b2
      have hend := fewO_end hk hk20 hkl
      have hlen := fewO_len hk
      have HE := Lib.hid (And.intro hend hlen)
      have hres : ∀ W, Below w.heap.size w W → W.ownsRow (oB + 1) 26 6 (.slice ka k kc) k cs → RowsAt W (.slice ka (fewQ p).rows.length kc) (fewQ p).rows := fun W hW ho => by
        have e1 : (fewQ p).rows = fewO p.rows k := hend
        rw [e1, hlen]
        have := flat_view (R := RowCs) (n := 6) (v := .slice ka k kc) (by rw [hlen]; exact ho) (hfl.to (fun _ _ h => h.below hW))
        exact this
      have hgl : m = (fewQ p).gain.length := by rw [HM.out]; simp [fewQ]
      have hnil : ka = none → kc = 0 := fun e => by
        rcases hown.2 with ⟨e2, -⟩ | ⟨g, cap, cur, e2, -⟩
        · cases e2; rfl
        · cases e2; cases e
      have hrl : k = (fewQ p).rows.length := by show k = (fewO p.rows 20).length; rw [hend, hlen]
      have HH := Lib.hid (And.intro hres (And.intro hgl (And.intro hnil hrl)))
      have HOWN := Lib.hid hown
      clear hend hlen hres hgl hnil hrl hown
      by_cases hk2 : k < p.rows.length
      · obtain rfl : k = 20 := by omega
        go_wp2
        refine bodyPost_ret (v := .agg #[.int .i64 p.vars, .slice ka 20 kc, .slice ga m gc]) (by simp [results, Try.results44, go_sem, b0, b1, b2]) rfl ?_
        obtain ⟨q1, q2, q3, q4⟩ := HH.out
        have hlo : w.heap.size + 1 < oB + 1 := by omega
        have ho := ownsRow_setCell_below (a := ⟨w.heap.size + 1, 2, none⟩) (ownsRow_setCell_below (a := ⟨w.heap.size + 1, 1, none⟩) (ownsRow_setCell_below (a := ⟨w.heap.size + 1, 0, none⟩) HOWN.out hlo (.int .i64 p.vars)) hlo (.slice ka 20 kc)) hlo (.slice ga m gc)
        have hB2 : ∀ (i : Nat) (u : Value) (W : World), Below w.heap.size w W → Below w.heap.size w (W.setCell ⟨w.heap.size + 1, i, none⟩ u) := fun i u W h => h.setCell (p := ⟨w.heap.size + 1, i, none⟩) (by simp) u
        have hBf := hB2 2 (.slice ga m gc) _ (hB2 1 (.slice ka 20 kc) _ (hB2 0 (.int .i64 p.vars) _ hBw))
        have hgain : IntsAt w (.slice ga (fewQ p).gain.length gc) (fewQ p).gain := by rw [← q2, HM.out]; exact SliceOf.take HG.out 12
        exact ⟨ka, kc, ga, gc, by rw [← q4, ← q2], ⟨_, _, rfl, q1 _ hBf ho, hgain.below hBf⟩, q3, hBf⟩
      · obtain rfl : k = p.rows.length := by omega
        go_wp2
        refine bodyPost_ret (v := .agg #[.int .i64 p.vars, .slice ka p.rows.length kc, .slice ga m gc]) (by simp [results, Try.results44, go_sem, b0, b1, b2]) rfl ?_
        obtain ⟨q1, q2, q3, q4⟩ := HH.out
        have hlo : w.heap.size + 1 < oB + 1 := by omega
        have ho := ownsRow_setCell_below (a := ⟨w.heap.size + 1, 2, none⟩) (ownsRow_setCell_below (a := ⟨w.heap.size + 1, 1, none⟩) (ownsRow_setCell_below (a := ⟨w.heap.size + 1, 0, none⟩) HOWN.out hlo (.int .i64 p.vars)) hlo (.slice ka p.rows.length kc)) hlo (.slice ga m gc)
        have hB2 : ∀ (i : Nat) (u : Value) (W : World), Below w.heap.size w W → Below w.heap.size w (W.setCell ⟨w.heap.size + 1, i, none⟩ u) := fun i u W h => h.setCell (p := ⟨w.heap.size + 1, i, none⟩) (by simp) u
        have hBf := hB2 2 (.slice ga m gc) _ (hB2 1 (.slice ka p.rows.length kc) _ (hB2 0 (.int .i64 p.vars) _ hBw))
        have hgain : IntsAt w (.slice ga (fewQ p).gain.length gc) (fewQ p).gain := by rw [← q2, HM.out]; exact SliceOf.take HG.out 12
        exact ⟨ka, kc, ga, gc, by rw [← q4, ← q2], ⟨_, _, rfl, q1 _ hBf ho, hgain.below hBf⟩, q3, hBf⟩
end Go.Proofs.Ytblmpmapcdpaiaa
