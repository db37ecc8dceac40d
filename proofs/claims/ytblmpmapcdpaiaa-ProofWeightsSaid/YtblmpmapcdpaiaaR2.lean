/- nadirref23: row, Valid. -/
import Derived.Test.YtblmpmapcdpaiaaR1
namespace Go.Proofs.Ytblmpmapcdpaiaa
open Go.RowKit Lib

set_option maxRecDepth 100000 in
set_option maxHeartbeats 1000000 in
theorem row_all (v : Value) (r : RowD) (n : Int) (w : World) (hv : RowV w v r) :
    Calls Try.prog 74 #[v, .int .i64 n] w fun e w' => e = .returned (.bool (rightB r n)) ∧ Below w.heap.size w w' := by
  obtain ⟨vc, rfl, hvc⟩ := hv
  have hB0 : Below w.heap.size w (w.alloc (.cells #[.int .i64 r.kind, .int .i64 r.a, .int .i64 r.b, .int .i64 r.at_, vc, .int .i64 r.most] 26)) := (Below.refl _ _).alloc (Nat.le_refl _) _
  have hx := bounded_any vc r.coef _ (hvc.below hB0)
  obtain ⟨ca, cc, rfl, -, -⟩ := hvc.len
  clear hvc
  by_cases hl : (r.coef.length : Int) = n
  · subst hl
    cases hc : coefOK r.coef with
    | true =>
      rw [hc] at hx
      have hr : rightB r r.coef.length = mostOK r.most := by unfold rightB; rw [hc]; simp
      rw [hr]
      by_cases h1 : -1000000000000 ≤ r.most
      · by_cases h2 : r.most ≤ 1000000000000
        · have hm : mostOK r.most = true := by unfold mostOK; simp; omega
          rw [hm]
          clear hm hr hc
          go_enter Try.func74, Try.ntmps74
          go_wp2_with fail
          refine hx.mono ?_
          rintro e w' ⟨rfl, rfl⟩
          go_wp2
          go_ret
          exact ⟨by first | rfl | (simp; omega), hB0⟩
        · have hm : mostOK r.most = false := by unfold mostOK; simp; omega
          rw [hm]
          clear hm hr hc
          go_enter Try.func74, Try.ntmps74
          go_wp2_with fail
          refine hx.mono ?_
          rintro e w' ⟨rfl, rfl⟩
          go_wp2
          go_ret
          exact ⟨by first | rfl | (simp; omega), hB0⟩
      · have hm : mostOK r.most = false := by unfold mostOK; simp; omega
        rw [hm]
        clear hm hr hc
        go_enter Try.func74, Try.ntmps74
        go_wp2_with fail
        refine hx.mono ?_
        rintro e w' ⟨rfl, rfl⟩
        go_wp2
        go_ret
        exact ⟨by first | rfl | (simp; omega), hB0⟩
    | false =>
      rw [hc] at hx
      have hr : rightB r r.coef.length = false := by unfold rightB; rw [hc]; simp
      rw [hr]
      clear hr hc
      go_enter Try.func74, Try.ntmps74
      go_wp2_with fail
      refine hx.mono ?_
      rintro e w' ⟨rfl, rfl⟩
      go_wp2
      go_ret
      exact ⟨rfl, hB0⟩
  · have hr : rightB r n = false := by unfold rightB; simp [hl]
    have hl2 : ((r.coef.length : Int) == n) = false := beq_eq_false_iff_ne.2 hl
    rw [hr]
    clear hr hx
    go_enter Try.func74, Try.ntmps74
    go_wp2
    go_ret
    exact ⟨rfl, hB0⟩

theorem valid_take {rows : List RowD} {n : Int} {k : Nat} (h : k < rows.length) : ((rows.take (k + 1)).all fun r => rightB r n) = ((rows.take k).all (fun r => rightB r n) && rightB (rows.getD k row0) n) := by
  rw [List.take_add_one, getD_some row0 h, List.all_append]; simp

def headB (p : ProgD) : Bool := decide (0 ≤ p.vars) && decide (p.vars ≤ 12) && decide (p.rows.length ≤ 300) && decide ((p.gain.length : Int) = p.vars) && coefOK p.gain
theorem validB_head (p : ProgD) : validB p = (headB p && p.rows.all fun r => rightB r p.vars) := by
  unfold validB headB
  cases decide (0 ≤ p.vars) <;> cases decide (p.vars ≤ 12) <;> cases decide (p.rows.length ≤ 300) <;> cases (p.rows.all fun r => rightB r p.vars) <;> cases decide ((p.gain.length : Int) = p.vars) <;> cases coefOK p.gain <;> rfl
set_option maxRecDepth 100000 in
set_option maxHeartbeats 2000000 in
/-- Behind the tests of the head. -/
theorem valid_ref (v : Value) (p : ProgD) (w : World) (hv : ProgV w v p) :
    Calls Try.prog 27 #[v] w fun e w' => e = .returned (.bool (validB p)) ∧ Below w.heap.size w w' := by
  obtain ⟨vr, vg, rfl, hvr, hvg⟩ := hv
  have hB0 : Below w.heap.size w (w.alloc (.cells #[.int .i64 p.vars, vr, vg] 29)) := (Below.refl _ _).alloc (Nat.le_refl _) _
  have hx := bounded_any vg p.gain _ (hvg.below hB0)
  have HVR := Lib.hid (hvr.below hB0)
  have HNR := Lib.hid hvr
  obtain ⟨ra, rc, rfl, hr1, hr2⟩ := (show SlicesLen vr p.rows.length from hvr.len)
  obtain ⟨ga, gc, rfl, -, -⟩ := hvg.len
  unfold maxLen at hr2
  clear hvr hvg
  obtain ⟨ob, hob⟩ : ∃ b, Hid (b = validB p) := ⟨_, Lib.hid rfl⟩
  rw [← hob.out]
  have hob2 := Lib.hid (hob.out.trans (validB_head p))
  have bad := fun (h : headB p = false) => (show ob = false from by rw [hob2.out, h]; rfl)
  have HBAD := Lib.hid bad
  clear bad
  have kp := Blk.new w #[.int .i64 p.vars, .slice ra p.rows.length rc, .slice ga p.gain.length gc] 29
  by_cases h1 : p.vars < 0
  · have := HBAD.out (by unfold headB; simp; omega)
    subst this
    go_enter Try.func27, Try.ntmps27
    go_wp2
    go_ret
    exact ⟨rfl, hB0⟩
  · by_cases h2 : 12 < p.vars
    · have := HBAD.out (by unfold headB; simp; omega)
      subst this
      go_enter Try.func27, Try.ntmps27
      go_wp2
      go_ret
      exact ⟨rfl, hB0⟩
    · by_cases h3 : 300 < (p.rows.length : Int)
      · have := HBAD.out (by unfold headB; simp; omega)
        subst this
        go_enter Try.func27, Try.ntmps27
        go_wp2
        go_ret
        exact ⟨rfl, hB0⟩
      · by_cases h4 : (p.gain.length : Int) = p.vars
        · cases hc : coefOK p.gain with
          | false =>
            rw [hc] at hx
            have := HBAD.out (by unfold headB; rw [hc]; simp)
            subst this
            clear hc
            have h4' : ((p.gain.length : Int) == p.vars) = true := by simpa using h4
            go_enter Try.func27, Try.ntmps27
            go_wp2_with fail
            refine hx.mono ?_
            rintro e w' ⟨rfl, rfl⟩
            go_wp2
            go_ret
            exact ⟨rfl, hB0⟩
          | true =>
            rw [hc] at hx
            have hhead : Hid (ob = p.rows.all fun r => rightB r p.vars) := Lib.hid (by
              rw [hob2.out, show headB p = true from by unfold headB; rw [hc]; simp; omega, Bool.true_and])
            clear hc
            have h4' : ((p.gain.length : Int) == p.vars) = true := by simpa using h4
            go_enter Try.func27, Try.ntmps27
            go_wp2_with fail
            refine hx.mono ?_
            rintro e w' ⟨rfl, rfl⟩
            clear hx
            generalize hX : w.alloc (.cells #[.int .i64 p.vars, .slice ra p.rows.length rc, .slice ga p.gain.length gc] 29) = X at HVR hB0 kp ⊢
            go_wp2
            go_loopw [3] (fun u3 wr => ∃ k : Nat, k ≤ p.rows.length ∧ u3 = .int .i64 k ∧ Hid (((p.rows.take k).all fun r => rightB r p.vars) = true) ∧ Below X.heap.size X wr) (fun u3 _ => (p.rows.length - intOf u3).toNat)
            case atStart => exact ⟨0, by omega, rfl, Lib.hid rfl, Below.refl _ _⟩
            case round =>
              obtain ⟨k, hk, rfl, hok, hBk⟩ := hrel
              have kpk := kp.below hBk kp.lt
              have a0 := kpk.cell 0
              have a1 := kpk.cell 1
              simp only [List.getElem?_toArray, List.getElem?_cons_succ, List.getElem?_cons_zero] at a0 a1
              have lk := kpk.lt
              by_cases hkl : k < p.rows.length
              · have hs := getD_some row0 hkl
                have hst := Lib.hid (valid_take (n := p.vars) hkl)
                obtain ⟨rb, ro, vc, rfl, c0, c1, c2, c3, c4, c5, hc⟩ := (HVR.out.below hBk).get hs
                have hmm := List.mem_of_getElem? hs
                have HMM := Lib.hid hmm
                generalize p.rows.getD k row0 = r at hs c0 c1 c2 c3 c4 c5 hc hst hmm HMM
                obtain ⟨ca, cc, rfl, -, -⟩ := hc.len
                have hrow := Lib.hid (fun W (hW : Below wr.heap.size wr W) => row_all (.agg #[.int .i64 r.kind, .int .i64 r.a, .int .i64 r.b, .int .i64 r.at_, .slice ca r.coef.length cc, .int .i64 r.most]) r p.vars W ⟨_, rfl, hc.below hW⟩)
                have lr := World.block_lt_of_cell? _ _ c0
                simp only at lr
                have hkk : (0 : Int) ≤ (k : Int) ∧ (k : Int) < (p.rows.length : Int) := by omega
                have h3n := h3
                clear hc hmm hs
                cases hrb : rightB r p.vars with
                | true =>
                  rw [hrb] at hrow
                  have HOK : Hid (((p.rows.take (k + 1)).all fun r => rightB r p.vars) = true) := Lib.hid (by rw [hst.out, hok.out, hrb]; rfl)
                  clear hrb hst
                  go_wp2_with fail
                  apply wp_below (w0 := wr)
                  · go_region_held3 (fun w' => Below wr.heap.size wr w' ∧ w'.cell? ⟨w.heap.size, 0, none⟩ = some (.int .i64 p.vars) ∧ w'.cell? ⟨w.heap.size, 1, none⟩ = some (.slice (some ⟨rb, ro, none⟩) p.rows.length rc) ∧ w'.cell? ⟨rb, ro + k * 6, none⟩ = some (.int .i64 r.kind) ∧ w'.cell? ⟨rb, ro + k * 6 + 1, none⟩ = some (.int .i64 r.a) ∧ w'.cell? ⟨rb, ro + k * 6 + 2, none⟩ = some (.int .i64 r.b) ∧ w'.cell? ⟨rb, ro + k * 6 + 3, none⟩ = some (.int .i64 r.at_) ∧ w'.cell? ⟨rb, ro + k * 6 + 4, none⟩ = some (.slice ca r.coef.length cc) ∧ w'.cell? ⟨rb, ro + k * 6 + 5, none⟩ = some (.int .i64 r.most))
                      (first | exact ⟨(Below.refl _ _).drew, a0, a1, c0, c1, c2, c3, c4, c5⟩ | (have hh := ‹Below wr.heap.size wr _ ∧ _›; exact ⟨hh.1.trans (hB6.mono hh.1.size), (hB6.cell (Nat.lt_of_lt_of_le lk hh.1.size)).trans hh.2.1, (hB6.cell (Nat.lt_of_lt_of_le lk hh.1.size)).trans hh.2.2.1, (hB6.cell (Nat.lt_of_lt_of_le lr hh.1.size)).trans hh.2.2.2.1, (hB6.cell (Nat.lt_of_lt_of_le lr hh.1.size)).trans hh.2.2.2.2.1, (hB6.cell (Nat.lt_of_lt_of_le lr hh.1.size)).trans hh.2.2.2.2.2.1, (hB6.cell (Nat.lt_of_lt_of_le lr hh.1.size)).trans hh.2.2.2.2.2.2.1, (hB6.cell (Nat.lt_of_lt_of_le lr hh.1.size)).trans hh.2.2.2.2.2.2.2.1, (hB6.cell (Nat.lt_of_lt_of_le lr hh.1.size)).trans hh.2.2.2.2.2.2.2.2⟩))
                      (first | (go_at_call 74; refine (hrow.out _ (‹Below wr.heap.size wr _ ∧ _›).1).mono ?_; rintro e w6 ⟨rfl, hB6⟩))
                    all_goals exact ⟨rfl, rfl, (‹Below wr.heap.size wr _ ∧ _›).1⟩
                  intro w6 hB6
                  go_wp2
                  go_roundw
                  case rel => exact ⟨k + 1, by omega, by go_num, HOK, hBk.trans (hB6.mono hBk.size)⟩
                  case measure => simp [intOf]; omega
                | false =>
                  rw [hrb] at hrow
                  have hf : ob = false := by
                    rw [hhead.out, List.all_eq_false]
                    exact ⟨r, HMM.out, by rw [hrb]; decide⟩
                  subst hf
                  clear hrb hst
                  go_wp2_with fail
                  apply wp_below (w0 := wr)
                  · go_region_held3 (fun w' => Below wr.heap.size wr w' ∧ w'.cell? ⟨w.heap.size, 0, none⟩ = some (.int .i64 p.vars) ∧ w'.cell? ⟨w.heap.size, 1, none⟩ = some (.slice (some ⟨rb, ro, none⟩) p.rows.length rc) ∧ w'.cell? ⟨rb, ro + k * 6, none⟩ = some (.int .i64 r.kind) ∧ w'.cell? ⟨rb, ro + k * 6 + 1, none⟩ = some (.int .i64 r.a) ∧ w'.cell? ⟨rb, ro + k * 6 + 2, none⟩ = some (.int .i64 r.b) ∧ w'.cell? ⟨rb, ro + k * 6 + 3, none⟩ = some (.int .i64 r.at_) ∧ w'.cell? ⟨rb, ro + k * 6 + 4, none⟩ = some (.slice ca r.coef.length cc) ∧ w'.cell? ⟨rb, ro + k * 6 + 5, none⟩ = some (.int .i64 r.most))
                      (first | exact ⟨(Below.refl _ _).drew, a0, a1, c0, c1, c2, c3, c4, c5⟩ | (have hh := ‹Below wr.heap.size wr _ ∧ _›; exact ⟨hh.1.trans (hB6.mono hh.1.size), (hB6.cell (Nat.lt_of_lt_of_le lk hh.1.size)).trans hh.2.1, (hB6.cell (Nat.lt_of_lt_of_le lk hh.1.size)).trans hh.2.2.1, (hB6.cell (Nat.lt_of_lt_of_le lr hh.1.size)).trans hh.2.2.2.1, (hB6.cell (Nat.lt_of_lt_of_le lr hh.1.size)).trans hh.2.2.2.2.1, (hB6.cell (Nat.lt_of_lt_of_le lr hh.1.size)).trans hh.2.2.2.2.2.1, (hB6.cell (Nat.lt_of_lt_of_le lr hh.1.size)).trans hh.2.2.2.2.2.2.1, (hB6.cell (Nat.lt_of_lt_of_le lr hh.1.size)).trans hh.2.2.2.2.2.2.2.1, (hB6.cell (Nat.lt_of_lt_of_le lr hh.1.size)).trans hh.2.2.2.2.2.2.2.2⟩))
                      (first | (go_at_call 74; refine (hrow.out _ (‹Below wr.heap.size wr _ ∧ _›).1).mono ?_; rintro e w6 ⟨rfl, hB6⟩))
                    all_goals exact ⟨rfl, rfl, (‹Below wr.heap.size wr _ ∧ _›).1⟩
                  intro w6 hB6
                  go_wp2
                  go_ret
                  exact ⟨rfl, hB0.trans ((hBk.trans (hB6.mono hBk.size)).mono hB0.size)⟩
              · obtain rfl : k = p.rows.length := by omega
                have ht : ob = true := by rw [hhead.out]; have := hok.out; rwa [List.take_length] at this
                subst ht
                go_wp2
                go_ret
                exact ⟨rfl, hB0.trans (hBk.mono hB0.size)⟩
        · have := HBAD.out (by unfold headB; simp [h4])
          subst this
          have h4' : ((p.gain.length : Int) == p.vars) = false := beq_eq_false_iff_ne.2 h4
          go_enter Try.func27, Try.ntmps27
          go_wp2
          go_ret
          exact ⟨rfl, hB0⟩
end Go.Proofs.Ytblmpmapcdpaiaa
