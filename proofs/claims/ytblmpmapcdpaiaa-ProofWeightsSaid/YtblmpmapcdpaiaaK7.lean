/- package proof: Bounds. -/
import Derived.Test.YtblmpmapcdpaiaaK9
import Derived.Test.YtblmpmapcdpaiaaP15
import Derived.Test.YtblmpmapcdpaiaaB4
namespace Go.Proofs.Ytblmpmapcdpaiaa
open Go.RowKit Lib Go.Shelf
attribute [local go_sem] Oper.semAt_some

def ng (n : Int) : Int := IntKind.i64.wrap (-n)
def ngK (l : List Int) (k : Nat) : List Int := (l.take k).map ng
theorem ngK_succ {l : List Int} {k : Nat} (h : k < l.length) : ngK l (k + 1) = ngK l k ++ [ng (l.getD k 0)] := by
  unfold ngK
  rw [List.take_add_one, getD_some 0 h]; simp
theorem ngK_len {l : List Int} {k : Nat} (h : k ≤ l.length) : (ngK l k).length = k := by simp [ngK]; omega
def goalW (gain : List Int) (g : Int) : RowD := { kind := 0, a := 0, b := 0, at_ := 0, coef := gain.map ng, most := -(g + 1) }
def boundsV (p : ProgD) (l : List StepD) (g : Int) : Bool := inB g (-12000000000) 12000000000 && (checkV p (p.rows ++ [goalW p.gain g]) l == -1)
theorem goalW_eq {gain : List Int} (h : coefOK gain = true) (g : Int) : goalW gain g = goalS gain g := by
  unfold goalW goalS
  congr 1
  refine List.map_congr_left fun n hn => ?_
  obtain ⟨k, hk, rfl⟩ := memI.1 hn
  have := coefOK_get h k
  unfold ng
  rw [IntKind.wrap_i64]; omega
theorem goalW_rows {p : ProgD} {g : Int} (hg : -12000000000 ≤ g ∧ g ≤ 12000000000) (h : validB p = true) : ∃ n : Nat, p.vars = n ∧ RowsOK n (p.rows ++ [goalW p.gain g]) := by
  obtain ⟨n, hn, h1, h2, h3⟩ := validB_rows h
  obtain ⟨v1, v2, v3, v4, v5, v6⟩ := validB_true h
  refine ⟨n, hn, h1, by simp; omega, fun r hr => ?_⟩
  rcases List.mem_append.1 hr with hr | hr
  · exact h3 r hr
  · rw [List.mem_singleton] at hr
    subst hr
    rw [goalW_eq v6]
    refine ⟨by simp [goalS]; omega, coefOK_neg v6, ?_, ?_⟩ <;> simp only [goalS] <;> omega
set_option maxRecDepth 100000 in
set_option maxHeartbeats 4000000 in
theorem bounds_any (v vl : Value) (p : ProgD) (l : List StepD) (g : Int) (w : World) (hv : ProgV w v p) (hl : StepsAt w vl l) (hgl : p.gain.length ≤ 60) (hrl : p.rows.length ≤ 1000) :
    Calls Try.prog 55 #[v, vl, .int .i64 g] w fun e w' => e = .returned (.bool (boundsV p l g)) ∧ Below w.heap.size w w' := by
  obtain ⟨vr, vg, rfl, hvr, hvg⟩ := hv
  obtain ⟨ra, rc, rfl, hr1, hr2⟩ := (show SlicesLen vr p.rows.length from hvr.len)
  obtain ⟨ga, gc, rfl, hg1, hg2⟩ := (show SlicesLen vg p.gain.length from hvg.len)
  obtain ⟨la, lc, rfl, hl1, hl2⟩ := (show SlicesLen vl l.length from hl.len)
  unfold maxLen at hr2 hg2 hl2
  have HR := Lib.hid hvr
  have HG := Lib.hid hvg
  have HL := Lib.hid hl
  clear hvr hvg hl
  unfold boundsV
  have hB0 : Below w.heap.size w (w.alloc (.cells #[.int .i64 p.vars, .slice ra p.rows.length rc, .slice ga p.gain.length gc] 29)) := (Below.refl _ _).alloc (Nat.le_refl _) _
  cases hin : inB g (-12000000000) 12000000000 with
  | false =>
    rw [Bool.false_and]
    have HI := Lib.hid hin
    clear hin
    go_enter Try.func55, Try.ntmps55
    go_wp2_with fail
    refine (isIn86 _ _ _ _).mono ?_
    rw [HI.out]
    rintro e w' ⟨rfl, rfl⟩
    go_wp2
    go_ret
    exact ⟨rfl, hB0⟩
  | true =>
    rw [Bool.true_and]
    have hg : -12000000000 ≤ g ∧ g ≤ 12000000000 := by unfold inB at hin; simpa using hin
    have HI := Lib.hid hin
    clear hin
    have HOK := Lib.hid (goalW_rows (p := p) hg)
    have kp := Blk.new w #[.int .i64 p.vars, .slice ra p.rows.length rc, .slice ga p.gain.length gc] 29
    have HP := Lib.hid (And.intro hB0 kp)
    clear hB0 kp
    go_enter Try.func55, Try.ntmps55
    go_wp2_with fail
    refine (isIn86 _ _ _ _).mono ?_
    rw [HI.out]
    rintro e w' ⟨rfl, rfl⟩
    go_wp2
    go_loopw [22] (fun u22 wr => ∃ (k : Nat) (vk : Value), k ≤ p.gain.length ∧ u22 = .int .i64 k ∧ wr.ownsRow (w.heap.size + 2) 3 1 vk (ngK p.gain k).length ((ngK p.gain k).map (Value.int .i64)) ∧
      Blk wr (w.heap.size + 1) #[.int .i64 0, .int .i64 0, .int .i64 0, .int .i64 0, vk, .int .i64 (-(g + 1))] 26 ∧ Blk wr w.heap.size #[.int .i64 p.vars, .slice ra p.rows.length rc, .slice ga p.gain.length gc] 29 ∧ Below w.heap.size w wr ∧ w.heap.size + 2 ≤ wr.heap.size)
      (fun u22 _ => (p.gain.length - Go.RowKit.intOf u22).toNat)
    case atStart => exact ⟨0, _, by omega, rfl, World.ownsRow_nil _ _ _ _, Blk.newAt _ _ _ (by simp), HP.out.2.alloc _, (HP.out.1.alloc (by simp) _), by simp⟩
    case round =>
      obtain ⟨k, vk, hk, rfl, hown, hb1, hb0, hB, hsz⟩ := hrel
      by_cases hkl : k < p.gain.length
      · have hsome := Lib.hid (getD_some 0 hkl)
        have HN := Lib.hid (ngK_succ hkl)
        have hnl := ngK_len (l := p.gain) hk
        obtain ⟨b, off, rfl, hcell⟩ := (HG.out.below hB).get hsome.out
        have k4 := hb1.cell 4
        have f4 := hb1.frozen 4
        simp only [List.getElem?_toArray, List.getElem?_cons_succ, List.getElem?_cons_zero] at k4
        generalize p.gain.getD k 0 = x at hcell hsome HN
        obtain ⟨y, hy⟩ : ∃ y, IntKind.i64.wrap (-x) = y := ⟨_, rfl⟩
        have HY : Hid (ng x = y) := hy
        go_wp2_with (at_builtin; refine wpList_push E24 rfl _ _ rfl (w.heap.size + 2) hown rfl rfl rfl (by unfold maxLen; omega) (by omega) hsz ?_; intro v' w3 hown' hgrow hbw; have f4' := (hb1.below hbw (by omega)).frozen 4; have k4' := (hb1.below hbw (by omega)).cell 4; simp only [List.getElem?_toArray, List.getElem?_cons_succ, List.getElem?_cons_zero] at k4'; obtain ⟨va, vcap, rfl, hva, hvc⟩ := owned_len hown')
        go_roundw
        case rel =>
          refine ⟨k + 1, _, by omega, by go_num, ?_, ((hb1.below hbw (by omega)).set 4 _), (hb0.below hbw (by omega)).other _ (by simp), (hB.trans (hbw.mono (by omega))).setCell (p := ⟨w.heap.size + 1, 4, none⟩) (by simp) _, by simp; have := hbw.size; omega⟩
          rw [HN.out, HY.out]
          exact ownsRow_setCell_below (by simpa [hnl] using hown') (by simp) _
        case measure => simp [Go.RowKit.intOf]; omega
      · obtain rfl : k = p.gain.length := by omega
        have e : ngK p.gain p.gain.length = (goalW p.gain g).coef := by unfold ngK goalW; rw [List.take_length]
        rw [e] at hown
        obtain ⟨va, vcap, rfl, hva, hvc⟩ := owned_len hown
        have HC := Lib.hid (owned_slice hown)
        have HK := Lib.hid (And.intro hB (And.intro hb0 hb1))
        have hn1 : (0 : Int) ≤ (p.rows.length : Int) ∧ (p.rows.length : Int) ≤ (rc : Int) := by omega
        have hz := hB.size
        have i0 := hb0.cell 0
        have i1 := hb0.cell 1
        have i2 := hb0.cell 2
        have j0 := hb1.cell 0
        have j1 := hb1.cell 1
        have j2 := hb1.cell 2
        have j3 := hb1.cell 3
        have j4 := hb1.cell 4
        have j5 := hb1.cell 5
        simp only [List.getElem?_toArray, List.getElem?_cons_succ, List.getElem?_cons_zero] at i0 i1 i2 j0 j1 j2 j3 j4 j5
        generalize (goalW p.gain g).coef.length = cl at *
        have HBd := Lib.hid (hB.drew)
        have hzd : w.heap.size ≤ wr.drew.heap.size := hz
        have HKS : Hid (∀ X : World, Below (w.heap.size + 2) wr X → X.cell? ⟨w.heap.size, 0, none⟩ = some (.int .i64 p.vars) ∧ X.cell? ⟨w.heap.size, 1, none⟩ = some (.slice ra p.rows.length rc) ∧ X.cell? ⟨w.heap.size, 2, none⟩ = some (.slice ga p.gain.length gc) ∧ X.cell? ⟨w.heap.size + 1, 0, none⟩ = some (.int .i64 0) ∧ X.cell? ⟨w.heap.size + 1, 1, none⟩ = some (.int .i64 0) ∧ X.cell? ⟨w.heap.size + 1, 2, none⟩ = some (.int .i64 0) ∧ X.cell? ⟨w.heap.size + 1, 3, none⟩ = some (.int .i64 0) ∧ X.cell? ⟨w.heap.size + 1, 4, none⟩ = some (.slice va cl vcap) ∧ X.cell? ⟨w.heap.size + 1, 5, none⟩ = some (.int .i64 (-(g + 1)))) := fun X hX => ⟨(hX.cell (p := ⟨w.heap.size, 0, none⟩) (by simp)).trans i0, (hX.cell (p := ⟨w.heap.size, 1, none⟩) (by simp)).trans i1, (hX.cell (p := ⟨w.heap.size, 2, none⟩) (by simp)).trans i2, (hX.cell (p := ⟨w.heap.size + 1, 0, none⟩) (by simp)).trans j0, (hX.cell (p := ⟨w.heap.size + 1, 1, none⟩) (by simp)).trans j1, (hX.cell (p := ⟨w.heap.size + 1, 2, none⟩) (by simp)).trans j2, (hX.cell (p := ⟨w.heap.size + 1, 3, none⟩) (by simp)).trans j3, (hX.cell (p := ⟨w.heap.size + 1, 4, none⟩) (by simp)).trans j4, (hX.cell (p := ⟨w.heap.size + 1, 5, none⟩) (by simp)).trans j5⟩
        have HQ := Lib.hid (show ∀ o : Obj, Below (w.heap.size + 2) wr (wr.drew.alloc o) from fun o => ((Below.refl _ _).drew).alloc hsz o)
        clear hb0 hb1 hB hown e hkl hk
        go_wp2_with fail
        go_region_held3 (fun w' => w'.cell? ⟨w.heap.size, 0, none⟩ = some (.int .i64 p.vars) ∧ w'.cell? ⟨w.heap.size, 1, none⟩ = some (.slice ra p.rows.length rc) ∧ w'.cell? ⟨w.heap.size, 2, none⟩ = some (.slice ga p.gain.length gc) ∧ w'.cell? ⟨w.heap.size + 1, 0, none⟩ = some (.int .i64 0) ∧ w'.cell? ⟨w.heap.size + 1, 1, none⟩ = some (.int .i64 0) ∧ w'.cell? ⟨w.heap.size + 1, 2, none⟩ = some (.int .i64 0) ∧ w'.cell? ⟨w.heap.size + 1, 3, none⟩ = some (.int .i64 0) ∧ w'.cell? ⟨w.heap.size + 1, 4, none⟩ = some (.slice va cl vcap) ∧ w'.cell? ⟨w.heap.size + 1, 5, none⟩ = some (.int .i64 (-(g + 1))))
          (first | go_keep | exact HKS.out _ (HQ.out _) | exact HKS.out _ hq6 | exact HKS.out _ hq5)
          (first | (refine step_rows (B := wr.heap.size) (r := goalW p.gain g) rfl (.tmp 44) (.tmp 46) rfl ((HR.out.below HBd.out).below ((Below.refl _ _).alloc (Nat.le_refl _) _)) (by simp [Act.eval, Act.put]) _ (by simp [Act.eval, Act.put]) (Blk.new wr.drew _ 26) ⟨_, rfl, HC.out.below (((Below.refl _ _).drew).alloc (Nat.le_refl _) _)⟩ (by simp [Value.oneCell']) (by omega) ?_; intro a' cap' w5 hr5 hB5; have hW5 : Below w.heap.size w w5 := (HBd.out.alloc hzd _).trans (hB5.mono (by simp; omega)); have hq5 : Below (w.heap.size + 2) wr w5 := (HQ.out _).trans (hB5.mono (by simp; omega))) | (go_at_call 81; refine (check_any _ _ _ p (p.rows ++ [goalW p.gain g]) l _ ⟨_, _, rfl, HR.out.below hW5, HG.out.below hW5⟩ hr5 (HL.out.below hW5) HOK.out).mono ?_; rintro e w6 ⟨u, rfl, -, hB6⟩; have hq6 : Below (w.heap.size + 2) wr w6 := hq5.trans (hB6.mono (Nat.le_trans hsz hq5.size))))
        go_wp2
        go_ret
        exact ⟨rfl, hW5.trans (hB6.mono hW5.size)⟩
end Go.Proofs.Ytblmpmapcdpaiaa
