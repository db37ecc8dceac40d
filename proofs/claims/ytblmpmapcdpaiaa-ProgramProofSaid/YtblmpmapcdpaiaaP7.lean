/- program.Broken. -/
import Derived.Test.YtblmpmapcdpaiaaP6
import Derived.Test.YtblmpmapcdpaiaaOwn
namespace Go.Proofs.Ytblmpmapcdpaiaa
open Go.RowKit Lib

theorem E24 : ElemOK Try.prog 24 3 (.int .i64 0) 1 8 := ⟨Try.underlying24, by kernel_rfl, rfl, by decide⟩
def row0 : RowD := ⟨0, 0, 0, 0, [], 0⟩
/-- The rows among the first k that a choice does not keep. -/
def brK (rows : List RowD) (set : Nat) : Nat → List Int
  | 0 => []
  | k + 1 => brK rows set k ++ if keptB (rows.getD k row0) set then [] else [(k : Int)]
def brokenV (p : ProgD) (set : Int) : List Int := if choiceB p set = true then brK p.rows set.toNat p.rows.length else []
theorem brK_len (rows : List RowD) (set : Nat) : ∀ k, (brK rows set k).length ≤ k := by
  intro k
  induction k with
  | zero => simp [brK]
  | succ k ih => simp only [brK]; split <;> simp <;> omega

set_option maxRecDepth 100000 in
set_option maxHeartbeats 1000000 in
theorem broken_all (v : Value) (p : ProgD) (set : Int) (w : World) (hv : ProgV w v p) :
    Calls Try.prog 32 #[v, .int .i64 set] w fun e w' => ∃ v', e = .returned v' ∧ IntsAt w' v' (brokenV p set) ∧ Below w.heap.size w w' := by
  obtain ⟨vr, vg, rfl, hvr, hvg⟩ := hv
  have hB0 : Below w.heap.size w (w.alloc (.cells #[.int .i64 p.vars, vr, vg] 29)) := (Below.refl _ _).alloc (Nat.le_refl _) _
  have hx := isChoice_all _ p set _ ⟨vr, vg, rfl, hvr.below hB0, hvg.below hB0⟩
  have HR := Lib.hid hvr
  obtain ⟨ra, rc, rfl, hr1, hr2⟩ := (show SlicesLen vr p.rows.length from hvr.len)
  unfold maxLen at hr2
  clear hvr hvg
  cases hch : choiceB p set with
  | false =>
    have hs : brokenV p set = [] := if_neg (by rw [hch]; decide)
    rw [hs]
    rw [hch] at hx
    clear hch hs
    go_enter Try.func32, Try.ntmps32
    go_wp2_with fail
    refine hx.mono ?_
    rintro e w' ⟨rfl, hB⟩
    go_wp2
    go_ret
    exact ⟨_, rfl, owned_slice (l := []) (World.ownsRow_nil w' 0 3 1), hB0.trans (hB.mono hB0.size)⟩
  | true =>
    have hs : brokenV p set = brK p.rows set.toNat p.rows.length := if_pos hch
    rw [hs]
    rw [hch] at hx
    obtain ⟨hval, s, rfl, hs1, hs2⟩ := choiceB_true hch
    have h300 := (validB_true hval).2.2.1
    have hrows : Hid (∀ r ∈ p.rows, r.coef.length ≤ 60 ∧ coefOK r.coef = true) := fun r hr => by
      obtain ⟨-, h2, h3, -⟩ := validB_row hval hr
      exact ⟨by omega, h3⟩
    clear hch hs hval
    rw [Int.toNat_natCast]
    go_enter Try.func32, Try.ntmps32
    go_wp2_with fail
    refine hx.mono ?_
    rintro e w1 ⟨rfl, hB⟩
    have k1 : w1.cell? ⟨w.heap.size, 1, none⟩ = some (.slice ra p.rows.length rc) := (hB.cell (by simp)).trans (World.cell?_alloc_at _ _ _ _ rfl)
    have hB1 := hB0.trans (hB.mono hB0.size)
    clear hB hx hB0
    go_wp2
    go_loopw [5, 16] (fun u5 u16 wr => ∃ k : Nat, k ≤ p.rows.length ∧ u16 = .int .i64 k ∧ wr.ownsRow w1.heap.size 3 1 u5 (brK p.rows s k).length ((brK p.rows s k).map (Value.int .i64)) ∧ Below w1.heap.size w1 wr) (fun _ u16 _ => (p.rows.length - intOf u16).toNat)
    case atStart => exact ⟨0, by omega, rfl, World.ownsRow_nil _ _ _ _, Below.refl _ _⟩
    case round =>
      obtain ⟨k, hk, rfl, hown, hBr⟩ := hrel
      by_cases hkl : k < p.rows.length
      · have hsome := Lib.hid (getD_some row0 hkl)
        have hBw := hB1.trans (hBr.mono hB1.size)
        obtain ⟨b, off, vc, rfl, c0, c1, c2, c3, c4, c5, hco⟩ := (HR.out.below hBw).get hsome.out
        obtain ⟨ca, cc, rfl, hca, hcc⟩ := (show SlicesLen vc _ from hco.len)
        have hBa : Below wr.heap.size wr (wr.alloc (.cells #[.int .i64 (p.rows.getD k row0).kind, .int .i64 (p.rows.getD k row0).a, .int .i64 (p.rows.getD k row0).b, .int .i64 (p.rows.getD k row0).at_, .slice ca (p.rows.getD k row0).coef.length cc, .int .i64 (p.rows.getD k row0).most] 26)) := (Below.refl _ _).alloc (Nat.le_refl _) _
        have hc := kept_any _ (p.rows.getD k row0) s _ ⟨_, rfl, hco.below hBa⟩ (hrows.out _ (List.mem_of_getElem? hsome.out)).1 (hrows.out _ (List.mem_of_getElem? hsome.out)).2 (by omega)
        clear hco
        have hbk := brK_len p.rows s k
        have HS : brK p.rows s (k + 1) = brK p.rows s k ++ if keptB (p.rows.getD k row0) s then [] else [(k : Int)] := rfl
        generalize p.rows.getD k row0 = x at c0 c1 c2 c3 c4 c5 hsome hc hBa hca HS
        have HS2 := Lib.hid HS
        clear HS
        go_wp2_with fail
        refine hc.mono ?_
        cases hq : keptB x s with
        | true =>
          have HE : Hid (brK p.rows s (k + 1) = brK p.rows s k) := by rw [HS2.out, hq]; exact List.append_nil _
          clear hq HS2
          rintro e w2 ⟨rfl, hB2⟩
          have hB3 := hBa.trans (hB2.mono hBa.size)
          go_wp2
          go_roundw
          case rel => exact ⟨k + 1, by omega, by go_num, by rw [HE.out]; exact owned_below hown hB3, hBr.trans (hB3.mono hBr.size)⟩
          case measure => simp [intOf]; omega
        | false =>
          have HE : Hid (brK p.rows s (k + 1) = brK p.rows s k ++ [(k : Int)]) := by rw [HS2.out, hq]; rfl
          clear hq HS2
          rintro e w2 ⟨rfl, hB2⟩
          have hB3 := hBa.trans (hB2.mono hBa.size)
          have hB4 := hBr.trans (hB3.mono hBr.size)
          have hown2 := owned_below hown hB3
          clear hown
          go_wp2_with (at_builtin; refine wpList_push E24 rfl _ _ rfl w1.heap.size hown2 rfl rfl rfl (by unfold maxLen; omega) (by omega) hB4.size ?_; intro v' w3 hown' hgrow hb1)
          go_roundw
          case rel => exact ⟨k + 1, by omega, by go_num, by rw [HE.out]; simpa using hown', hB4.trans hb1⟩
          case measure => simp [intOf]; omega
      · obtain rfl : k = p.rows.length := by omega
        go_wp2
        go_ret
        exact ⟨_, rfl, owned_slice hown, hB1.trans (hBr.mono hB1.size)⟩
end Go.Proofs.Ytblmpmapcdpaiaa
