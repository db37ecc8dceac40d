/- package integer: what over's search asks. -/
import Derived.Test.YtjnpenljgfdaiaaGreatDoorS2
namespace Go.Proofs.YtjnpenljgfdaiaaGreatDoor
open Go.RowKit Go.Shelf Lib

/-- Two cells that last. -/
theorem keep_S2 {W V V' : World} {p q : Addr} {a b : Value} (h : Below W.heap.size W V ∧ V.cell? p = some a ∧ V.cell? q = some b) (hB : Below V.heap.size V V') : Below W.heap.size W V' ∧ V'.cell? p = some a ∧ V'.cell? q = some b :=
  ⟨h.1.trans (hB.mono h.1.size), (hB.cell (World.block_lt_of_cell? _ _ h.2.1)).trans h.2.1, (hB.cell (World.block_lt_of_cell? _ _ h.2.2)).trans h.2.2⟩
theorem keep_S3 {W V V' : World} {p q r : Addr} {a b c : Value} (h : Below W.heap.size W V ∧ V.cell? p = some a ∧ V.cell? q = some b ∧ V.cell? r = some c) (hB : Below V.heap.size V V') : Below W.heap.size W V' ∧ V'.cell? p = some a ∧ V'.cell? q = some b ∧ V'.cell? r = some c :=
  ⟨h.1.trans (hB.mono h.1.size), (hB.cell (World.block_lt_of_cell? _ _ h.2.1)).trans h.2.1, (hB.cell (World.block_lt_of_cell? _ _ h.2.2.1)).trans h.2.2.1, (hB.cell (World.block_lt_of_cell? _ _ h.2.2.2)).trans h.2.2.2⟩
theorem keep_S4 {W V V' : World} {p q r s : Addr} {a b c d : Value} (h : Below W.heap.size W V ∧ V.cell? p = some a ∧ V.cell? q = some b ∧ V.cell? r = some c ∧ V.cell? s = some d) (hB : Below V.heap.size V V') : Below W.heap.size W V' ∧ V'.cell? p = some a ∧ V'.cell? q = some b ∧ V'.cell? r = some c ∧ V'.cell? s = some d :=
  ⟨h.1.trans (hB.mono h.1.size), (hB.cell (World.block_lt_of_cell? _ _ h.2.1)).trans h.2.1, (hB.cell (World.block_lt_of_cell? _ _ h.2.2.1)).trans h.2.2.1, (hB.cell (World.block_lt_of_cell? _ _ h.2.2.2.1)).trans h.2.2.2.1, (hB.cell (World.block_lt_of_cell? _ _ h.2.2.2.2)).trans h.2.2.2.2⟩
set_option maxRecDepth 100000 in
set_option maxHeartbeats 1000000 in
theorem over1_ans (w : World) (p q : Addr) (v2 vr : Value) (m r : Nat) (h2 : NumAt w v2 m) (hr : NumAt w vr r) (hp : w.cell? p = some (.func (.func 117) #[v2] #[])) (hq : w.cell? q = some vr) (l2 : (N3.toG m).length ≤ 1000) :
    AnsB w (.func (.func 119) #[] #[.pointer (some p), .pointer (some q)]) (fun d => decide (r < m * (d + 1))) := by
  refine ⟨119, _, rfl, Tryz.call119, fun i hi W hW => ?_⟩
  have hp' := (hW.cell (World.block_lt_of_cell? _ _ hp)).trans hp
  have hq' := (hW.cell (World.block_lt_of_cell? _ _ hq)).trans hq
  have e1 : ((i + 1 : Nat) : Int) = (i : Int) + 1 := by omega
  have hw : IntKind.i64.wrap ((i : Int) + 1) = (i : Int) + 1 := by rw [IntKind.wrap_i64]; omega
  have c1 := Lib.hid (fun V (hV : Below W.heap.size W V) => by_any v2 m (i + 1) V ((h2.below hW).below hV) (by omega) (by omega))
  rw [e1] at c1
  have c2 := Lib.hid (fun V (hV : Below W.heap.size W V) v1 (h1 : NumAt V v1 (m * (i + 1))) => compare_any v1 vr (m * (i + 1)) r V h1 ((hr.below hW).below hV) (by
    have := len_mul m (i + 1)
    have := len_one (x := i + 1) (by omega)
    omega))
  have hres := Lib.hid (cmp_gt ((m * (i + 1) : Nat) : Int) (r : Int))
  dsimp only
  have hd : Hid (decide (r < m * (i + 1)) = decide ((r : Int) < ((m * (i + 1) : Nat) : Int))) := by
    refine Lib.hid ?_
    rw [decide_eq_decide]; omega
  rw [hd.out, ← hres.out]
  have ha : (#[Value.int .i64 (i : Int)] ++ #[.pointer (some p), .pointer (some q)] : Array Value) = #[.int .i64 i, .pointer (some p), .pointer (some q)] := rfl
  rw [ha]
  clear h2 hr hp hq hres hd e1 ha
  go_enter Tryz.func119, Tryz.ntmps119
  go_wp2_with fail
  go_region_held3 (fun w' => Below W.heap.size W w' ∧ w'.cell? p = some (.func (.func 117) #[v2] #[]) ∧ w'.cell? q = some vr)
    (first | exact ⟨(Below.refl _ _).drew, hp', hq'⟩ | exact keep_S2 (by assumption) (by assumption) | go_keep)
    (first
      | (go_at_call 117; (with_reducible refine (c1.out _ (‹Below W.heap.size W _ ∧ _›).1).mono ?_); rintro e w4 ⟨v4, rfl, hn4, hB4⟩)
      | (go_at_call 92; (with_reducible refine (c2.out _ (‹Below W.heap.size W _ ∧ _›).1 _ (by assumption)).mono ?_); rintro e w4 ⟨rfl, hB4⟩))
  all_goals (
    go_wp2
    go_ret
    exact ⟨rfl, (‹Below W.heap.size W _ ∧ _›).1⟩)
end Go.Proofs.YtjnpenljgfdaiaaGreatDoor
