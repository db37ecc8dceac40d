/- program.proof: the search for a row whose least sum is too great. -/
import Derived.Test.YtblmpmapcdpaiaaP11
import Derived.Deep.RegionHeld3
namespace Go.Proofs.Ytblmpmapcdpaiaa
open Go.RowKit Lib

def tooB (d set : Nat) (r : RowD) : Bool := decide (r.most < ls r.coef d set)
set_option maxRecDepth 100000 in
set_option maxHeartbeats 1000000 in
theorem proof11 (v : Value) (r : RowD) (d set : Nat) (p1 p2 : Addr) (w : World) (hp1 : w.cell? p1 = some (.int .i64 d)) (hp2 : w.cell? p2 = some (.int .i64 set)) (hv : RowV w v r)
    (hl : r.coef.length ≤ 60) (hc : coefOK r.coef = true) (hd : d ≤ r.coef.length) (hs : set < 4611686018427387904) :
    Calls Try.prog 91 #[v, .pointer (some p1), .pointer (some p2)] w fun e w' => e = .returned (.bool (tooB d set r)) ∧ Below w.heap.size w w' := by
  have hl1 := World.block_lt_of_cell? _ _ hp1
  have hl2 := World.block_lt_of_cell? _ _ hp2
  unfold tooB
  obtain ⟨vc, rfl, hvc⟩ := hv
  have hB0 : Below w.heap.size w (w.alloc (.cells #[.int .i64 r.kind, .int .i64 r.a, .int .i64 r.b, .int .i64 r.at_, vc, .int .i64 r.most] 26)) := (Below.refl _ _).alloc (Nat.le_refl _) _
  have hx : Hid (∀ W, Below w.heap.size w W → Calls Try.prog 92 #[.agg #[.int .i64 r.kind, .int .i64 r.a, .int .i64 r.b, .int .i64 r.at_, vc, .int .i64 r.most], .int .i64 d, .int .i64 set] W fun e w' => e = .returned (.int .i64 (ls r.coef d set)) ∧ Below W.heap.size W w') :=
    fun W hW => least_any _ r d set W ⟨vc, rfl, hvc.below hW⟩ hl hc hd hs
  generalize ls r.coef d set = y at hx ⊢
  have hBlk : Blk (w.alloc (.cells #[.int .i64 r.kind, .int .i64 r.a, .int .i64 r.b, .int .i64 r.at_, vc, .int .i64 r.most] 26)) w.heap.size #[.int .i64 r.kind, .int .i64 r.a, .int .i64 r.b, .int .i64 r.at_, vc, .int .i64 r.most] 26 := Blk.new _ _ _
  have HB := Lib.hid hBlk
  clear hvc hBlk
  go_enter Try.func91, Try.ntmps91
  go_wp2_with fail
  go_region_held3 (fun w' => w'.cell? p1 = some (.int .i64 d) ∧ w'.cell? p2 = some (.int .i64 set) ∧ w'.cell? ⟨w.heap.size, 0, none⟩ = some (.int .i64 r.kind) ∧ w'.cell? ⟨w.heap.size, 1, none⟩ = some (.int .i64 r.a) ∧ w'.cell? ⟨w.heap.size, 2, none⟩ = some (.int .i64 r.b) ∧ w'.cell? ⟨w.heap.size, 3, none⟩ = some (.int .i64 r.at_) ∧ w'.cell? ⟨w.heap.size, 4, none⟩ = some (vc) ∧ w'.cell? ⟨w.heap.size, 5, none⟩ = some (.int .i64 r.most))
    (first | go_keep | exact ⟨(hB5.cell (by simp; omega)).trans ((hB0.drew.cell hl1).trans hp1), (hB5.cell (by simp; omega)).trans ((hB0.drew.cell hl2).trans hp2), (hB5.cell (by simp)).trans (by simp), (hB5.cell (by simp)).trans (by simp), (hB5.cell (by simp)).trans (by simp), (hB5.cell (by simp)).trans (by simp), (hB5.cell (by simp)).trans (by simp), (hB5.cell (by simp)).trans (by simp)⟩)
    ((go_at_call 92; refine (hx.out _ (by exact hB0.drew)).mono ?_; rintro e w4 ⟨rfl, hB5⟩))
  go_wp2
  go_ret
  exact ⟨rfl, hB0.drew.trans (hB5.mono hB0.size)⟩
theorem proof11_ans (w : World) (l : List RowD) (d set : Nat) (p1 p2 : Addr) (hp1 : w.cell? p1 = some (.int .i64 d)) (hp2 : w.cell? p2 = some (.int .i64 set)) (h : ∀ r ∈ l, r.coef.length ≤ 60 ∧ coefOK r.coef = true ∧ d ≤ r.coef.length) (hs : set < 4611686018427387904) :
    AnsR w (.func (.func 91) #[] #[.pointer (some p1), .pointer (some p2)]) l (tooB d set) :=
  ⟨91, _, rfl, Try.call91, fun _ r hr V hV v hv => proof11 v r d set p1 p2 V ((hV.cell (World.block_lt_of_cell? _ _ hp1)).trans hp1) ((hV.cell (World.block_lt_of_cell? _ _ hp2)).trans hp2) hv
    (h r (List.mem_of_getElem? hr)).1 (h r (List.mem_of_getElem? hr)).2.1 (h r (List.mem_of_getElem? hr)).2.2 hs⟩
theorem badAt_idx (rows : List RowD) (d set : Nat) : idxI (tooB d set) rows = match badAt rows d set with | some i => (i : Int) | none => -1 := rfl
end Go.Proofs.Ytblmpmapcdpaiaa
