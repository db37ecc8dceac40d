/- slices.Sorted over the values of a slice; slices.Compact; what an own row of integers holds behind them. -/
import Derived.Test.YtfmdpmcniccioaaD6
import Derived.Test.YtfmdpmcniccioaaShelf
import Derived.Lib.SlKeysI
import Derived.Lib.RowBridge
namespace Go.Proofs.Ytfmdpmcniccioaa
open Go.RowKit Go.Shelf Lib Go.Sort

def sortI (l : List Int) : List Int := l.mergeSort fun x y => decide (x ≤ y)
set_option maxRecDepth 100000 in
theorem sorted_values (pB : Nat) (l : List Int) (w0 w : World) (v : Value) (hl : IntsAt w0 v l) (h0w : Below w0.heap.size w0 w) (hs : l.length ≤ 1000)
    (hp : ∃ c fz, w.heap[pB]? = some (.cells #[v] c fz)) :
    Calls Try.prog 39 #[.func (.func 47) #[] #[.pointer (some ⟨pB, 0, none⟩)]] w fun e w' => ∃ v, e = .returned v ∧ w'.ownsRow w.heap.size 3 1 v (sortI l).length ((sortI l).map (Value.int .i64)) ∧ Below w.heap.size w w' := by
  have hx := collect_values pB l w0 w v hl h0w hs hp
  have hsl : (sortI l).length = l.length := by simp [sortI]
  have HSL := Lib.hid hsl
  have HS := Lib.hid hs
  clear hl h0w hp hs hsl
  go_enter Try.func39, Try.ntmps39
  go_wp2_with fail
  refine hx.mono ?_
  rintro e w1 ⟨v1, rfl, hrow, hB⟩
  clear hx
  rcases hrow.2 with ⟨rfl, hz⟩ | ⟨g, cap, cur, rfl, hbase, hgb, r1, r2, r3, r4⟩
  · have hss : l = [] := List.eq_nil_of_length_eq_zero hz
    subst hss
    go_wp2_with fail
    refine (Try.slices_Sort_int_none none 0 w1).mono ?_
    rintro e w' ⟨rfl, rfl⟩
    go_wp2
    go_ret
    have hs0 : sortI [] = [] := by simp [sortI]
    refine ⟨.slice none 0 0, rfl, ?_, hB⟩
    rw [hs0]
    exact World.ownsRow_nil _ _ _ _
  · have hH : Holds encZ w1 g 0 l.toArray := holds_of_block_i hgb (by simpa using r4)
    have hgl : g < w1.heap.size := (Array.getElem?_eq_some_iff.1 hgb).1
    have cS := Try.slices_Sort_int g 0 cap l w1 hH hgl (by have := HS.out; omega)
    have HX := Lib.hid (And.intro hbase (And.intro hgb (And.intro r1 (And.intro r2 r3))))
    clear hrow hbase hgb r1 r2 r3 r4 hH
    go_wp2_with fail
    refine cS.mono ?_
    rintro e w' ⟨rfl, nn, os, rfl⟩
    clear cS
    go_wp2
    go_ret
    obtain ⟨hbase, hgb, r1, r2, r3⟩ := HX.out
    exact ⟨_, rfl, by rw [HSL.out]; exact ownsRow_sorted_i HSL.out hbase hgb r1 r2 r3, hB.grown (grownBy_sorted_i _) hB.size (fun j hj => by cases hj; exact hbase)⟩
/-- slices.Compact of an own row. -/
theorem compact_own {w : World} {base : Nat} {v : Value} {l : List Int} (h : w.ownsRow base 3 1 v l.length (l.map (Value.int .i64))) (hb : base ≤ w.heap.size) (hs : l.length ≤ 1000) :
    Calls Try.prog 38 #[v] w fun e w' => ∃ v', e = .returned v' ∧ w'.ownsRow base 3 1 v' (Lib.compact l).length ((Lib.compact l).map (Value.int .i64)) ∧ Below base w w' := by
  rcases h.2 with ⟨rfl, hz⟩ | ⟨g, cap, cur, rfl, hbase, hgb, r1, r2, r3, r4⟩
  · have hss : l = [] := List.eq_nil_of_length_eq_zero hz
    subst hss
    refine (Try.slices_Compact_int_empty none 0 w).mono ?_
    rintro e w' ⟨rfl, rfl⟩
    exact ⟨_, rfl, World.ownsRow_nil _ _ _ _, Below.refl _ _⟩
  · have hH : Holds encZ w g 0 l.toArray := holds_of_block_i hgb (by simpa using r4)
    refine (Try.slices_Compact_int g 0 cap l w hH (by omega) r1).mono ?_
    rintro e w' ⟨rfl, q, rfl⟩
    have hle := Lib.compact_length_le l
    generalize Lib.compact l = cl at hle ⊢
    have hgr : w.grownBy (putRow (Value.int .i64) (Sort.ahead w q) g 0 (cl ++ List.replicate (l.length - cl.length) 0).toArray) (some g) := by
      have := grownBy_sorted_i (w := w) (g := g) (n := q) (os := #[]) (cl ++ List.replicate (l.length - cl.length) 0).toArray
      rwa [grow_empty] at this
    have hheap : (putRow (Value.int .i64) (Sort.ahead w q) g 0 (cl ++ List.replicate (l.length - cl.length) 0).toArray).heap[g]? = some (.cells (putCells encZ 0 (cl ++ List.replicate (l.length - cl.length) 0).toArray cur) 3 (0, 0)) := by
      have := heap_sorted_i (w := w) (g := g) (n := q) (os := #[]) (cur := cur) (e := 3) (fr := (0, 0)) (cl ++ List.replicate (l.length - cl.length) 0).toArray hgb
      rwa [grow_empty] at this
    have hsz : (cl ++ List.replicate (l.length - cl.length) 0).length ≤ cur.size := by simp; omega
    have htk := take_putCells_i cur (cl ++ List.replicate (l.length - cl.length) 0) hsz
    refine ⟨_, rfl, ⟨by simp, .inr ⟨g, cap, _, rfl, hbase, hheap, by omega, r2, by simp [putCells, r3], ?_⟩⟩, (Below.refl _ _).grown hgr hb (fun j hj => by cases hj; exact hbase)⟩
    rw [Nat.mul_one]
    have e : (putCells encZ 0 (cl ++ List.replicate (l.length - cl.length) 0).toArray cur).toList.take cl.length = ((putCells encZ 0 (cl ++ List.replicate (l.length - cl.length) 0).toArray cur).toList.take (cl ++ List.replicate (l.length - cl.length) 0).length).take cl.length := by
      rw [List.take_take]; congr 1; simp
    rw [e, htk, List.map_append, List.take_left' (by simp)]
end Go.Proofs.Ytfmdpmcniccioaa
