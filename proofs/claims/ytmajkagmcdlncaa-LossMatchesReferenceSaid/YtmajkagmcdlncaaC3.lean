/- package loss: passesOf: the passes of slots, ascending, each once. -/
import Derived.Test.YtmajkagmcdlncaaC2
import Derived.Test.YtmajkagmcdlncaaShelf
import Derived.Lib.SlKeysI
import Derived.Lib.RowBridge
namespace Go.Proofs.Ytmajkagmcdlncaa
open Go.RowKit Go.Shelf Lib Go.Sort
open L18 (Pass Slot noPass noSlot ownI passesV ownV Asc)

def sortI (l : List Int) : List Int := l.mergeSort fun x y => decide (x ≤ y)
theorem sortI_pair (l : List Int) : (sortI l).Pairwise (· ≤ ·) := by
  have := List.pairwise_mergeSort (le := fun x y : Int => decide (x ≤ y)) (fun a b c h1 h2 => by simp at *; omega) (fun a b => by simp; omega) l
  exact this.imp (fun h => by simpa using h)
theorem sortI_mem (l : List Int) (x : Int) : x ∈ sortI l ↔ x ∈ l := by unfold sortI; exact List.mem_mergeSort
theorem compactUp_spec (zs : List Int) (hs : zs.Pairwise (· ≤ ·)) : ∀ m, m ≤ zs.length → (Lib.compactUpTo zs.toArray m).Pairwise (· < ·) ∧ (∀ x, x ∈ Lib.compactUpTo zs.toArray m ↔ ∃ j, j < m ∧ zs.getD j 0 = x) := by
  have hle : ∀ i j, i ≤ j → j < zs.length → zs.getD i 0 ≤ zs.getD j 0 := fun i j hij hj => by
    rcases Nat.lt_or_ge i j with h | h
    · have := List.pairwise_iff_getElem.1 hs i j (by omega) hj h
      rw [List.getD_eq_getElem?_getD, List.getD_eq_getElem?_getD, List.getElem?_eq_getElem hj, List.getElem?_eq_getElem (by omega)]
      exact this
    · obtain rfl : i = j := by omega
      exact Int.le_refl _
  have hget : ∀ j, j < zs.length → zs.toArray[j]! = zs.getD j 0 := fun j hj => by
    rw [getElem!_pos _ j (by simpa using hj)]
    rw [List.getD_eq_getElem?_getD, List.getElem?_eq_getElem hj]; rfl
  intro m
  induction m with
  | zero => intro _; exact ⟨by simp [Lib.compactUpTo], by simp [Lib.compactUpTo]⟩
  | succ m ih =>
    intro hm
    obtain ⟨i1, i2⟩ := ih (by omega)
    rw [Lib.compactUpTo_succ]
    by_cases h0 : m = 0
    · subst h0
      rw [Lib.keeps_lt_one _ 0 (by omega), if_pos rfl, hget 0 (by omega)]
      refine ⟨by simp [Lib.compactUpTo], fun x => ?_⟩
      simp [Lib.compactUpTo]
      exact eq_comm
    · have hprev : zs.getD (m - 1) 0 ≤ zs.getD m 0 := hle _ _ (by omega) (by omega)
      have e1 := hget m (by omega)
      have e2 := hget (m - 1) (by omega)
      by_cases hk : zs.getD m 0 = zs.getD (m - 1) 0
      · rw [Lib.keeps_neg (by omega) (by rw [e1, e2]; exact hk)]
        rw [if_neg (by decide), List.append_nil]
        refine ⟨i1, fun x => ?_⟩
        rw [i2]
        constructor
        · rintro ⟨j, hj, h⟩; exact ⟨j, by omega, h⟩
        · rintro ⟨j, hj, h⟩
          rcases Nat.lt_or_ge j m with h3 | h3
          · exact ⟨j, h3, h⟩
          · obtain rfl : j = m := by omega
            exact ⟨j - 1, by omega, by rw [← hk]; exact h⟩
      · rw [Lib.keeps_pos (by rw [e1, e2]; exact hk), if_pos rfl, e1]
        refine ⟨?_, fun x => ?_⟩
        · rw [List.pairwise_append]
          refine ⟨i1, by simp, fun a ha b hb => ?_⟩
          simp only [List.mem_singleton] at hb
          subst hb
          obtain ⟨j, hj, rfl⟩ := (i2 a).1 ha
          have := hle j (m - 1) (by omega) (by omega)
          omega
        · simp only [List.mem_append, List.mem_singleton, i2]
          constructor
          · rintro (⟨j, hj, h⟩ | h)
            · exact ⟨j, by omega, h⟩
            · exact ⟨m, by omega, h.symm⟩
          · rintro ⟨j, hj, h⟩
            rcases Nat.lt_or_ge j m with h3 | h3
            · exact .inl ⟨j, h3, h⟩
            · obtain rfl : j = m := by omega
              exact .inr h.symm
theorem compact_ownI (l : List Int) : Lib.compact (sortI l) = ownI l := by
  have hs := compactUp_spec (sortI l) (sortI_pair l) (sortI l).length (Nat.le_refl _)
  refine L18.asc_ext hs.1 (L18.ownI_asc l) fun x => ?_
  rw [show Lib.compact (sortI l) = Lib.compactUpTo (sortI l).toArray (sortI l).length from rfl, hs.2, L18.ownI_mem, ← sortI_mem]
  constructor
  · rintro ⟨j, hj, rfl⟩; exact L18.getD_mem 0 hj
  · intro h; obtain ⟨j, hj, e⟩ := L18.mem_getD 0 h; exact ⟨j, hj, e⟩
/-- slices.Sort and slices.Compact of an own row. -/
theorem sort_own {w : World} {base : Nat} {v : Value} {l : List Int} (h : w.ownsRow base 3 1 v l.length (l.map (Value.int .i64))) (hb : base ≤ w.heap.size) (hs : l.length ≤ 100000) :
    Calls Try.prog 61 #[v] w fun e w' => e = .returned (.tuple #[]) ∧ w'.ownsRow base 3 1 v (sortI l).length ((sortI l).map (Value.int .i64)) ∧ Below base w w' := by
  have hsl : (sortI l).length = l.length := by simp [sortI]
  rcases h.2 with ⟨rfl, hz⟩ | ⟨g, cap, cur, rfl, hbase, hgb, r1, r2, r3, r4⟩
  · have hss : l = [] := List.eq_nil_of_length_eq_zero hz
    subst hss
    refine (Try.slices_Sort_int_none none 0 w).mono ?_
    rintro e w' ⟨rfl, rfl⟩
    have hs0 : sortI [] = [] := by simp [sortI]
    rw [hs0]
    exact ⟨rfl, World.ownsRow_nil _ _ _ _, Below.refl _ _⟩
  · have hH : Holds encZ w g 0 l.toArray := holds_of_block_i hgb (by simpa using r4)
    have hgl : g < w.heap.size := (Array.getElem?_eq_some_iff.1 hgb).1
    refine (Try.slices_Sort_int g 0 cap l w hH hgl (by omega)).mono ?_
    rintro e w' ⟨rfl, nn, os, rfl⟩
    exact ⟨rfl, by rw [hsl]; exact ownsRow_sorted_i hsl hbase hgb r1 r2 r3, (Below.refl _ _).grown (grownBy_sorted_i _) hb (fun j hj => by cases hj; exact hbase)⟩
theorem compact_own {w : World} {base : Nat} {v : Value} {l : List Int} (h : w.ownsRow base 3 1 v l.length (l.map (Value.int .i64))) (hb : base ≤ w.heap.size) (hs : l.length ≤ 100000) :
    Calls Try.prog 62 #[v] w fun e w' => ∃ v', e = .returned v' ∧ w'.ownsRow base 3 1 v' (Lib.compact l).length ((Lib.compact l).map (Value.int .i64)) ∧ Below base w w' := by
  rcases h.2 with ⟨rfl, hz⟩ | ⟨g, cap, cur, rfl, hbase, hgb, r1, r2, r3, r4⟩
  · have hss : l = [] := List.eq_nil_of_length_eq_zero hz
    subst hss
    refine (Try.slices_Compact_int_empty none 0 w).mono ?_
    rintro e w' ⟨rfl, rfl⟩
    exact ⟨_, rfl, World.ownsRow_nil _ _ _ _, Below.refl _ _⟩
  · have hH : Holds encZ w g 0 l.toArray := holds_of_block_i hgb (by simpa using r4)
    refine (Try.slices_Compact_int g 0 cap l w hH (by omega) r1).mono ?_
    rintro e w' ⟨rfl, q, rfl⟩
    have hle := Lib.compact_length_le l
    generalize Lib.compact l = cl at hle ⊢
    have hgr : w.grownBy (putRow (Value.int .i64) (Sort.ahead w q) g 0 (cl ++ List.replicate (l.length - cl.length) 0).toArray) (some g) := by
      have := grownBy_sorted_i (w := w) (g := g) (n := q) (os := #[]) (cl ++ List.replicate (l.length - cl.length) 0).toArray
      rwa [grow_empty] at this
    have hheap : (putRow (Value.int .i64) (Sort.ahead w q) g 0 (cl ++ List.replicate (l.length - cl.length) 0).toArray).heap[g]? = some (.cells (putCells encZ 0 (cl ++ List.replicate (l.length - cl.length) 0).toArray cur) 3 (0, 0)) := by
      have := heap_sorted_i (w := w) (g := g) (n := q) (os := #[]) (cur := cur) (e := 3) (fr := (0, 0)) (cl ++ List.replicate (l.length - cl.length) 0).toArray hgb
      rwa [grow_empty] at this
    have hsz : (cl ++ List.replicate (l.length - cl.length) 0).length ≤ cur.size := by simp; omega
    have htk := take_putCells_i cur (cl ++ List.replicate (l.length - cl.length) 0) hsz
    refine ⟨_, rfl, ⟨by simp, .inr ⟨g, cap, _, rfl, hbase, hheap, by omega, r2, by simp [putCells, r3], ?_⟩⟩, (Below.refl _ _).grown hgr hb (fun j hj => by cases hj; exact hbase)⟩
    rw [Nat.mul_one]
    have e : (putCells encZ 0 (cl ++ List.replicate (l.length - cl.length) 0).toArray cur).toList.take cl.length = ((putCells encZ 0 (cl ++ List.replicate (l.length - cl.length) 0).toArray cur).toList.take (cl ++ List.replicate (l.length - cl.length) 0).length).take cl.length := by
      rw [List.take_take]; congr 1; simp
    rw [e, htk, List.map_append, List.take_left' (by simp)]
/-- An own row of integers. -/
def OwnI (W : World) (B : Nat) (v : Value) (l : List Int) : Prop := W.ownsRow B 3 1 v l.length (l.map (Value.int .i64))
theorem OwnI.ints {W : World} {B : Nat} {v : Value} {l : List Int} (h : OwnI W B v l) : IntsAt W v l := owned_slice h
theorem OwnI.len {W : World} {B : Nat} {v : Value} {l : List Int} (h : OwnI W B v l) : ∃ (a : Option Addr) (cap : Nat), v = .slice a l.length cap ∧ l.length ≤ cap ∧ cap ≤ maxLen := SliceOf.len h.ints
theorem passes_snoc {o : List Slot} {k : Nat} {s : Slot} (hk : k < o.length) (hs : o.getD k noSlot = s) : passesV (o.take (k + 1)) = passesV (o.take k) ++ [s.pass] := by
  unfold passesV
  rw [List.take_add_one, getD_some noSlot hk, hs, List.map_append]; rfl
set_option maxRecDepth 100000 in
set_option maxHeartbeats 1000000 in
theorem passesOf40 (v : Value) (o : List Slot) (w : World) (hv : SlotsAt w v o) (hs : o.length ≤ 1000) :
    Calls Try.prog 40 #[v] w fun e w' => ∃ v', e = .returned v' ∧ OwnI w' w.heap.size v' (ownV o) ∧ Below w.heap.size w w' := by
  have HV := Lib.hid hv
  obtain ⟨a, cap, rfl, hle, hcm⟩ := hv.len
  unfold maxLen at hcm
  clear hv
  go_enter Try.func40, Try.ntmps40
  go_wp2
  go_loopw [2, 4, 7] (fun u2 _ u7 wr => ∃ k : Nat, k ≤ o.length ∧ u7 = .int .i64 k ∧ OwnI wr w.heap.size u2 (passesV (o.take k)) ∧ Below w.heap.size w wr) (fun _ _ u7 _ => (o.length - intOf u7).toNat)
  case atStart => exact ⟨0, by omega, rfl, World.ownsRow_nil _ _ _ _, Below.refl _ _⟩
  case round =>
    obtain ⟨k, hk, rfl, hown, hBr⟩ := hrel
    by_cases hkl : k < o.length
    · obtain ⟨b, off, rfl, c0, c1, c2⟩ := (SlotsAt.later HV.out hBr).get (getD_some noSlot hkl)
      generalize hsd : o.getD k noSlot = s at c0 c1 c2
      have HSN := Lib.hid (passes_snoc hkl hsd)
      clear hsd
      go_upto_region 4 with (fail)
      have hB1 : Below w.heap.size w (wr.alloc (.cells #[.int .i64 s.pass, .int .i64 s.fr, .int .i64 s.to] 63)) := hBr.alloc hBr.size _
      have k0 : (wr.alloc (.cells #[.int .i64 s.pass, .int .i64 s.fr, .int .i64 s.to] 63)).cell? ⟨wr.heap.size, 0, none⟩ = some (.int .i64 s.pass) := (Blk.new wr #[.int .i64 s.pass, .int .i64 s.fr, .int .i64 s.to] 63).cell 0
      have hown2 : OwnI (wr.alloc (.cells #[.int .i64 s.pass, .int .i64 s.fr, .int .i64 s.to] 63)) w.heap.size u2 (passesV (o.take k)) := World.ownsRow.alloc hown _
      generalize wr.alloc (.cells #[.int .i64 s.pass, .int .i64 s.fr, .int .i64 s.to] 63) = V at hB1 k0 hown2 ⊢
      have hln : (passesV (o.take k)).length = k := by unfold passesV; simp; omega
      unfold OwnI at hown2
      rw [hln] at hown2
      clear hown hBr c0 c1 c2 hln
      go_wp2_with (at_builtin; refine wpList_push E37 rfl _ _ rfl w.heap.size hown2 rfl rfl rfl (by unfold maxLen; omega) (by omega) hB1.size ?_; intro v' w3 hown' hgrow hb1)
      go_roundw
      case rel => exact ⟨k + 1, by omega, by go_num, by
        rw [HSN.out]; unfold OwnI
        rw [List.length_append, List.map_append, show (passesV (o.take k)).length = k by unfold passesV; simp; omega]
        exact hown', hB1.trans hb1⟩
      case measure => simp [intOf]; omega
    · obtain rfl : k = o.length := by omega
      rw [List.take_length] at hown
      have hpl : (passesV o).length = o.length := by unfold passesV; simp
      have cS := sort_own (l := passesV o) hown hBr.size (by omega)
      have HPL := Lib.hid hpl
      clear hpl
      go_wp2_with fail
      refine cS.mono ?_
      rintro e w1 ⟨rfl, hown1, hB1⟩
      have hBw1 := hBr.trans hB1
      have cC := compact_own hown1 hBw1.size (by have := HPL.out; simp [sortI]; omega)
      clear cS
      rw [compact_ownI] at cC
      go_wp2_with fail
      refine cC.mono ?_
      rintro e w2 ⟨v', rfl, hown2, hB2⟩
      go_wp2
      go_ret
      exact ⟨_, rfl, hown2, hBw1.trans hB2⟩
end Go.Proofs.Ytmajkagmcdlncaa
