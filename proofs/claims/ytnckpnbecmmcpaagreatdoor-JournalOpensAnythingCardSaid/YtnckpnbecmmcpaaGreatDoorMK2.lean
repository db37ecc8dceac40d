/- Texts KShelf, KD6, KD7, KD8, KD9, KPlain2, KD10, KD11, KOn, KOn2, KOn3, KPut in one. -/
import Derived.Shelf.Sort.Plain
import Derived.Shelf.Slices.CompactI
import Derived.Shelf.Slices.In.SortNone
import Derived.Test.YtnckpnbecmmcpaaGreatDoorProg
import Derived.Test.YtnckpnbecmmcpaaGreatDoorMK1
import Derived.Test.YtnckpnbecmmcpaaGreatDoorRangeM
import Derived.Lib.SlKeysI
import Derived.Lib.RowBridge
section
/- The library's contracts of slices.Sort and slices.Compact at []int, laid at this dump (written by the shelf's own command, its remarks left out). -/
namespace Go.Proofs
open Go.Shelf
def Tryz.lays189_ren : Go.Shelf.Ren := ⟨fun | 189 => 90 | 125 => 108 | 257 => 107 | 128 => 126 | 129 => 127 | 294 => 117 | 295 => 118 | 296 => 119 | 297 => 120 | 298 => 121 | 299 => 122 | 216 => 123 | 300 => 124 | 301 => 125 | 328 => 137 | 329 => 138 | 330 => 139 | 331 => 140 | 332 => 141 | 215 => 142 | 343 => 148 | n => n, fun | 28 => 56 | 3 => 3 | 46 => 113 | 0 => 0 | 51 => 109 | 53 => 141 | 4 => 4 | 183 => 184 | 182 => 183 | 131 => 188 | 5 => 5 | 9 => 9 | 218 => 206 | 222 => 210 | 228 => 218 | 229 => 219 | n => n, fun | n => n⟩
theorem Tryz.lays189 : Go.Proofs.Lays.n189 Tryz.prog Tryz.lays189_ren := {
  mixed := by kernel_rfl
  f125 := Tryz.func108.trans (congrArg some (by kernel_rfl))
  f128 := Tryz.func126.trans (congrArg some (by kernel_rfl))
  f129 := Tryz.func127.trans (congrArg some (by kernel_rfl))
  f189 := Tryz.func90.trans (congrArg some (by kernel_rfl))
  f215 := Tryz.func142.trans (congrArg some (by kernel_rfl))
  f216 := Tryz.func123.trans (congrArg some (by kernel_rfl))
  f257 := Tryz.func107.trans (congrArg some (by kernel_rfl))
  f294 := Tryz.func117.trans (congrArg some (by kernel_rfl))
  f295 := Tryz.func118.trans (congrArg some (by kernel_rfl))
  f296 := Tryz.func119.trans (congrArg some (by kernel_rfl))
  f297 := Tryz.func120.trans (congrArg some (by kernel_rfl))
  f298 := Tryz.func121.trans (congrArg some (by kernel_rfl))
  f299 := Tryz.func122.trans (congrArg some (by kernel_rfl))
  f300 := Tryz.func124.trans (congrArg some (by kernel_rfl))
  f301 := Tryz.func125.trans (congrArg some (by kernel_rfl))
  f328 := Tryz.func137.trans (congrArg some (by kernel_rfl))
  f329 := Tryz.func138.trans (congrArg some (by kernel_rfl))
  f330 := Tryz.func139.trans (congrArg some (by kernel_rfl))
  f331 := Tryz.func140.trans (congrArg some (by kernel_rfl))
  f332 := Tryz.func141.trans (congrArg some (by kernel_rfl))
  f343 := Tryz.func148.trans (congrArg some (by kernel_rfl))
  t0 := Tryz.underlying0
  a0 := Tryz.isAgg0
  z0 := Tryz.sizeOf0
  v0 := Tryz.zeroValue0
  t3 := Tryz.underlying3
  a3 := Tryz.isAgg3
  z3 := Tryz.sizeOf3
  v3 := Tryz.zeroValue3
  t4 := Tryz.underlying4
  a4 := Tryz.isAgg4
  z4 := Tryz.sizeOf4
  v4 := Tryz.zeroValue4
  t5 := Tryz.underlying5
  a5 := Tryz.isAgg5
  z5 := Tryz.sizeOf5
  v5 := Tryz.zeroValue5
  t9 := Tryz.underlying9
  a9 := Tryz.isAgg9
  z9 := Tryz.sizeOf9
  v9 := Tryz.zeroValue9
  t28 := Tryz.underlying56
  a28 := Tryz.isAgg56
  z28 := Tryz.sizeOf56
  v28 := Tryz.zeroValue56
  t46 := Tryz.underlying113
  a46 := Tryz.isAgg113
  z46 := Tryz.sizeOf113
  v46 := Tryz.zeroValue113
  t51 := Tryz.underlying109
  a51 := Tryz.isAgg109
  z51 := Tryz.sizeOf109
  v51 := Tryz.zeroValue109
  t53 := Tryz.underlying141
  a53 := Tryz.isAgg141
  z53 := Tryz.sizeOf141
  v53 := Tryz.zeroValue141
  t131 := Tryz.underlying188
  a131 := Tryz.isAgg188
  z131 := Tryz.sizeOf188
  v131 := Tryz.zeroValue188
  t182 := Tryz.underlying183
  a182 := Tryz.isAgg183
  z182 := Tryz.sizeOf183
  v182 := Tryz.zeroValue183
  t183 := Tryz.underlying184
  a183 := Tryz.isAgg184
  z183 := Tryz.sizeOf184
  v183 := Tryz.zeroValue184
  t218 := Tryz.underlying206
  a218 := Tryz.isAgg206
  z218 := Tryz.sizeOf206
  v218 := Tryz.zeroValue206
  t222 := Tryz.underlying210
  a222 := Tryz.isAgg210
  z222 := Tryz.sizeOf210
  v222 := Tryz.zeroValue210
  t228 := Tryz.underlying218
  a228 := Tryz.isAgg218
  z228 := Tryz.sizeOf218
  v228 := Tryz.zeroValue218
  t229 := Tryz.underlying219
  a229 := Tryz.isAgg219
  z229 := Tryz.sizeOf219
  v229 := Tryz.zeroValue219 }
open Go.Sort Go.RowKit in
theorem Tryz.slices_Sort_int (blk off cap : Nat) (zs : List Int) (w : World) (hH : Holds (Value.int .i64) w blk off zs.toArray) (hblk : blk < w.heap.size) (hsz : zs.length < 4611686018427387904) :
    Calls Tryz.prog 90 #[.slice (some ⟨blk, off, none⟩) zs.length cap] w fun e w' =>
      e = .returned (.tuple #[]) ∧ ∃ n os, w' = grow (putRow (Value.int .i64) (Sort.ahead w n) blk off (zs.mergeSort fun x y => decide (x ≤ y)).toArray) os := Any.slices_Sort_int Tryz.lays189 blk off cap zs w hH hblk hsz
def Tryz.laysNm220_ren : Go.Shelf.Ren := ⟨fun | 20 => 60 | n => n, fun | 22 => 56 | 3 => 3 | 4 => 4 | 0 => 0 | n => n, fun | n => n⟩
theorem Tryz.laysNm220 : Go.Proofs.Lays2.n20 Tryz.prog Tryz.laysNm220_ren := {
  mixed := by kernel_rfl
  f20 := Tryz.func60.trans (congrArg some (by kernel_rfl))
  t0 := Tryz.underlying0
  a0 := Tryz.isAgg0
  z0 := Tryz.sizeOf0
  v0 := Tryz.zeroValue0
  t3 := Tryz.underlying3
  a3 := Tryz.isAgg3
  z3 := Tryz.sizeOf3
  v3 := Tryz.zeroValue3
  t4 := Tryz.underlying4
  a4 := Tryz.isAgg4
  z4 := Tryz.sizeOf4
  v4 := Tryz.zeroValue4
  t22 := Tryz.underlying56
  a22 := Tryz.isAgg56
  z22 := Tryz.sizeOf56
  v22 := Tryz.zeroValue56
  i3 := by kernel_rfl }
open Go.RowKit Go.Lib Go.Sort in
theorem Tryz.slices_Compact_int (blk off cap : Nat) (zs : List Int) (w : World) (hH : Holds (Value.int .i64) w blk off zs.toArray) (hsz : zs.length ≤ 9223372036854775807) (hcap : zs.length ≤ cap) :
    Calls Tryz.prog 60 #[.slice (some ⟨blk, off, none⟩) zs.length cap] w fun e w' => e = .returned (.slice (some ⟨blk, off, none⟩) (Lib.compact zs).length cap) ∧ ∃ q, w' = putRow (Value.int .i64) (Sort.ahead w q) blk off (Lib.compact zs ++ List.replicate (zs.length - (Lib.compact zs).length) 0).toArray := Any.slices_Compact_int Tryz.laysNm220 blk off cap zs w hH hsz hcap
open Go.RowKit Go.Lib Go.Sort in
theorem Tryz.slices_Compact_int_empty (a : Option Addr) (cap : Nat) (w : World) :
    Calls Tryz.prog 60 #[.slice a 0 cap] w fun e w' => e = .returned (.slice a 0 cap) ∧ w' = w := Any.slices_Compact_int_empty Tryz.laysNm220 a cap w
open Go.RowKit Go.Sort in
theorem Tryz.slices_Sort_int_none (p : Option Addr) (cap : Nat) (w : World) :
    Calls Tryz.prog 90 #[.slice p 0 cap] w fun e w' => e = .returned (.tuple #[]) ∧ w' = w := Any.slices_Sort_int_none Tryz.lays189 p cap w
end Go.Proofs
end
section
/- slices.Values, AppendSeq, Collect over a slice of integers. -/
namespace Go.Proofs.YtnckpnbecmmcpaaGreatDoor
open Go.RowKit Go.Shelf Lib
attribute [local go_sem] Oper.semAt_some

abbrev IntsAt (w : World) (v : Value) (l : List Int) : Prop := SliceOf (Value.int .i64) w v l
theorem E37 : ElemOK Tryz.prog 56 3 (.int .i64 0) 1 8 := ⟨Tryz.underlying56, by kernel_rfl, rfl, by decide⟩
theorem SliceOf.get {α : Type} {f : α → Value} {w : World} {a : Option Addr} {len cap : Nat} {l : List α} (h : SliceOf f w (.slice a len cap) l) {k : Nat} {y : α} (hk : l[k]? = some y) :
    ∃ b off, a = some ⟨b, off, none⟩ ∧ w.cell? ⟨b, off + k, none⟩ = some (f y) := by
  obtain ⟨a', cap', e, h2, h3, h4⟩ := h
  have hl : 0 < l.length := by
    refine Classical.byContradiction fun hc => ?_
    rw [List.getElem?_eq_none (by omega)] at hk; cases hk
  obtain ⟨b, off, rfl, h5⟩ := h4 hl
  cases e
  exact ⟨b, off, rfl, h5 k y hk⟩
theorem getD_some {α : Type} {l : List α} {k : Nat} (d : α) (h : k < l.length) : l[k]? = some (l.getD k d) := by
  rw [List.getD_eq_getElem?_getD, List.getElem?_eq_getElem h]; rfl
theorem SliceOf.len {α : Type} {f : α → Value} {w : World} {v : Value} {l : List α} (h : SliceOf f w v l) : ∃ (a : Option Addr) (cap : Nat), v = .slice a l.length cap ∧ l.length ≤ cap ∧ cap ≤ maxLen := by
  obtain ⟨a, cap, h1, h2, h3, -⟩ := h; exact ⟨a, cap, h1, h2, h3⟩
theorem owned_slice {α : Type} {f : α → Value} {B : Nat} {e : TypeId} {v : Value} {l : List α} {w : World} (h : w.ownsRow B e 1 v l.length (l.map f)) : SliceOf f w v l := by
  rcases h.2 with ⟨rfl, hn⟩ | ⟨g, cap, cur, rfl, hb, hg, h1, h2, -⟩
  · exact ⟨none, 0, by rw [hn], by omega, by unfold maxLen; omega, fun hl => by omega⟩
  · refine ⟨_, cap, rfl, h1, h2, fun _ => ⟨g, 0, rfl, fun j y hj => ?_⟩⟩
    have := h.cells rfl j (f y) (by rw [List.getElem?_map, hj]; rfl)
    rw [add_zero_off] at this
    simpa using this
/-- What a round over the values leaves as it lay. -/
def KpC (B0 pB : Nat) (W W' : World) : Prop := Below B0 W W' ∧ W'.heap[pB]? = W.heap[pB]?
theorem KpC.trans {B0 pB : Nat} {A B C : World} (h : KpC B0 pB A B) (k : KpC B0 pB B C) : KpC B0 pB A C := ⟨h.1.trans k.1, k.2.trans h.2⟩
theorem KpC.putObj {B0 pB : Nat} {W : World} {l : Nat} {o : Obj} (o' : Obj) (h1 : B0 ≤ l) (h2 : pB < l) (hl : W.heap[l]? = some o) : KpC B0 pB W (W.putObj l o') :=
  ⟨(Below.refl B0 W).grown (grownBy_putObj' W l o') (by have := (Array.getElem?_eq_some_iff.1 hl).1; omega) (fun k hk => by simp at hk; omega), World.putObj_heap_other (by omega)⟩
abbrev encI (x : Int) : Array Value := #[.int .i64 x]

set_option maxRecDepth 100000 in
set_option maxHeartbeats 1000000 in
theorem values_seq (n : Nat) (hn : 1 ≤ n) (pB : Nat) (l : List Int) (w0 w : World) (v : Value) (hl : IntsAt w0 v l) (h0w : Below w0.heap.size w0 w) (hs : l.length ≤ 1000)
    (hp : ∃ c fz, w.heap[pB]? = some (.cells #[v] c fz)) :
    SeqM Fence.wide n Tryz.prog 91 #[.pointer (some ⟨pB, 0, none⟩)] encI (KpC w0.heap.size pB) (fun _ => False) (fun xs => xs = l) (fun _ => True) (fun pre _ => pre.length < 1000) w := by
  intro lp J Jx W hW hJ hJx hY h0
  obtain ⟨a, cp, rfl, hl1, hl2⟩ := hl.len
  obtain ⟨c, fz, hpc⟩ := hp
  have hpW : W.heap[pB]? = some (.cells #[.slice a l.length cp] c fz) := by rw [hW.block pB (Array.getElem?_eq_some_iff.1 hpc).1]; exact hpc
  have hW0 : Below w0.heap.size w0 W := h0w.trans (hW.mono h0w.size)
  have k0 : W.cell? ⟨pB, 0, none⟩ = some (.slice a l.length cp) := by simp [World.cell?, hpW]
  have HL := Lib.hid hl
  clear hl
  have hro : (Fence.wide).round = none := rfl
  refine callsIn_of_wp Tryz.func91 rfl trivial ?_ hro
  simp only [Tryz.ntmps91, List.size_toArray, List.length_cons, List.length_nil, Nat.reduceAdd, Nat.reduceSub, Array.replicate_succ, Array.replicate_zero, List.push_toArray, List.append_toArray, List.nil_append, List.cons_append]
  gi_wp2
  gi_loopw [7] (fun u7 wr => ∃ k : Nat, k ≤ l.length ∧ u7 = .int .i64 k ∧ J (l.take k) wr ∧ Below w0.heap.size w0 wr ∧ wr.heap[pB]? = some (.cells #[.slice a l.length cp] c fz)) (fun u7 wr => (l.length - intOf u7).toNat)
  case atStart => exact ⟨0, by omega, rfl, by simpa using h0, hW0, hpW⟩
  case round =>
    obtain ⟨k, hk, rfl, hj, hBr, hpr⟩ := hrel
    by_cases hkl : k < l.length
    · have hsome := getD_some 0 hkl
      obtain ⟨b, off, rfl, hcell⟩ := (HL.out.below hBr).get hsome
      have htk : Hid (l.take (k + 1) = l.take k ++ [l.getD k 0]) := by
        show _ = _
        rw [List.take_add_one, hsome]; rfl
      have hki : (0 : Int) ≤ (k : Int) ∧ (k : Int) < (l.length : Int) := by omega
      have hlen : Hid ((l.take k).length < 1000) := by show _ < _; rw [List.length_take]; omega
      obtain ⟨fn, tmps, assign, body, hy, hR⟩ := hY _ (l.getD k 0) wr hj hlen.out
      generalize l.getD k 0 = x at *
      simp [encI] at hy
      have HRr := Lib.hid hR
      clear hR hsome
      gi_wp2
      refine HRr.out.mono ?_
      rintro e W' (⟨rfl, hJ', hk1, hk2⟩ | ⟨rfl, hJx'⟩)
      · gi_wp2
        go_roundw
        case rel => exact ⟨k + 1, by omega, by go_num, by rw [htk.out]; exact hJ', hBr.trans hk1, by rw [hk2]; exact hpr⟩
        case measure => simp [intOf]; omega
      · gi_wp2
        refine bodyPost_ret (results_none rfl _ _ _) rfl ?_
        exact ⟨⟨_, rfl⟩, .inr ⟨_, trivial, hJx'⟩⟩
    · obtain rfl : k = l.length := by omega
      gi_wp2
      refine ⟨rfl, _, results_none rfl _ _ _, ?_⟩
      exact ⟨⟨_, rfl⟩, .inl ⟨_, rfl, by rw [List.take_length] at hj; exact hj⟩⟩
set_option maxRecDepth 100000 in
set_option maxHeartbeats 1000000 in
theorem appendSeq_values (pB : Nat) (l : List Int) (w0 w : World) (v : Value) (hl : IntsAt w0 v l) (h0w : Below w0.heap.size w0 w) (hs : l.length ≤ 1000)
    (hp : ∃ c fz, w.heap[pB]? = some (.cells #[v] c fz)) :
    Calls Tryz.prog 106 #[.slice none 0 0, .func (.func 91) #[] #[.pointer (some ⟨pB, 0, none⟩)]] w fun e w' => ∃ v, e = .returned v ∧ w'.ownsRow w.heap.size 3 1 v l.length (l.map (Value.int .i64)) ∧ Below w.heap.size w w' := by
  have hpl : pB < w.heap.size := by obtain ⟨c, fz, h⟩ := hp; exact (Array.getElem?_eq_some_iff.1 h).1
  have hB0 : Below w.heap.size w (w.alloc (.cells #[.slice none 0 0] 56)) := (Below.refl _ _).alloc (Nat.le_refl _) _
  have hseq := values_seq 4 (by omega) pB l w0 _ v hl (h0w.trans (hB0.mono h0w.size)) hs (by
    obtain ⟨c, fz, h⟩ := hp
    exact ⟨c, fz, by rw [hB0.block pB hpl]; exact h⟩)
  have h0s := h0w.size
  clear hl h0w hp hs
  refine (callsIn_wide (n := 5)).1 ?_
  refine callsIn_of_wp_marks Tryz.func106 rfl trivial ?_ rfl
  simp only [Tryz.ntmps106, List.size_toArray, List.length_cons, List.length_nil, Nat.reduceAdd, Nat.reduceSub, Array.replicate_succ, Array.replicate_zero, List.push_toArray, List.append_toArray, List.nil_append, List.cons_append]
  gi_wp2_with fail
  refine wpIn_rangeFunc_Mf (zs := fun k => False) rfl (by omega) (gf := 91) (lb := #[.pointer (some ⟨pB, 0, none⟩)]) rfl trivial Tryz.call91
    (fun k hk => hk.elim) hseq (fun h k => h.trans k)
    (fun W l o o' hl ho _ _ => by simp at hl; exact KpC.putObj o' (by omega) (by omega) ho) (Below.refl _ _) (fun _ => rfl)
    (fun pre W => (∃ v, Boxed W w.heap.size 56 v ∧ W.ownsRow (w.heap.size + 1) 3 1 v pre.length (pre.map (Value.int .i64))) ∧ Below w.heap.size w W ∧ w.heap.size + 1 ≤ W.heap.size)
    (fun _ _ _ => False)
    (fun s A B hs ht => ⟨by
      obtain ⟨⟨v, h1, h2⟩, h3⟩ := hs
      exact ⟨v, ht.boxed h1 (fun h => h), ht.ownsRow h2 (fun k hk h => h)⟩, ht.below hs.2.1 (Nat.le_refl _) (by simp) (fun k hk h => h), Nat.le_trans hs.2.2 ht.size⟩)
    (fun _ _ _ _ hs _ => hs)
    ⟨⟨_, Boxed.new w 56 _, World.ownsRow_nil _ _ _ _⟩, hB0, by simp⟩
    (fun x t => (t.setIfInBounds 7 (.int .i64 x)).setIfInBounds 5 (.int .i64 x)) ?assign ?body ?done ?stop
  case assign =>
    intro l x W K hK
    dsimp only [encI]
    gi_wp2
    exact hK
  case body =>
    rintro l pre x W ⟨⟨v, hv, hrow⟩, hB, hsz⟩ hlt
    have hc1 := hv.cell
    have hf1 := hv.frozen
    gi_wp2_with (gi_at_builtin; refine wpListIn_push E37 rfl _ _ rfl (w.heap.size + 1) hrow rfl rfl rfl (by unfold maxLen; omega) (by omega) hsz ?_; intro v' w1 hown' hgrow hb1; obtain ⟨g', cap', rfl⟩ := ownsRow_succ hown'; obtain ⟨hv1, hv2, hr2, hk2, hz2, hb2⟩ := boxed_app hv hrow (by omega) hsz hown' hgrow; have hc1 := hv1.cell; have hf1 := hv1.frozen)
    exact ⟨hk2, ⟨hb2 _ (by omega), hz2 _ (by omega) (by omega)⟩, ⟨_, hv2, by simpa using hr2⟩, hB.trans (hb2 _ (Nat.le_refl _)), by have := (hb2 0 (Nat.zero_le _)).size; omega⟩
  case done =>
    rintro D ys W hD rfl ⟨⟨v, hv, hrow⟩, hB, hsz⟩ hK
    simp at hD
    have hc1 := hv.cell
    gi_wp2
    refine ⟨by simp, .inl ⟨_, _, rfl, run_takeDeferred hK, ?_⟩⟩
    refine ⟨v, by simp [results, Tryz.results106, go_sem], v, rfl, ownsRow_base (ownsRow_putObj hrow _ hK rfl) (Nat.le_succ _), hB.trans (belowK_b (w := w) (Nat.le_refl _) W D _ _ (by omega) hK rfl rfl)⟩
  case stop =>
    intro D c pre W _ _ h _
    exact h.elim
theorem values_made (a : Option Addr) (m c : Nat) (w : World) : Calls Tryz.prog 62 #[.slice a m c] w fun e w' => e = .returned (.func (.func 91) #[] #[.pointer (some ⟨w.heap.size, 0, none⟩)]) ∧ w.alloc (.cells #[.slice a m c] 56) = w' := by
  have hmf : ∀ (fn : Fn) (first cap : Array Value) (w : World), (Instr.makeFunc fn first cap).run Tryz.prog w = .ok (.func fn first cap) w := fun _ _ _ _ => rfl
  go_enter Tryz.func62, Tryz.ntmps62
  go_wp2
  go_ret
  exact ⟨rfl, rfl⟩
set_option maxRecDepth 100000 in
theorem collect_values (pB : Nat) (l : List Int) (w0 w : World) (v : Value) (hl : IntsAt w0 v l) (h0w : Below w0.heap.size w0 w) (hs : l.length ≤ 1000)
    (hp : ∃ c fz, w.heap[pB]? = some (.cells #[v] c fz)) :
    Calls Tryz.prog 89 #[.func (.func 91) #[] #[.pointer (some ⟨pB, 0, none⟩)]] w fun e w' => ∃ v, e = .returned v ∧ w'.ownsRow w.heap.size 3 1 v l.length (l.map (Value.int .i64)) ∧ Below w.heap.size w w' := by
  have hx := appendSeq_values pB l w0 w v hl h0w hs hp
  clear hl h0w hp hs
  go_enter Tryz.func89, Tryz.ntmps89
  go_wp2_with fail
  refine hx.mono ?_
  rintro e w' ⟨v, rfl, hv, hB⟩
  go_wp2
  go_ret
  exact ⟨_, rfl, hv, hB⟩
end Go.Proofs.YtnckpnbecmmcpaaGreatDoor
end
section
/- slices.Sorted over the values of a slice; slices.Compact; what an own row of integers holds behind them. -/
namespace Go.Proofs.YtnckpnbecmmcpaaGreatDoor
open Go.RowKit Go.Shelf Lib Go.Sort

def sortI (l : List Int) : List Int := l.mergeSort fun x y => decide (x ≤ y)
set_option maxRecDepth 100000 in
theorem sorted_values (pB : Nat) (l : List Int) (w0 w : World) (v : Value) (hl : IntsAt w0 v l) (h0w : Below w0.heap.size w0 w) (hs : l.length ≤ 1000)
    (hp : ∃ c fz, w.heap[pB]? = some (.cells #[v] c fz)) :
    Calls Tryz.prog 61 #[.func (.func 91) #[] #[.pointer (some ⟨pB, 0, none⟩)]] w fun e w' => ∃ v, e = .returned v ∧ w'.ownsRow w.heap.size 3 1 v (sortI l).length ((sortI l).map (Value.int .i64)) ∧ Below w.heap.size w w' := by
  have hx := collect_values pB l w0 w v hl h0w hs hp
  have hsl : (sortI l).length = l.length := by simp [sortI]
  have HSL := Lib.hid hsl
  have HS := Lib.hid hs
  clear hl h0w hp hs hsl
  go_enter Tryz.func61, Tryz.ntmps61
  go_wp2_with fail
  refine hx.mono ?_
  rintro e w1 ⟨v1, rfl, hrow, hB⟩
  clear hx
  rcases hrow.2 with ⟨rfl, hz⟩ | ⟨g, cap, cur, rfl, hbase, hgb, r1, r2, r3, r4⟩
  · have hss : l = [] := List.eq_nil_of_length_eq_zero hz
    subst hss
    go_wp2_with fail
    refine (Tryz.slices_Sort_int_none none 0 w1).mono ?_
    rintro e w' ⟨rfl, rfl⟩
    go_wp2
    go_ret
    have hs0 : sortI [] = [] := by simp [sortI]
    refine ⟨.slice none 0 0, rfl, ?_, hB⟩
    rw [hs0]
    exact World.ownsRow_nil _ _ _ _
  · have hH : Holds encZ w1 g 0 l.toArray := holds_of_block_i hgb (by simpa using r4)
    have hgl : g < w1.heap.size := (Array.getElem?_eq_some_iff.1 hgb).1
    have cS := Tryz.slices_Sort_int g 0 cap l w1 hH hgl (by have := HS.out; omega)
    have HX := Lib.hid (And.intro hbase (And.intro hgb (And.intro r1 (And.intro r2 r3))))
    clear hrow hbase hgb r1 r2 r3 r4 hH
    go_wp2_with fail
    refine cS.mono ?_
    rintro e w' ⟨rfl, nn, os, rfl⟩
    clear cS
    go_wp2
    go_ret
    obtain ⟨hbase, hgb, r1, r2, r3⟩ := HX.out
    exact ⟨_, rfl, by rw [HSL.out]; exact ownsRow_sorted_i HSL.out hbase hgb r1 r2 r3, hB.grown (grownBy_sorted_i _) hB.size (fun j hj => by cases hj; exact hbase)⟩
/-- slices.Compact of an own row. -/
theorem compact_own {w : World} {base : Nat} {v : Value} {l : List Int} (h : w.ownsRow base 3 1 v l.length (l.map (Value.int .i64))) (hb : base ≤ w.heap.size) (hs : l.length ≤ 1000) :
    Calls Tryz.prog 60 #[v] w fun e w' => ∃ v', e = .returned v' ∧ w'.ownsRow base 3 1 v' (Lib.compact l).length ((Lib.compact l).map (Value.int .i64)) ∧ Below base w w' := by
  rcases h.2 with ⟨rfl, hz⟩ | ⟨g, cap, cur, rfl, hbase, hgb, r1, r2, r3, r4⟩
  · have hss : l = [] := List.eq_nil_of_length_eq_zero hz
    subst hss
    refine (Tryz.slices_Compact_int_empty none 0 w).mono ?_
    rintro e w' ⟨rfl, rfl⟩
    exact ⟨_, rfl, World.ownsRow_nil _ _ _ _, Below.refl _ _⟩
  · have hH : Holds encZ w g 0 l.toArray := holds_of_block_i hgb (by simpa using r4)
    refine (Tryz.slices_Compact_int g 0 cap l w hH (by omega) r1).mono ?_
    rintro e w' ⟨rfl, q, rfl⟩
    have hle := Lib.compact_length_le l
    generalize Lib.compact l = cl at hle ⊢
    have hgr : w.grownBy (putRow (Value.int .i64) (Sort.ahead w q) g 0 (cl ++ List.replicate (l.length - cl.length) 0).toArray) (some g) := by
      have := grownBy_sorted_i (w := w) (g := g) (n := q) (os := #[]) (cl ++ List.replicate (l.length - cl.length) 0).toArray
      rwa [grow_empty] at this
    have hheap : (putRow (Value.int .i64) (Sort.ahead w q) g 0 (cl ++ List.replicate (l.length - cl.length) 0).toArray).heap[g]? = some (.cells (putCells encZ 0 (cl ++ List.replicate (l.length - cl.length) 0).toArray cur) 3 (0, 0)) := by
      have := heap_sorted_i (w := w) (g := g) (n := q) (os := #[]) (cur := cur) (e := 3) (fr := (0, 0)) (cl ++ List.replicate (l.length - cl.length) 0).toArray hgb
      rwa [grow_empty] at this
    have hsz : (cl ++ List.replicate (l.length - cl.length) 0).length ≤ cur.size := by simp; omega
    have htk := take_putCells_i cur (cl ++ List.replicate (l.length - cl.length) 0) hsz
    refine ⟨_, rfl, ⟨by simp, .inr ⟨g, cap, _, rfl, hbase, hheap, by omega, r2, by simp [putCells, r3], ?_⟩⟩, (Below.refl _ _).grown hgr hb (fun j hj => by cases hj; exact hbase)⟩
    rw [Nat.mul_one]
    have e : (putCells encZ 0 (cl ++ List.replicate (l.length - cl.length) 0).toArray cur).toList.take cl.length = ((putCells encZ 0 (cl ++ List.replicate (l.length - cl.length) 0).toArray cur).toList.take (cl ++ List.replicate (l.length - cl.length) 0).length).take cl.length := by
      rw [List.take_take]; congr 1; simp
    rw [e, htk, List.map_append, List.take_left' (by simp)]
end Go.Proofs.YtnckpnbecmmcpaaGreatDoor
end
section
/- The indices that Crash leaves out; slices.IndexFunc and DeleteFunc over them. -/
namespace Go.Proofs.YtnckpnbecmmcpaaGreatDoor
open Go.RowKit Go.Shelf Lib

theorem retB {a b : Bool} (h : a = b) : Ending.returned (.bool a) = .returned (.bool b) := by rw [h]
def outB (m : Nat) (i : Int) : Bool := decide (i < 0) || decide ((m : Int) ≤ i)
theorem crash1 {w : World} {C B m c : Nat} {a : Option Addr} (i : Int) (hC : w.cell? ⟨C, 0, none⟩ = some (.pointer (some ⟨B, 0, none⟩))) (hB : w.cell? ⟨B, 4, none⟩ = some (.slice a m c)) :
    Calls Tryz.prog 64 #[.int .i64 i, .pointer (some ⟨C, 0, none⟩)] w fun e w' => e = .returned (.bool (outB m i)) ∧ w = w' := by
  by_cases h : i < 0
  · have d1 : decide (i < 0) = true := decide_eq_true h
    have H : Hid (outB m i = true) := by unfold outB; rw [d1]; exact rfl
    clear h
    go_enter Tryz.func64, Tryz.ntmps64
    go_wp2
    go_ret
    exact ⟨retB H.out.symm, rfl⟩
  · have d1 : decide (i < 0) = false := decide_eq_false h
    have H : Hid (outB m i = decide ((m : Int) ≤ i)) := by unfold outB; rw [d1]; exact Bool.false_or _
    clear h
    go_enter Tryz.func64, Tryz.ntmps64
    go_wp2
    go_ret
    exact ⟨retB H.out.symm, rfl⟩
/-- What a search over an own row of integers needs: the row, and what the closure reads. -/
structure Srch (w : World) (base : Nat) (v : Value) (l : List Int) (C B m : Nat) : Prop where
  own : w.ownsRow base 3 1 v l.length (l.map (Value.int .i64))
  c : w.cell? ⟨C, 0, none⟩ = some (.pointer (some ⟨B, 0, none⟩))
  b : ∃ a c, w.cell? ⟨B, 4, none⟩ = some (.slice a m c)
def cF (C : Nat) : Value := .func (.func 64) #[] #[.pointer (some ⟨C, 0, none⟩)]
def firstOut (m : Nat) (l : List Int) : Int := match l.findIdx? (outB m) with | none => -1 | some i => i
theorem findIdx_none {m : Nat} {l : List Int} (h : ∀ j, j < l.length → outB m (l.getD j 0) = false) : l.findIdx? (outB m) = none := by
  rw [List.findIdx?_eq_none_iff]
  intro x hx
  obtain ⟨j, hj, rfl⟩ := List.getElem_of_mem hx
  have := h j hj
  rw [List.getD_eq_getElem?_getD, List.getElem?_eq_getElem hj] at this
  exact this
theorem findIdx_at {m : Nat} {l : List Int} {k : Nat} (hk : k < l.length) (h1 : outB m (l.getD k 0) = true) (h : ∀ j, j < k → outB m (l.getD j 0) = false) : l.findIdx? (outB m) = some k := by
  rw [List.findIdx?_eq_some_iff_getElem]
  rw [List.getD_eq_getElem?_getD, List.getElem?_eq_getElem hk] at h1
  refine ⟨hk, h1, fun j hj => ?_⟩
  have := h j hj
  rw [List.getD_eq_getElem?_getD, List.getElem?_eq_getElem (by omega)] at this
  simpa using this
set_option maxRecDepth 100000 in
theorem indexFunc_any {w : World} {base : Nat} {v : Value} {l : List Int} {C B m : Nat} (h : Srch w base v l C B m) :
    Calls Tryz.prog 92 #[v, cF C] w fun e w' => e = .returned (.int .i64 (firstOut m l)) ∧ w = w' := by
  have hsl := owned_slice h.own
  have HS := Lib.hid hsl
  obtain ⟨a, cap, rfl, h1, h2⟩ := hsl.len
  obtain ⟨pa, pc, hb⟩ := h.b
  have hc := Lib.hid (fun x => crash1 (m := m) x h.c hb)
  unfold maxLen at h2
  clear hsl h hb
  unfold cF
  go_enter Tryz.func92, Tryz.ntmps92
  go_wp2
  go_loop [8] (fun u8 => ∃ k : Nat, k ≤ l.length ∧ u8 = .int .i64 k ∧ Hid (∀ j, j < k → outB m (l.getD j 0) = false)) (fun u8 => (l.length - intOf u8).toNat)
  case atStart => exact ⟨0, by omega, rfl, Lib.hid (fun j h => by omega)⟩
  case round =>
    obtain ⟨k, hk, rfl, hall⟩ := hrel
    by_cases hkl : k < l.length
    · obtain ⟨b, off, rfl, hcell⟩ := HS.out.get (getD_some 0 hkl)
      have hki : (0 : Int) ≤ (k : Int) ∧ (k : Int) < (l.length : Int) := by omega
      have hnext : outB m (l.getD k 0) = false → Hid (∀ j, j < k + 1 → outB m (l.getD j 0) = false) := fun h j hj => by
        rcases Nat.lt_or_ge j k with h2 | h2
        · exact hall.out j h2
        · obtain rfl : j = k := by omega
          exact h
      have hfound : outB m (l.getD k 0) = true → Hid (firstOut m l = k) := fun h => by
        show _ = _; unfold firstOut; rw [findIdx_at hkl h hall.out]
      generalize l.getD k 0 = x at *
      go_wp2_with fail
      refine (hc.out x).mono ?_
      rintro e w' ⟨rfl, rfl⟩
      cases hq : outB m x with
      | true =>
        have H := hfound hq
        clear hfound hnext hq
        go_wp2
        go_ret
        exact ⟨retI H.out.symm, rfl⟩
      | false =>
        have H := hnext hq
        clear hfound hnext hq
        go_wp2
        go_round
        case rel => exact ⟨k + 1, by omega, by go_num, H⟩
        case measure => simp [intOf]; omega
    · obtain rfl : k = l.length := by omega
      have H : Hid (firstOut m l = -1) := by show _ = _; unfold firstOut; rw [findIdx_none hall.out]
      go_wp2
      go_ret
      exact ⟨retI H.out.symm, rfl⟩
end Go.Proofs.YtnckpnbecmmcpaaGreatDoor
end
section
/- slices.DeleteFunc over the indices that are out of bounds. -/
namespace Go.Proofs.YtnckpnbecmmcpaaGreatDoor
open Go.RowKit Go.Shelf Lib

theorem zero3 (w : World) : (zeroValue 3).run Tryz.prog w = .ok (.int .i64 0) w := by kernel_rfl
/-- clear of the last elements of an own row of integers. -/
theorem run_clear_tail (w : World) (ty : TypeId) {base g n o cap c : Nat} {xs : List Value} (hown : w.ownsRow base 3 1 (.slice (some ⟨g, 0, none⟩) n cap) n xs) (ho : o < n) :
    ∃ w', (Builtin.clear_ #[56] ty #[.slice (some ⟨g, o, none⟩) (n - o) c]).run Tryz.prog w = .ok (.tuple #[]) w' ∧ w'.ownsRow base 3 1 (.slice (some ⟨g, 0, none⟩) o cap) o (xs.take o) ∧ w.grownBy w' (some g) := by
  rcases hown.2 with ⟨h1, -⟩ | ⟨g', cap', cur, h1, h2, h3, h4, h5, h6, h7⟩
  · cases h1
  · cases h1
    obtain ⟨k, hk⟩ : ∃ k, n - o = k + 1 := ⟨n - o - 1, by omega⟩
    have hlen : (Builtin.zeroCells (Value.int .i64 0).cells (k + 1)).toList.length = k + 1 := by simp [Builtin.zeroCells, Value.cells]
    have hone : ∀ x ∈ (Builtin.zeroCells (Value.int .i64 0).cells (k + 1)).toList, x.oneCell' = true := by
      intro x hx
      simp only [Builtin.zeroCells, Array.toList_map, Array.toList_range, List.mem_map, List.mem_range] at hx
      obtain ⟨i, hi, rfl⟩ := hx
      have : i % (Value.int .i64 0).cells.size = 0 := by simp [Value.cells, Nat.mod_one]
      rw [this]; rfl
    have hst := run_storeCells_at Tryz.prog g o 3 (Builtin.zeroCells (Value.int .i64 0).cells (k + 1)).toList 0 cur w h3 (by rw [hlen, h6]; omega) hone
    have hz := zero3
    generalize hzc : Builtin.zeroCells (Value.int .i64 0).cells (k + 1) = zc at hlen hone hst
    refine ⟨w.setRow g (cur.toList.take (o + 0) ++ zc.toList ++ cur.toList.drop (o + 0 + zc.toList.length)).toArray, ?_, ⟨by rw [List.length_take, hown.1]; omega, .inr ⟨g, cap, _, rfl, h2, setRow_heap w g cur _ 3 _ h3, by omega, h5, ?_, ?_⟩⟩, ⟨rfl, rfl, rfl, by simp, fun k hk hne => setRow_other w g k _ (fun e => hne (by rw [e]))⟩⟩
    · generalize (w.setRow g (cur.toList.take (o + 0) ++ zc.toList ++ cur.toList.drop (o + 0 + zc.toList.length)).toArray) = w' at hst ⊢
      rw [hk]
      simp [Builtin.clear_, run_underlying Tryz.underlying56, hz, hzc, hst]
    · simp [hlen, h6]; omega
    · rw [← h7]
      simp only [Nat.mul_one, Nat.add_zero, List.take_take]
      rw [List.append_assoc, List.take_append_of_le_length (by simp [h6]; omega), List.take_take, Nat.min_self, Nat.min_eq_left (by omega)]
def inL (m : Nat) (l : List Int) : List Int := l.filter fun x => !outB m x
theorem inL_snoc {m : Nat} {l : List Int} {k : Nat} {x : Int} (h : l[k]? = some x) : inL m (l.take (k + 1)) = inL m (l.take k) ++ if outB m x then [] else [x] := by
  unfold inL
  rw [List.take_add_one, h, List.filter_append]
  congr 1
  cases hq : outB m x <;> simp [hq]
theorem inL_le (m : Nat) (l : List Int) : (inL m l).length ≤ l.length := List.length_filter_le _ _
theorem first_none {m : Nat} {l : List Int} (h : l.findIdx? (outB m) = none) : inL m l = l := by
  unfold inL
  rw [List.filter_eq_self]
  intro x hx
  rw [List.findIdx?_eq_none_iff.1 h x hx]; rfl
theorem first_some {m : Nat} {l : List Int} {k : Nat} (h : l.findIdx? (outB m) = some k) : k < l.length ∧ inL m (l.take (k + 1)) = l.take k := by
  obtain ⟨hk, h1, h2⟩ := List.findIdx?_eq_some_iff_getElem.1 h
  refine ⟨hk, ?_⟩
  rw [inL_snoc (List.getElem?_eq_getElem hk), h1, if_pos rfl, List.append_nil]
  unfold inL
  rw [List.filter_eq_self]
  intro x hx
  obtain ⟨j, hj, rfl⟩ := List.getElem_of_mem hx
  have hj' : j < k := by rw [List.length_take] at hj; omega
  have := h2 j hj'
  rw [List.getElem_take]
  simpa using this
theorem keep_drop {cur l : List Int} {i j : Nat} {x : Int} (h : cur.drop j = l.drop j) (hij : i < j) : (cur.set i x).drop (j + 1) = l.drop (j + 1) := by
  have e : cur.drop (j + 1) = l.drop (j + 1) := by
    have := congrArg (List.drop 1) h
    simpa [List.drop_drop, Nat.add_comm] using this
  rw [← e]
  apply List.ext_getElem?
  intro q
  rw [List.getElem?_drop, List.getElem?_drop, List.getElem?_set_ne (by omega)]
theorem set_take {cur : List Int} {i : Nat} {x : Int} (hi : i < cur.length) : (cur.set i x).take (i + 1) = cur.take i ++ [x] := by
  apply List.ext_getElem?
  intro q
  rw [List.getElem?_take]
  by_cases hq : q < i
  · rw [if_pos (by omega), List.getElem?_set_ne (by omega), List.getElem?_append_left (by simp; omega), List.getElem?_take, if_pos hq]
  · by_cases hq2 : q = i
    · subst hq2
      rw [if_pos (by omega), List.getElem?_set_self hi, List.getElem?_append_right (by simp; omega)]
      simp [Nat.min_eq_left (Nat.le_of_lt hi)]
    · rw [if_neg (by omega), List.getElem?_eq_none (by simp; omega)]
set_option maxRecDepth 100000 in
set_option maxHeartbeats 1000000 in
theorem deleteFunc_any {w : World} {base : Nat} {v : Value} {l : List Int} {C B m : Nat} (h : Srch w base v l C B m) (hb : base ≤ w.heap.size) (hC : C < base) (hB : B < base) (hs : l.length ≤ 1000) :
    Calls Tryz.prog 63 #[v, cF C] w fun e w' => ∃ v', e = .returned v' ∧ w'.ownsRow base 3 1 v' (inL m l).length ((inL m l).map (Value.int .i64)) ∧ Below base w w' := by
  have hx := indexFunc_any h
  obtain ⟨a, cap, rfl, h1, h2⟩ := owned_len h.own
  unfold firstOut at hx
  unfold cF at hx ⊢
  cases hf : l.findIdx? (outB m) with
  | none =>
    rw [hf] at hx
    have HE := Lib.hid (first_none hf)
    have HO := Lib.hid h.own
    clear h hf
    go_enter Tryz.func63, Tryz.ntmps63
    go_wp2_with fail
    refine hx.mono ?_
    rintro e w' ⟨rfl, rfl⟩
    go_wp2
    go_ret
    exact ⟨_, rfl, by rw [HE.out]; exact HO.out, Below.refl _ _⟩
  | some k0 =>
    rw [hf] at hx
    obtain ⟨hk0, htk⟩ := first_some hf
    obtain ⟨g, rfl, hgb⟩ : ∃ g, a = some (⟨g, 0, none⟩ : Addr) ∧ base ≤ g := by
      rcases h.own.2 with ⟨-, h0⟩ | ⟨g, cap', cur, e, h3, -⟩
      · omega
      · cases e; exact ⟨g, rfl, h3⟩
    have HTK := Lib.hid htk
    have HO := Lib.hid h.own
    have HC := Lib.hid h.c
    obtain ⟨pa, pc, hpb⟩ := h.b
    have HPB := Lib.hid hpb
    unfold maxLen at h2
    have hk1 : ¬ ((k0 : Int) = -1) := by omega
    have hk2 : ((k0 : Int) == -1) = false := beq_eq_false_iff_ne.2 (by omega)
    clear h hf htk hpb
    go_enter Tryz.func63, Tryz.ntmps63
    go_wp2_with fail
    refine hx.mono ?_
    rintro e w' ⟨rfl, rfl⟩
    clear hx
    go_wp2
    go_loopw [5, 6] (fun u5 u6 wr => ∃ (i j : Nat) (cur : List Int), i < j ∧ j ≤ l.length ∧ u5 = .int .i64 i ∧ u6 = .int .i64 j ∧ cur.length = l.length ∧ Hid (cur.take i = inL m (l.take j)) ∧ Hid (cur.drop j = l.drop j) ∧ wr.ownsRow base 3 1 (.slice (some ⟨g, 0, none⟩) l.length cap) l.length (cur.map (Value.int .i64)) ∧ Below base w wr) (fun _ u6 _ => (l.length - intOf u6).toNat)
    case atStart => exact ⟨k0, k0 + 1, l, by omega, by omega, rfl, by go_num, rfl, HTK.out.symm, rfl, HO.out, Below.refl _ _⟩
    case round =>
      obtain ⟨i, j, cur, hij, hj, rfl, rfl, hcl, htk, hdr, hown, hBr⟩ := hrel
      by_cases hjl : j < l.length
      · have hx : cur[j]? = some (l.getD j 0) := by
          have := congrArg (fun z => z[0]?) hdr.out
          simp only [List.getElem?_drop, Nat.add_zero] at this
          rw [this, getD_some 0 hjl]
        have hlj := getD_some 0 hjl
        have hsn := inL_snoc (m := m) hlj
        generalize l.getD j 0 = x at hx hlj hsn
        have hcell : wr.cell? ⟨g, j, none⟩ = some (.int .i64 x) := by
          have := hown.cells rfl j (.int .i64 x) (by rw [List.getElem?_map, hx]; rfl)
          rwa [add_zero_off] at this
        have hcr := crash1 (w := wr) (m := m) x ((hBr.cell hC).trans HC.out) ((hBr.cell hB).trans HPB.out)
        have hji : (0 : Int) ≤ (j : Int) ∧ (j : Int) < (l.length : Int) := by omega
        have hii : (0 : Int) ≤ (i : Int) ∧ (i : Int) < (l.length : Int) := by omega
        have hci : ∃ y, wr.cell? ⟨g, i, none⟩ = some y := by
          have h3 : i < cur.length := by omega
          have := hown.cells rfl i (.int .i64 cur[i]) (by rw [List.getElem?_map, List.getElem?_eq_getElem h3]; rfl)
          rw [add_zero_off] at this
          exact ⟨_, this⟩
        obtain ⟨y, hci⟩ := hci
        have hfi := hown.frozenAt i
        have HOW := Lib.hid hown
        have HSN := Lib.hid hsn
        have HX := Lib.hid hx
        clear hown hsn hx hlj
        go_wp2_with fail
        refine hcr.mono ?_
        rintro e w' ⟨rfl, rfl⟩
        clear hcr
        cases hq : outB m x with
        | true =>
          have HE : Hid (inL m (l.take (j + 1)) = inL m (l.take j)) := by have := HSN.out; rw [hq, if_pos rfl, List.append_nil] at this; exact this
          clear hq
          go_wp2
          go_roundw
          case rel => exact ⟨i, j + 1, cur, by omega, by omega, rfl, by go_num, hcl, by rw [HE.out]; exact htk.out, by show _ = _; have := congrArg (List.drop 1) hdr.out; simpa [List.drop_drop, Nat.add_comm] using this, HOW.out, hBr⟩
          case measure => simp [intOf]; omega
        | false =>
          have HE : Hid (inL m (l.take (j + 1)) = inL m (l.take j) ++ [x]) := by show _ = _; have := HSN.out; rw [hq] at this; simpa using this
          clear hq
          go_wp2
          go_roundw
          case rel =>
            refine ⟨i + 1, j + 1, cur.set i x, by omega, by omega, by go_num, by go_num, by rw [List.length_set]; exact hcl, ?_, keep_drop hdr.out hij, ?_, hBr.setCell (p := ⟨g, i, none⟩) hgb _⟩
            · show _ = _; rw [set_take (by omega), HE.out, htk.out]
            · have := (HOW.out.stored i (.int .i64 x)).1
              rw [List.map_set]; exact this
          case measure => simp [intOf]; omega
      · obtain rfl : j = l.length := by omega
        obtain ⟨w3, hrun, hown3, hg3⟩ := run_clear_tail wr 0 (c := cap - i) hown (o := i) (by omega)
        have hci : ¬ (cap = i) := by omega
        have hip : (0 : Int) ≤ (i : Int) ∧ (i : Int) ≤ (l.length : Int) := by omega
        have hic : (i : Int) ≤ (cap : Int) := by omega
        have HE : Hid (cur.take i = inL m l) := by have := htk.out; rw [List.take_length] at this; exact this
        have HOW := Lib.hid hown3
        have HG := Lib.hid hg3
        have hbw := hBr.size
        clear hown3 hg3 hown
        go_wp2
        go_ret
        have hil : i = (inL m l).length := by rw [← HE.out, List.length_take]; omega
        refine ⟨_, rfl, ?_, hBr.grown HG.out (by omega) (fun j hj => by cases hj; exact hgb)⟩
        have := HOW.out
        rw [← List.map_take, HE.out] at this
        rw [← hil]; exact this
end Go.Proofs.YtnckpnbecmmcpaaGreatDoor
end
section
/- Which pending writes survive: sorted, without doubles, in bounds, is the same as asked one by one. -/
namespace Go.Proofs.YtnckpnbecmmcpaaGreatDoor
open Go.RowKit Go.Shelf Lib

theorem eq_of_strict : ∀ {l m : List Int}, l.Pairwise (· < ·) → m.Pairwise (· < ·) → (∀ x, x ∈ l ↔ x ∈ m) → l = m := by
  intro l
  induction l with
  | nil =>
    intro m _ _ h
    cases m with
    | nil => rfl
    | cons y m => exact absurd ((h y).2 (by simp)) (by simp)
  | cons x l ih =>
    intro m hl hm h
    cases m with
    | nil => exact absurd ((h x).1 (by simp)) (by simp)
    | cons y m =>
      obtain ⟨h1, h2⟩ := List.pairwise_cons.1 hl
      obtain ⟨h3, h4⟩ := List.pairwise_cons.1 hm
      have hxy : x = y := by
        have a := (h x).1 (by simp)
        have b := (h y).2 (by simp)
        simp only [List.mem_cons] at a b
        rcases a with a | a
        · exact a
        · rcases b with b | b
          · exact b.symm
          · have := h3 x a; have := h1 y b; omega
      subst hxy
      congr 1
      refine ih h2 h4 (fun z => ⟨fun hz => ?_, fun hz => ?_⟩)
      · have a := (h z).1 (by simp [hz])
        simp only [List.mem_cons] at a
        rcases a with rfl | a
        · have := h1 z hz; omega
        · exact a
      · have a := (h z).2 (by simp [hz])
        simp only [List.mem_cons] at a
        rcases a with rfl | a
        · have := h3 z hz; omega
        · exact a
theorem sortI_pair (l : List Int) : (sortI l).Pairwise (· ≤ ·) := by
  have := List.pairwise_mergeSort (le := fun x y : Int => decide (x ≤ y)) (fun a b c h1 h2 => by simp at *; omega) (fun a b => by simp; omega) l
  exact this.imp (fun h => by simpa using h)
theorem sortI_mem (l : List Int) (x : Int) : x ∈ sortI l ↔ x ∈ l := by unfold sortI; exact List.mem_mergeSort
theorem compactUp_spec (zs : List Int) (hs : zs.Pairwise (· ≤ ·)) : ∀ m, m ≤ zs.length → (Lib.compactUpTo zs.toArray m).Pairwise (· < ·) ∧ (∀ x, x ∈ Lib.compactUpTo zs.toArray m ↔ ∃ j, j < m ∧ zs.getD j 0 = x) := by
  have hle : ∀ i j, i ≤ j → j < zs.length → zs.getD i 0 ≤ zs.getD j 0 := fun i j hij hj => by
    rcases Nat.lt_or_ge i j with h | h
    · have := List.pairwise_iff_getElem.1 hs i j (by omega) hj h
      rw [List.getD_eq_getElem?_getD, List.getD_eq_getElem?_getD, List.getElem?_eq_getElem hj, List.getElem?_eq_getElem (by omega)]
      exact this
    · obtain rfl : i = j := by omega
      exact Int.le_refl _
  have hget : ∀ j, j < zs.length → zs.toArray[j]! = zs.getD j 0 := fun j hj => by
    rw [getElem!_pos _ j (by simpa using hj)]
    rw [List.getD_eq_getElem?_getD, List.getElem?_eq_getElem hj]; rfl
  intro m
  induction m with
  | zero => intro _; exact ⟨by simp [Lib.compactUpTo], by simp [Lib.compactUpTo]⟩
  | succ m ih =>
    intro hm
    obtain ⟨i1, i2⟩ := ih (by omega)
    rw [Lib.compactUpTo_succ]
    by_cases h0 : m = 0
    · subst h0
      rw [Lib.keeps_lt_one _ 0 (by omega), if_pos rfl, hget 0 (by omega)]
      refine ⟨by simp [Lib.compactUpTo], fun x => ?_⟩
      simp [Lib.compactUpTo]
      exact eq_comm
    · have hprev : zs.getD (m - 1) 0 ≤ zs.getD m 0 := hle _ _ (by omega) (by omega)
      have e1 := hget m (by omega)
      have e2 := hget (m - 1) (by omega)
      by_cases hk : zs.getD m 0 = zs.getD (m - 1) 0
      · rw [Lib.keeps_neg (by omega) (by rw [e1, e2]; exact hk)]
        rw [if_neg (by decide), List.append_nil]
        refine ⟨i1, fun x => ?_⟩
        rw [i2]
        constructor
        · rintro ⟨j, hj, h⟩; exact ⟨j, by omega, h⟩
        · rintro ⟨j, hj, h⟩
          rcases Nat.lt_or_ge j m with h3 | h3
          · exact ⟨j, h3, h⟩
          · obtain rfl : j = m := by omega
            exact ⟨j - 1, by omega, by rw [← hk]; exact h⟩
      · rw [Lib.keeps_pos (by rw [e1, e2]; exact hk), if_pos rfl, e1]
        refine ⟨?_, fun x => ?_⟩
        · rw [List.pairwise_append]
          refine ⟨i1, by simp, fun a ha b hb => ?_⟩
          simp only [List.mem_singleton] at hb
          subst hb
          obtain ⟨j, hj, rfl⟩ := (i2 a).1 ha
          have := hle j (m - 1) (by omega) (by omega)
          omega
        · simp only [List.mem_append, List.mem_singleton, i2]
          constructor
          · rintro (⟨j, hj, h⟩ | h)
            · exact ⟨j, by omega, h⟩
            · exact ⟨m, by omega, h.symm⟩
          · rintro ⟨j, hj, h⟩
            rcases Nat.lt_or_ge j m with h3 | h3
            · exact .inl ⟨j, h3, h⟩
            · obtain rfl : j = m := by omega
              exact .inr h.symm
/-- The order in which the survivors are applied. -/
def ordI (m : Nat) (kl : List Int) : List Int := inL m (Lib.compact (sortI kl))
theorem ordI_eq (m : Nat) (kl : List Int) : ordI m kl = (keptI m kl).map fun i : Nat => (i : Int) := by
  have hs := compactUp_spec (sortI kl) (sortI_pair kl) (sortI kl).length (Nat.le_refl _)
  unfold ordI Lib.compact
  refine eq_of_strict ?_ ?_ (fun x => ?_)
  · unfold inL; exact hs.1.filter _
  · unfold keptI
    rw [List.pairwise_map]
    exact (List.pairwise_lt_range.filter _).imp (fun h => by omega)
  · unfold inL keptI
    simp only [List.mem_filter, List.mem_map, List.mem_range, hs.2, decide_eq_true_eq]
    have hm : (∃ j, j < (sortI kl).length ∧ (sortI kl).getD j 0 = x) ↔ x ∈ kl := by
      rw [← sortI_mem]
      constructor
      · rintro ⟨j, hj, rfl⟩
        rw [List.getD_eq_getElem?_getD, List.getElem?_eq_getElem hj]
        exact List.getElem_mem hj
      · intro h
        obtain ⟨j, hj, rfl⟩ := List.getElem_of_mem h
        exact ⟨j, hj, by rw [List.getD_eq_getElem?_getD, List.getElem?_eq_getElem hj]; rfl⟩
    rw [hm]
    have ho : (!outB m x) = true ↔ 0 ≤ x ∧ x < m := by unfold outB; simp
    rw [ho]
    constructor
    · rintro ⟨h1, h2, h3⟩
      exact ⟨x.toNat, ⟨by omega, by rw [Int.toNat_of_nonneg h2]; exact h1⟩, by omega⟩
    · rintro ⟨i, ⟨h1, h2⟩, rfl⟩
      exact ⟨h2, by omega, by omega⟩
theorem lastTorn_len (torn : Int) : ∀ l : List WrD, (lastTorn torn l).length = l.length := by
  intro l
  induction l with
  | nil => rfl
  | cons x l ih =>
    cases l with
    | nil => rfl
    | cons y l => simp only [lastTorn, List.length_cons] at ih ⊢; omega
theorem lastTorn_get (torn : Int) : ∀ (l : List WrD) (k : Nat) (w : WrD), l[k]? = some w → (lastTorn torn l)[k]? = some (if k + 1 = l.length then tornW torn w else w) := by
  intro l
  induction l with
  | nil => intro k w h; simp at h
  | cons x l ih =>
    intro k w h
    cases l with
    | nil =>
      cases k with
      | zero => simp at h; subst h; simp [lastTorn]
      | succ k => simp at h
    | cons y l =>
      cases k with
      | zero => simp at h; subst h; simp [lastTorn]
      | succ k =>
        have := ih k w (by simpa using h)
        simp only [lastTorn, List.getElem?_cons_succ]
        rw [this]
        congr 1
        simp
/-- The durable content when k of the survivors have been applied. -/
def durK (D : DiskD) (kl : List Int) (torn : Int) (k : Nat) : List UInt8 := ((lastTorn torn (keptW D kl)).take k).foldl ontoW D.dur
theorem durK_zero (D : DiskD) (kl : List Int) (torn : Int) : durK D kl torn 0 = D.dur := rfl
theorem keptW_get {D : DiskD} {kl : List Int} {k : Nat} {i : Nat} (h : (keptI D.pend.length kl)[k]? = some i) : (keptW D kl)[k]? = some (D.pend.getD i dW) ∧ i < D.pend.length := by
  refine ⟨by unfold keptW; rw [List.getElem?_map, h]; rfl, ?_⟩
  have := List.mem_of_getElem? h
  unfold keptI at this
  simp only [List.mem_filter, List.mem_range] at this
  exact this.1
theorem keptW_len (D : DiskD) (kl : List Int) : (keptW D kl).length = (keptI D.pend.length kl).length := by unfold keptW; simp
theorem durK_succ {D : DiskD} {kl : List Int} {torn : Int} {k i : Nat} (h : (keptI D.pend.length kl)[k]? = some i) :
    durK D kl torn (k + 1) = ontoW (durK D kl torn k) (if k + 1 = (keptI D.pend.length kl).length then tornW torn (D.pend.getD i dW) else D.pend.getD i dW) := by
  have h1 := lastTorn_get torn _ k _ (keptW_get h).1
  rw [keptW_len] at h1
  unfold durK
  rw [List.take_add_one, h1, List.foldl_append]; rfl
theorem durK_all (D : DiskD) (kl : List Int) (torn : Int) : durK D kl torn (keptI D.pend.length kl).length = crashB D kl torn := by
  unfold durK crashB
  rw [List.take_of_length_le (by rw [lastTorn_len, keptW_len]; exact Nat.le_refl _)]
theorem durK_len {n : Nat} {D : DiskD} (h : Inv n D) (kl : List Int) (torn : Int) (k : Nat) : (durK D kl torn k).length = n :=
  foldl_len _ _ h.dur (fun w hw => torn_fit (kept_fit h kl) w (List.mem_of_mem_take hw))
theorem keptI_len (m : Nat) (kl : List Int) : (keptI m kl).length ≤ m := by
  unfold keptI; exact Nat.le_trans (List.length_filter_le _ _) (by simp)
end Go.Proofs.YtnckpnbecmmcpaaGreatDoor
end
section
/- package disk: Crash. -/
namespace Go.Proofs.YtnckpnbecmmcpaaGreatDoor
open Go.RowKit Go.Shelf Lib

theorem crash_nil (vk : Value) (torn : Int) (w : World) : Calls Tryz.prog 30 #[.pointer none, vk, .int .i64 torn] w fun e w' => e = .returned (.int .i64 1) ∧ Below w.heap.size w w' := by
  go_enter Tryz.func30, Tryz.ntmps30
  go_wp2
  go_ret
  exact ⟨rfl, (Below.refl _ _).alloc (Nat.le_refl _) _⟩
/-- Only the durable content has been written. -/
theorem DiskAt.durSet {W W' : World} {B bD bV : Nat} {vp : Value} {n : Nat} {D : DiskD} {x : List UInt8} (h : DiskAt W B bD bV vp n D) (hx : Blk W' bD (bcs x).toArray 5) (hf : Frm (fun k => k = bD) W W') : DiskAt W' B bD bV vp n { D with dur := x } :=
  ⟨h.box.frm hf h.neD, hx, h.vis.frm hf h.ne.symm, owned_kept h.pen (fun g hg => hf.block g (h.pen.lt g hg).2 (h.neP g hg).2.1), h.ne⟩
theorem DiskAt.pendCell {W : World} {B bD bV : Nat} {pa : Option Addr} {m c n : Nat} {D : DiskD} (h : DiskAt W B bD bV (.slice pa m c) n D) {i : Nat} (hi : i < D.pend.length) :
    ∃ pg, pa = some ⟨pg, 0, none⟩ ∧ W.cell? ⟨pg, i * 2, none⟩ = some (.int .i64 ((D.pend.getD i dW).off : Nat)) ∧ W.cell? ⟨pg, i * 2 + 1, none⟩ = some (.string (D.pend.getD i dW).s) := by
  obtain ⟨h1, h2⟩ := wcs_get (getD_some dW hi)
  rcases h.pen.2 with ⟨-, h0⟩ | ⟨g, cap, cur, e, -⟩
  · omega
  · cases e
    have a := h.pen.cells rfl _ _ h1
    have b := h.pen.cells rfl _ _ h2
    rw [add_zero_off] at a b
    exact ⟨g, rfl, a, b⟩
set_option maxRecDepth 100000 in
set_option maxHeartbeats 2000000 in
theorem crash_any {w : World} {B bD bV : Nat} {vp : Value} {n : Nat} {D : DiskD} (h : DiskAt w B bD bV vp n D) (hI : Inv n D) (vk : Value) (kl : List Int) (hk : IntsAt w vk kl) (hks : kl.length ≤ 1000) (torn : Int) :
    Calls Tryz.prog 30 #[.pointer (some ⟨B, 0, none⟩), vk, .int .i64 torn] w fun e w' => ∃ vp', e = .returned (.int .i64 0) ∧ DiskAt w' B bD bV vp' n (crashD D kl torn) ∧ vp'.ownBlock = vp.ownBlock ∧ Frm (Foot B bD bV vp) w w' := by
  obtain ⟨ka, kc, rfl, hk1, hk2⟩ := hk.len
  have hA1 : Below w.heap.size w (w.alloc (.cells #[.pointer (some ⟨B, 0, none⟩)] 27)) := (Below.refl _ _).alloc (Nat.le_refl _) _
  have kC := Blk.new w #[.pointer (some ⟨B, 0, none⟩)] 27
  have hA2 : Below w.heap.size w ((w.alloc (.cells #[.pointer (some ⟨B, 0, none⟩)] 27)).alloc (.cells #[.slice ka kl.length kc] 56)) := hA1.alloc (by simp) _
  have hv := values_made ka kl.length kc (w.alloc (.cells #[.pointer (some ⟨B, 0, none⟩)] 27))
  have hso := sorted_values (w.heap.size + 1) kl w ((w.alloc (.cells #[.pointer (some ⟨B, 0, none⟩)] 27)).alloc (.cells #[.slice ka kl.length kc] 56)) (.slice ka kl.length kc) hk hA2 hks ⟨_, _, Blk.newAt _ _ _ (by simp)⟩
  have kC2 := kC.alloc (.cells #[.slice ka kl.length kc] 56)
  have h2 := h.below hA2
  have hz2 : ((w.alloc (.cells #[.pointer (some ⟨B, 0, none⟩)] 27)).alloc (.cells #[.slice ka kl.length kc] 56)).heap.size = w.heap.size + 2 := by simp
  have hsl : (sortI kl).length ≤ 1000 := by simp [sortI]; exact hks
  have H := Lib.hid h
  have HI := Lib.hid hI
  have HSL := Lib.hid hsl
  clear h hI hk hA1 kC hsl
  go_enter Tryz.func30, Tryz.ntmps30
  go_wp2_with fail
  refine hv.mono ?_
  rintro e w' ⟨rfl, rfl⟩
  clear hv
  generalize (w.alloc (.cells #[.pointer (some ⟨B, 0, none⟩)] 27)).alloc (.cells #[.slice ka kl.length kc] 56) = W1 at *
  go_wp2_with fail
  refine hso.mono ?_
  rintro e w2 ⟨v2, rfl, hown2, hB2⟩
  clear hso
  have hcp := compact_own hown2 hB2.size HSL.out
  clear hown2
  go_wp2_with fail
  refine hcp.mono ?_
  rintro e w3 ⟨v3, rfl, hown3, hB3⟩
  clear hcp
  have hB13 := hB2.trans hB3
  have h3 := h2.below hB13
  have kC3 := kC2.below hB13 kC2.lt
  obtain ⟨pa, pc, rfl, hp1, hp2⟩ := owned_len h3.pen
  have i4 := h3.box.cell 4
  unfold dkc at i4
  have c0 := kC3.cell 0
  simp only [List.getElem?_toArray, List.getElem?_cons_succ, List.getElem?_cons_zero] at i4 c0
  have hcl := Lib.compact_length_le (sortI kl)
  have hde := deleteFunc_any (C := w.heap.size) (B := B) (m := D.pend.length) ⟨hown3, c0, pa, pc, i4⟩ hB13.size (by omega) (by have := H.out.box.lt; omega) (by have := HSL.out; omega)
  unfold cF at hde
  have hmf : ∀ (fn : Fn) (first cap : Array Value) (w : World), (Instr.makeFunc fn first cap).run Tryz.prog w = .ok (.func fn first cap) w := fun _ _ _ _ => rfl
  clear hown3 i4 c0 hcl h2 kC2
  go_wp2_with fail
  refine hde.mono ?_
  rintro e w4 ⟨v4, rfl, hown4, hB4⟩
  have hord : inL D.pend.length (Lib.compact (sortI kl)) = (keptI D.pend.length kl).map fun i : Nat => (i : Int) := ordI_eq _ _
  rw [hord, List.length_map, List.map_map] at hown4
  have hB34 : Below w3.heap.size w3 w4 → True := fun _ => trivial
  have h4 : DiskAt w4 B bD bV (.slice pa D.pend.length pc) n D := h3.frm (F := fun k => W1.heap.size ≤ k) ⟨hB4.os, hB4.tape, hB4.output, hB4.size, fun k _ hk => hB4.block k (by omega)⟩ (fun k hk => by have := H.out.lt k hk; omega)
  have kC4 : Blk w4 w.heap.size #[.pointer (some ⟨B, 0, none⟩)] 27 := (hB4.block _ (by omega)).trans kC3
  have hfw : Frm (Foot B bD bV (.slice pa D.pend.length pc)) w w4 := (Frm.of_below hA2).trans (Frm.of_below (F := Foot B bD bV (.slice pa D.pend.length pc)) (hB13.trans hB4)) (fun _ _ h => h)
  obtain ⟨oa, oc, rfl, ho1, ho2⟩ := owned_len hown4
  unfold maxLen at ho2
  have hlo := H.out.dur.lt
  have hcl : w.heap.size ≠ bD := by omega
  have hordc : ∀ k i, (keptI D.pend.length kl)[k]? = some i → ∃ g, oa = some (⟨g, 0, none⟩ : Addr) ∧ g ≠ bD ∧ w4.cell? ⟨g, k, none⟩ = some (.int .i64 (i : Nat)) := fun k i hki => by
    rcases hown4.2 with ⟨e, h0⟩ | ⟨g, cap, cur, e, hg, hgb, -⟩
    · rw [List.eq_nil_of_length_eq_zero h0] at hki; simp at hki
    · cases e
      have := hown4.cells rfl k (.int .i64 (i : Nat)) (by rw [List.getElem?_map, hki]; rfl)
      rw [add_zero_off] at this
      exact ⟨g, rfl, (show Blk w4 g cur 3 from hgb).ne h4.dur (by decide), this⟩
  have HO := Lib.hid hordc
  have hkl := keptI_len D.pend.length kl
  have hst := Lib.hid (fun k i (h : (keptI D.pend.length kl)[k]? = some i) => durK_succ (torn := torn) h)
  have hlt := Lib.hid (fun k i (h : (keptI D.pend.length kl)[k]? = some i) => (keptW_get h).2)
  have hall := Lib.hid (durK_all D kl torn)
  have HFW := Lib.hid hfw
  have hpm : D.pend.length ≤ 9223372036854775807 := by unfold maxLen at hp2; omega
  clear hde hmf hord hB34 hown4 hordc h3 hB2 hB3 hB4 hB13 hA2 kC3 hfw hz2
  generalize hks2 : keptI D.pend.length kl = ks at *
  go_wp2
  go_loopw [22] (fun u22 wr => ∃ k : Nat, k ≤ ks.length ∧ u22 = .int .i64 k ∧ DiskAt wr B bD bV (.slice pa D.pend.length pc) n { D with dur := durK D kl torn k } ∧ Frm (fun i => i = bD) w4 wr) (fun u22 _ => (ks.length - intOf u22).toNat)
  case atStart => exact ⟨0, by omega, rfl, h4, Frm.refl _ _⟩
  case round =>
    obtain ⟨k, hk, rfl, hDr, hfr⟩ := hrel
    rename World => wr
    have kCr := kC4.frm hfr hcl
    have c0 := kCr.cell 0
    simp only [List.getElem?_toArray, List.getElem?_cons_zero] at c0
    have lC := kCr.lt
    have lB := hDr.box.lt
    by_cases hkl2 : k < ks.length
    · have hki := List.getElem?_eq_getElem hkl2
      generalize ks[k] = i at hki
      obtain ⟨g, rfl, hgne, hoc⟩ := HO.out k i hki
      have hoc2 : wr.cell? ⟨g, k, none⟩ = some (.int .i64 (i : Nat)) := (World.cell?_of_block (w := w4) (a := ⟨g, k, none⟩) (hfr.block g (World.block_lt_of_cell? _ _ hoc) hgne)).trans hoc
      have hil := hlt.out k i hki
      obtain ⟨pg, rfl, q0, q1⟩ := hDr.pendCell hil
      have hfitw := HI.out.fit (D.pend.getD i dW) (by rw [List.getD_eq_getElem?_getD, List.getElem?_eq_getElem hil]; exact List.getElem_mem hil)
      have hdl := durK_len HI.out kl torn k
      have hstep := hst.out k i hki
      simp only at q0 q1
      generalize D.pend.getD i dW = y at q0 q1 hfitw hstep
      obtain ⟨o, s⟩ := y
      simp only at q0 q1 hfitw
      have i4 := hDr.box.cell 4
      unfold dkc at i4
      simp only [List.getElem?_toArray, List.getElem?_cons_succ, List.getElem?_cons_zero] at i4
      have hii : (0 : Int) ≤ (i : Int) ∧ (i : Int) < (D.pend.length : Int) := by omega
      have hki2 : (0 : Int) ≤ (k : Int) ∧ (k : Int) < (ks.length : Int) := by omega
      have hwk : IntKind.i64.wrap ((ks.length : Int) - 1) = (ks.length : Int) - 1 := by rw [IntKind.wrap_i64]; omega
      clear hoc hki hil
      by_cases hlast : k + 1 = ks.length
      · have q2 : ((k : Int) == (ks.length : Int) - 1) = true := beq_iff_eq.2 (by omega)
        rw [if_pos hlast] at hstep
        clear hlast
        by_cases ht : 0 ≤ torn
        · have q3 : decide (0 ≤ torn) = true := decide_eq_true ht
          obtain ⟨q, hq, hqm⟩ : ∃ q : Nat, (if (s.size : Int) < torn then (s.size : Int) else torn) = (q : Int) ∧ q = min torn.toNat s.size := ⟨min torn.toNat s.size, by rw [Nat.min_def]; split <;> split <;> omega, rfl⟩
          have hst2 : durK D kl torn (k + 1) = putB (durK D kl torn k) o (bts (s.extract 0 q)) := by rw [hstep]; unfold tornW; rw [if_pos ht, hqm]; rfl
          have HST := Lib.hid hst2
          have hqs : q ≤ s.size := by omega
          have hq' : min torn (s.size : Int) = (q : Int) := by omega
          have hqi : (0 : Int) ≤ (q : Int) ∧ (q : Int) ≤ (s.size : Int) := by omega
          have hfit : o + (s.extract 0 q).size ≤ n := by have := cutS_size s q hqs; unfold cutS at this; omega
          clear hstep hst2 hqm ht hfitw
          have hAa : Below wr.heap.size wr (wr.alloc (.cells #[.int .i64 (o : Nat), .string (s.extract 0 q)] 92)).drew := ((Below.refl _ _).alloc (Nat.le_refl _) _).drew
          have hDa := hDr.below hAa
          have hon := onto_any (n := n) hDa.dur hdl o (s.extract 0 q) hfit
          have HD := Lib.hid hDa
          have HFa : Hid (Frm (fun i => i = bD) w4 (wr.alloc (.cells #[.int .i64 (o : Nat), .string (s.extract 0 q)] 92)).drew) := (hfr.alloc _).drew
          have kA := Blk.new wr #[.int .i64 (o : Nat), .string (s.extract 0 q)] 92
          have kCa := kCr.alloc (.cells #[.int .i64 (o : Nat), .string (s.extract 0 q)] 92)
          have kBa := hDr.box.alloc (.cells #[.int .i64 (o : Nat), .string (s.extract 0 q)] 92)
          clear hDa hDr hfr hAa kCr
          go_wp2_with fail
          generalize wr.alloc (.cells #[.int .i64 (o : Nat), .string (s.extract 0 q)] 92) = W6 at *
          have a0 := kA.cell 0
          have a1 := kA.cell 1
          have c0 := kCa.cell 0
          have i2 := kBa.cell 2
          unfold dkc at i2
          simp only [List.getElem?_toArray, List.getElem?_cons_succ, List.getElem?_cons_zero] at a0 a1 c0 i2
          go_still_tail 5, (by kernel_rfl)
          change wpList _ _ _ _ _ W6.drew
          clear a0 a1 c0 i2 kA kCa kBa
          go_wp2_with fail
          refine hon.mono ?_
          rintro e w6 ⟨rfl, hx6, hf6⟩
          have h6 := HD.out.durSet hx6 hf6
          have HF6 := Lib.hid (HFa.out.trans hf6 (fun i _ e => e))
          have HG := Lib.hid h6
          clear hon hx6 hf6 h6 HD HFa
          go_wp2
          go_roundw
          case rel => exact ⟨k + 1, by omega, by go_num, by rw [HST.out]; exact HG.out, HF6.out⟩
          case measure => simp [intOf]; omega
        · have q3 : decide (0 ≤ torn) = false := decide_eq_false ht
          have hst2 : durK D kl torn (k + 1) = putB (durK D kl torn k) o (bts s) := by rw [hstep]; unfold tornW; rw [if_neg ht]; rfl
          have HST := Lib.hid hst2
          have hfit := hfitw
          clear hstep hst2 ht hfitw
          have hAa : Below wr.heap.size wr (wr.alloc (.cells #[.int .i64 (o : Nat), .string s] 92)).drew := ((Below.refl _ _).alloc (Nat.le_refl _) _).drew
          have hDa := hDr.below hAa
          have hon := onto_any (n := n) hDa.dur hdl o s hfit
          have HD := Lib.hid hDa
          have HFa : Hid (Frm (fun i => i = bD) w4 (wr.alloc (.cells #[.int .i64 (o : Nat), .string s] 92)).drew) := (hfr.alloc _).drew
          have kA := Blk.new wr #[.int .i64 (o : Nat), .string s] 92
          have kCa := kCr.alloc (.cells #[.int .i64 (o : Nat), .string s] 92)
          have kBa := hDr.box.alloc (.cells #[.int .i64 (o : Nat), .string s] 92)
          clear hDa hDr hfr hAa kCr
          go_wp2_with fail
          generalize wr.alloc (.cells #[.int .i64 (o : Nat), .string s] 92) = W6 at *
          have a0 := kA.cell 0
          have a1 := kA.cell 1
          have c0 := kCa.cell 0
          have i2 := kBa.cell 2
          unfold dkc at i2
          simp only [List.getElem?_toArray, List.getElem?_cons_succ, List.getElem?_cons_zero] at a0 a1 c0 i2
          go_still_tail 5, (by kernel_rfl)
          change wpList _ _ _ _ _ W6.drew
          clear a0 a1 c0 i2 kA kCa kBa
          go_wp2_with fail
          refine hon.mono ?_
          rintro e w6 ⟨rfl, hx6, hf6⟩
          have h6 := HD.out.durSet hx6 hf6
          have HF6 := Lib.hid (HFa.out.trans hf6 (fun i _ e => e))
          have HG := Lib.hid h6
          clear hon hx6 hf6 h6 HD HFa
          go_wp2
          go_roundw
          case rel => exact ⟨k + 1, by omega, by go_num, by rw [HST.out]; exact HG.out, HF6.out⟩
          case measure => simp [intOf]; omega
      · have q2 : ((k : Int) == (ks.length : Int) - 1) = false := beq_eq_false_iff_ne.2 (by omega)
        rw [if_neg hlast] at hstep
        have HST : Hid (durK D kl torn (k + 1) = putB (durK D kl torn k) o (bts s)) := hstep
        have hfit := hfitw
        clear hlast hstep hfitw
        have hAa : Below wr.heap.size wr (wr.alloc (.cells #[.int .i64 (o : Nat), .string s] 92)).drew := ((Below.refl _ _).alloc (Nat.le_refl _) _).drew
        have hDa := hDr.below hAa
        have hon := onto_any (n := n) hDa.dur hdl o s hfit
        have HD := Lib.hid hDa
        have HFa : Hid (Frm (fun i => i = bD) w4 (wr.alloc (.cells #[.int .i64 (o : Nat), .string s] 92)).drew) := (hfr.alloc _).drew
        have kA := Blk.new wr #[.int .i64 (o : Nat), .string s] 92
        have kCa := kCr.alloc (.cells #[.int .i64 (o : Nat), .string s] 92)
        have kBa := hDr.box.alloc (.cells #[.int .i64 (o : Nat), .string s] 92)
        clear hDa hDr hfr hAa kCr
        go_wp2_with fail
        generalize wr.alloc (.cells #[.int .i64 (o : Nat), .string s] 92) = W6 at *
        have a0 := kA.cell 0
        have a1 := kA.cell 1
        have c0 := kCa.cell 0
        have i2 := kBa.cell 2
        unfold dkc at i2
        simp only [List.getElem?_toArray, List.getElem?_cons_succ, List.getElem?_cons_zero] at a0 a1 c0 i2
        go_still_tail 5, (by kernel_rfl)
        change wpList _ _ _ _ _ W6.drew
        clear a0 a1 c0 i2 kA kCa kBa
        go_wp2_with fail
        refine hon.mono ?_
        rintro e w6 ⟨rfl, hx6, hf6⟩
        have h6 := HD.out.durSet hx6 hf6
        have HF6 := Lib.hid (HFa.out.trans hf6 (fun i _ e => e))
        have HG := Lib.hid h6
        clear hon hx6 hf6 h6 HD HFa
        go_wp2
        go_roundw
        case rel => exact ⟨k + 1, by omega, by go_num, by rw [HST.out]; exact HG.out, HF6.out⟩
        case measure => simp [intOf]; omega
    · obtain rfl : k = ks.length := by omega
      have hcd := durK_len HI.out kl torn ks.length
      rw [hall.out] at hDr hcd
      have hvl := HI.out.visLen
      have hse := settle_crash (D := { D with dur := crashB D kl torn }) (hDr.below (W' := wr.drew) (Below.refl _ _).drew) hcd hvl
      have i1 := hDr.box.cell 1
      have i2 := hDr.box.cell 2
      have i3 := hDr.box.cell 3
      unfold dkc at i1 i2 i3
      simp only [List.getElem?_toArray, List.getElem?_cons_succ, List.getElem?_cons_zero] at i1 i2 i3
      have HFR := Lib.hid (hfr.drew)
      have HKC := Lib.hid kCr
      have nCB : w.heap.size ≠ B := by have := H.out.box.lt; omega
      have nCV : w.heap.size ≠ bV := by have := H.out.vis.lt; omega
      have nCP : ∀ g, (Value.slice pa D.pend.length pc).ownBlock = some g → w.heap.size ≠ g := fun g hg e => by have := (H.out.pen.lt g hg).2; omega
      have hnf : ¬ Foot B bD bV (.slice pa D.pend.length pc) w.heap.size := by
        rintro (e | e | e | e)
        · exact nCB e
        · exact hcl e
        · exact nCV e
        · exact nCP _ e rfl
      have HNF := Lib.hid hnf
      clear hDr hfr kCr hcd hvl nCP nCV hnf
      go_wp2_with fail
      go_still_tail 9, (by kernel_rfl)
      change wpList _ _ _ _ _ wr.drew
      clear i1 i2 i3 c0
      go_wp2_with fail
      refine hse.mono ?_
      rintro e w6 ⟨vp', rfl, h6, hvp, hf6⟩
      have kC6 : Blk w6 w.heap.size #[.pointer (some ⟨B, 0, none⟩)] 27 := (show Blk wr.drew w.heap.size #[.pointer (some ⟨B, 0, none⟩)] 27 from HKC.out).frm hf6 HNF.out
      have c0 := kC6.cell 0
      have j0 := h6.box.cell 0
      have j1 := h6.box.cell 1
      have f0 := h6.box.frozen 0
      have f1 := h6.box.frozen 1
      unfold dkc at j0 j1
      simp only [List.getElem?_toArray, List.getElem?_cons_succ, List.getElem?_cons_zero] at c0 j0 j1
      have HF6 := Lib.hid ((HFR.out.mono (G := Foot B bD bV (.slice pa D.pend.length pc)) (fun k _ e => .inr (.inl e))).trans hf6 (fun _ _ h => h))
      have H6 := Lib.hid h6
      clear hse h6 hf6 kC6
      go_wp2
      go_ret
      obtain ⟨k1, k2, k3, k4, k5⟩ := H6.out
      have nD := H6.out.neD
      have nV := H6.out.neV
      have nP := H6.out.neP
      exact ⟨vp', rfl, ⟨(k1.set 0 _).set 1 _, (k2.other _ nD.symm).other _ nD.symm, (k3.other _ nV.symm).other _ nV.symm, owned_kept k4 (fun g hg => (Below.heap_setCell _ _ _ _ (nP g hg).1).trans (Below.heap_setCell _ _ _ _ (nP g hg).1)), k5⟩, hvp, ((HFW.out.trans HF6.out (fun _ _ h => h)).setCell (fun _ => .inl rfl) _).setCell (fun _ => .inl rfl) _⟩
end Go.Proofs.YtnckpnbecmmcpaaGreatDoor
end
section
/- A disk as a whole: all its calls, over what it owns. -/
namespace Go.Proofs.YtnckpnbecmmcpaaGreatDoor
open Go.RowKit Go.Shelf Lib

/-- A disk of size n at block B in the state D; its blocks lie in F. -/
def OwnF (W : World) (B n : Nat) (D : DiskD) (F : Nat → Prop) : Prop := ∃ bD bV vp, DiskAt W B bD bV vp n D ∧ Inv n D ∧ ∀ k, Foot B bD bV vp k → F k
theorem OwnF.inv {W : World} {B n : Nat} {D : DiskD} {F : Nat → Prop} (h : OwnF W B n D F) : Inv n D := by obtain ⟨_, _, _, _, h, _⟩ := h; exact h
theorem OwnF.mono {W : World} {B n : Nat} {D : DiskD} {F G : Nat → Prop} (h : OwnF W B n D F) (hFG : ∀ k, k < W.heap.size → F k → G k) : OwnF W B n D G := by
  obtain ⟨a, b, c, h1, h2, h3⟩ := h; exact ⟨a, b, c, h1, h2, fun k hk => hFG k (h1.lt k hk) (h3 k hk)⟩
theorem OwnF.frm {W W' : World} {B n : Nat} {D : DiskD} {F G : Nat → Prop} (h : OwnF W B n D F) (hf : Frm G W W') (hFG : ∀ k, k < W.heap.size → F k → ¬ G k) : OwnF W' B n D F := by
  obtain ⟨a, b, c, h1, h2, h3⟩ := h; exact ⟨a, b, c, h1.frm hf (fun k hk => hFG k (h1.lt k hk) (h3 k hk)), h2, h3⟩
theorem OwnF.below {W W' : World} {B n : Nat} {D : DiskD} {F : Nat → Prop} (h : OwnF W B n D F) (hb : Below W.heap.size W W') : OwnF W' B n D F := h.frm (G := fun _ => False) (Frm.of_below hb) (fun _ _ _ h => h)
theorem OwnF.lt {W : World} {B n : Nat} {D : DiskD} {F : Nat → Prop} (h : OwnF W B n D F) : B < W.heap.size := by obtain ⟨_, _, _, h, _⟩ := h; exact h.box.lt
abbrev Own (base : Nat) (W : World) (B n : Nat) (D : DiskD) : Prop := OwnF W B n D (fun k => base ≤ k)
theorem Own.of {base : Nat} {W W' : World} {B n : Nat} {D : DiskD} (h : OwnF W' B n D (fun k => base ≤ k ∨ W.heap.size ≤ k)) (hb : base ≤ W.heap.size) : Own base W' B n D := h.mono (fun k _ hk => by rcases hk with hk | hk <;> omega)
theorem Frm.ownBelow {base : Nat} {W W' : World} (h : Frm (fun k => base ≤ k) W W') (hb : base ≤ W.heap.size) : Below base W W' := h.below hb (fun _ h => h)
section
variable {W : World} {B n : Nat} {D : DiskD} {F : Nat → Prop}
theorem size_f (h : OwnF W B n D F) : Calls Tryz.prog 51 #[.pointer (some ⟨B, 0, none⟩)] W fun e w' => e = .returned (.int .i64 (n : Nat)) ∧ W = w' := by obtain ⟨_, _, _, h, _⟩ := h; exact size_any h
theorem pending_f (h : OwnF W B n D F) : Calls Tryz.prog 32 #[.pointer (some ⟨B, 0, none⟩)] W fun e w' => e = .returned (.int .i64 (D.pend.length : Nat)) ∧ W = w' := by obtain ⟨_, _, _, h, _⟩ := h; exact pending_any h
theorem read_f (h : OwnF W B n D F) (off k : Int) : Calls Tryz.prog 52 #[.pointer (some ⟨B, 0, none⟩), .int .i64 off, .int .i64 k] W fun e w' => e = .returned (.tuple #[.string (readS D off k), .int .i64 (readE D off k)]) ∧ W = w' := by
  obtain ⟨_, _, _, h, hI, _⟩ := h; exact read_any h hI.dur hI.visLen hI.most off k
theorem cut_f (h : OwnF W B n D F) (k : Int) (hk : k ≤ 9223372036854775807) : Calls Tryz.prog 29 #[.pointer (some ⟨B, 0, none⟩), .int .i64 k] W fun e w' => e = .returned (.int .i64 (cutE D k)) ∧ OwnF w' B n (cutD D k) F ∧ Frm F W w' := by
  obtain ⟨bD, bV, vp, h, hI, hF⟩ := h
  refine (cut_any h k).mono ?_
  rintro e w' ⟨rfl, h1, h2⟩
  exact ⟨rfl, ⟨bD, bV, vp, h1, hI.cut k hk, hF⟩, h2.mono (fun i _ e => hF i (.inl e))⟩
theorem sync_f (h : OwnF W B n D F) : Calls Tryz.prog 42 #[.pointer (some ⟨B, 0, none⟩)] W fun e w' => e = .returned (.int .i64 (syncE D)) ∧ OwnF w' B n (syncD D) F ∧ Frm F W w' := by
  obtain ⟨bD, bV, vp, h, hI, hF⟩ := h
  refine (sync_any h hI.dur hI.visLen).mono ?_
  rintro e w' ⟨vp', rfl, h1, h2, h3⟩
  exact ⟨rfl, ⟨bD, bV, vp', h1, hI.sync, fun k hk => hF k (by rcases hk with hk | hk | hk | hk; exact .inl hk; exact .inr (.inl hk); exact .inr (.inr (.inl hk)); exact .inr (.inr (.inr (h2 ▸ hk))))⟩, h3.mono (fun i _ e => hF i e)⟩
theorem crash_f (h : OwnF W B n D F) (vk : Value) (kl : List Int) (hk : IntsAt W vk kl) (hks : kl.length ≤ 1000) (torn : Int) :
    Calls Tryz.prog 30 #[.pointer (some ⟨B, 0, none⟩), vk, .int .i64 torn] W fun e w' => e = .returned (.int .i64 0) ∧ OwnF w' B n (crashD D kl torn) F ∧ Frm F W w' := by
  obtain ⟨bD, bV, vp, h, hI, hF⟩ := h
  refine (crash_any h hI vk kl hk hks torn).mono ?_
  rintro e w' ⟨vp', rfl, h1, h2, h3⟩
  exact ⟨rfl, ⟨bD, bV, vp', h1, hI.crash kl torn, fun k hk => hF k (by rcases hk with hk | hk | hk | hk; exact .inl hk; exact .inr (.inl hk); exact .inr (.inr (.inl hk)); exact .inr (.inr (.inr (h2 ▸ hk))))⟩, h3.mono (fun i _ e => hF i e)⟩
theorem write_f (h : OwnF W B n D F) (hp : D.pend.length ≤ 1000000) (off : Int) (s : ByteArray) :
    Calls Tryz.prog 13 #[.pointer (some ⟨B, 0, none⟩), .int .i64 off, .string s] W fun e w' => e = .returned (.int .i64 (writeE D off s)) ∧ OwnF w' B n (writeD D off s) (fun k => F k ∨ W.heap.size ≤ k) ∧ Frm F W w' := by
  obtain ⟨bD, bV, vp, h, hI, hF⟩ := h
  by_cases he : writeE D off s = 0
  · refine (write_yes h hI hp off s he).mono ?_
    rintro e w' ⟨vp', rfl, h1, h2, h3⟩
    refine ⟨rfl, ⟨bD, bV, vp', h1, hI.write off s, fun k hk => ?_⟩, h3.mono (fun i _ e => hF i e)⟩
    rcases hk with hk | hk | hk | hk
    · exact .inl (hF k (.inl hk))
    · exact .inl (hF k (.inr (.inl hk)))
    · exact .inl (hF k (.inr (.inr (.inl hk))))
    · rcases h2 with h2 | ⟨g, hg, hs⟩
      · exact .inl (hF k (.inr (.inr (.inr (h2 ▸ hk)))))
      · rw [hg] at hk; cases hk; exact .inr hs
  · have hD : writeD D off s = D := by unfold writeD; rw [if_neg he]
    refine (write_no h hI.dur hI.most off s he).mono ?_
    rintro e w' ⟨rfl, rfl⟩
    rw [hD]
    exact ⟨rfl, ⟨bD, bV, vp, h, hI, fun k hk => .inl (hF k hk)⟩, Frm.refl _ _⟩
end
section
variable {base : Nat} {W : World} {B n : Nat} {D : DiskD}
theorem cut_own (h : Own base W B n D) (hb : base ≤ W.heap.size) (k : Int) (hk : k ≤ 9223372036854775807) : Calls Tryz.prog 29 #[.pointer (some ⟨B, 0, none⟩), .int .i64 k] W fun e w' => e = .returned (.int .i64 (cutE D k)) ∧ Own base w' B n (cutD D k) ∧ Below base W w' :=
  (cut_f h k hk).mono fun _ _ ⟨h1, h2, h3⟩ => ⟨h1, h2, h3.ownBelow hb⟩
theorem sync_own (h : Own base W B n D) (hb : base ≤ W.heap.size) : Calls Tryz.prog 42 #[.pointer (some ⟨B, 0, none⟩)] W fun e w' => e = .returned (.int .i64 (syncE D)) ∧ Own base w' B n (syncD D) ∧ Below base W w' :=
  (sync_f h).mono fun _ _ ⟨h1, h2, h3⟩ => ⟨h1, h2, h3.ownBelow hb⟩
theorem crash_own (h : Own base W B n D) (hb : base ≤ W.heap.size) (vk : Value) (kl : List Int) (hk : IntsAt W vk kl) (hks : kl.length ≤ 1000) (torn : Int) :
    Calls Tryz.prog 30 #[.pointer (some ⟨B, 0, none⟩), vk, .int .i64 torn] W fun e w' => e = .returned (.int .i64 0) ∧ Own base w' B n (crashD D kl torn) ∧ Below base W w' :=
  (crash_f h vk kl hk hks torn).mono fun _ _ ⟨h1, h2, h3⟩ => ⟨h1, h2, h3.ownBelow hb⟩
theorem write_own (h : Own base W B n D) (hb : base ≤ W.heap.size) (hp : D.pend.length ≤ 1000000) (off : Int) (s : ByteArray) :
    Calls Tryz.prog 13 #[.pointer (some ⟨B, 0, none⟩), .int .i64 off, .string s] W fun e w' => e = .returned (.int .i64 (writeE D off s)) ∧ Own base w' B n (writeD D off s) ∧ Below base W w' :=
  (write_f h hp off s).mono fun _ _ ⟨h1, h2, h3⟩ => ⟨h1, Own.of h2 hb, h3.ownBelow hb⟩
theorem new_own (n : Nat) (w : World) (h1 : 1 ≤ n) (h2 : n ≤ 4194304) : Calls Tryz.prog 24 #[.int .i64 (n : Nat)] w fun e w' => ∃ B, e = .returned (.tuple #[.pointer (some ⟨B, 0, none⟩), .int .i64 0]) ∧ Own w.heap.size w' B n (newD n) ∧ Below w.heap.size w w' := by
  refine (new_yes n w h1 h2).mono ?_
  rintro e w' ⟨B, bD, bV, rfl, h, hB, hd, hv, hbl⟩
  refine ⟨B, rfl, ⟨bD, bV, _, h, Inv.new h1 h2, ?_⟩, hbl⟩
  rintro k (rfl | rfl | rfl | hk)
  · exact hB
  · exact hd
  · exact hv
  · cases hk
end
end Go.Proofs.YtnckpnbecmmcpaaGreatDoor
end
section
/- A disk with power, without a scheduled loss: what its calls do; a disk beside bytes of the caller's. -/
namespace Go.Proofs.YtnckpnbecmmcpaaGreatDoor
open Go.RowKit Go.Shelf Lib

structure OnD (n : Nat) (D : DiskD) : Prop where
  inv : Inv n D
  on : D.off = false
  left : D.left = 0
theorem on_new {n : Nat} (h : 1 ≤ n) (h2 : n ≤ 4194304) : OnD n (newD n) := ⟨Inv.new h h2, rfl, rfl⟩
theorem on_write {n : Nat} {D : DiskD} (h : OnD n D) (o : Nat) (s : ByteArray) (hf : o + s.size ≤ n) :
    writeE D o s = 0 ∧ OnD n (writeD D o s) ∧ (writeD D o s).vis = putB D.vis o (bts s) ∧ (writeD D o s).dur = D.dur ∧ (writeD D o s).pend = D.pend ++ [⟨o, s⟩] := by
  have e : writeE D o s = 0 := by
    unfold writeE
    rw [h.on, h.inv.dur]
    have : insideB n (o : Int) (s.size : Int) = true := inside_iff.2 ⟨by omega, by omega, by omega, by omega⟩
    rw [this]; rfl
  have e2 : writeD D o s = { D with pend := D.pend ++ [⟨o, s⟩], vis := putB D.vis o (bts s) } := by
    unfold writeD usedD
    rw [if_pos e]
    simp only [h.left, if_pos, Int.toNat_natCast]
  refine ⟨e, ⟨h.inv.write _ _, by rw [e2]; exact h.on, by rw [e2]; exact h.left⟩, by rw [e2], by rw [e2], by rw [e2]⟩
theorem on_sync {n : Nat} {D : DiskD} (h : OnD n D) : syncE D = 0 ∧ OnD n (syncD D) ∧ (syncD D).vis = D.vis ∧ (syncD D).dur = D.vis ∧ (syncD D).pend = [] := by
  have e : syncD D = { D with dur := D.vis, pend := [] } := by unfold syncD; rw [h.on]; rfl
  exact ⟨by unfold syncE; rw [h.on]; rfl, ⟨h.inv.sync, by rw [e]; exact h.on, by rw [e]; exact h.left⟩, by rw [e], by rw [e], by rw [e]⟩
def strOf (b : List UInt8) : ByteArray := ⟨b.toArray⟩
theorem on_read {n : Nat} {D : DiskD} (h : OnD n D) : readE D 0 n = 0 ∧ readS D 0 n = strOf D.vis := by
  have e : readE D 0 n = 0 := by
    unfold readE
    rw [h.on, h.inv.dur]
    have : insideB n (0 : Int) (n : Int) = true := inside_iff.2 ⟨by omega, by omega, by omega, by omega⟩
    rw [this]; rfl
  refine ⟨e, ?_⟩
  unfold readS strOf
  rw [if_pos e]
  congr 2
  simp
  exact List.take_of_length_le (Nat.le_of_eq h.inv.visLen)
theorem on_crash {n : Nat} {D : DiskD} (h : OnD n D) (kl : List Int) (torn : Int) : OnD n (crashD D kl torn) := ⟨h.inv.crash kl torn, rfl, rfl⟩
theorem conv_all {w : World} {g n : Nat} {b : List UInt8} (hg : Blk w g (bcs b).toArray 5) (hb : b.length = n) : (convert 39 9 (.slice (some ⟨g, 0, none⟩) n n)).run Tryz.prog w = .ok (.string (strOf b)) w := by
  have := conv_bytes (w := w) (c := n) hg (o := 0) (k := n) (by omega) ⟨g, 0, none⟩ (fun _ => rfl) ⟨_, _, rfl⟩
  rw [this]
  unfold subS strOf
  rw [List.drop_zero, List.take_of_length_le (by omega)]
section
variable {W : World} {B n : Nat} {D : DiskD} {F : Nat → Prop}
theorem write_F (h : OwnF W B n D F) (hF : ∀ k, W.heap.size ≤ k → F k) (hp : D.pend.length ≤ 1000000) (off : Int) (s : ByteArray) :
    Calls Tryz.prog 13 #[.pointer (some ⟨B, 0, none⟩), .int .i64 off, .string s] W fun e w' => e = .returned (.int .i64 (writeE D off s)) ∧ OwnF w' B n (writeD D off s) F ∧ Frm F W w' := by
  refine (write_f h hp off s).mono ?_
  rintro e w' ⟨h1, h2, h3⟩
  exact ⟨h1, h2.mono (fun k _ hk => hk.elim id (hF k)), h3⟩
end
/-- All blocks from base on, without one. -/
def Bes (base g : Nat) (k : Nat) : Prop := base ≤ k ∧ k ≠ g
theorem Frm.besBelow {base g : Nat} {W W' : World} (h : Frm (Bes base g) W W') (hb : base ≤ W.heap.size) : Below base W W' := h.below hb (fun _ h => h.1)
end Go.Proofs.YtnckpnbecmmcpaaGreatDoor
end
section
/- Crashes without survivors, and with all of them. -/
namespace Go.Proofs.YtnckpnbecmmcpaaGreatDoor
open Go.RowKit Go.Shelf Lib

theorem crashD_nil (D : DiskD) (torn : Int) : (crashD D [] torn).dur = D.dur ∧ (crashD D [] torn).vis = D.dur ∧ (crashD D [] torn).pend = [] := by
  have : keptW D [] = [] := by unfold keptW keptI; simp
  have h2 : crashB D [] torn = D.dur := by unfold crashB; rw [this]; rfl
  exact ⟨h2, h2, rfl⟩
abbrev allI (m : Nat) : List Int := (List.range m).map (fun i : Nat => (i : Int))
theorem lastTorn_neg : ∀ l : List WrD, lastTorn (-1) l = l := by
  intro l
  induction l with
  | nil => rfl
  | cons w l ih =>
    cases l with
    | nil => rfl
    | cons x l => show w :: lastTorn (-1) (x :: l) = _; rw [ih]
theorem keptW_all (D : DiskD) : keptW D (allI D.pend.length) = D.pend := by
  unfold keptW
  have : keptI D.pend.length (allI D.pend.length) = List.range D.pend.length := by
    unfold keptI
    refine List.filter_eq_self.2 (fun i hi => ?_)
    simp at hi ⊢
    exact ⟨i, hi, rfl⟩
  rw [this]
  refine List.ext_getElem? fun i => ?_
  by_cases hi : i < D.pend.length
  · rw [List.getElem?_map, List.getElem?_range hi, List.getElem?_eq_getElem hi]
    simp [List.getElem?_eq_getElem hi]
  · rw [List.getElem?_eq_none (by simp; omega), List.getElem?_eq_none (by omega)]
theorem crash_all {n : Nat} {D : DiskD} (h : Inv n D) : (crashD D (allI D.pend.length) (-1)).vis = D.vis ∧ (crashD D (allI D.pend.length) (-1)).dur = D.vis := by
  have : crashB D (allI D.pend.length) (-1) = D.vis := by unfold crashB; rw [keptW_all, lastTorn_neg, h.vis]
  exact ⟨this, this⟩
theorem ints_nil (W : World) : IntsAt W (.slice none 0 0) [] := ⟨none, 0, rfl, Nat.le_refl _, by unfold maxLen; omega, fun h => absurd h (by simp)⟩
theorem allI_succ (m : Nat) : allI (m + 1) = allI m ++ [(m : Int)] := by unfold allI; rw [List.range_succ, List.map_append]; rfl
theorem allI_len (m : Nat) : (allI m).length = m := by simp
end Go.Proofs.YtnckpnbecmmcpaaGreatDoor
end
section
/- A disk beside an own row of the caller's; a disk whose power is cut after some writes. -/
namespace Go.Proofs.YtnckpnbecmmcpaaGreatDoor
open Go.RowKit Go.Shelf Lib

section
variable {W : World} {B n : Nat} {D : DiskD} {F : Nat → Prop}
/-- A disk's blocks differ from a block of another type. -/
theorem OwnF.away (h : OwnF W B n D F) {x : Nat} {cs : Array Value} {t : TypeId} (hx : Blk W x cs t) (h1 : t ≠ 97) (h2 : t ≠ 5) (h3 : t ≠ 92) : OwnF W B n D (fun k => F k ∧ k ≠ x) := by
  obtain ⟨bD, bV, vp, a, b, c⟩ := h
  refine ⟨bD, bV, vp, a, b, fun k hk => ⟨c k hk, ?_⟩⟩
  rcases hk with rfl | rfl | rfl | hk
  · exact a.box.ne hx h1.symm
  · exact a.dur.ne hx h2.symm
  · exact a.vis.ne hx h2.symm
  · obtain ⟨cur, hb, -⟩ := owned_block a.pen hk
    exact hb.ne hx h3.symm
theorem OwnF.awayRow (h : OwnF W B n D F) {base : Nat} {t : TypeId} {sz m : Nat} {v : Value} {xs : List Value} (hr : W.ownsRow base t sz v m xs) (h1 : t ≠ 97) (h2 : t ≠ 5) (h3 : t ≠ 92) : OwnF W B n D (fun k => F k ∧ v.ownBlock ≠ some k) := by
  cases hv : v.ownBlock with
  | none => exact h.mono (fun k _ hk => ⟨hk, by simp⟩)
  | some g =>
    obtain ⟨cur, hb, -⟩ := owned_block hr hv
    exact (h.away hb h1 h2 h3).mono (fun k _ hk => ⟨hk.1, fun e => hk.2 (Option.some.inj e).symm⟩)
end
/-- A disk whose power is cut after c writes, after k writes were tried. -/
structure CutI (n c k : Nat) (D : DiskD) : Prop where
  inv : Inv n D
  len : D.pend.length = min k c
  off : D.off = decide (c ≤ k)
  left : D.left = ((c - k : Nat) : Int)
theorem cutI_start {n c : Nat} (h : 1 ≤ n) (h2 : n ≤ 4194304) (hc : c < 1000) :
    cutE (newD n) ((c + 5 : Nat) : Int) = 0 ∧ cutE (cutD (newD n) ((c + 5 : Nat) : Int)) (c : Int) = 0 ∧ CutI n c 0 (cutD (cutD (newD n) ((c + 5 : Nat) : Int)) (c : Int)) ∧ (cutD (cutD (newD n) ((c + 5 : Nat) : Int)) (c : Int)).vis = List.replicate n 0 := by
  have e1 : cutE (newD n) ((c + 5 : Nat) : Int) = 0 := by
    unfold cutE newD
    simp
    omega
  have d1 : cutD (newD n) ((c + 5 : Nat) : Int) = { newD n with off := false, left := ((c + 5 : Nat) : Int) } := by
    unfold cutD
    rw [if_pos e1]
    congr 1
  have e2 : cutE (cutD (newD n) ((c + 5 : Nat) : Int)) (c : Int) = 0 := by
    rw [d1]; unfold cutE; simp
  have i2 : Inv n (cutD (cutD (newD n) ((c + 5 : Nat) : Int)) (c : Int)) := ((Inv.new h h2).cut _ (by omega)).cut _ (by omega)
  have d2 : cutD (cutD (newD n) ((c + 5 : Nat) : Int)) (c : Int) = { newD n with off := decide ((c : Int) = 0), left := (c : Int) } := by
    rw [cutD, if_pos e2, d1]
  refine ⟨e1, e2, ⟨i2, by rw [d2]; show 0 = _; omega, ?_, by rw [d2]; simp⟩, by rw [d2]; rfl⟩
  rw [d2]
  show decide _ = decide _
  simp
theorem CutI.yes {n c k : Nat} {D : DiskD} (h : CutI n c k D) (hk : k < c) (o : Nat) (s : ByteArray) (hf : o + s.size ≤ n) :
    writeE D o s = 0 ∧ CutI n c (k + 1) (writeD D o s) ∧ (writeD D o s).vis = putB D.vis o (bts s) := by
  have hoff : D.off = false := by rw [h.off]; simp; omega
  have e : writeE D o s = 0 := by
    unfold writeE
    rw [hoff, h.inv.dur]
    have : insideB n (o : Int) (s.size : Int) = true := inside_iff.2 ⟨by omega, by omega, by omega, by omega⟩
    rw [this]; rfl
  have hl : D.left ≠ 0 := by rw [h.left]; omega
  have e2 : writeD D o s = { D with pend := D.pend ++ [⟨o, s⟩], vis := putB D.vis o (bts s), left := D.left - 1, off := decide (D.left - 1 = 0) } := by
    unfold writeD usedD
    rw [if_pos e, if_neg hl]
    simp only [Int.toNat_natCast]
  refine ⟨e, ⟨h.inv.write _ _, ?_, ?_, ?_⟩, by rw [e2]⟩
  · rw [e2]; show (D.pend ++ _).length = _; rw [List.length_append, h.len]; simp; omega
  · rw [e2]; show decide _ = _; rw [h.left]; congr 1; exact propext ⟨fun _ => by omega, fun _ => by omega⟩
  · rw [e2]; show D.left - 1 = _; rw [h.left]; omega
theorem CutI.no {n c k : Nat} {D : DiskD} (h : CutI n c k D) (hk : c ≤ k) (o : Nat) (s : ByteArray) :
    writeE D o s = 331 ∧ writeD D o s = D ∧ CutI n c (k + 1) D := by
  have hoff : D.off = true := by rw [h.off]; simp; omega
  have e : writeE D o s = 331 := by unfold writeE; rw [hoff]; rfl
  refine ⟨e, by unfold writeD; rw [if_neg (by rw [e]; decide)], h.inv, by rw [h.len]; omega, ?_, by rw [h.left]; omega⟩
  rw [hoff]; symm; simp; omega
theorem CutI.stop {n c k : Nat} {D : DiskD} (h : CutI n c k D) (hk : c ≤ k) : D.pend.length = c ∧ readE D 0 0 = 331 ∧ syncE D = 331 ∧ syncD D = D ∧ cutE D 3 = 331 ∧ cutD D 3 = D := by
  have hoff : D.off = true := by rw [h.off]; simp; omega
  have e : cutE D 3 = 331 := by unfold cutE; rw [hoff]; rfl
  refine ⟨by rw [h.len]; omega, by unfold readE; rw [hoff]; rfl, by unfold syncE; rw [hoff]; rfl, by unfold syncD; rw [hoff]; rfl, e, by unfold cutD; rw [if_neg (by rw [e]; decide)]⟩
theorem CutI.go {n c k : Nat} {D : DiskD} (h : CutI n c k D) (hk : k < c) : syncE D = 0 := by
  have hoff : D.off = false := by rw [h.off]; simp; omega
  unfold syncE; rw [hoff]; rfl
theorem inv_crash {n : Nat} {D : DiskD} (h : Inv n D) (kl : List Int) (torn : Int) : OnD n (crashD D kl torn) := ⟨h.crash kl torn, rfl, rfl⟩
/-- A content beside the disk: base, without the block of it. -/
def Bes2 (base g : Nat) (v : Value) (k : Nat) : Prop := (base ≤ k ∧ k ≠ g) ∧ v.ownBlock ≠ some k
end Go.Proofs.YtnckpnbecmmcpaaGreatDoor
end
section
/- Bytes put one by one. -/
namespace Go.Proofs.YtnckpnbecmmcpaaGreatDoor
open Go.RowKit

theorem wrapS (n : Int) (h₀ : -9223372036854775808 ≤ n) (h₁ : n ≤ 9223372036854775807) : IntKind.i64.wrap n = n := by rw [IntKind.wrap_i64]; omega
def InR (c : Int) : Prop := -9223372036854775808 ≤ c ∧ c ≤ 9223372036854775807
theorem putB_zero (b : List UInt8) (o : Nat) : putB b o [] = b := by simp [putB]
theorem putB_step (b : List UInt8) (o k : Nat) (l : List UInt8) (hk : k < l.length) (hf : o + l.length ≤ b.length) : (putB b o (l.take k)).set (o + k) (l.getD k 0) = putB b o (l.take (k + 1)) := by
  apply List.ext_getElem?
  intro i
  have h1 : (l.take k).length = k := by simp; omega
  have h2 : (l.take (k + 1)).length = k + 1 := by simp; omega
  have hl1 : (putB b o (l.take k)).length = b.length := putB_len (by omega)
  have hl2 : (putB b o (l.take (k + 1))).length = b.length := putB_len (by omega)
  by_cases hi : i < b.length
  · rw [putB_get (by omega) i hi, h2]
    by_cases he : i = o + k
    · subst he
      rw [List.getElem?_set_self (by omega), if_pos (by omega), List.getElem?_take, if_pos (by omega), Nat.add_sub_cancel_left, getD_some 0 hk]
    · rw [List.getElem?_set_ne (by omega), putB_get (by omega) i hi, h1]
      by_cases hin : o ≤ i ∧ i < o + k
      · rw [if_pos hin, if_pos (by omega), List.getElem?_take, List.getElem?_take, if_pos (by omega), if_pos (by omega)]
      · rw [if_neg hin, if_neg (by omega)]
  · rw [List.getElem?_eq_none (by simp; omega), List.getElem?_eq_none (by omega)]
end Go.Proofs.YtnckpnbecmmcpaaGreatDoor
end
