/- slices.Values, AppendSeq, Collect over a slice of integers. -/
import Derived.Test.YtfmdpmcniccioaaD5
import Derived.Test.YtfmdpmcniccioaaRangeM
namespace Go.Proofs.Ytfmdpmcniccioaa
open Go.RowKit Go.Shelf Lib
attribute [local go_sem] Oper.semAt_some

abbrev IntsAt (w : World) (v : Value) (l : List Int) : Prop := SliceOf (Value.int .i64) w v l
theorem E37 : ElemOK Try.prog 37 3 (.int .i64 0) 1 8 := ⟨Try.underlying37, by kernel_rfl, rfl, by decide⟩
theorem SliceOf.get {α : Type} {f : α → Value} {w : World} {a : Option Addr} {len cap : Nat} {l : List α} (h : SliceOf f w (.slice a len cap) l) {k : Nat} {y : α} (hk : l[k]? = some y) :
    ∃ b off, a = some ⟨b, off, none⟩ ∧ w.cell? ⟨b, off + k, none⟩ = some (f y) := by
  obtain ⟨a', cap', e, h2, h3, h4⟩ := h
  have hl : 0 < l.length := by
    refine Classical.byContradiction fun hc => ?_
    rw [List.getElem?_eq_none (by omega)] at hk; cases hk
  obtain ⟨b, off, rfl, h5⟩ := h4 hl
  cases e
  exact ⟨b, off, rfl, h5 k y hk⟩
theorem getD_some {α : Type} {l : List α} {k : Nat} (d : α) (h : k < l.length) : l[k]? = some (l.getD k d) := by
  rw [List.getD_eq_getElem?_getD, List.getElem?_eq_getElem h]; rfl
theorem SliceOf.len {α : Type} {f : α → Value} {w : World} {v : Value} {l : List α} (h : SliceOf f w v l) : ∃ (a : Option Addr) (cap : Nat), v = .slice a l.length cap ∧ l.length ≤ cap ∧ cap ≤ maxLen := by
  obtain ⟨a, cap, h1, h2, h3, -⟩ := h; exact ⟨a, cap, h1, h2, h3⟩
theorem owned_slice {α : Type} {f : α → Value} {B : Nat} {e : TypeId} {v : Value} {l : List α} {w : World} (h : w.ownsRow B e 1 v l.length (l.map f)) : SliceOf f w v l := by
  rcases h.2 with ⟨rfl, hn⟩ | ⟨g, cap, cur, rfl, hb, hg, h1, h2, -⟩
  · exact ⟨none, 0, by rw [hn], by omega, by unfold maxLen; omega, fun hl => by omega⟩
  · refine ⟨_, cap, rfl, h1, h2, fun _ => ⟨g, 0, rfl, fun j y hj => ?_⟩⟩
    have := h.cells rfl j (f y) (by rw [List.getElem?_map, hj]; rfl)
    rw [add_zero_off] at this
    simpa using this
/-- What a round over the values leaves as it lay. -/
def KpC (B0 pB : Nat) (W W' : World) : Prop := Below B0 W W' ∧ W'.heap[pB]? = W.heap[pB]?
theorem KpC.trans {B0 pB : Nat} {A B C : World} (h : KpC B0 pB A B) (k : KpC B0 pB B C) : KpC B0 pB A C := ⟨h.1.trans k.1, k.2.trans h.2⟩
theorem KpC.putObj {B0 pB : Nat} {W : World} {l : Nat} {o : Obj} (o' : Obj) (h1 : B0 ≤ l) (h2 : pB < l) (hl : W.heap[l]? = some o) : KpC B0 pB W (W.putObj l o') :=
  ⟨(Below.refl B0 W).grown (grownBy_putObj' W l o') (by have := (Array.getElem?_eq_some_iff.1 hl).1; omega) (fun k hk => by simp at hk; omega), World.putObj_heap_other (by omega)⟩
abbrev encI (x : Int) : Array Value := #[.int .i64 x]

set_option maxRecDepth 100000 in
set_option maxHeartbeats 1000000 in
theorem values_seq (n : Nat) (hn : 1 ≤ n) (pB : Nat) (l : List Int) (w0 w : World) (v : Value) (hl : IntsAt w0 v l) (h0w : Below w0.heap.size w0 w) (hs : l.length ≤ 1000)
    (hp : ∃ c fz, w.heap[pB]? = some (.cells #[v] c fz)) :
    SeqM Fence.wide n Try.prog 47 #[.pointer (some ⟨pB, 0, none⟩)] encI (KpC w0.heap.size pB) (fun _ => False) (fun xs => xs = l) (fun _ => True) (fun pre _ => pre.length < 1000) w := by
  intro lp J Jx W hW hJ hJx hY h0
  obtain ⟨a, cp, rfl, hl1, hl2⟩ := hl.len
  obtain ⟨c, fz, hpc⟩ := hp
  have hpW : W.heap[pB]? = some (.cells #[.slice a l.length cp] c fz) := by rw [hW.block pB (Array.getElem?_eq_some_iff.1 hpc).1]; exact hpc
  have hW0 : Below w0.heap.size w0 W := h0w.trans (hW.mono h0w.size)
  have k0 : W.cell? ⟨pB, 0, none⟩ = some (.slice a l.length cp) := by simp [World.cell?, hpW]
  have HL := Lib.hid hl
  clear hl
  have hro : (Fence.wide).round = none := rfl
  refine callsIn_of_wp Try.func47 rfl trivial ?_ hro
  simp only [Try.ntmps47, List.size_toArray, List.length_cons, List.length_nil, Nat.reduceAdd, Nat.reduceSub, Array.replicate_succ, Array.replicate_zero, List.push_toArray, List.append_toArray, List.nil_append, List.cons_append]
  gi_wp2
  gi_loopw [7] (fun u7 wr => ∃ k : Nat, k ≤ l.length ∧ u7 = .int .i64 k ∧ J (l.take k) wr ∧ Below w0.heap.size w0 wr ∧ wr.heap[pB]? = some (.cells #[.slice a l.length cp] c fz)) (fun u7 wr => (l.length - intOf u7).toNat)
  case atStart => exact ⟨0, by omega, rfl, by simpa using h0, hW0, hpW⟩
  case round =>
    obtain ⟨k, hk, rfl, hj, hBr, hpr⟩ := hrel
    by_cases hkl : k < l.length
    · have hsome := getD_some 0 hkl
      obtain ⟨b, off, rfl, hcell⟩ := (HL.out.below hBr).get hsome
      have htk : Hid (l.take (k + 1) = l.take k ++ [l.getD k 0]) := by
        show _ = _
        rw [List.take_add_one, hsome]; rfl
      have hki : (0 : Int) ≤ (k : Int) ∧ (k : Int) < (l.length : Int) := by omega
      have hlen : Hid ((l.take k).length < 1000) := by show _ < _; rw [List.length_take]; omega
      obtain ⟨fn, tmps, assign, body, hy, hR⟩ := hY _ (l.getD k 0) wr hj hlen.out
      generalize l.getD k 0 = x at *
      simp [encI] at hy
      have HRr := Lib.hid hR
      clear hR hsome
      gi_wp2
      refine HRr.out.mono ?_
      rintro e W' (⟨rfl, hJ', hk1, hk2⟩ | ⟨rfl, hJx'⟩)
      · gi_wp2
        go_roundw
        case rel => exact ⟨k + 1, by omega, by go_num, by rw [htk.out]; exact hJ', hBr.trans hk1, by rw [hk2]; exact hpr⟩
        case measure => simp [intOf]; omega
      · gi_wp2
        refine bodyPost_ret (results_none rfl _ _ _) rfl ?_
        exact ⟨⟨_, rfl⟩, .inr ⟨_, trivial, hJx'⟩⟩
    · obtain rfl : k = l.length := by omega
      gi_wp2
      refine ⟨rfl, _, results_none rfl _ _ _, ?_⟩
      exact ⟨⟨_, rfl⟩, .inl ⟨_, rfl, by rw [List.take_length] at hj; exact hj⟩⟩
set_option maxRecDepth 100000 in
set_option maxHeartbeats 1000000 in
theorem appendSeq_values (pB : Nat) (l : List Int) (w0 w : World) (v : Value) (hl : IntsAt w0 v l) (h0w : Below w0.heap.size w0 w) (hs : l.length ≤ 1000)
    (hp : ∃ c fz, w.heap[pB]? = some (.cells #[v] c fz)) :
    Calls Try.prog 49 #[.slice none 0 0, .func (.func 47) #[] #[.pointer (some ⟨pB, 0, none⟩)]] w fun e w' => ∃ v, e = .returned v ∧ w'.ownsRow w.heap.size 3 1 v l.length (l.map (Value.int .i64)) ∧ Below w.heap.size w w' := by
  have hpl : pB < w.heap.size := by obtain ⟨c, fz, h⟩ := hp; exact (Array.getElem?_eq_some_iff.1 h).1
  have hB0 : Below w.heap.size w (w.alloc (.cells #[.slice none 0 0] 37)) := (Below.refl _ _).alloc (Nat.le_refl _) _
  have hseq := values_seq 4 (by omega) pB l w0 _ v hl (h0w.trans (hB0.mono h0w.size)) hs (by
    obtain ⟨c, fz, h⟩ := hp
    exact ⟨c, fz, by rw [hB0.block pB hpl]; exact h⟩)
  have h0s := h0w.size
  clear hl h0w hp hs
  refine (callsIn_wide (n := 5)).1 ?_
  refine callsIn_of_wp_marks Try.func49 rfl trivial ?_ rfl
  simp only [Try.ntmps49, List.size_toArray, List.length_cons, List.length_nil, Nat.reduceAdd, Nat.reduceSub, Array.replicate_succ, Array.replicate_zero, List.push_toArray, List.append_toArray, List.nil_append, List.cons_append]
  gi_wp2_with fail
  refine wpIn_rangeFunc_Mf (zs := fun k => False) rfl (by omega) (gf := 47) (lb := #[.pointer (some ⟨pB, 0, none⟩)]) rfl trivial Try.call47
    (fun k hk => hk.elim) hseq (fun h k => h.trans k)
    (fun W l o o' hl ho _ _ => by simp at hl; exact KpC.putObj o' (by omega) (by omega) ho) (Below.refl _ _) (fun _ => rfl)
    (fun pre W => (∃ v, Boxed W w.heap.size 37 v ∧ W.ownsRow (w.heap.size + 1) 3 1 v pre.length (pre.map (Value.int .i64))) ∧ Below w.heap.size w W ∧ w.heap.size + 1 ≤ W.heap.size)
    (fun _ _ _ => False)
    (fun s A B hs ht => ⟨by
      obtain ⟨⟨v, h1, h2⟩, h3⟩ := hs
      exact ⟨v, ht.boxed h1 (fun h => h), ht.ownsRow h2 (fun k hk h => h)⟩, ht.below hs.2.1 (Nat.le_refl _) (by simp) (fun k hk h => h), Nat.le_trans hs.2.2 ht.size⟩)
    (fun _ _ _ _ hs _ => hs)
    ⟨⟨_, Boxed.new w 37 _, World.ownsRow_nil _ _ _ _⟩, hB0, by simp⟩
    (fun x t => (t.setIfInBounds 7 (.int .i64 x)).setIfInBounds 5 (.int .i64 x)) ?assign ?body ?done ?stop
  case assign =>
    intro l x W K hK
    dsimp only [encI]
    gi_wp2
    exact hK
  case body =>
    rintro l pre x W ⟨⟨v, hv, hrow⟩, hB, hsz⟩ hlt
    have hc1 := hv.cell
    have hf1 := hv.frozen
    gi_wp2_with (gi_at_builtin; refine wpListIn_push E37 rfl _ _ rfl (w.heap.size + 1) hrow rfl rfl rfl (by unfold maxLen; omega) (by omega) hsz ?_; intro v' w1 hown' hgrow hb1; obtain ⟨g', cap', rfl⟩ := ownsRow_succ hown'; obtain ⟨hv1, hv2, hr2, hk2, hz2, hb2⟩ := boxed_app hv hrow (by omega) hsz hown' hgrow; have hc1 := hv1.cell; have hf1 := hv1.frozen)
    exact ⟨hk2, ⟨hb2 _ (by omega), hz2 _ (by omega) (by omega)⟩, ⟨_, hv2, by simpa using hr2⟩, hB.trans (hb2 _ (Nat.le_refl _)), by have := (hb2 0 (Nat.zero_le _)).size; omega⟩
  case done =>
    rintro D ys W hD rfl ⟨⟨v, hv, hrow⟩, hB, hsz⟩ hK
    simp at hD
    have hc1 := hv.cell
    gi_wp2
    refine ⟨by simp, .inl ⟨_, _, rfl, run_takeDeferred hK, ?_⟩⟩
    refine ⟨v, by simp [results, Try.results49, go_sem], v, rfl, ownsRow_base (ownsRow_putObj hrow _ hK rfl) (Nat.le_succ _), hB.trans (belowK_b (w := w) (Nat.le_refl _) W D _ _ (by omega) hK rfl rfl)⟩
  case stop =>
    intro D c pre W _ _ h _
    exact h.elim
theorem values_made (a : Option Addr) (m c : Nat) (w : World) : Calls Try.prog 40 #[.slice a m c] w fun e w' => e = .returned (.func (.func 47) #[] #[.pointer (some ⟨w.heap.size, 0, none⟩)]) ∧ w.alloc (.cells #[.slice a m c] 37) = w' := by
  have hmf : ∀ (fn : Fn) (first cap : Array Value) (w : World), (Instr.makeFunc fn first cap).run Try.prog w = .ok (.func fn first cap) w := fun _ _ _ _ => rfl
  go_enter Try.func40, Try.ntmps40
  go_wp2
  go_ret
  exact ⟨rfl, rfl⟩
set_option maxRecDepth 100000 in
theorem collect_values (pB : Nat) (l : List Int) (w0 w : World) (v : Value) (hl : IntsAt w0 v l) (h0w : Below w0.heap.size w0 w) (hs : l.length ≤ 1000)
    (hp : ∃ c fz, w.heap[pB]? = some (.cells #[v] c fz)) :
    Calls Try.prog 45 #[.func (.func 47) #[] #[.pointer (some ⟨pB, 0, none⟩)]] w fun e w' => ∃ v, e = .returned v ∧ w'.ownsRow w.heap.size 3 1 v l.length (l.map (Value.int .i64)) ∧ Below w.heap.size w w' := by
  have hx := appendSeq_values pB l w0 w v hl h0w hs hp
  clear hl h0w hp hs
  go_enter Try.func45, Try.ntmps45
  go_wp2_with fail
  refine hx.mono ?_
  rintro e w' ⟨v, rfl, hv, hB⟩
  go_wp2
  go_ret
  exact ⟨_, rfl, hv, hB⟩
end Go.Proofs.Ytfmdpmcniccioaa
