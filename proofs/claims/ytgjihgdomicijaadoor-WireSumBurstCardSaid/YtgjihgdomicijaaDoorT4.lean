import Derived.Test.YtgjihgdomicijaaDoorT2
import Derived.Test.YtgjihgdomicijaaDoorT3
namespace Go.Proofs.YtgjihgdomicijaaDoor
open Go.RowKit Go.Shelf
attribute [local go_sem] Oper.semAt_some

theorem groups_any (z : Int) (w : World) : Calls Tryd.prog 23 #[.int .u64 z] w fun e w' => e = .returned (.func (.func 25) #[] #[.pointer (some ⟨w.heap.size, 0, none⟩)]) ∧ w.alloc (.cells #[.int .u64 z] 49) = w' := by
  have hmf : ∀ (fn : Fn) (first cap : Array Value) (w : World), (Instr.makeFunc fn first cap).run Tryd.prog w = .ok (.func fn first cap) w := fun _ _ _ _ => rfl
  go_enter Tryd.func23, Tryd.ntmps23
  go_wp2
  go_ret
  exact ⟨rfl, rfl⟩

theorem zig_neg (n : Int) (h0 : -4611686018427387903 ≤ n) (hn : n < 0) : bits BinOp.xor IntKind.u64 (IntKind.u64.wrap (IntKind.u64.wrap n * 2)) (IntKind.u64.wrap (n / 9223372036854775808)) = (zig n : Int) := by
  have h1 : n / 9223372036854775808 = -1 := by omega
  rw [h1, show IntKind.u64.wrap (-1) = 18446744073709551615 from by decide]
  simp only [IntKind.wrap_u64]
  rw [u64_xor1 _ (by omega) (by omega)]
  unfold zig; rw [if_pos hn]; omega
theorem zig_pos (n : Int) (h1 : n ≤ 4611686018427387903) (hn : 0 ≤ n) : bits BinOp.xor IntKind.u64 (n * 2) (n / 9223372036854775808) = (zig n : Int) := by
  have h1 : n / 9223372036854775808 = 0 := by omega
  rw [h1, u64_xor0 _ (by omega) (by omega)]
  unfold zig; rw [if_neg (by omega)]; omega

set_option maxRecDepth 100000 in
set_option maxHeartbeats 400000 in
theorem put_yes (n : Int) (w : World) (h0 : -4611686018427387903 ≤ n) (h1 : n ≤ 4611686018427387903) :
    Calls Tryd.prog 12 #[.int .i64 n] w fun e w' => e = .returned (.tuple #[.string (strOfNums (enc (zig n))), .int .i64 0]) ∧ Below w.heap.size w w' := by
  have hz := zig_lt h0 h1
  have hlen := enc_zig_len h0 h1
  refine (callsIn_wide (n := 5)).1 ?_
  refine callsIn_of_wp_marks Tryd.func12 rfl trivial ?_ rfl
  simp only [Tryd.ntmps12, List.size_toArray, List.length_cons, List.length_nil, Nat.reduceAdd, Nat.reduceSub, Array.replicate_succ, Array.replicate_zero, List.push_toArray, List.append_toArray, List.nil_append, List.cons_append]
  by_cases hn : n < 0
  all_goals
    gi_wp2_with fail
    refine ⟨trivial, ?_⟩
    first
    | rw [zig_neg n h0 hn]
    | rw [zig_pos n h1 (by omega)]
    refine (callsIn_wide.2 (groups_any _ _)).mono ?_
    rintro e w' ⟨rfl, rfl⟩
    gi_wp2_with fail
    have hbz : Boxed ((w.alloc (.cells #[.slice none 0 0] 38)).alloc (.cells #[.int .u64 (zig n)] 49)) (w.heap.size + 1) 49 (.int .u64 (zig n)) := by
      have := Boxed.new (w.alloc (.cells #[.slice none 0 0] 38)) 49 (.int .u64 (zig n))
      simpa using this
    refine wpIn_rangeFunc_Mf (zs := fun k => k = w.heap.size + 1) rfl (by omega) (gf := 25) (lb := #[.pointer (some ⟨w.heap.size + 1, 0, none⟩)]) rfl trivial (enters_of Tryd.func25 (by kernel_rfl) rfl)
      (fun k hk => by simp; omega) (groups_seq 4 (by omega) (w.heap.size + 1) (zig n) _ hz hbz) (fun h k => k.trans h)
      (fun W l o o' hl _ _ _ => by simp at hl; exact World.putObj_heap_other (by omega)) (Below.refl _ _) (fun _ => rfl)
      (fun pre W => (∃ v, Boxed W w.heap.size 38 v ∧ W.ownsRow (w.heap.size + 2) 5 1 v pre.length ((pre.map outG).map (Value.int .u8))) ∧ Below w.heap.size w W ∧ w.heap.size + 2 ≤ W.heap.size)
      (fun _ _ _ => False)
      (fun s A B hs ht => ⟨by
        obtain ⟨⟨v, h1, h2⟩, h3⟩ := hs
        exact ⟨v, ht.boxed h1 (by omega), ht.ownsRow h2 (fun k hk => by omega)⟩, ht.below hs.2.1 (Nat.le_refl _) (by simp; omega) (fun k hk => by omega), Nat.le_trans hs.2.2 ht.size⟩)
      (fun _ _ _ _ hs _ => hs)
      ⟨⟨_, (Boxed.new w 38 _).alloc _, World.ownsRow_nil _ _ _ _⟩, ((Below.refl _ w).alloc (Nat.le_refl _) _).alloc (by simp) _, by simp⟩
      (fun x t => (((t.setIfInBounds 21 (.int .u8 (x.1.val : Int))).setIfInBounds 22 (.bool x.2)).setIfInBounds 5 (.int .u8 (x.1.val : Int))).setIfInBounds 6 (.bool x.2)) ?assign ?body ?done ?stop
    case assign =>
      intro l x W K hK
      dsimp only [encG]
      gi_wp2
      exact hK
    case body =>
      rintro l pre ⟨g, b⟩ W ⟨⟨v, hv, hrow⟩, hB, hsz⟩ hlt
      have hc1 := hv.cell
      have hf1 := hv.frozen
      have hor := u8_orhi (g.val : Int) (by omega) (by omega)
      have hg1 : (g.val : Int) < 128 := by omega
      cases b
      all_goals
        gi_wp2_with (gi_at_builtin; refine wpListIn_push E38 rfl _ _ rfl (w.heap.size + 2) hrow rfl rfl rfl (by unfold maxLen; omega) (by omega) hsz ?_; intro v' w1 hown' hgrow hb1; obtain ⟨g', cap', rfl⟩ := ownsRow_succ hown'; obtain ⟨hv1, hv2, hr2, hk2, hz2, hb2⟩ := boxed_app hv hrow (by omega) hsz hown' hgrow; have hc1 := hv1.cell; have hf1 := hv1.frozen)
        exact ⟨hk2, hz2 _ (by omega) (by omega), ⟨_, hv2, by simpa [outG] using hr2⟩, hB.trans (hb2 _ (Nat.le_refl _)), by have := (hb2 0 (Nat.zero_le _)).size; omega⟩
    case done =>
      rintro D ys W hD rfl ⟨⟨v, hv, hrow⟩, hB, hsz⟩ hK
      simp at hD
      have hc1 := hv.cell
      have hcv := run_convert_owned (xs := enc (zig n)) 38 9 Tryd.underlying38 Tryd.underlying5 Tryd.underlying9 (by rw [← grp_enc]; exact hrow)
      gi_wp2
      refine ⟨by simp, .inl ⟨_, _, rfl, run_takeDeferred hK, ?_⟩⟩
      exact ⟨.tuple #[.string (strOfNums (enc (zig n))), .int .i64 0], by simp [results, Tryd.results12, go_sem], rfl, hB.trans (belowK_b (w := w) (Nat.le_refl _) W D _ _ (by omega) hK rfl rfl)⟩
    case stop =>
      intro D c pre W _ _ h _
      exact h.elim

set_option maxRecDepth 100000 in
set_option maxHeartbeats 400000 in
theorem put_no (n : Int) (w : World) (h : n < -4611686018427387903 ∨ 4611686018427387903 < n) :
    Calls Tryd.prog 12 #[.int .i64 n] w fun e w' => e = .returned (.tuple #[.string ⟨#[]⟩, .int .i64 10]) ∧ w = w' := by
  rcases h with h | h
  · go_enter Tryd.func12, Tryd.ntmps12
    go_wp2
    go_ret2
    exact ⟨rfl, rfl⟩
  · have h' : ¬ n < -4611686018427387903 := by omega
    go_enter Tryd.func12, Tryd.ntmps12
    go_wp2
    go_ret2
    exact ⟨rfl, rfl⟩
end Go.Proofs.YtgjihgdomicijaaDoor
