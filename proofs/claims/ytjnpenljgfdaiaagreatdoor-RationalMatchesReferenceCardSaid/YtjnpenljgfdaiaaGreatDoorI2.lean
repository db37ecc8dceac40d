/- package integer: fold: groups one after the other, with a carry. -/
import Derived.Test.YtjnpenljgfdaiaaGreatDoorI1
namespace Go.Proofs.YtjnpenljgfdaiaaGreatDoor
open Go.RowKit Lib

theorem owned_below {B : Nat} {e : TypeId} {k : Nat} {v : Value} {n : Nat} {xs : List Value} {w w' : World} (h : w.ownsRow B e k v n xs) (hb : Below w.heap.size w w') : w'.ownsRow B e k v n xs :=
  h.kept (row := none) ⟨hb.os, hb.tape, hb.output, hb.size, fun k hk _ => hb.block k hk⟩ (by cases v.ownBlock <;> simp)
theorem owned_slice {α : Type} {f : α → Value} {B : Nat} {e : TypeId} {v : Value} {l : List α} {w : World} (h : w.ownsRow B e 1 v l.length (l.map f)) : SliceOf f w v l := by
  rcases h.2 with ⟨rfl, hn⟩ | ⟨g, cap, cur, rfl, hb, hg, h1, h2, -⟩
  · exact ⟨none, 0, by rw [hn], by omega, by unfold maxLen; omega, fun hl => by omega⟩
  · refine ⟨_, cap, rfl, h1, h2, fun _ => ⟨g, 0, rfl, fun j y hj => ?_⟩⟩
    have := h.cells rfl j (f y) (by rw [List.getElem?_map, hj]; rfl)
    rw [add_zero_off] at this
    simpa using this
theorem owned_len {B : Nat} {e : TypeId} {k : Nat} {v : Value} {n : Nat} {xs : List Value} {w : World} (h : w.ownsRow B e k v n xs) : ∃ (a : Option Addr) (cap : Nat), v = .slice a n cap ∧ n ≤ cap ∧ cap ≤ maxLen := by
  rcases h.2 with ⟨rfl, hn⟩ | ⟨g, cap, cur, rfl, hb, hg, h1, h2, -⟩
  · exact ⟨none, 0, by rw [hn], by omega, by unfold maxLen; omega⟩
  · exact ⟨_, cap, rfl, h1, h2⟩
theorem E88 : ElemOK Tryz.prog 88 3 (.int .i64 0) 1 8 := ⟨Tryz.underlying88, by kernel_rfl, rfl, by decide⟩
theorem mk88 (n : Nat) (hn : n ≤ 1000000) (w : World) : (Instr.makeSlice 88 (.int .i64 0) (.int .i64 n)).run Tryz.prog w = .ok (.slice (some ⟨w.heap.size, 0, none⟩) 0 n) (w.alloc (.cells (madeCells #[.int .i64 0] n) 3)) := by
  obtain ⟨i, hi, hz0, hz1, hz2⟩ := info_parts E88.info
  have h := run_make (P := Tryz.prog) w 88 3 i _ E88.und hi hz0 .i64 .i64 0 n (Int.le_refl _) (by omega) (by rw [hz2]; omega) (by omega)
  rw [Int.toNat_natCast, hz1, Nat.mul_one] at h
  exact h
theorem own_made (n : Nat) (hn : n ≤ 1000000) (w : World) (base : Nat) (hb : base ≤ w.heap.size) : (w.alloc (.cells (madeCells #[.int .i64 0] n) 3)).ownsRow base 3 1 (.slice (some ⟨w.heap.size, 0, none⟩) 0 n) 0 [] :=
  ⟨rfl, .inr ⟨w.heap.size, n, madeCells #[.int .i64 0] n, rfl, hb, heap_alloc_new w _, Nat.zero_le _, by unfold maxLen; omega, by simp [madeCells], by simp⟩⟩
/-- A function value that answers d. -/
def AnsD (w : World) (f : Value) (d : Nat → Int) : Prop :=
  ∃ (k : Nat) (caps : Array Value), f = .func (.func k) #[] caps ∧ (∀ args w, (callFunc k args).run Tryz.prog w = .ok (.enter k args) w) ∧
    ∀ i : Nat, i ≤ 1000000 → ∀ W, Below w.heap.size w W → Calls Tryz.prog k (#[.int .i64 i] ++ caps) W fun e w' => e = .returned (.int .i64 (d i)) ∧ Below W.heap.size W w'
set_option maxRecDepth 100000 in
set_option maxHeartbeats 2000000 in
theorem fold_any (n N : Nat) (c : Int) (f : Value) (d : Nat → Int) (w : World) (hf : AnsD w f d) (hnN : n ≤ N) (hN : N ≤ 100000)
    (hbd : ∀ i, i < N → -10000 ≤ d i + N3.cK d c i ∧ d i + N3.cK d c i ≤ 1000000000000) (hgo : ∀ i, n ≤ i → i < N → N3.cK d c i ≠ 0) (hend : N3.cK d c N = 0) :
    Calls Tryz.prog 121 #[.int .i64 n, .int .i64 c, f] w fun e w' => ∃ v', e = .returned v' ∧ IntsAt w' v' (castL (N3.outK d c N)) ∧ Below w.heap.size w w' := by
  obtain ⟨kf, caps, rfl, hent, hans⟩ := hf
  have HA := Lib.hid hans
  have HB := Lib.hid hbd
  have HG := Lib.hid hgo
  have HE := Lib.hid hend
  clear hans hbd hgo hend
  have hw1 : IntKind.i64.wrap ((n : Int) + 1) = (n : Int) + 1 := by rw [IntKind.wrap_i64]; omega
  have hmk := mk88 (n + 1) (by omega) w
  rw [show ((n + 1 : Nat) : Int) = (n : Int) + 1 by omega] at hmk
  have hown := own_made (n + 1) (by omega) w w.heap.size (Nat.le_refl _)
  have HO := Lib.hid hown
  have hB0 : Below w.heap.size w (w.alloc (.cells (madeCells #[.int .i64 0] (n + 1)) 3)) := (Below.refl _ _).alloc (Nat.le_refl _) _
  clear hown
  go_enter Tryz.func121, Tryz.ntmps121
  go_wp2
  go_loopw [1, 7, 8, 9] (fun u1 u7 u8 u9 wr => ∃ (k : Nat), k ≤ N ∧ u1 = .int .i64 (N3.cK d c k) ∧ wr.ownsRow w.heap.size 3 1 u7 k ((castL (N3.outK d c k)).map (Value.int .i64)) ∧ u8 = .int .i64 k ∧ Below w.heap.size w wr) (fun _ _ u8 _ _ => ((N : Int) - Go.RowKit.intOf u8).toNat)
  case atStart => exact ⟨0, Nat.zero_le _, rfl, HO.out, rfl, hB0⟩
  case round =>
    obtain ⟨k, hk, rfl, hown, rfl, hBr⟩ := hrel
    rename World => wr
    obtain ⟨ra, rc, rfl, hr1, hr2⟩ := owned_len hown
    unfold maxLen at hr2
    by_cases hkN : k < N
    · have hc := Lib.hid (HA.out k (by omega) wr hBr)
      obtain ⟨b1, b2⟩ := HB.out k hkN
      obtain ⟨e1, e2, e3⟩ := N3.carry_digit b1
      have hstep : Hid (N3.cK d c (k + 1) = N3.carry (d k + N3.cK d c k) ∧ (castL (N3.outK d c (k + 1))).map (Value.int .i64) = (castL (N3.outK d c k)).map (Value.int .i64) ++ [.int .i64 (N3.digit (d k + N3.cK d c k))]) := by
        refine ⟨rfl, ?_⟩
        rw [N3.outK_succ]
        unfold castL
        rw [List.map_append, List.map_append]
        congr 1
        show [Value.int .i64 ((N3.oK d c k).toNat : Int)] = _
        rw [show ((N3.oK d c k).toNat : Int) = N3.digit (d k + N3.cK d c k) by unfold N3.oK; omega]
      have hgo : k < n ∨ (n ≤ k ∧ N3.cK d c k ≠ 0) := by
        rcases Nat.lt_or_ge k n with h | h
        · exact .inl h
        · exact .inr ⟨h, HG.out k h hkN⟩
      have hs : N3.carry (d k + N3.cK d c k) = (if d k + N3.cK d c k < 0 then -1 else (d k + N3.cK d c k) / 10000) ∧ N3.digit (d k + N3.cK d c k) = (if d k + N3.cK d c k < 0 then d k + N3.cK d c k + 10000 else (d k + N3.cK d c k) % 10000) := ⟨rfl, rfl⟩
      generalize N3.carry (d k + N3.cK d c k) = cr at hstep hs e1
      generalize N3.digit (d k + N3.cK d c k) = dg at hstep hs e1 e2 e3
      have HOWN := Lib.hid hown
      clear hown
      generalize N3.cK d c k = ck at *
      generalize d k = dk at *
      have hws : IntKind.i64.wrap (dk + ck) = dk + ck := by rw [IntKind.wrap_i64]; omega
      have hbk : w.heap.size ≤ wr.heap.size := hBr.size
      by_cases hneg : dk + ck < 0
      · rw [if_pos hneg, if_pos hneg] at hs
        obtain ⟨rfl, rfl⟩ := hs
        have q1 : (dk + ck < 0) = True := eq_true hneg
        have hwn : IntKind.i64.wrap (dk + ck + 10000) = dk + ck + 10000 := by rw [IntKind.wrap_i64]; omega
        have HGO := hgo
        clear hgo e1 e2 e3 b1 b2
        rcases HGO with h | ⟨h, h0⟩
        · go_wp2_with fail
          refine hc.out.mono ?_
          rintro e w2 ⟨rfl, hB2⟩
          have hown2 := owned_below HOWN.out hB2
          have hs2 : wr.heap.size ≤ w2.heap.size := hB2.size
          go_wp2_with (at_builtin; refine wpList_push E88 rfl _ _ rfl w.heap.size hown2 rfl rfl rfl (by unfold maxLen; omega) (by omega) (by omega) ?_; intro v' w3 ho3 hg3 hB3)
          go_roundw
          case rel => exact ⟨k + 1, by omega, by rw [hstep.out.1], by rw [hstep.out.2]; exact ho3, by go_num, (hBr.trans (hB2.mono hBr.size)).trans hB3⟩
          case measure => simp [Go.RowKit.intOf]; omega
        · have q0 : (ck != 0) = true := bne_iff_ne.2 h0
          go_wp2_with fail
          refine hc.out.mono ?_
          rintro e w2 ⟨rfl, hB2⟩
          have hown2 := owned_below HOWN.out hB2
          have hs2 : wr.heap.size ≤ w2.heap.size := hB2.size
          go_wp2_with (at_builtin; refine wpList_push E88 rfl _ _ rfl w.heap.size hown2 rfl rfl rfl (by unfold maxLen; omega) (by omega) (by omega) ?_; intro v' w3 ho3 hg3 hB3)
          go_roundw
          case rel => exact ⟨k + 1, by omega, by rw [hstep.out.1], by rw [hstep.out.2]; exact ho3, by go_num, (hBr.trans (hB2.mono hBr.size)).trans hB3⟩
          case measure => simp [Go.RowKit.intOf]; omega
      · rw [if_neg hneg, if_neg hneg] at hs
        have q1 : (dk + ck < 0) = False := eq_false hneg
        obtain ⟨ds, hds⟩ : ∃ s, dk + ck = s := ⟨_, rfl⟩
        rw [hds] at hs q1 hneg
        by_cases hbig : 10000 ≤ ds
        · obtain ⟨rfl, rfl⟩ := hs
          have q2 : (10000 ≤ ds) = True := eq_true hbig
          have hq : Int.tdiv ds 10000 = ds / 10000 := Int.tdiv_eq_ediv_of_nonneg (by omega)
          have hr : Int.tmod ds 10000 = ds % 10000 := Int.tmod_eq_emod_of_nonneg (by omega)
          have hwq : IntKind.i64.wrap (ds / 10000) = ds / 10000 := by rw [IntKind.wrap_i64]; omega
          have hwr : IntKind.i64.wrap (ds % 10000) = ds % 10000 := by rw [IntKind.wrap_i64]; omega
          rw [hds] at hws
          have HGO := hgo
          clear hgo e1 e2 e3 b1 b2
          rcases HGO with h | ⟨h, h0⟩
          · go_wp2_with fail
            refine hc.out.mono ?_
            rintro e w2 ⟨rfl, hB2⟩
            have hown2 := owned_below HOWN.out hB2
            have hs2 : wr.heap.size ≤ w2.heap.size := hB2.size
            go_wp2_with (at_builtin; refine wpList_push E88 rfl _ _ rfl w.heap.size hown2 rfl rfl rfl (by unfold maxLen; omega) (by omega) (by omega) ?_; intro v' w3 ho3 hg3 hB3)
            go_roundw
            case rel => exact ⟨k + 1, by omega, by rw [hstep.out.1], by rw [hstep.out.2]; exact ho3, by go_num, (hBr.trans (hB2.mono hBr.size)).trans hB3⟩
            case measure => simp [Go.RowKit.intOf]; omega
          · have q0 : (ck != 0) = true := bne_iff_ne.2 h0
            go_wp2_with fail
            refine hc.out.mono ?_
            rintro e w2 ⟨rfl, hB2⟩
            have hown2 := owned_below HOWN.out hB2
            have hs2 : wr.heap.size ≤ w2.heap.size := hB2.size
            go_wp2_with (at_builtin; refine wpList_push E88 rfl _ _ rfl w.heap.size hown2 rfl rfl rfl (by unfold maxLen; omega) (by omega) (by omega) ?_; intro v' w3 ho3 hg3 hB3)
            go_roundw
            case rel => exact ⟨k + 1, by omega, by rw [hstep.out.1], by rw [hstep.out.2]; exact ho3, by go_num, (hBr.trans (hB2.mono hBr.size)).trans hB3⟩
            case measure => simp [Go.RowKit.intOf]; omega
        · have hs' : 0 = cr ∧ ds = dg := by rw [hs.1, hs.2]; omega
          obtain ⟨rfl, rfl⟩ := hs'
          have q2 : (10000 ≤ ds) = False := eq_false hbig
          rw [hds] at hws
          clear hs
          have HGO := hgo
          clear hgo e1 e2 e3 b1 b2
          rcases HGO with h | ⟨h, h0⟩
          · go_wp2_with fail
            refine hc.out.mono ?_
            rintro e w2 ⟨rfl, hB2⟩
            have hown2 := owned_below HOWN.out hB2
            have hs2 : wr.heap.size ≤ w2.heap.size := hB2.size
            go_wp2_with (at_builtin; refine wpList_push E88 rfl _ _ rfl w.heap.size hown2 rfl rfl rfl (by unfold maxLen; omega) (by omega) (by omega) ?_; intro v' w3 ho3 hg3 hB3)
            go_roundw
            case rel => exact ⟨k + 1, by omega, by rw [hstep.out.1], by rw [hstep.out.2]; exact ho3, by go_num, (hBr.trans (hB2.mono hBr.size)).trans hB3⟩
            case measure => simp [Go.RowKit.intOf]; omega
          · have q0 : (ck != 0) = true := bne_iff_ne.2 h0
            go_wp2_with fail
            refine hc.out.mono ?_
            rintro e w2 ⟨rfl, hB2⟩
            have hown2 := owned_below HOWN.out hB2
            have hs2 : wr.heap.size ≤ w2.heap.size := hB2.size
            go_wp2_with (at_builtin; refine wpList_push E88 rfl _ _ rfl w.heap.size hown2 rfl rfl rfl (by unfold maxLen; omega) (by omega) (by omega) ?_; intro v' w3 ho3 hg3 hB3)
            go_roundw
            case rel => exact ⟨k + 1, by omega, by rw [hstep.out.1], by rw [hstep.out.2]; exact ho3, by go_num, (hBr.trans (hB2.mono hBr.size)).trans hB3⟩
            case measure => simp [Go.RowKit.intOf]; omega
    · obtain rfl : k = N := by omega
      have hv : IntsAt wr (.slice ra k rc) (castL (N3.outK d c k)) := by
        have hl : (castL (N3.outK d c k)).length = k := by rw [castL_len, N3.outK_len]
        exact owned_slice (by rw [hl]; exact hown)
      have h0 := HE.out
      have hkn : ¬ k < n := by omega
      rw [h0]
      clear hown h0
      go_wp2
      go_ret
      exact ⟨_, rfl, hv, hBr⟩
end Go.Proofs.YtjnpenljgfdaiaaGreatDoor
