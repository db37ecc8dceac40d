/- package journal: Append. -/
import Derived.Test.YtnckpnbecmmcpaaGreatDoorJG
namespace Go.Proofs.YtnckpnbecmmcpaaGreatDoor
open Go.RowKit Lib
theorem headS_fold (L m : List ByteArray) : headS (L ++ m) = m.foldl chainS (headS L) := by unfold headS; rw [List.foldl_append]
theorem outS_snoc (L m : List ByteArray) (x : ByteArray) : outS L (m ++ [x]) = outS L m ++ storedS (headS (L ++ m)) x := by
  unfold outS
  rw [tapeS_snoc, headS_fold]
theorem append_nilCase {n : Nat} {J : JouD} {D : DiskD} {l : List ByteArray} (h : J.broken = true ∨ longB l = true) : appE n J D l = 340 ∧ appJ n J D l = J ∧ appD n J D l = D := by
  unfold appE appJ appD; rw [if_pos h, if_pos h, if_pos h]; exact ⟨rfl, rfl, rfl⟩
theorem append_full {n : Nat} {J : JouD} {D : DiskD} {l : List ByteArray} (h : ¬ (J.broken = true ∨ longB l = true)) (hf : (n : Int) - (tapeN J.L : Int) < ((outS J.L l).size : Int)) : appE n J D l = 341 ∧ appJ n J D l = J ∧ appD n J D l = D := by
  unfold appE appJ appD; rw [if_neg h, if_neg h, if_neg h, if_pos hf, if_pos hf, if_pos hf]; exact ⟨rfl, rfl, rfl⟩
theorem append_none {n : Nat} {J : JouD} {D : DiskD} {l : List ByteArray} (h : ¬ (J.broken = true ∨ longB l = true)) (hf : ¬ (n : Int) - (tapeN J.L : Int) < ((outS J.L l).size : Int)) (h0 : (outS J.L l).size = 0) : appE n J D l = 0 ∧ appJ n J D l = J ∧ appD n J D l = D := by
  unfold appE appJ appD; rw [if_neg h, if_neg h, if_neg h, if_neg hf, if_neg hf, if_neg hf, if_pos h0, if_pos h0, if_pos h0]; exact ⟨rfl, rfl, rfl⟩
theorem append_go {n : Nat} {J : JouD} {D : DiskD} {l : List ByteArray} (h : ¬ (J.broken = true ∨ longB l = true)) (hf : ¬ (n : Int) - (tapeN J.L : Int) < ((outS J.L l).size : Int)) (h0 : ¬ (outS J.L l).size = 0) :
    appE n J D l = (seqD (app4 J.L l) D).1 ∧ appJ n J D l = (if (seqD (app4 J.L l) D).1 = 0 then ⟨J.L ++ l, J.broken⟩ else ⟨J.L, true⟩) ∧ appD n J D l = (seqD (app4 J.L l) D).2 := by
  unfold appE appJ appD; rw [if_neg h, if_neg h, if_neg h, if_neg hf, if_neg hf, if_neg hf, if_neg h0, if_neg h0, if_neg h0]; exact ⟨rfl, rfl, rfl⟩
/-- Blocks that are not of bytes are kept by a builder's calls. -/
theorem kept_blk {V V' : World} {b k : Nat} {cs : Array Value} {t : TypeId} (h : Blk V k cs t) (ho : OthersKept 5 (some b) V V') (ht : t ≠ 5) (hk : k ≠ b) : Blk V' k cs t :=
  ho k _ h (fun e => hk (Option.some.inj e)) (fun c fz e => by injection e with e1 e2 e3; exact ht e2)
theorem kept_row {V V' : World} {b base n : Nat} {v : Value} {xs : List Value} {cs : Array Value} {t : TypeId} (h : V.ownsRow base 9 1 v n xs) (hb : Blk V b cs t) (ht : t ≠ 9) (ho : OthersKept 5 (some b) V V') : V'.ownsRow base 9 1 v n xs :=
  owned_kept h (fun g hg => by
    obtain ⟨cur, hc, -⟩ := owned_block h hg
    exact (kept_blk hc ho (by decide) (hc.ne hb (fun e => ht e.symm))).trans hc.symm)
theorem isB_blk {T e : TypeId} {B b : Nat} {bs : List Value} {V : World} (h : IsBuilderF T e B b bs V) : ∃ c, Blk V b c T := by
  rcases h with ⟨-, v, h, -⟩ | ⟨-, v, h, -⟩ <;> exact ⟨_, h⟩
theorem isB_frm {T e : TypeId} {B b : Nat} {bs : List Value} {V V' : World} {G : Nat → Prop} (h : IsBuilderF T e B b bs V) (hf : Frm G V V') (hb : ¬ G b) (hG : ∀ k c fz, V.heap[k]? = some (.cells c e fz) → ¬ G k) : IsBuilderF T e B b bs V' := by
  have one : ∀ p, BuilderAtF T e B b p bs V → BuilderAtF T e B b p bs V' := by
    rintro p ⟨h1, v, h2, h3, h4⟩
    refine ⟨h1, v, (hf.block b (Array.getElem?_eq_some_iff.1 h2).1 hb).trans h2, ⟨h3.1, h3.2.imp_right ?_⟩, h4⟩
    rintro ⟨g, cap, cur, fz, q1, q2, q3, q4⟩
    exact ⟨g, cap, cur, fz, q1, q2, (hf.block g (Array.getElem?_eq_some_iff.1 q3).1 (hG g _ _ q3)).trans q3, q4⟩
  exact h.imp (one _) (one _)
theorem app_first {W Va V1 V2 : World} {B n Jb : Nat} {D : DiskD} {Fa : Nat → Prop} {a1 a2 : Int} {s1 s2 : ByteArray} {c2 : Value} (h : OwnF W B n D Fa) (hp : D.pend.length ≤ 90000) (hb : Below W.heap.size W Va) (hJlt : Jb < W.heap.size) (hJF : ¬ Fa Jb)
    (hc2 : Va.cell? ⟨Jb, 2, none⟩ = some c2) (hc3 : Va.cell? ⟨Jb, 3, none⟩ = some (.pointer (some ⟨B, 0, none⟩))) (hV1 : V1 = boxes3 Va Jb a1 s1) (hV2 : V2 = boxes3 V1 Jb a2 s2) :
    (V1.cell? ⟨Jb, 2, none⟩ = some c2 ∧ V1.cell? ⟨Jb, 3, none⟩ = some (.pointer (some ⟨B, 0, none⟩))) ∧ (V2.cell? ⟨Jb, 2, none⟩ = some c2 ∧ V2.cell? ⟨Jb, 3, none⟩ = some (.pointer (some ⟨B, 0, none⟩))) ∧
    ((V2.alloc (.cells #[fvW Va.heap.size, fvS B, fvW V1.heap.size, fvS B] 85)).cell? ⟨Jb, 2, none⟩ = some c2 ∧ (V2.alloc (.cells #[fvW Va.heap.size, fvS B, fvW V1.heap.size, fvS B] 85)).cell? ⟨Jb, 3, none⟩ = some (.pointer (some ⟨B, 0, none⟩))) ∧
    Below Va.heap.size Va (V2.alloc (.cells #[fvW Va.heap.size, fvS B, fvW V1.heap.size, fvS B] 85)) ∧
    Calls Tryz.prog 40 #[.slice (some ⟨V2.heap.size, 0, none⟩) 4 4] (V2.alloc (.cells #[fvW Va.heap.size, fvS B, fvW V1.heap.size, fvS B] 85)) fun e' w' =>
      e' = .returned (.int .i64 (seqD [wrO a1 s1, syO, wrO a2 s2, syO] D).1) ∧ OwnF w' B n (seqD [wrO a1 s1, syO, wrO a2 s2, syO] D).2 (fun k => (Fa k ∧ k < W.heap.size) ∨ (V2.alloc (.cells #[fvW Va.heap.size, fvS B, fvW V1.heap.size, fvS B] 85)).heap.size ≤ k) ∧
      Frm (fun k => (Fa k ∧ k < W.heap.size) ∨ (V2.alloc (.cells #[fvW Va.heap.size, fvS B, fvW V1.heap.size, fvS B] 85)).heap.size ≤ k) (V2.alloc (.cells #[fvW Va.heap.size, fvS B, fvW V1.heap.size, fvS B] 85)) w' ∧
      w'.cell? ⟨Jb, 2, none⟩ = some c2 ∧ w'.cell? ⟨Jb, 3, none⟩ = some (.pointer (some ⟨B, 0, none⟩)) := by
  obtain ⟨p1, p2, p3, p4, p5⟩ := boxes3_facts Va Jb a1 s1
  rw [← hV1] at p1 p2 p3 p4 p5
  obtain ⟨q1, q2, q3, q4, q5⟩ := boxes3_facts V1 Jb a2 s2
  rw [← hV2] at q1 q2 q3 q4 q5
  clear hV1 hV2
  have hVs := hb.size
  have hcc : ∀ V, Below Va.heap.size Va V → V.cell? ⟨Jb, 2, none⟩ = some c2 ∧ V.cell? ⟨Jb, 3, none⟩ = some (.pointer (some ⟨B, 0, none⟩)) := fun V hV =>
    ⟨(hV.cell (p := ⟨Jb, 2, none⟩) (by show Jb < _; omega)).trans hc2, (hV.cell (p := ⟨Jb, 3, none⟩) (by show Jb < _; omega)).trans hc3⟩
  have b12 := p4.trans (q4.mono p4.size)
  have hb3 : Below V2.heap.size V2 (V2.alloc (.cells #[fvW Va.heap.size, fvS B, fvW V1.heap.size, fvS B] 85)) := (Below.refl _ _).alloc (Nat.le_refl _) _
  have b13 := b12.trans (hb3.mono b12.size)
  have hg : Blk (V2.alloc (.cells #[fvW Va.heap.size, fvS B, fvW V1.heap.size, fvS B] 85)) V2.heap.size #[fvW Va.heap.size, fvS B, fvW V1.heap.size, fvS B] 85 := Blk.new _ _ _
  have hs3 : (V2.alloc (.cells #[fvW Va.heap.size, fvS B, fvW V1.heap.size, fvS B] 85)).heap.size = Va.heap.size + 7 := by simp; omega
  have hbW := hb.trans (b13.mono hb.size)
  refine ⟨hcc _ p4, hcc _ b12, hcc _ b13, b13, ?_⟩
  generalize V2.alloc (.cells #[fvW Va.heap.size, fvS B, fvW V1.heap.size, fvS B] 85) = V3 at hb3 hg hs3 b13 hbW
  have hO := own_first h hbW
  have hin : ∀ q, W.heap.size ≤ q → q < V3.heap.size → ¬ ((Fa q ∧ q < W.heap.size) ∨ V3.heap.size ≤ q) := fun q h1 h2 h3 => by
    rcases h3 with ⟨-, h3⟩ | h3 <;> omega
  have hJn : ¬ ((Fa Jb ∧ Jb < W.heap.size) ∨ V3.heap.size ≤ Jb) := fun h3 => by
    rcases h3 with ⟨h3, -⟩ | h3
    · exact hJF h3
    · omega
  have hcl1 : ∀ {q : Nat} {v : Value}, q < V1.heap.size → V1.cell? ⟨q, 0, none⟩ = some v → V3.cell? ⟨q, 0, none⟩ = some v := fun {q v} hq hc => ((q4.trans (hb3.mono q4.size)).cell (p := ⟨q, 0, none⟩) hq).trans hc
  have hcl2 : ∀ {q : Nat} {v : Value}, q < V2.heap.size → V2.cell? ⟨q, 0, none⟩ = some v → V3.cell? ⟨q, 0, none⟩ = some v := fun {q v} hq hc => (hb3.cell (p := ⟨q, 0, none⟩) hq).trans hc
  have hw1 := write_acts (w0 := V3) (B := B) (n := n) (F := fun k => (Fa k ∧ k < W.heap.size) ∨ V3.heap.size ≤ k) (q1 := Va.heap.size) (q2 := Va.heap.size + 1) (q3 := Va.heap.size + 2) (Jb := Jb) (at_ := a1) (s := s1) (fun k hk => .inr hk)
    (hcl1 (by omega) p1) (hcl1 (by omega) p2) (hcl1 (by omega) p3) (hcc V3 b13).2 (hin _ (by omega) (by omega)) (hin _ (by omega) (by omega)) (hin _ (by omega) (by omega)) hJn
  have hw2 := write_acts (w0 := V3) (B := B) (n := n) (F := fun k => (Fa k ∧ k < W.heap.size) ∨ V3.heap.size ≤ k) (q1 := V1.heap.size) (q2 := V1.heap.size + 1) (q3 := V1.heap.size + 2) (Jb := Jb) (at_ := a2) (s := s2) (fun k hk => .inr hk)
    (hcl2 (by omega) q1) (hcl2 (by omega) q2) (hcl2 (by omega) q3) (hcc V3 b13).2 (hin _ (by omega) (by omega)) (hin _ (by omega) (by omega)) (hin _ (by omega) (by omega)) hJn
  have hf := first40 (w0 := V3) [(fvW Va.heap.size, wrO a1 s1), (fvS B, syO), (fvW V1.heap.size, wrO a2 s2), (fvS B, syO)] V2.heap.size hg (hin _ (by omega) (by have := hg.lt; omega)) (fun p hp => by
    simp only [List.mem_cons, List.mem_nil_iff, or_false] at hp
    rcases hp with rfl | rfl | rfl | rfl
    · exact hw1
    · exact sync_acts _ _ _ _
    · exact hw2
    · exact sync_acts _ _ _ _) (by simp) (by simp) hO (by omega)
  refine hf.mono ?_
  rintro e' w' ⟨h1, h2, h3⟩
  exact ⟨h1, h2, h3, frm_cell h3 (hcc V3 b13).1 hJn, frm_cell h3 (hcc V3 b13).2 hJn⟩
theorem own_setJ {W : World} {B n Jb : Nat} {D : DiskD} {F : Nat → Prop} {cs : Array Value} (h : OwnF W B n D F) (hb : Blk W Jb cs 74) (o : Nat) (v : Value) : OwnF (W.setCell ⟨Jb, o, none⟩ v) B n D F :=
  ((h.away hb (by decide) (by decide) (by decide)).frm (G := fun k => k = Jb) ((Frm.refl (fun k => k = Jb) W).setCell (b := Jb) (o := o) (fun _ => rfl) v) (fun _ _ h => h.2)).mono (fun _ _ h => h.1)
theorem row_setJ {W : World} {Jb o base n : Nat} {v u : Value} {xs : List Value} (h : W.ownsRow base 9 1 v n xs) (hne : ∀ g, v.ownBlock = some g → g ≠ Jb) : (W.setCell ⟨Jb, o, none⟩ u).ownsRow base 9 1 v n xs :=
  owned_kept h (fun g hg => Below.heap_setCell _ _ _ _ (fun e => hne g hg e))
set_option maxRecDepth 100000 in
theorem append_nil10 (v : Value) (W : World) : Calls Tryz.prog 10 #[.pointer none, v] W fun e w' => e = .returned (.int .i64 1) ∧ W = w' := by
  go_enter Tryz.func10, Tryz.ntmps10
  go_wp2
  go_ret
  exact ⟨rfl, rfl⟩
attribute [local irreducible] wpStill
set_option maxRecDepth 100000 in
set_option maxHeartbeats 4000000 in
theorem append10 {W : World} {base Jb B n : Nat} {J : JouD} {D : DiskD} {F : Nat → Prop} (hJ : JouAt W base Jb B J) (h : OwnF W B n D F) (hF : ∀ k, W.heap.size ≤ k → F k) (hp : D.pend.length ≤ 90000) (hn : n ≤ 100000) (hT : RoundT W)
    (hfit : tapeN J.L ≤ n) (hJL : ∀ t ∈ J.L, t.size ≤ 65536) (vl : Value) (l : List ByteArray) (hl : StrsAt W vl l) (hll : l.length ≤ 1000) :
    Calls Tryz.prog 10 #[.pointer (some ⟨Jb, 0, none⟩), vl] W fun e w' => e = .returned (.int .i64 (appE n J D l)) ∧ OwnF w' B n (appD n J D l) F ∧ JouAt w' 0 Jb B (appJ n J D l) ∧ Frm (fun k => F k ∨ k = Jb) W w' := by
  have hJ0 := hJ.mono (Nat.zero_le _)
  have HH := Lib.hid (And.intro h (And.intro hJ0 hT))
  have HL := Lib.hid hl
  have hcon := containsS vl (.func (.func 34) #[] #[]) l longP W hl (long_ans W l)
  rw [← longB_any] at hcon
  have HCON := Lib.hid hcon
  obtain ⟨vr, hb, hs⟩ := hJ.strs
  have c4 := hb.cell 4
  simp only [List.getElem?_toArray, List.getElem?_cons_zero, List.getElem?_cons_succ] at c4
  obtain ⟨la, lc, rfl, hle, hcm⟩ := strs_len hl
  unfold maxLen at hcm
  have hF0 := Lib.hid hF
  clear hcon hJ h hT hF hl hJ0
  by_cases hbr : J.broken = true ∨ longB l = true
  · obtain ⟨o1, o2, o3⟩ := append_nilCase (n := n) (D := D) hbr
    rw [o1, o2, o3]
    clear o1 o2 o3
    cases hB : J.broken with
    | true =>
      rw [hB] at c4
      clear hbr hB
      go_enter Tryz.func10, Tryz.ntmps10
      go_wp2
      go_ret
      exact ⟨rfl, HH.out.1, HH.out.2.1, Frm.refl _ _⟩
    | false =>
      rw [hB] at c4
      have hlg : longB l = true := by rcases hbr with h | h; (rw [hB] at h; cases h); exact h
      rw [hlg] at HCON
      clear hbr hB hlg
      go_enter Tryz.func10, Tryz.ntmps10
      go_wp2_with (go_at_call 35; refine HCON.out.mono ?_; rintro e w9 ⟨rfl, hb9⟩)
      go_ret
      exact ⟨rfl, HH.out.1.below hb9, HH.out.2.1.below hb9, Frm.of_below hb9⟩
  · have hB : J.broken = false := by cases hq : J.broken with | false => rfl | true => exact absurd (.inl hq) hbr
    have hlg : longB l = false := by cases hq : longB l with | false => rfl | true => exact absurd (.inr hq) hbr
    rw [hB] at c4
    rw [hlg] at HCON
    have HBR := Lib.hid hbr
    clear hbr hlg
    go_enter Tryz.func10, Tryz.ntmps10
    go_upto_region 6 with (go_at_call 35; refine HCON.out.mono ?_; rintro e w1 ⟨rfl, hb1⟩)
    obtain ⟨ra, rc, rfl, hrle, hrcm⟩ := strs_len hs
    have hlong : ∀ t ∈ l, t.size ≤ 65536 := fun t ht => by
      have hlb : ¬ longB l = true := fun h => HBR.out (.inr h)
      refine Classical.byContradiction fun hc => hlb ?_
      unfold longB
      rw [List.any_eq_true]
      exact ⟨t, ht, by simp; omega⟩
    have HLONG := Lib.hid hlong
    have hb' := hb.below hb1 hb.lt
    have hs1 := hs.below hb1
    have d0 := hb'.cell 0
    have d1 := hb'.cell 1
    have d2 := hb'.cell 2
    simp only [List.getElem?_toArray, List.getElem?_cons_zero, List.getElem?_cons_succ] at d0 d1 d2
    have HBJ := Lib.hid (And.intro hb hs)
    clear hb hs hb' hlong c4
    go_upto_region 7 with (fail)
    have kT := Blk.new w1 #[.slice ra J.L.length rc, .string (headS J.L), .int .i64 (tapeN J.L : Int)] 72
    have hb6 := (Below.refl w1.heap.size w1).alloc (Nat.le_refl _) (.cells #[.slice ra J.L.length rc, .string (headS J.L), .int .i64 (tapeN J.L : Int)] 72)
    have hs6 := hs1.below hb6
    have hB6 := hb1.trans (hb6.mono hb1.size)
    generalize w1.alloc (.cells #[.slice ra J.L.length rc, .string (headS J.L), .int .i64 (tapeN J.L : Int)] 72) = w6 at kT hs6 hB6 ⊢
    obtain ⟨Tb, hTb⟩ : ∃ Tb, w1.heap.size = Tb := ⟨_, rfl⟩
    have hTbW : W.heap.size ≤ Tb := by rw [← hTb]; exact hb1.size
    rw [hTb] at kT ⊢
    clear hb6 hs1 d0 d1 d2 hb1 hTb
    have hJl := tapeN_len J.L
    have hc36 := clone36 _ _ _ hs6 (by omega)
    have hTlt := kT.lt
    have e0 := kT.cell 0
    simp only [List.getElem?_toArray, List.getElem?_cons_zero] at e0
    have HT6 := Lib.hid (And.intro kT hB6)
    clear kT hB6 hs6
    go_upto_region 8 with (go_at_call 36; refine hc36.mono ?_; rintro e w7 ⟨v7, rfl, o7, b7⟩; have k7 := HT6.out.1.below b7 hTlt; have f7 := k7.frozen 0; have g7 := k7.cell 0; simp only [List.getElem?_toArray, List.getElem?_cons_zero] at g7; obtain ⟨ca, cc, rfl, -⟩ := owned_len o7)
    obtain ⟨v7, hv7⟩ : ∃ v7, v7 = Value.slice ca J.L.length cc := ⟨_, rfl⟩
    rw [← hv7] at o7 ⊢
    have hne7 : ∀ g, v7.ownBlock = some g → g ≠ Tb := fun g hg e => by
      obtain ⟨cur, hc, -⟩ := owned_block o7 hg
      exact hc.ne k7 (by decide) e
    have k8 : Blk (w7.setCell ⟨Tb, 0, none⟩ v7) Tb #[v7, .string (headS J.L), .int .i64 (tapeN J.L : Int)] 72 := k7.set 0 v7
    have o8 : (w7.setCell ⟨Tb, 0, none⟩ v7).ownsRow W.heap.size 9 1 v7 J.L.length (J.L.map Value.string) := ownsRow_base (owned_kept o7 (fun g hg => Below.heap_setCell _ _ _ _ (fun e => hne7 g hg e))) HT6.out.2.size
    have b8 : Below W.heap.size W (w7.setCell ⟨Tb, 0, none⟩ v7) := (HT6.out.2.trans (b7.mono HT6.out.2.size)).setCell (p := ⟨Tb, 0, none⟩) hTbW v7
    clear hv7 o7 k7 f7 g7 b7 hne7 e0 hc36
    generalize w7.setCell ⟨Tb, 0, none⟩ v7 = w8 at k8 o8 b8 ⊢
    have k9 := k8.alloc (.cells #[.pointer none, .slice none 0 0] 78)
    have kB := Blk.new w8 #[.pointer none, .slice none 0 0] 78
    have b9 := b8.alloc b8.size (.cells #[.pointer none, .slice none 0 0] 78)
    have o9 : (w8.alloc (.cells #[.pointer none, .slice none 0 0] 78)).ownsRow W.heap.size 9 1 v7 J.L.length (J.L.map Value.string) := o8.alloc _
    obtain ⟨Bb, hBb⟩ : ∃ Bb, w8.heap.size = Bb := ⟨_, rfl⟩
    have hBbW : W.heap.size ≤ Bb := by rw [← hBb]; exact b8.size
    have hTB : Tb < Bb := by rw [← hBb]; exact k8.lt
    rw [hBb] at kB
    have bu9 : IsBuilderF 78 5 W.heap.size Bb (byteCells []) (w8.alloc (.cells #[.pointer none, .slice none 0 0] 78)) := .inl ⟨hBbW, .slice none 0 0, kB, World.ownsRowF_nil _ _ _ _, by simp [Value.ownBlock]⟩
    have HS9 := Lib.hid (And.intro k9 (And.intro o9 (And.intro bu9 b9)))
    clear k8 o8 b8 k9 kB b9 o9 bu9
    go_upto_region 9 with (fail)
    generalize w8.alloc (.cells #[.pointer none, .slice none 0 0] 78) = w9 at HS9 ⊢
    clear hBb
    have hnil : J.L ++ l.take 0 = J.L := by rw [List.take_zero, List.append_nil]
    have hout0 : bts (outS J.L (l.take 0)) = [] := rfl
    go_wp2
    go_loopw [9, 33] (fun _ u33 wr => ∃ (i : Nat) (vr' : Value), i ≤ l.length ∧ u33 = .int .i64 (i : Int) ∧ Blk wr Tb #[vr', .string (headS (J.L ++ l.take i)), .int .i64 (tapeN (J.L ++ l.take i) : Int)] 72 ∧ wr.ownsRow W.heap.size 9 1 vr' (J.L ++ l.take i).length ((J.L ++ l.take i).map Value.string) ∧
      IsBuilderF 78 5 W.heap.size Bb (byteCells (bts (outS J.L (l.take i)))) wr ∧ Below W.heap.size W wr) (fun _ u33 _ => (l.length - intOf u33).toNat)
    case atStart => exact ⟨0, v7, by omega, rfl, by rw [hnil]; exact HS9.out.1, by rw [hnil]; exact HS9.out.2.1, by rw [hout0]; exact HS9.out.2.2.1, HS9.out.2.2.2⟩
    case round =>
      clear hnil hout0 HS9
      obtain ⟨i, vr', hi, rfl, hk, ho, hbu, hbl⟩ := hrel
      by_cases hlt : i < l.length
      · have d1 : decide (i < l.length) = true := decide_eq_true hlt
        have ii : (0 : Int) ≤ (i : Int) ∧ (i : Int) < (l.length : Int) := by omega
        obtain ⟨bl, ol, rfl, hcl⟩ := strs_get (HL.out.below hbl) hlt
        have hxs := HLONG.out _ (List.getElem_mem hlt)
        have htk : l.take (i + 1) = l.take i ++ [l[i]] := List.take_succ_eq_append_getElem hlt
        have HTK := Lib.hid htk
        obtain ⟨M, hM⟩ : ∃ M, J.L ++ l.take i = M := ⟨_, rfl⟩
        have hM2 : J.L ++ l.take (i + 1) = M ++ [l[i]] := by rw [htk, ← hM, List.append_assoc]
        have hout := outS_snoc J.L (l.take i) l[i]
        rw [← htk, hM] at hout
        rw [hM] at hk ho
        generalize l[i] = x at hcl hxs hM2 hout
        have hMl : M.length ≤ 100000 ∧ tapeN M ≤ 1000000000 ∧ tapeN (l.take i) ≤ 100000000 := by
          have h1 : (l.take i).length ≤ 1000 := by rw [List.length_take]; omega
          have h2 : tapeN M = tapeN J.L + tapeN (l.take i) := by rw [← hM, tapeN_append]
          have h3 : tapeN (l.take i) ≤ 70000 * (l.take i).length := by
            have hmem : ∀ t ∈ l.take i, t.size ≤ 65536 := fun t ht => HLONG.out t (List.mem_of_mem_take ht)
            generalize l.take i = q at hmem
            clear hM hM2 hout htk HTK hbu hk ho h2 h1
            induction q with
            | nil => exact Nat.le_refl 0
            | cons t q ih =>
              have := tapeN_append [t] q
              rw [List.singleton_append, tapeN_one] at this
              have h4 := putsT_size t (hmem t (by simp))
              have h5 := hmem t (by simp)
              have := ih (fun y hy => hmem y (by simp [hy]))
              simp only [List.length_cons]; omega
          have h4 : M.length = J.L.length + (l.take i).length := by rw [← hM, List.length_append]
          omega
        have hadd := add38 W.heap.size Tb 72 vr' M [] (tapeN M) x wr hk (by decide) ho hbl.size hMl.1 hMl.2.1 hxs (HH.out.2.2.below HH.out.2.2.1 hbl)
        have HADD := Lib.hid hadd
        have HBU := Lib.hid hbu
        have HBL := Lib.hid hbl
        have HK := Lib.hid hk
        have HO := Lib.hid ho
        have HM := Lib.hid (And.intro hM2 (And.intro hout hMl.2.2))
        clear hadd hbu hbl hk ho hM2 hout htk hMl hM
        go_wp2_with fail
        refine HADD.out.mono ?_
        rintro e wa ⟨rfl, vr2, ka, oa, fa, va⟩
        have hrowne : ∀ k, vr'.ownBlock = some k → ∃ cur, Blk wr k cur 9 ∧ W.heap.size ≤ k := fun k hk => owned_block HO.out hk
        obtain ⟨cB, hcB⟩ := isB_blk HBU.out
        have hba := isB_frm HBU.out fa (fun hc => by
          rcases hc with hc | hc
          · omega
          · obtain ⟨cur, h1, -⟩ := hrowne _ hc
            exact absurd rfl (h1.ne hcB (by decide))) (fun k c fz hk hc => by
          rcases hc with hc | hc
          · rw [hc] at hk
            have hkk : wr.heap[Tb]? = some (.cells _ 72 (0, 0)) := HK.out
            rw [hkk] at hk
            injection hk with e1; injection e1 with e2 e3 e4
            exact absurd e3 (by decide)
          · obtain ⟨cur, h1, -⟩ := hrowne _ hc
            have hkk : wr.heap[k]? = some (.cells cur 9 (0, 0)) := h1
            rw [hkk] at hk
            injection hk with e1; injection e1 with e2 e3 e4
            exact absurd e3 (by decide))
        have hbla : Below W.heap.size W wa := HBL.out.trans (fa.below HBL.out.size (fun k hc => by
          rcases hc with hc | hc
          · omega
          · obtain ⟨cur, -, h1⟩ := hrowne _ hc
            exact h1))
        obtain ⟨cBa, hcBa⟩ := isB_blk hba
        have hsz : (byteCells (bts (outS J.L (l.take i)))).length + (storedS (headS M) x).size ≤ 140737488355328 := by
          have h1 := outS_size J.L (l.take i)
          have h2 := HM.out.2.2
          have h3 := putsT_size x hxs
          rw [byteCells_length, bts_len, storedS_size]; omega
        have hwr := Tryz.Builder_WriteString_k W.heap.size Bb _ (storedS (headS M) x) wa hba hsz hbla.size
        have HWR := Lib.hid hwr
        have HXA := Lib.hid (And.intro ka (And.intro oa (And.intro hcBa hbla)))
        clear hba hbla hcBa hsz hwr ka oa fa va hrowne hcB
        go_wp2_with fail
        refine HWR.out.mono ?_
        rintro e wb ⟨rfl, hbu, hbb, hok⟩
        have hkb := kept_blk HXA.out.1 hok (by decide) (by omega)
        have hob := kept_row HXA.out.2.1 HXA.out.2.2.1 (by decide) hok
        have hblb : Below W.heap.size W wb := HXA.out.2.2.2.trans hbb
        go_wp2
        go_roundw
        case rel =>
          refine ⟨i + 1, vr2, by omega, by go_num, ?_, ?_, ?_, hblb⟩
          · rw [HM.out.1, tapeN_snoc]; exact hkb
          · rw [HM.out.1, List.length_append]; exact hob
          · rw [HM.out.2.1, bts_append, byteCells_append]
            exact .inr hbu
        case measure => simp [intOf]; omega
      · have he : i = l.length := by omega
        have d1 : decide (i < l.length) = false := decide_eq_false hlt
        rw [he, List.take_length] at hk ho hbu
        have HX := Lib.hid (And.intro hk (And.intro ho (And.intro hbu hbl)))
        obtain ⟨O, hO⟩ : ∃ O, outS J.L l = O := ⟨_, rfl⟩
        rw [hO] at hbu
        have hstr := Tryz.Builder_String_any_k W.heap.size Bb (bts O) wr hbu hbl.size
        have hOO : (⟨(bts O).toArray⟩ : ByteArray) = O := W01.str_ext (by simp [bts])
        rw [hOO] at hstr
        have HSTR := Lib.hid hstr
        have HOUT := Lib.hid hO
        clear hk ho hbu hbl he hstr hOO hO
        go_upto_region 15 with (go_at_call 39; refine HSTR.out.mono ?_; rintro e wc ⟨rfl, hbu, hbb, hok⟩)
        obtain ⟨cB, hcB⟩ := isB_blk HX.out.2.2.1
        have hkc := kept_blk HX.out.1 hok (by decide) (by omega)
        have hoc := kept_row HX.out.2.1 hcB (by decide) hok
        have hbc : Below W.heap.size W wc := HX.out.2.2.2.trans hbb
        have hrm := room20 (HH.out.2.1.below hbc) (HH.out.1.below hbc) (by omega)
        have hsz : O.size = tapeN l := by rw [← HOUT.out]; exact outS_size J.L l
        have HRM := Lib.hid hrm
        have HXC := Lib.hid (And.intro hkc (And.intro hoc hbc))
        have HSZ := Lib.hid hsz
        clear hkc hoc hbc hrm hcB hok hbb hbu hsz
        by_cases hful : (n : Int) - (tapeN J.L : Int) < (O.size : Int)
        · obtain ⟨o1, o2, o3⟩ := append_full (n := n) (D := D) HBR.out (by rw [HOUT.out]; exact hful)
          have d2 : decide ((n : Int) - (tapeN J.L : Int) < (O.size : Int)) = true := decide_eq_true hful
          have HOO := Lib.hid (And.intro o1 (And.intro o2 o3))
          clear o1 o2 o3 hful
          generalize (n : Int) - (tapeN J.L : Int) = rm at HRM d2
          go_wp2_with (go_at_call 20; refine HRM.out.mono ?_; rintro e wd ⟨rfl, hbd⟩)
          go_ret
          have hbw := HXC.out.2.2.trans (hbd.mono HXC.out.2.2.size)
          rw [HOO.out.1, HOO.out.2.1, HOO.out.2.2]
          exact ⟨rfl, HH.out.1.below hbw, HH.out.2.1.below hbw, Frm.of_below hbw⟩
        · have d2 : decide ((n : Int) - (tapeN J.L : Int) < (O.size : Int)) = false := decide_eq_false hful
          by_cases h0 : O.size = 0
          · obtain ⟨o1, o2, o3⟩ := append_none (n := n) (D := D) HBR.out (by rw [HOUT.out]; exact hful) (by rw [HOUT.out]; exact h0)
            have HOO := Lib.hid (And.intro o1 (And.intro o2 o3))
            have hOn : O = ⟨#[]⟩ := W01.str_ext (List.eq_nil_of_length_eq_zero h0)
            clear o1 o2 o3 h0
            subst hOn
            generalize (n : Int) - (tapeN J.L : Int) = rm at HRM d2
            have d3 : decide (rm < (0 : Int)) = false := d2
            clear hful
            go_wp2_with (go_at_call 20; refine HRM.out.mono ?_; rintro e wd ⟨rfl, hbd⟩)
            go_ret
            have hbw := HXC.out.2.2.trans (hbd.mono HXC.out.2.2.size)
            rw [HOO.out.1, HOO.out.2.1, HOO.out.2.2]
            exact ⟨rfl, HH.out.1.below hbw, HH.out.2.1.below hbw, Frm.of_below hbw⟩
          · obtain ⟨o1, o2, o3⟩ := append_go (n := n) (D := D) HBR.out (by rw [HOUT.out]; exact hful) (by rw [HOUT.out]; exact h0)
            have HOO := Lib.hid (And.intro o1 (And.intro o2 o3))
            have htn : O.toList.isEmpty = false := by
              rw [List.isEmpty_eq_false_iff]
              intro hc
              rw [Lib.toList_data] at hc
              exact h0 (by show O.data.toList.length = 0; rw [hc]; rfl)
            clear o1 o2 o3
            have HFUL := Lib.hid (And.intro hful h0)
            generalize (n : Int) - (tapeN J.L : Int) = rm at HRM d2
            clear hful h0
            go_upto_region 19 with (go_at_call 20; refine HRM.out.mono ?_; rintro e wd ⟨rfl, hbd⟩)
            obtain ⟨vr0, hb0, ho0⟩ := HH.out.2.1.ex
            have hA := (HH.out.1.away hb0 (by decide) (by decide) (by decide)).awayRow ho0 (by decide) (by decide) (by decide)
            have hbW : Below W.heap.size W wd := HXC.out.2.2.trans (hbd.mono HXC.out.2.2.size)
            have hbWd : Below W.heap.size W wd.drew := hbW.drew
            have hJd := hb0.below hbWd hb0.lt
            have kTd := HXC.out.1.below hbd HXC.out.1.lt
            have oTd := owned_below HXC.out.2.1 hbd
            have c2 : wd.drew.cell? ⟨Jb, 2, none⟩ = some (.int .i64 (tapeN J.L : Int)) := hJd.cell 2
            have c3 : wd.drew.cell? ⟨Jb, 3, none⟩ = some (.pointer (some ⟨B, 0, none⟩)) := hJd.cell 3
            have hO1 : 1 ≤ O.size := by have := HFUL.out.2; omega
            have i1 : (1 : Int) ≤ (O.size : Int) := by omega
            have wa1 : IntKind.i64.wrap ((tapeN J.L : Int) + 1) = (tapeN J.L : Int) + 1 := by rw [wrapS _ (by omega) (by omega)]
            have happ := fun V1 (h1 : V1 = boxes3 wd.drew Jb ((tapeN J.L : Int) + 1) (O.extract 1 O.size)) V2 (h2 : V2 = boxes3 V1 Jb (tapeN J.L : Int) (O.extract 0 1)) => app_first hA hp hbWd hb0.lt (fun h => h.1.2 rfl) c2 c3 h1 h2
            have HAPP := Lib.hid happ
            have HWD := Lib.hid (And.intro hb0 (And.intro ho0 (And.intro hbW (And.intro kTd oTd))))
            have HO1 := Lib.hid hO1
            clear happ hA hb0 ho0 hbW hbWd hJd kTd oTd htn HXC hbd d2 HRM hO1
            refine wp_region_noPanic ?_
            refine wp_region_held_drew (S := (fun w' => w'.cell? ⟨Jb, 2, none⟩ = some (.int .i64 (tapeN J.L : Int)) ∧ w'.cell? ⟨Jb, 3, none⟩ = some (.pointer (some ⟨B, 0, none⟩)))) (by kernel_rfl) ⟨c2, c3⟩ (fun hHeld => ?_)
            refine wpAnyH_take (i := 0) (oi := { dst := some 51, op := Op.move (Operand.tmp 0), type := 28, pos := "journal.go:134", after := #[], guard := none }) (v := ?_) rfl (by kernel_rfl) (by kernel_rfl) (by kernel_rfl) (fun _ _ _ h => h) (Or.inl ⟨by kernel_rfl, ?_⟩) (by assumption) ?_
            rotate_left
            · intro w hSw
              (try dsimp only at hSw)
              go_simp
              all_goals (with_reducible rfl)
            (try simp only [Act.put, List.setIfInBounds_toArray, List.set_cons_zero, List.set_cons_succ])
            refine wpAnyH_take (i := 1) (oi := { dst := some 52, op := Op.move (Operand.tmp 0), type := 28, pos := "journal.go:134", after := #[], guard := none }) (v := ?_) rfl (by kernel_rfl) (by kernel_rfl) (by kernel_rfl) (fun _ _ _ h => h) (Or.inl ⟨by kernel_rfl, ?_⟩) (by assumption) ?_
            rotate_left
            · intro w hSw
              (try dsimp only at hSw)
              go_simp
              all_goals (with_reducible rfl)
            (try simp only [Act.put, List.setIfInBounds_toArray, List.set_cons_zero, List.set_cons_succ])
            refine wpAnyH_take (i := 2) (oi := { dst := some 53, op := Op.nilCheck (Operand.tmp 52), type := 0, pos := "journal.go:134", after := #[{ on := 1, ground := Ground.data }], guard := none }) (v := ?_) rfl (by kernel_rfl) (by kernel_rfl) (by kernel_rfl) (fun _ _ _ h => h) (Or.inl ⟨by kernel_rfl, ?_⟩) (by assumption) ?_
            rotate_left
            · intro w hSw
              (try dsimp only at hSw)
              go_simp
              all_goals (with_reducible rfl)
            (try simp only [Act.put, List.setIfInBounds_toArray, List.set_cons_zero, List.set_cons_succ])
            refine wpAnyH_take (i := 3) (oi := { dst := some 54, op := Op.fieldAddr 74 (Operand.tmp 53) 0, type := 0, pos := "journal.go:134", after := #[{ on := 2, ground := Ground.data }], guard := none }) (v := ?_) rfl (by kernel_rfl) (by kernel_rfl) (by kernel_rfl) (fun _ _ _ h => h) (Or.inl ⟨by kernel_rfl, ?_⟩) (by assumption) ?_
            rotate_left
            · intro w hSw
              (try dsimp only at hSw)
              go_simp
              all_goals (with_reducible rfl)
            (try simp only [Act.put, List.setIfInBounds_toArray, List.set_cons_zero, List.set_cons_succ])
            refine wpAnyH_take (i := 4) (oi := { dst := some 55, op := Op.fieldAddr 72 (Operand.tmp 54) 2, type := 0, pos := "journal.go:134", after := #[{ on := 3, ground := Ground.data }], guard := none }) (v := ?_) rfl (by kernel_rfl) (by kernel_rfl) (by kernel_rfl) (fun _ _ _ h => h) (Or.inl ⟨by kernel_rfl, ?_⟩) (by assumption) ?_
            rotate_left
            · intro w hSw
              (try dsimp only at hSw)
              go_simp
              all_goals (with_reducible rfl)
            (try simp only [Act.put, List.setIfInBounds_toArray, List.set_cons_zero, List.set_cons_succ])
            refine wpAnyH_take (i := 5) (oi := { dst := some 56, op := Op.load 3 (Operand.tmp 55), type := 3, pos := "journal.go:134", after := #[{ on := 4, ground := Ground.data }], guard := none }) (v := ?_) rfl (by kernel_rfl) (by kernel_rfl) (by kernel_rfl) (fun _ _ _ h => h) (Or.inl ⟨by kernel_rfl, ?_⟩) (by assumption) ?_
            rotate_left
            · intro w hSw
              (try dsimp only at hSw)
              go_simp
              all_goals (with_reducible rfl)
            (try simp only [Act.put, List.setIfInBounds_toArray, List.set_cons_zero, List.set_cons_succ])
            refine wpAnyH_take (i := 6) (oi := { dst := some 57, op := Op.binOp BinOp.add 3 (Operand.tmp 56) (Operand.const (Value.int IntKind.i64 1)) 3, type := 3, pos := "journal.go:134", after := #[{ on := 5, ground := Ground.data }], guard := none }) (v := ?_) rfl (by kernel_rfl) (by kernel_rfl) (by kernel_rfl) (fun _ _ _ h => h) (Or.inl ⟨by kernel_rfl, ?_⟩) (by assumption) ?_
            rotate_left
            · intro w hSw
              (try dsimp only at hSw)
              go_simp
              all_goals (with_reducible rfl)
            (try simp only [Act.put, List.setIfInBounds_toArray, List.set_cons_zero, List.set_cons_succ])
            refine wpAnyH_take (i := 7) (oi := { dst := some 58, op := Op.move (Operand.tmp 10), type := 9, pos := "journal.go:134", after := #[], guard := none }) (v := ?_) rfl (by kernel_rfl) (by kernel_rfl) (by kernel_rfl) (fun _ _ _ h => h) (Or.inl ⟨by kernel_rfl, ?_⟩) (by assumption) ?_
            rotate_left
            · intro w hSw
              (try dsimp only at hSw)
              go_simp
              all_goals (with_reducible rfl)
            (try simp only [Act.put, List.setIfInBounds_toArray, List.set_cons_zero, List.set_cons_succ])
            refine wpAnyH_take (i := 8) (oi := { dst := some 59, op := Op.slice 9 (Operand.tmp 58) (some (Operand.const (Value.int IntKind.i64 1))) none none, type := 9, pos := "journal.go:134", after := #[{ on := 7, ground := Ground.data }], guard := none }) (v := ?_) rfl (by kernel_rfl) (by kernel_rfl) (by kernel_rfl) (fun _ _ _ h => h) (Or.inl ⟨by kernel_rfl, ?_⟩) (by assumption) ?_
            rotate_left
            · intro w hSw
              (try dsimp only at hSw)
              go_simp
              all_goals (with_reducible rfl)
            (try simp only [Act.put, List.setIfInBounds_toArray, List.set_cons_zero, List.set_cons_succ])
            refine wpAnyH_take (i := 10) (oi := { dst := some 61, op := Op.move (Operand.tmp 0), type := 28, pos := "journal.go:134", after := #[], guard := none }) (v := ?_) rfl (by kernel_rfl) (by kernel_rfl) (by kernel_rfl) (fun _ _ _ h => h) (Or.inl ⟨by kernel_rfl, ?_⟩) (by assumption) ?_
            rotate_left
            · intro w hSw
              (try dsimp only at hSw)
              go_simp
              all_goals (with_reducible rfl)
            (try simp only [Act.put, List.setIfInBounds_toArray, List.set_cons_zero, List.set_cons_succ])
            refine wpAnyH_take (i := 11) (oi := { dst := some 62, op := Op.nilCheck (Operand.tmp 61), type := 0, pos := "journal.go:134", after := #[{ on := 10, ground := Ground.data }], guard := none }) (v := ?_) rfl (by kernel_rfl) (by kernel_rfl) (by kernel_rfl) (fun _ _ _ h => h) (Or.inl ⟨by kernel_rfl, ?_⟩) (by assumption) ?_
            rotate_left
            · intro w hSw
              (try dsimp only at hSw)
              go_simp
              all_goals (with_reducible rfl)
            (try simp only [Act.put, List.setIfInBounds_toArray, List.set_cons_zero, List.set_cons_succ])
            refine wpAnyH_take (i := 12) (oi := { dst := some 63, op := Op.fieldAddr 74 (Operand.tmp 62) 1, type := 0, pos := "journal.go:134", after := #[{ on := 11, ground := Ground.data }], guard := none }) (v := ?_) rfl (by kernel_rfl) (by kernel_rfl) (by kernel_rfl) (fun _ _ _ h => h) (Or.inl ⟨by kernel_rfl, ?_⟩) (by assumption) ?_
            rotate_left
            · intro w hSw
              (try dsimp only at hSw)
              go_simp
              all_goals (with_reducible rfl)
            (try simp only [Act.put, List.setIfInBounds_toArray, List.set_cons_zero, List.set_cons_succ])
            refine wpAnyH_take (i := 13) (oi := { dst := some 64, op := Op.load 27 (Operand.tmp 63), type := 27, pos := "journal.go:134", after := #[{ on := 12, ground := Ground.data }], guard := none }) (v := ?_) rfl (by kernel_rfl) (by kernel_rfl) (by kernel_rfl) (fun _ _ _ h => h) (Or.inl ⟨by kernel_rfl, ?_⟩) (by assumption) ?_
            rotate_left
            · intro w hSw
              (try dsimp only at hSw)
              go_simp
              all_goals (with_reducible rfl)
            (try simp only [Act.put, List.setIfInBounds_toArray, List.set_cons_zero, List.set_cons_succ])
            refine wpAnyH_take (i := 14) (oi := { dst := some 65, op := Op.makeFunc (Fn.func 42) #[Operand.tmp 64] #[], type := 85, pos := "journal.go:134", after := #[{ on := 13, ground := Ground.data }], guard := none }) (v := ?_) rfl (by kernel_rfl) (by kernel_rfl) (by kernel_rfl) (fun _ _ _ h => h) (Or.inl ⟨by kernel_rfl, ?_⟩) (by assumption) ?_
            rotate_left
            · intro w hSw
              (try dsimp only at hSw)
              go_simp
              all_goals (with_reducible rfl)
            (try simp only [Act.put, List.setIfInBounds_toArray, List.set_cons_zero, List.set_cons_succ])
            refine wpAnyH_take (i := 15) (oi := { dst := some 66, op := Op.move (Operand.tmp 0), type := 28, pos := "journal.go:134", after := #[], guard := none }) (v := ?_) rfl (by kernel_rfl) (by kernel_rfl) (by kernel_rfl) (fun _ _ _ h => h) (Or.inl ⟨by kernel_rfl, ?_⟩) (by assumption) ?_
            rotate_left
            · intro w hSw
              (try dsimp only at hSw)
              go_simp
              all_goals (with_reducible rfl)
            (try simp only [Act.put, List.setIfInBounds_toArray, List.set_cons_zero, List.set_cons_succ])
            refine wpAnyH_take (i := 16) (oi := { dst := some 67, op := Op.move (Operand.tmp 0), type := 28, pos := "journal.go:134", after := #[], guard := none }) (v := ?_) rfl (by kernel_rfl) (by kernel_rfl) (by kernel_rfl) (fun _ _ _ h => h) (Or.inl ⟨by kernel_rfl, ?_⟩) (by assumption) ?_
            rotate_left
            · intro w hSw
              (try dsimp only at hSw)
              go_simp
              all_goals (with_reducible rfl)
            (try simp only [Act.put, List.setIfInBounds_toArray, List.set_cons_zero, List.set_cons_succ])
            refine wpAnyH_take (i := 17) (oi := { dst := some 68, op := Op.nilCheck (Operand.tmp 67), type := 0, pos := "journal.go:134", after := #[{ on := 16, ground := Ground.data }], guard := none }) (v := ?_) rfl (by kernel_rfl) (by kernel_rfl) (by kernel_rfl) (fun _ _ _ h => h) (Or.inl ⟨by kernel_rfl, ?_⟩) (by assumption) ?_
            rotate_left
            · intro w hSw
              (try dsimp only at hSw)
              go_simp
              all_goals (with_reducible rfl)
            (try simp only [Act.put, List.setIfInBounds_toArray, List.set_cons_zero, List.set_cons_succ])
            refine wpAnyH_take (i := 18) (oi := { dst := some 69, op := Op.fieldAddr 74 (Operand.tmp 68) 0, type := 0, pos := "journal.go:134", after := #[{ on := 17, ground := Ground.data }], guard := none }) (v := ?_) rfl (by kernel_rfl) (by kernel_rfl) (by kernel_rfl) (fun _ _ _ h => h) (Or.inl ⟨by kernel_rfl, ?_⟩) (by assumption) ?_
            rotate_left
            · intro w hSw
              (try dsimp only at hSw)
              go_simp
              all_goals (with_reducible rfl)
            (try simp only [Act.put, List.setIfInBounds_toArray, List.set_cons_zero, List.set_cons_succ])
            refine wpAnyH_take (i := 19) (oi := { dst := some 70, op := Op.fieldAddr 72 (Operand.tmp 69) 2, type := 0, pos := "journal.go:134", after := #[{ on := 18, ground := Ground.data }], guard := none }) (v := ?_) rfl (by kernel_rfl) (by kernel_rfl) (by kernel_rfl) (fun _ _ _ h => h) (Or.inl ⟨by kernel_rfl, ?_⟩) (by assumption) ?_
            rotate_left
            · intro w hSw
              (try dsimp only at hSw)
              go_simp
              all_goals (with_reducible rfl)
            (try simp only [Act.put, List.setIfInBounds_toArray, List.set_cons_zero, List.set_cons_succ])
            refine wpAnyH_take (i := 20) (oi := { dst := some 71, op := Op.load 3 (Operand.tmp 70), type := 3, pos := "journal.go:134", after := #[{ on := 19, ground := Ground.data }], guard := none }) (v := ?_) rfl (by kernel_rfl) (by kernel_rfl) (by kernel_rfl) (fun _ _ _ h => h) (Or.inl ⟨by kernel_rfl, ?_⟩) (by assumption) ?_
            rotate_left
            · intro w hSw
              (try dsimp only at hSw)
              go_simp
              all_goals (with_reducible rfl)
            (try simp only [Act.put, List.setIfInBounds_toArray, List.set_cons_zero, List.set_cons_succ])
            refine wpAnyH_take (i := 21) (oi := { dst := some 72, op := Op.move (Operand.tmp 10), type := 9, pos := "journal.go:134", after := #[], guard := none }) (v := ?_) rfl (by kernel_rfl) (by kernel_rfl) (by kernel_rfl) (fun _ _ _ h => h) (Or.inl ⟨by kernel_rfl, ?_⟩) (by assumption) ?_
            rotate_left
            · intro w hSw
              (try dsimp only at hSw)
              go_simp
              all_goals (with_reducible rfl)
            (try simp only [Act.put, List.setIfInBounds_toArray, List.set_cons_zero, List.set_cons_succ])
            refine wpAnyH_take (i := 22) (oi := { dst := some 73, op := Op.slice 9 (Operand.tmp 72) none (some (Operand.const (Value.int IntKind.i64 1))) none, type := 9, pos := "journal.go:134", after := #[{ on := 21, ground := Ground.data }], guard := none }) (v := ?_) rfl (by kernel_rfl) (by kernel_rfl) (by kernel_rfl) (fun _ _ _ h => h) (Or.inl ⟨by kernel_rfl, ?_⟩) (by assumption) ?_
            rotate_left
            · intro w hSw
              (try dsimp only at hSw)
              go_simp
              all_goals (with_reducible rfl)
            (try simp only [Act.put, List.setIfInBounds_toArray, List.set_cons_zero, List.set_cons_succ])
            refine wpAnyH_take (i := 24) (oi := { dst := some 75, op := Op.move (Operand.tmp 0), type := 28, pos := "journal.go:134", after := #[], guard := none }) (v := ?_) rfl (by kernel_rfl) (by kernel_rfl) (by kernel_rfl) (fun _ _ _ h => h) (Or.inl ⟨by kernel_rfl, ?_⟩) (by assumption) ?_
            rotate_left
            · intro w hSw
              (try dsimp only at hSw)
              go_simp
              all_goals (with_reducible rfl)
            (try simp only [Act.put, List.setIfInBounds_toArray, List.set_cons_zero, List.set_cons_succ])
            refine wpAnyH_take (i := 25) (oi := { dst := some 76, op := Op.nilCheck (Operand.tmp 75), type := 0, pos := "journal.go:134", after := #[{ on := 24, ground := Ground.data }], guard := none }) (v := ?_) rfl (by kernel_rfl) (by kernel_rfl) (by kernel_rfl) (fun _ _ _ h => h) (Or.inl ⟨by kernel_rfl, ?_⟩) (by assumption) ?_
            rotate_left
            · intro w hSw
              (try dsimp only at hSw)
              go_simp
              all_goals (with_reducible rfl)
            (try simp only [Act.put, List.setIfInBounds_toArray, List.set_cons_zero, List.set_cons_succ])
            refine wpAnyH_take (i := 26) (oi := { dst := some 77, op := Op.fieldAddr 74 (Operand.tmp 76) 1, type := 0, pos := "journal.go:134", after := #[{ on := 25, ground := Ground.data }], guard := none }) (v := ?_) rfl (by kernel_rfl) (by kernel_rfl) (by kernel_rfl) (fun _ _ _ h => h) (Or.inl ⟨by kernel_rfl, ?_⟩) (by assumption) ?_
            rotate_left
            · intro w hSw
              (try dsimp only at hSw)
              go_simp
              all_goals (with_reducible rfl)
            (try simp only [Act.put, List.setIfInBounds_toArray, List.set_cons_zero, List.set_cons_succ])
            refine wpAnyH_take (i := 27) (oi := { dst := some 78, op := Op.load 27 (Operand.tmp 77), type := 27, pos := "journal.go:134", after := #[{ on := 26, ground := Ground.data }], guard := none }) (v := ?_) rfl (by kernel_rfl) (by kernel_rfl) (by kernel_rfl) (fun _ _ _ h => h) (Or.inl ⟨by kernel_rfl, ?_⟩) (by assumption) ?_
            rotate_left
            · intro w hSw
              (try dsimp only at hSw)
              go_simp
              all_goals (with_reducible rfl)
            (try simp only [Act.put, List.setIfInBounds_toArray, List.set_cons_zero, List.set_cons_succ])
            refine wpAnyH_take (i := 28) (oi := { dst := some 79, op := Op.makeFunc (Fn.func 42) #[Operand.tmp 78] #[], type := 85, pos := "journal.go:134", after := #[{ on := 27, ground := Ground.data }], guard := none }) (v := ?_) rfl (by kernel_rfl) (by kernel_rfl) (by kernel_rfl) (fun _ _ _ h => h) (Or.inl ⟨by kernel_rfl, ?_⟩) (by assumption) ?_
            rotate_left
            · intro w hSw
              (try dsimp only at hSw)
              go_simp
              all_goals (with_reducible rfl)
            (try simp only [Act.put, List.setIfInBounds_toArray, List.set_cons_zero, List.set_cons_succ])
            refine wpAnyH_one1 (i := 9) (o := { dst := some 60, op := Op.call { callee := Callee.value (Operand.func 41), args := #[Operand.tmp 51, Operand.tmp 57, Operand.tmp 59], argTypes := #[28, 3, 9] }, type := 85, pos := "journal.go:134", after := #[{ on := 0, ground := Ground.data }, { on := 6, ground := Ground.data }, { on := 8, ground := Ground.data }], guard := none }) (by kernel_rfl) rfl (fun K hK => ?_)
            go_simp
            go_at_call 41
            refine (writing41 Jb ((tapeN J.L : Int) + 1) (O.extract 1 O.size) _).mono ?_
            rintro e V1 ⟨rfl, hV1⟩
            refine hK.out _ _ ?_ (fun hHeld2 => ?_)
            · exact (HAPP.out V1 hV1.symm _ rfl).1
            clear hHeld
            have hHeld := hHeld2
            clear hHeld2
            clear hK K
            (try simp only [Act.put, List.setIfInBounds_toArray, List.set_cons_zero, List.set_cons_succ])
            refine wpAnyH_one1 (i := 23) (o := { dst := some 74, op := Op.call { callee := Callee.value (Operand.func 41), args := #[Operand.tmp 66, Operand.tmp 71, Operand.tmp 73], argTypes := #[28, 3, 9] }, type := 85, pos := "journal.go:134", after := #[{ on := 15, ground := Ground.data }, { on := 20, ground := Ground.data }, { on := 22, ground := Ground.data }, { on := 9, ground := Ground.chain }], guard := none }) (by kernel_rfl) rfl (fun K hK => ?_)
            go_simp
            go_at_call 41
            refine (writing41 Jb (tapeN J.L : Int) (O.extract 0 1) _).mono ?_
            rintro e V2 ⟨rfl, hV2⟩
            have HX2 := HAPP.out V1 hV1.symm V2 hV2.symm
            refine hK.out _ _ ?_ (fun hHeld2 => ?_)
            · exact HX2.2.1
            clear hHeld
            have hHeld := hHeld2
            clear hHeld2
            clear hK K
            (try simp only [Act.put, List.setIfInBounds_toArray, List.set_cons_zero, List.set_cons_succ])
            refine wpAnyH_one1 (i := 29) (o := { dst := some 80, op := Op.buildSlice 127 4 #[(0, Operand.tmp 60), (1, Operand.tmp 65), (2, Operand.tmp 74), (3, Operand.tmp 79)], type := 127, pos := "journal.go:134", after := #[{ on := 9, ground := Ground.data }, { on := 14, ground := Ground.data }, { on := 23, ground := Ground.data }, { on := 28, ground := Ground.data }], guard := none }) (by kernel_rfl) rfl (fun K hK => ?_)
            go_simp
            refine hK.out _ _ ?_ (fun hHeld2 => ?_)
            · exact HX2.2.2.1
            clear hHeld
            have hHeld := hHeld2
            clear hHeld2
            clear hK K
            (try simp only [Act.put, List.setIfInBounds_toArray, List.set_cons_zero, List.set_cons_succ])
            refine wpAnyH_one1 (i := 30) (o := { dst := some 81, op := Op.call { callee := Callee.value (Operand.func 40), args := #[Operand.tmp 80], argTypes := #[127] }, type := 33, pos := "journal.go:134", after := #[{ on := 29, ground := Ground.data }, { on := 23, ground := Ground.chain }], guard := none }) (by kernel_rfl) rfl (fun K hK => ?_)
            go_simp
            go_at_call 40
            refine HX2.2.2.2.2.mono ?_
            rintro e w5 ⟨rfl, h5, f5, c5⟩
            refine hK.out _ _ ?_ (fun hHeld2 => ?_)
            · exact c5
            clear hHeld
            have hHeld := hHeld2
            clear hHeld2
            clear hK K
            (try simp only [Act.put, List.setIfInBounds_toArray, List.set_cons_zero, List.set_cons_succ])
            refine wpAnyH_take (i := 31) (oi := { dst := some 11, op := Op.assign (Operand.tmp 81), type := 33, pos := "journal.go:134", after := #[{ on := 30, ground := Ground.data }, { on := 30, ground := Ground.chain }, { on := 0, ground := Ground.phase }, { on := 1, ground := Ground.phase }, { on := 2, ground := Ground.phase }, { on := 3, ground := Ground.phase }, { on := 4, ground := Ground.phase }, { on := 5, ground := Ground.phase }, { on := 6, ground := Ground.phase }, { on := 7, ground := Ground.phase }, { on := 8, ground := Ground.phase }, { on := 9, ground := Ground.phase }, { on := 10, ground := Ground.phase }, { on := 11, ground := Ground.phase }, { on := 12, ground := Ground.phase }, { on := 13, ground := Ground.phase }, { on := 14, ground := Ground.phase }, { on := 15, ground := Ground.phase }, { on := 16, ground := Ground.phase }, { on := 17, ground := Ground.phase }, { on := 18, ground := Ground.phase }, { on := 19, ground := Ground.phase }, { on := 20, ground := Ground.phase }, { on := 21, ground := Ground.phase }, { on := 22, ground := Ground.phase }, { on := 23, ground := Ground.phase }, { on := 24, ground := Ground.phase }, { on := 25, ground := Ground.phase }, { on := 26, ground := Ground.phase }, { on := 27, ground := Ground.phase }, { on := 28, ground := Ground.phase }, { on := 29, ground := Ground.phase }, { on := 30, ground := Ground.phase }], guard := none }) (v := ?_) rfl (by kernel_rfl) (by kernel_rfl) (by kernel_rfl) (fun _ _ _ h => h) (Or.inl ⟨by kernel_rfl, ?_⟩) (by assumption) ?_
            rotate_left
            · intro w hSw
              (try dsimp only at hSw)
              go_simp
              all_goals (with_reducible rfl)
            (try simp only [Act.put, List.setIfInBounds_toArray, List.set_cons_zero, List.set_cons_succ])
            refine wpAnyH_done (by kernel_rfl) ?_ _
            refine NoPanic.normal ?_
            clear hHeld
            have b13 := HX2.2.2.2.1
            obtain ⟨V3, hV3⟩ : ∃ V3, V2.alloc (.cells #[fvW wd.drew.heap.size, fvS B, fvW V1.heap.size, fvS B] 85) = V3 := ⟨_, rfl⟩
            rw [hV3] at b13 h5 f5
            have hbd3 : Below wd.heap.size wd V3 := (Below.refl _ _).drew.trans b13
            have hW3 : Below W.heap.size W V3 := HWD.out.2.2.1.trans (hbd3.mono HWD.out.2.2.1.size)
            have hW3s := hW3.size
            have hJlt := HWD.out.1.lt
            have hnJ : ¬ ((((F Jb ∧ Jb ≠ Jb) ∧ vr0.ownBlock ≠ some Jb) ∧ Jb < W.heap.size) ∨ V3.heap.size ≤ Jb) := fun h => by
              rcases h with h | h
              · exact h.1.1.2 rfl
              · omega
            have hin : ∀ q, W.heap.size ≤ q → q < V3.heap.size → ¬ ((((F q ∧ q ≠ Jb) ∧ vr0.ownBlock ≠ some q) ∧ q < W.heap.size) ∨ V3.heap.size ≤ q) := fun q h1 h2 h3 => by
              rcases h3 with h3 | h3
              · have := h3.2; omega
              · omega
            have jb5 := (HWD.out.1.below hW3 hJlt).frm f5 hnJ
            have jr5 : w5.ownsRow 0 9 1 vr0 J.L.length (J.L.map Value.string) := owned_kept (owned_below HWD.out.2.1 hW3) (fun g hg => f5.block g (by
              obtain ⟨cur, hc, -⟩ := owned_block (owned_below HWD.out.2.1 hW3) hg
              exact hc.lt) (fun h => by
              obtain ⟨cur, hc, -⟩ := owned_block HWD.out.2.1 hg
              have := hc.lt
              rcases h with h | h
              · exact h.1.2 hg
              · omega))
            have hTd := HWD.out.2.2.2.1
            have kt5 := (hTd.below hbd3 hTd.lt).frm f5 (hin _ hTbW (Nat.lt_of_lt_of_le hTd.lt hbd3.size))
            have ot5 : w5.ownsRow W.heap.size 9 1 vr' (J.L ++ l).length ((J.L ++ l).map Value.string) := owned_kept (owned_below HWD.out.2.2.2.2 hbd3) (fun g hg => by
              obtain ⟨cur, hc, hg2⟩ := owned_block HWD.out.2.2.2.2 hg
              exact f5.block g (Nat.lt_of_lt_of_le hc.lt hbd3.size) (hin _ hg2 (Nat.lt_of_lt_of_le hc.lt hbd3.size)))
            have of5 := h5.mono (G := F) (fun k hk h => by
              rcases h with h | h
              · exact h.1.1.1
              · exact hF0.out k (by omega))
            have fr5 : Frm (fun k => F k ∨ k = Jb) W w5 := (Frm.of_below hW3).trans f5 (fun k hk h => by
              rcases h with h | h
              · exact .inl h.1.1.1
              · omega)
            have hTJ : Tb ≠ Jb := by omega
            have hrJ : ∀ g, vr'.ownBlock = some g → g ≠ Jb := fun g hg e => by
              obtain ⟨cur, hc, hg2⟩ := owned_block HWD.out.2.2.2.2 hg
              omega
            have hr0J : ∀ g, vr0.ownBlock = some g → g ≠ Jb := fun g hg e => by
              obtain ⟨cur, hc, -⟩ := owned_block HWD.out.2.1 hg
              exact hc.ne HWD.out.1 (by decide) e
            have h4s : app4 J.L l = [wrO ((tapeN J.L : Int) + 1) (O.extract 1 O.size), syO, wrO (tapeN J.L : Int) (O.extract 0 1), syO] := by unfold app4; rw [HOUT.out]
            have HOO2 := HOO.out
            rw [h4s] at HOO2
            have HO4 := Lib.hid HOO2
            have HX5 := Lib.hid (And.intro jb5 (And.intro jr5 (And.intro kt5 (And.intro ot5 (And.intro of5 fr5)))))
            clear h4s HOO2 HOO jb5 jr5 of5 fr5 h5 f5 c5 HX2 hV1 hV2 hV3 b13 hbd3 hW3 hW3s hnJ hin hTd c2 c3 wa1 i1 HAPP HWD HO1 HFUL
            obtain ⟨z, hz⟩ : ∃ z, (seqD [wrO ((tapeN J.L : Int) + 1) (O.extract 1 O.size), syO, wrO (tapeN J.L : Int) (O.extract 0 1), syO] D).1 = z := ⟨_, rfl⟩
            rw [hz] at HO4 ⊢
            clear hz
            by_cases hz0 : z = 0
            · have q2 : (z == 0) = true := beq_iff_eq.2 hz0
              have q3 : (z != 0) = false := by rw [bne, q2]; rfl
              have HZ := Lib.hid hz0
              clear hz0
              obtain ⟨va, vc, rfl, -⟩ := owned_len ot5
              have x0 := kt5.cell 0
              have x1 := kt5.cell 1
              have x2 := kt5.cell 2
              simp only [List.getElem?_toArray, List.getElem?_cons_zero, List.getElem?_cons_succ] at x0 x1 x2
              have y0 := HX5.out.1.cell 0
              have y1 := HX5.out.1.cell 1
              have y2 := HX5.out.1.cell 2
              have g0 := HX5.out.1.frozen 0
              have g1 := HX5.out.1.frozen 1
              have g2 := HX5.out.1.frozen 2
              simp only [List.getElem?_toArray, List.getElem?_cons_zero, List.getElem?_cons_succ] at y0 y1 y2
              have j1 := HX5.out.1.set 0 (.slice va (J.L ++ l).length vc)
              have j2 := j1.set 1 (.string (headS (J.L ++ l)))
              have j3 := j2.set 2 (.int .i64 (tapeN (J.L ++ l) : Int))
              have of6 := own_setJ (own_setJ (own_setJ HX5.out.2.2.2.2.1 HX5.out.1 0 (.slice va (J.L ++ l).length vc)) j1 1 (.string (headS (J.L ++ l)))) j2 2 (.int .i64 (tapeN (J.L ++ l) : Int))
              have ro6 := row_setJ (o := 2) (u := .int .i64 (tapeN (J.L ++ l) : Int)) (row_setJ (o := 1) (u := .string (headS (J.L ++ l))) (row_setJ (o := 0) (u := .slice va (J.L ++ l).length vc) ot5 hrJ) hrJ) hrJ
              have fr6 := ((HX5.out.2.2.2.2.2.setCell (b := Jb) (o := 0) (fun _ => .inr rfl) (.slice va (J.L ++ l).length vc)).setCell (b := Jb) (o := 1) (fun _ => .inr rfl) (.string (headS (J.L ++ l)))).setCell (b := Jb) (o := 2) (fun _ => .inr rfl) (.int .i64 (tapeN (J.L ++ l) : Int))
              rw [List.length_append] at j3 of6 ro6 fr6
              have HE := Lib.hid (And.intro j3 (And.intro of6 (And.intro ro6 fr6)))
              clear kt5 ot5 j1 j2 j3 of6 ro6 fr6
              go_wp2
              go_ret
              rw [HO4.out.1, HO4.out.2.1, HO4.out.2.2, HZ.out, if_pos rfl, hB]
              have hj := HE.out.1
              rw [hB] at hj
              refine ⟨rfl, HE.out.2.1, ⟨_, hj, ?_⟩, HE.out.2.2.2⟩
              show World.ownsRow _ 0 9 1 _ (J.L ++ l).length _
              rw [List.length_append]
              exact ownsRow_base HE.out.2.2.1 (Nat.zero_le _)
            · have q2 : (z == 0) = false := beq_eq_false_iff_ne.2 hz0
              have q3 : (z != 0) = true := by rw [bne, q2]; rfl
              have HZ := Lib.hid hz0
              clear hz0 kt5 ot5
              have y4 := HX5.out.1.cell 4
              have g4 := HX5.out.1.frozen 4
              simp only [List.getElem?_toArray, List.getElem?_cons_zero, List.getElem?_cons_succ] at y4
              have j4 := HX5.out.1.set 4 (.bool true)
              have of6 := own_setJ HX5.out.2.2.2.2.1 HX5.out.1 4 (.bool true)
              have ro6 := row_setJ (o := 4) (u := .bool true) HX5.out.2.1 hr0J
              have fr6 := HX5.out.2.2.2.2.2.setCell (b := Jb) (o := 4) (fun _ => .inr rfl) (.bool true)
              have HE := Lib.hid (And.intro j4 (And.intro of6 (And.intro ro6 fr6)))
              clear j4 of6 ro6 fr6
              go_wp2
              go_ret
              rw [HO4.out.1, HO4.out.2.1, HO4.out.2.2, if_neg HZ.out]
              exact ⟨rfl, HE.out.2.1, ⟨_, HE.out.1, HE.out.2.2.1⟩, HE.out.2.2.2⟩
end Go.Proofs.YtnckpnbecmmcpaaGreatDoor
