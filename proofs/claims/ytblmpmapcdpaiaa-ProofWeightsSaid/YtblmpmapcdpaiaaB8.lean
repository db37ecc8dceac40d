/- Texts R8, R12 in one. -/
import Derived.Test.YtblmpmapcdpaiaaR2
import Derived.Test.YtblmpmapcdpaiaaB3
import Derived.Test.YtblmpmapcdpaiaaL8
section
/- nadirref23: least. -/
namespace Go.Proofs.Ytblmpmapcdpaiaa
open Go.RowKit Lib

set_option maxRecDepth 100000 in
set_option maxHeartbeats 4000000 in
theorem least_ref (v : Value) (r : RowD) (d s : Nat) (w : World) (hv : RowV w v r) (hl : r.coef.length ≤ 60) (hc : coefOK r.coef = true) :
    Calls Try.prog 93 #[v, .int .i64 d, .int .i64 s] w fun e w' => e = .returned (.int .i64 (ls r.coef d s)) ∧ Below w.heap.size w w' := by
  obtain ⟨vc, rfl, hvc⟩ := hv
  have hB0 : Below w.heap.size w (w.alloc (.cells #[.int .i64 r.kind, .int .i64 r.a, .int .i64 r.b, .int .i64 r.at_, vc, .int .i64 r.most] 26)) := (Below.refl _ _).alloc (Nat.le_refl _) _
  have kr := Blk.new w #[.int .i64 r.kind, .int .i64 r.a, .int .i64 r.b, .int .i64 r.at_, vc, .int .i64 r.most] 26
  have HV := Lib.hid (hvc.below hB0)
  have HC := Lib.hid hc
  obtain ⟨ca, cc, rfl, hc1, hc2⟩ := hvc.len
  unfold maxLen at hc2
  have hls : Hid (ls r.coef d s = lsK r.coef d s r.coef.length) := rfl
  rw [hls.out]
  clear hvc hc
  go_enter Try.func93, Try.ntmps93
  go_wp2
  generalize hX : w.alloc (.cells #[.int .i64 r.kind, .int .i64 r.a, .int .i64 r.b, .int .i64 r.at_, .slice ca r.coef.length cc, .int .i64 r.most] 26) = X at HV hB0 kr ⊢
  go_loopw [7, 8] (fun u7 u8 wr => ∃ i : Nat, i ≤ r.coef.length ∧ u8 = .int .i64 i ∧ u7 = .int .i64 (lsK r.coef d s i) ∧ Below X.heap.size X wr) (fun _ u8 _ => (r.coef.length - intOf u8).toNat)
  case atStart => exact ⟨0, by omega, rfl, rfl, Below.refl _ _⟩
  case round =>
    obtain ⟨i, hi, rfl, rfl, hB⟩ := hrel
    have kri := kr.below hB kr.lt
    have a4 := kri.cell 4
    simp only [List.getElem?_toArray, List.getElem?_cons_succ, List.getElem?_cons_zero] at a4
    by_cases him : i < r.coef.length
    · obtain ⟨gb, go, rfl, hcell⟩ := (HV.out.below hB).get (getD_some 0 him)
      obtain ⟨c0, c1⟩ := coefOK_get HC.out i
      obtain ⟨s0, s1⟩ := lsK_bd (M := 1000000000) (by omega) (coefOK_get HC.out) d s i
      have hi64 : (i : Int) < 64 := by omega
      have hii : (0 : Int) ≤ (i : Int) ∧ (i : Int) < (r.coef.length : Int) := by omega
      have HS : Hid (lsK r.coef d s (i + 1) = lsK r.coef d s i + if i < d then (if bitOn s i then r.coef.getD i 0 else 0) else min 0 (r.coef.getD i 0)) := rfl
      have hz := shr_bit s i
      generalize r.coef.getD i 0 = x at hcell c0 c1 HS
      generalize lsK r.coef d s i = sm at s0 s1 HS ⊢
      by_cases hid : i < d
      · have hid2 : (i : Int) < (d : Int) := by omega
        have HS2 : Hid (lsK r.coef d s (i + 1) = sm + if bitOn s i then x else 0) := Lib.hid (by rw [HS.out, if_pos hid])
        clear HS
        cases hb : bitOn s i with
        | true =>
          rw [hb] at hz HS2
          obtain ⟨z1, z2, z3⟩ := hz
          have HS' : Hid (lsK r.coef d s (i + 1) = sm + x) := HS2.out
          have hwx : IntKind.i64.wrap x = x := wrapS _ (by omega) (by omega)
          have hws : IntKind.i64.wrap (sm + x) = sm + x := wrapS _ (by omega) (by omega)
          clear hb HS2
          go_wp2_with fail
          go_quiet (fail)
          go_wp2
          go_roundw
          case rel => exact ⟨i + 1, by omega, by go_num, by rw [HS'.out], by exact below_drewN hB _⟩
          case measure => simp [intOf]; omega
        | false =>
          rw [hb] at hz HS2
          obtain ⟨z1, z2, z3⟩ := hz
          have HS' : Hid (lsK r.coef d s (i + 1) = sm) := Lib.hid (by have := HS2.out; simpa using this)
          have hws : IntKind.i64.wrap sm = sm := wrapS _ (by omega) (by omega)
          clear hb HS2
          go_wp2_with fail
          go_quiet (fail)
          go_wp2
          go_roundw
          case rel => exact ⟨i + 1, by omega, by go_num, by rw [HS'.out], by exact below_drewN hB _⟩
          case measure => simp [intOf]; omega
      · have hid2 : ¬ ((i : Int) < (d : Int)) := by omega
        have HS2 : Hid (lsK r.coef d s (i + 1) = sm + min 0 x) := Lib.hid (by rw [HS.out, if_neg hid])
        clear HS hz
        by_cases hx : x < 0
        · have HS' : Hid (lsK r.coef d s (i + 1) = sm + x) := Lib.hid (by rw [HS2.out]; omega)
          have hws : IntKind.i64.wrap (sm + x) = sm + x := wrapS _ (by omega) (by omega)
          clear HS2
          go_wp2
          go_roundw
          case rel => exact ⟨i + 1, by omega, by go_num, by rw [HS'.out], hB⟩
          case measure => simp [intOf]; omega
        · have HS' : Hid (lsK r.coef d s (i + 1) = sm) := Lib.hid (by rw [HS2.out]; omega)
          clear HS2
          go_wp2
          go_roundw
          case rel => exact ⟨i + 1, by omega, by go_num, by rw [HS'.out], hB⟩
          case measure => simp [intOf]; omega
    · obtain rfl : i = r.coef.length := by omega
      go_wp2
      go_ret
      exact ⟨rfl, hB0.trans (hB.mono hB0.size)⟩
end Go.Proofs.Ytblmpmapcdpaiaa
end
section
/- nadirref23.plain. -/
namespace Go.Proofs.Ytblmpmapcdpaiaa
open Go.RowKit Lib Go.Joins

/-- What the appending of steps leaves: every block below 'base', and every block whose cells are no steps. -/
structure Fq (base : Nat) (A B : World) : Prop where
  os : B.os = A.os
  tape : B.tape = A.tape
  output : B.output = A.output
  size : A.heap.size ≤ B.heap.size
  block : ∀ k, k < A.heap.size → (k < base ∨ ∃ cs t fz, A.heap[k]? = some (.cells cs t fz) ∧ t ≠ 80) → B.heap[k]? = A.heap[k]?
theorem Fq.refl (base : Nat) (A : World) : Fq base A A := ⟨rfl, rfl, rfl, Nat.le_refl _, fun _ _ _ => rfl⟩
theorem Fq.trans {base : Nat} {A B C : World} (h : Fq base A B) (k : Fq base B C) : Fq base A C :=
  ⟨k.os.trans h.os, k.tape.trans h.tape, k.output.trans h.output, Nat.le_trans h.size k.size, fun i hi h2 => by
    have e := h.block i hi h2
    refine (k.block i (Nat.lt_of_lt_of_le hi h.size) ?_).trans e
    rcases h2 with h2 | ⟨cs, t, fz, h2, h3⟩
    · exact .inl h2
    · exact .inr ⟨cs, t, fz, e.trans h2, h3⟩⟩
theorem Fq.of_below {base : Nat} {A B : World} (h : Below A.heap.size A B) : Fq base A B := ⟨h.os, h.tape, h.output, h.size, fun k hk _ => h.block k hk⟩
theorem Fq.below {base : Nat} {A B : World} (h : Fq base A B) (h3 : base ≤ A.heap.size) : Below base A B :=
  ⟨h.os, h.tape, h.output, h.size, fun k hk => h.block k (by omega) (.inl hk)⟩
theorem Fq.fr {base : Nat} {A B : World} (h : Fq base A B) (oB : Nat) : Fr oB base A B := ⟨h.os, h.tape, h.output, h.size, fun k hk _ h2 => h.block k hk h2⟩
theorem Fq.steps {base : Nat} {A B : World} (h : Fq base A B) {l : List StepD} {cs : List Value} (hs : StepsC A cs l) : StepsC B cs l :=
  hs.fr (h.fr A.heap.size) (fun _ hb => Nat.lt_irrefl _ hb.lt)
theorem Fq.grown {base : Nat} {W w1 : World} {v : Value} {n : Nat} {xs : List Value} {tmp : Obj} (h : W.ownsRow base 80 4 v n xs) (hg : (W.alloc tmp).grownBy w1 v.ownBlock) : Fq base W w1 :=
  ⟨hg.os, hg.tape, hg.output, by have := hg.size; simp at this; omega, fun k hk h2 => by
    refine (hg.block k (by simp; omega) (fun e => ?_)).trans (Below.heap_alloc W tmp k hk)
    have hb := (h.lt k e.symm).1
    rcases h2 with h2 | ⟨cs, t, fz, h2, h3⟩
    · omega
    · rcases h.2 with ⟨rfl, -⟩ | ⟨g, cap, cur, rfl, -, hgg, -⟩
      · cases e
      · obtain rfl : k = g := by simpa [Value.ownBlock] using e
        rw [hgg] at h2; cases h2; exact h3 rfl⟩
theorem Fq.stored {base : Nat} {W : World} {g cap n : Nat} {xs : List Value} (h : W.ownsRow base 80 4 (.slice (some ⟨g, 0, none⟩) n cap) n xs) (j : Nat) (u : Value) : Fq base W (W.setCell ⟨g, j, none⟩ u) := by
  have hb := (h.lt g rfl).1
  obtain ⟨-, h2⟩ := h.stored j u
  refine ⟨h2.os, h2.tape, h2.output, h2.size, fun k hk e2 => h2.block k hk (fun e => ?_)⟩
  obtain rfl : k = g := by simpa using e
  rcases e2 with e2 | ⟨cs, t, fz, e2, e3⟩
  · omega
  · rcases h.2 with ⟨e, -⟩ | ⟨g, cap, cur, e, -, hg, -⟩
    · cases e
    · cases e; rw [hg] at e2; cases e2; exact e3 rfl
theorem badAt_first {rows : List RowD} {d set i : Nat} (h : badAt rows d set = some i) : ∀ j, j < i → ¬ ((rows.getD j row0).most < ls (rows.getD j row0).coef d set) := by
  unfold badAt at h
  rw [List.findIdx?_eq_some_iff_getElem] at h
  obtain ⟨h1, h2, h3⟩ := h
  intro j hj
  have := h3 j hj
  rw [List.getD_eq_getElem?_getD, List.getElem?_eq_getElem (by omega)]
  simpa using this
theorem badAt_yes {rows : List RowD} {d set i : Nat} (h : badAt rows d set = some i) : i < rows.length ∧ (rows.getD i row0).most < ls (rows.getD i row0).coef d set := by
  unfold badAt at h
  rw [List.findIdx?_eq_some_iff_getElem] at h
  obtain ⟨h1, h2, -⟩ := h
  refine ⟨h1, ?_⟩
  rw [List.getD_eq_getElem?_getD, List.getElem?_eq_getElem h1]
  simpa using h2
theorem badAt_no {rows : List RowD} {d set : Nat} (h : badAt rows d set = none) : ∀ j, j < rows.length → ¬ ((rows.getD j row0).most < ls (rows.getD j row0).coef d set) := by
  unfold badAt at h
  rw [List.findIdx?_eq_none_iff] at h
  intro j hj
  have := h _ (List.mem_of_getElem? (getD_some row0 hj))
  simpa using this
set_option maxRecDepth 100000 in
set_option maxHeartbeats 4000000 in
theorem plain_leaf (base : Nat) (W : World) (vr v : Value) (rows : List RowD) (d set n i0 : Nat) (xs : List Value) (hvr : RowsAt W vr rows) (hown : W.ownsRow base 80 4 v n xs) (hbs : base ≤ W.heap.size)
    (hrows : ∀ r ∈ rows, r.coef.length ≤ 60 ∧ coefOK r.coef = true) (hn : n ≤ 100000) (hrl : rows.length ≤ 1000) (hbad : badAt rows d set = some i0) :
    Calls Try.prog 65 #[v, vr, .int .i64 d, .int .i64 set] W fun e W' => ∃ v' ys, e = .returned v' ∧ W'.ownsRow base 80 4 v' (n + 1) (xs ++ ys) ∧ StepsC W' ys [{ var := -1, no := 0, yes := 0, wts := [{ row := i0, times := 1 }] }] ∧ Fq base W W' := by
  have hfst := Lib.hid (badAt_first hbad)
  obtain ⟨hi0, hyes⟩ := badAt_yes hbad
  obtain ⟨ra, rc, rfl, hr1, hr2⟩ := (show SlicesLen vr rows.length from hvr.len)
  obtain ⟨oa, oc, rfl, ho1, ho2⟩ := owned_len hown
  unfold maxLen at hr2 ho2
  have HV := Lib.hid hvr
  have HR := Lib.hid hrows
  have HO := Lib.hid hown
  have HY := Lib.hid hyes
  clear hvr hrows hown hbad hyes
  go_enter Try.func65, Try.ntmps65
  go_wp2
  go_loopw [9] (fun u9 wr => ∃ i : Nat, i ≤ i0 ∧ u9 = .int .i64 i ∧ Below W.heap.size W wr) (fun u9 _ => (i0 + 1 - intOf u9).toNat)
  case atStart => exact ⟨0, by omega, rfl, Below.refl _ _⟩
  case round =>
    obtain ⟨i, hi, rfl, hB⟩ := hrel
    have hil : i < rows.length := by omega
    have hs := getD_some row0 hil
    obtain ⟨rb, ro, vc, rfl, c0, c1, c2, c3, c4, c5, hc⟩ := (HV.out.below hB).get hs
    obtain ⟨hl60, hcok⟩ := HR.out _ (List.mem_of_getElem? hs)
    have hf := hfst.out i
    have hy := HY.out
    have hilI : (i : Int) < (rows.length : Int) := by omega
    have q1 : decide ((i : Int) < (rows.length : Int)) = true := decide_eq_true hilI
    obtain ⟨ca, cc, rfl, -, -⟩ := hc.len
    have lr := World.block_lt_of_cell? _ _ c0
    simp only at lr
    by_cases hii : i = i0
    · subst hii
      generalize rows.getD i row0 = r at hs c0 c1 c2 c3 c4 c5 hc hl60 hcok hy
      have hlst := Lib.hid (fun U (hU : Below wr.heap.size wr U) => least_ref (.agg #[.int .i64 r.kind, .int .i64 r.a, .int .i64 r.b, .int .i64 r.at_, .slice ca r.coef.length cc, .int .i64 r.most]) r d set U ⟨_, rfl, hc.below hU⟩ hl60 hcok)
      clear hf hs hc hl60 hcok
      generalize ls r.coef d set = lv at hlst hy
      go_wp2_with fail
      apply wp_below (w0 := wr)
      · go_region_held3 (fun w' => Below wr.heap.size wr w' ∧ w'.cell? ⟨rb, ro + i * 6, none⟩ = some (.int .i64 r.kind) ∧ w'.cell? ⟨rb, ro + i * 6 + 1, none⟩ = some (.int .i64 r.a) ∧ w'.cell? ⟨rb, ro + i * 6 + 2, none⟩ = some (.int .i64 r.b) ∧ w'.cell? ⟨rb, ro + i * 6 + 3, none⟩ = some (.int .i64 r.at_) ∧ w'.cell? ⟨rb, ro + i * 6 + 4, none⟩ = some (.slice ca r.coef.length cc) ∧ w'.cell? ⟨rb, ro + i * 6 + 5, none⟩ = some (.int .i64 r.most))
          (first | exact ⟨(Below.refl _ _).drew, c0, c1, c2, c3, c4, c5⟩ | (have hh := ‹Below wr.heap.size wr _ ∧ _›; exact ⟨hh.1.trans (hB6.mono hh.1.size), (hB6.cell (Nat.lt_of_lt_of_le lr hh.1.size)).trans hh.2.1, (hB6.cell (Nat.lt_of_lt_of_le lr hh.1.size)).trans hh.2.2.1, (hB6.cell (Nat.lt_of_lt_of_le lr hh.1.size)).trans hh.2.2.2.1, (hB6.cell (Nat.lt_of_lt_of_le lr hh.1.size)).trans hh.2.2.2.2.1, (hB6.cell (Nat.lt_of_lt_of_le lr hh.1.size)).trans hh.2.2.2.2.2.1, (hB6.cell (Nat.lt_of_lt_of_le lr hh.1.size)).trans hh.2.2.2.2.2.2⟩))
          (first | (go_at_call 93; refine (hlst.out _ (‹Below wr.heap.size wr _ ∧ _›).1).mono ?_; rintro e w6 ⟨rfl, hB6⟩))
        all_goals exact ⟨rfl, rfl, (‹Below wr.heap.size wr _ ∧ _›).1⟩
      intro w6 hB6
      clear c0 c1 c2 c3 c4 c5
      have hBw6 := hB.trans (hB6.mono hB.size)
      have hBx : Below w6.heap.size w6 (w6.alloc (.cells #[.int .i64 i, .int .i64 1] 82)) := (Below.refl _ _).alloc (Nat.le_refl _) _
      have hout3 := owned_below HO.out (hBw6.trans (hBx.mono hBw6.size))
      have hbs3 : base ≤ (w6.alloc (.cells #[.int .i64 i, .int .i64 1] 82)).heap.size := by have := hBw6.size; simp; omega
      have hwt : Blk (w6.alloc (.cells #[.int .i64 i, .int .i64 1] 82)) w6.heap.size #[.int .i64 i, .int .i64 1] 82 := Blk.new _ _ _
      have hsz : (w6.alloc (.cells #[.int .i64 i, .int .i64 1] 82)).heap.size = w6.heap.size + 1 := by simp
      have hfq : Fq base W (w6.alloc (.cells #[.int .i64 i, .int .i64 1] 82)) := Fq.of_below (hBw6.trans (hBx.mono hBw6.size))
      go_wp2_with (at_builtin; refine wpList_pushN E35 rfl _ _ rfl base hout3 rfl (by rw [hsz]; rfl) rfl (by intro u hu; simp at hu; rcases hu with rfl | rfl | rfl <;> rfl) (by unfold maxLen; omega) (by omega) hbs3 ?_; intro v' w7 hown' hgrow hb1)
      go_ret
      have hfg := Fq.grown hout3 hgrow
      exact ⟨_, _, rfl, hown', ⟨_, [], rfl, .inr ⟨w6.heap.size, ⟨i, 1⟩, rfl, rfl, (hfg.block _ hwt.lt (.inr ⟨_, _, _, hwt, by decide⟩)).trans hwt⟩, rfl⟩, hfq.trans hfg⟩
    · have hlt : i < i0 := by omega
      have hf := hf hlt
      generalize rows.getD i row0 = r at hs c0 c1 c2 c3 c4 c5 hc hl60 hcok hf
      have hlst := Lib.hid (fun U (hU : Below wr.heap.size wr U) => least_ref (.agg #[.int .i64 r.kind, .int .i64 r.a, .int .i64 r.b, .int .i64 r.at_, .slice ca r.coef.length cc, .int .i64 r.most]) r d set U ⟨_, rfl, hc.below hU⟩ hl60 hcok)
      clear hs hc hl60 hcok hy
      generalize ls r.coef d set = lv at hlst hf
      have hf2 : lv ≤ r.most := by omega
      go_wp2_with fail
      apply wp_below (w0 := wr)
      · go_region_held3 (fun w' => Below wr.heap.size wr w' ∧ w'.cell? ⟨rb, ro + i * 6, none⟩ = some (.int .i64 r.kind) ∧ w'.cell? ⟨rb, ro + i * 6 + 1, none⟩ = some (.int .i64 r.a) ∧ w'.cell? ⟨rb, ro + i * 6 + 2, none⟩ = some (.int .i64 r.b) ∧ w'.cell? ⟨rb, ro + i * 6 + 3, none⟩ = some (.int .i64 r.at_) ∧ w'.cell? ⟨rb, ro + i * 6 + 4, none⟩ = some (.slice ca r.coef.length cc) ∧ w'.cell? ⟨rb, ro + i * 6 + 5, none⟩ = some (.int .i64 r.most))
          (first | exact ⟨(Below.refl _ _).drew, c0, c1, c2, c3, c4, c5⟩ | (have hh := ‹Below wr.heap.size wr _ ∧ _›; exact ⟨hh.1.trans (hB6.mono hh.1.size), (hB6.cell (Nat.lt_of_lt_of_le lr hh.1.size)).trans hh.2.1, (hB6.cell (Nat.lt_of_lt_of_le lr hh.1.size)).trans hh.2.2.1, (hB6.cell (Nat.lt_of_lt_of_le lr hh.1.size)).trans hh.2.2.2.1, (hB6.cell (Nat.lt_of_lt_of_le lr hh.1.size)).trans hh.2.2.2.2.1, (hB6.cell (Nat.lt_of_lt_of_le lr hh.1.size)).trans hh.2.2.2.2.2.1, (hB6.cell (Nat.lt_of_lt_of_le lr hh.1.size)).trans hh.2.2.2.2.2.2⟩))
          (first | (go_at_call 93; refine (hlst.out _ (‹Below wr.heap.size wr _ ∧ _›).1).mono ?_; rintro e w6 ⟨rfl, hB6⟩))
        all_goals exact ⟨rfl, rfl, (‹Below wr.heap.size wr _ ∧ _›).1⟩
      intro w6 hB6
      clear c0 c1 c2 c3 c4 c5
      go_wp2
      go_roundw
      case rel => exact ⟨i + 1, by omega, by go_num, hB.trans (hB6.mono hB.size)⟩
      case measure => simp [intOf]; omega
set_option maxRecDepth 100000 in
set_option maxHeartbeats 4000000 in
theorem plain_all (base : Nat) (w0 : World) (vr : Value) (rows : List RowD) (m : Nat) (hm : m ≤ 12) (hrows : ∀ r ∈ rows, r.coef.length = m ∧ coefOK r.coef = true)
    (hfull : ∀ s, s < 2 ^ m → badAt rows m s ≠ none) (hrl : rows.length ≤ 1000) (hvr : RowsAt w0 vr rows) (h0 : w0.heap.size ≤ base) : ∀ (f d set n : Nat) (W : World) (v : Value) (xs : List Value), f + d = m → set < 2 ^ d → n + 2 ^ (f + 1) ≤ 10000 →
    Below w0.heap.size w0 W → base ≤ W.heap.size → W.ownsRow base 80 4 v n xs →
    Calls Try.prog 65 #[v, vr, .int .i64 d, .int .i64 set] W fun e W' => ∃ v' ys, e = .returned v' ∧ W'.ownsRow base 80 4 v' (n + (growS rows f d set n).length) (xs ++ ys) ∧ StepsC W' ys (growS rows f d set n) ∧ Fq base W W' := by
  have leaf : ∀ (f d set n i : Nat) (W : World) (v : Value) (xs : List Value), n ≤ 10000 → badAt rows d set = some i → Below w0.heap.size w0 W → base ≤ W.heap.size → W.ownsRow base 80 4 v n xs →
    Calls Try.prog 65 #[v, vr, .int .i64 d, .int .i64 set] W fun e W' => ∃ v' ys, e = .returned v' ∧ W'.ownsRow base 80 4 v' (n + (growS rows f d set n).length) (xs ++ ys) ∧ StepsC W' ys (growS rows f d set n) ∧ Fq base W W' := fun f d set n i W v xs hn hb hB hbs hown => by
    have hg : growS rows f d set n = [{ var := -1, no := 0, yes := 0, wts := [{ row := i, times := 1 }] }] := by cases f <;> (unfold growS; rw [hb])
    rw [hg]
    exact plain_leaf base W vr v rows d set n i xs (hvr.below hB) hown hbs (fun r hr => ⟨by have := (hrows r hr).1; omega, (hrows r hr).2⟩) (by omega) hrl hb
  intro f
  induction f with
  | zero =>
    intro d set n W v xs hfd hs hn hB hbs hown
    obtain rfl : d = m := by omega
    cases hb : badAt rows d set with
    | none => exact absurd hb (hfull set hs)
    | some i => exact leaf 0 d set n i W v xs (Nat.le_trans (Nat.le_add_right _ _) hn) hb hB hbs hown
  | succ f ih =>
    intro d set n W v xs hfd hs hn hB hbs hown
    cases hb : badAt rows d set with
    | some i => exact leaf (f + 1) d set n i W v xs (Nat.le_trans (Nat.le_add_right _ _) hn) hb hB hbs hown
    | none =>
      have hg : growS rows (f + 1) d set n = { var := d, no := (n + 1 : Nat), yes := (n + 1 + (growS rows f (d + 1) set (n + 1)).length : Nat), wts := [] } ::
          (growS rows f (d + 1) set (n + 1) ++ growS rows f (d + 1) (set + 2 ^ d) (n + 1 + (growS rows f (d + 1) set (n + 1)).length)) := by
        conv => lhs; unfold growS
        rw [hb]
      rw [hg]
      have hlen := growS_len rows f (d + 1) set (n + 1)
      have hp12 : 2 ^ d ≤ 2 ^ 12 := Nat.pow_le_pow_right (by omega) (by omega)
      have hpd : 2 ^ (d + 1) = 2 * 2 ^ d := by rw [Nat.pow_succ]; omega
      have hpf : 2 ^ (f + 1 + 1) = 2 * 2 ^ (f + 1) := by rw [Nat.pow_succ]; omega
      have hA := Lib.hid (fun W v xs => ih (d + 1) set (n + 1) W v xs (by omega) (by omega) (by omega))
      have hBB := Lib.hid (fun W v xs => ih (d + 1) (set + 2 ^ d) (n + 1 + (growS rows f (d + 1) set (n + 1)).length) W v xs (by omega) (by omega) (by omega))
      generalize growS rows f (d + 1) set (n + 1) = LA at hA hBB hlen ⊢
      generalize growS rows f (d + 1) (set + 2 ^ d) (n + 1 + LA.length) = LB at hBB ⊢
      have hno := Lib.hid (badAt_no hb)
      have HR := Lib.hid hrows
      have HV := Lib.hid (hvr.below hB)
      obtain ⟨ra, rc, rfl, hr1, hr2⟩ := (show SlicesLen vr rows.length from hvr.len)
      obtain ⟨oa, oc, rfl, ho1, ho2⟩ := owned_len hown
      unfold maxLen at hr2 ho2
      have HO := Lib.hid hown
      have HB := Lib.hid hB
      have hxl : Hid (xs.length = n * 4) := hown.1
      have hnn : n ≤ 10000 := by omega
      have hd12 : (d : Int) < 64 := by omega
      have hp0 : (0 : Int) ≤ 2 ^ d ∧ (2 : Int) ^ d ≤ 4096 := by
        have e : ((2 ^ d : Nat) : Int) = (2 : Int) ^ d := by simp
        omega
      have hset : (0 : Int) ≤ (set : Int) ∧ (set : Int) ≤ 4096 := by omega
      have hlA : LA.length ≤ 10000 := by omega
      have hw1 : IntKind.i64.wrap ((d : Int) + 1) = (d : Int) + 1 := wraps_i64 _ (by omega) (by omega)
      have hw2 : IntKind.i64.wrap ((set : Int) + 2 ^ d) = (set : Int) + 2 ^ d := wraps_i64 _ (by omega) (by omega)
      have hw3 : IntKind.i64.wrap ((n : Int) + 1) = (n : Int) + 1 := wraps_i64 _ (by omega) (by omega)
      clear ih leaf hfull hb hg hpf hlen hrows hvr hown hB
      go_enter Try.func65, Try.ntmps65
      go_wp2
      go_loopw [9] (fun u9 wr => ∃ i : Nat, i ≤ rows.length ∧ u9 = .int .i64 i ∧ Below W.heap.size W wr) (fun u9 _ => (rows.length - intOf u9).toNat)
      case atStart => exact ⟨0, by omega, rfl, Below.refl _ _⟩
      case round =>
        obtain ⟨i, hi, rfl, hB⟩ := hrel
        by_cases hil : i < rows.length
        · have hs := getD_some row0 hil
          obtain ⟨rb, ro, vc, rfl, c0, c1, c2, c3, c4, c5, hc⟩ := (HV.out.below hB).get hs
          obtain ⟨hl60, hcok⟩ := HR.out _ (List.mem_of_getElem? hs)
          have hf := hno.out i hil
          have hilI : (i : Int) < (rows.length : Int) := by omega
          obtain ⟨ca, cc, rfl, -, -⟩ := hc.len
          have lr := World.block_lt_of_cell? _ _ c0
          simp only at lr
          generalize rows.getD i row0 = r at hs c0 c1 c2 c3 c4 c5 hc hl60 hcok hf
          have hlst := Lib.hid (fun U (hU : Below wr.heap.size wr U) => least_ref (.agg #[.int .i64 r.kind, .int .i64 r.a, .int .i64 r.b, .int .i64 r.at_, .slice ca r.coef.length cc, .int .i64 r.most]) r d set U ⟨_, rfl, hc.below hU⟩ (by omega) hcok)
          clear hs hc hl60 hcok
          generalize ls r.coef d set = lv at hlst hf
          have hf2 : lv ≤ r.most := by omega
          go_wp2_with fail
          apply wp_below (w0 := wr)
          · go_region_held3 (fun w' => Below wr.heap.size wr w' ∧ w'.cell? ⟨rb, ro + i * 6, none⟩ = some (.int .i64 r.kind) ∧ w'.cell? ⟨rb, ro + i * 6 + 1, none⟩ = some (.int .i64 r.a) ∧ w'.cell? ⟨rb, ro + i * 6 + 2, none⟩ = some (.int .i64 r.b) ∧ w'.cell? ⟨rb, ro + i * 6 + 3, none⟩ = some (.int .i64 r.at_) ∧ w'.cell? ⟨rb, ro + i * 6 + 4, none⟩ = some (.slice ca r.coef.length cc) ∧ w'.cell? ⟨rb, ro + i * 6 + 5, none⟩ = some (.int .i64 r.most))
              (first | exact ⟨(Below.refl _ _).drew, c0, c1, c2, c3, c4, c5⟩ | (have hh := ‹Below wr.heap.size wr _ ∧ _›; exact ⟨hh.1.trans (hB6.mono hh.1.size), (hB6.cell (Nat.lt_of_lt_of_le lr hh.1.size)).trans hh.2.1, (hB6.cell (Nat.lt_of_lt_of_le lr hh.1.size)).trans hh.2.2.1, (hB6.cell (Nat.lt_of_lt_of_le lr hh.1.size)).trans hh.2.2.2.1, (hB6.cell (Nat.lt_of_lt_of_le lr hh.1.size)).trans hh.2.2.2.2.1, (hB6.cell (Nat.lt_of_lt_of_le lr hh.1.size)).trans hh.2.2.2.2.2.1, (hB6.cell (Nat.lt_of_lt_of_le lr hh.1.size)).trans hh.2.2.2.2.2.2⟩))
              (first | (go_at_call 93; refine (hlst.out _ (‹Below wr.heap.size wr _ ∧ _›).1).mono ?_; rintro e w6 ⟨rfl, hB6⟩))
            all_goals exact ⟨rfl, rfl, (‹Below wr.heap.size wr _ ∧ _›).1⟩
          intro w6 hB6
          clear c0 c1 c2 c3 c4 c5
          go_wp2
          go_roundw
          case rel => exact ⟨i + 1, by omega, by go_num, hB.trans (hB6.mono hB.size)⟩
          case measure => simp [intOf]; omega
        · obtain rfl : i = rows.length := by omega
          have hout := owned_below HO.out hB
          have hbw : base ≤ wr.heap.size := by have := hB.size; omega
          go_upto_region 8 with (at_builtin; refine wpList_pushN E35 rfl _ _ rfl base hout rfl rfl rfl (by intro u hu; simp at hu; rcases hu with rfl | rfl | rfl | rfl <;> rfl) (by unfold maxLen; omega) (by omega) hbw ?_; intro v' w5 hown' hgrow hb1; obtain ⟨na, nc, rfl, hn1, hn2⟩ := owned_len hown')
          have hfg := Fq.grown hout hgrow
          have hB5 : Below base wr w5 := hfg.below hbw
          have hBw5 : Below w0.heap.size w0 w5 := (HB.out.trans (hB.mono HB.out.size)).trans (hB5.mono h0)
          have hfq5 : Fq base W w5 := (Fq.of_below hB).trans hfg
          have hbs5 : base ≤ w5.heap.size := by have := hfg.size; omega
          have hcall := hA.out w5 _ _ hBw5 hbs5 hown'
          rw [show ((d + 1 : Nat) : Int) = (d : Int) + 1 from by omega] at hcall
          clear hown' hgrow hb1 hfg hB5
          go_wp2_with fail
          refine hcall.mono ?_
          rintro e w6 ⟨v6, ysA, rfl, ho6, hstA, hfq6⟩
          have hpos : 0 < n + 1 + LA.length := by omega
          obtain ⟨g6, c6, cur6, rfl, hg6, kg6⟩ : ∃ g cap cur, v6 = .slice (some ⟨g, 0, none⟩) (n + 1 + LA.length) cap ∧ base ≤ g ∧ Blk w6 g cur 80 := by
            rcases ho6.2 with ⟨-, e0⟩ | ⟨g, cap, cur, e, h1, h2, -⟩
            · omega
            · exact ⟨g, cap, cur, e, h1, h2⟩
          have hcell : w6.cell? ⟨g6, n * 4 + 2, none⟩ = some (.int .i64 0) := by
            have := ho6.cells rfl (n * 4 + 2) (.int .i64 0) (by
              rw [List.append_assoc, List.getElem?_append_right (by rw [hxl.out]; omega), hxl.out, Nat.add_sub_cancel_left]; rfl)
            rw [add_zero_off] at this
            exact this
          have hfz := kg6.frozen (n * 4 + 2)
          have hst6 := ho6.stored (n * 4 + 2) (.int .i64 ((n : Int) + 1 + (LA.length : Int)))
          have hfq7 := Fq.stored ho6 (n * 4 + 2) (.int .i64 ((n : Int) + 1 + (LA.length : Int)))
          have hset6 : ((xs ++ ([.int .i64 d, .int .i64 ((n : Int) + 1), .int .i64 0, .slice none 0 0] : List Value)) ++ ysA).set (n * 4 + 2) (.int .i64 ((n : Int) + 1 + (LA.length : Int))) = (xs ++ ([.int .i64 d, .int .i64 ((n : Int) + 1), .int .i64 ((n : Int) + 1 + (LA.length : Int)), .slice none 0 0] : List Value)) ++ ysA := by
            rw [← hxl.out, List.append_assoc, set_mid]; simp
          have ho7 := hst6.1
          rw [hset6] at ho7
          have hnI : (n : Int) < ((n + 1 + LA.length : Nat) : Int) ∧ (0 : Int) ≤ (n : Int) := by omega
          have hbs6 : base ≤ w6.heap.size := by have := hfq6.size; omega
          have hbs7 : base ≤ (w6.setCell ⟨g6, n * 4 + 2, none⟩ (.int .i64 ((n : Int) + 1 + (LA.length : Int)))).heap.size := by simp; omega
          have hfq57 := (hfq5.trans hfq6).trans hfq7
          have hBw7 : Below w0.heap.size w0 (w6.setCell ⟨g6, n * 4 + 2, none⟩ (.int .i64 ((n : Int) + 1 + (LA.length : Int)))) := HB.out.trans ((hfq57.below hbs).mono h0)
          have hcallB := hBB.out _ _ _ hBw7 hbs7 ho7
          rw [show ((d + 1 : Nat) : Int) = (d : Int) + 1 from by omega, show ((set + 2 ^ d : Nat) : Int) = (set : Int) + 2 ^ d from by simp] at hcallB
          have hst7 := hfq7.steps hstA
          clear hst6 ho6 hset6
          go_wp2_with fail
          refine hcallB.mono ?_
          rintro e w8 ⟨v8, ysB, rfl, ho8, hstB, hfq8⟩
          go_wp2
          go_ret
          refine ⟨v8, [.int .i64 d, .int .i64 ((n : Int) + 1), .int .i64 ((n : Int) + 1 + (LA.length : Int)), .slice none 0 0] ++ (ysA ++ ysB), rfl, ?_, ?_, hfq57.trans hfq8⟩
          · have e : n + ((LA ++ LB).length + 1) = n + 1 + LA.length + LB.length := by rw [List.length_append]; omega
            rw [e, ← List.append_assoc, ← List.append_assoc]
            exact ho8
          · have hAB := (hfq8.steps hst7).app hstB
            have e1 : ((n + 1 : Nat) : Int) = (n : Int) + 1 := by omega
            have e2 : ((n + 1 + LA.length : Nat) : Int) = (n : Int) + 1 + (LA.length : Int) := by omega
            rw [e1, e2]
            exact ⟨_, _, rfl, .inl ⟨rfl, rfl⟩, hAB⟩
end Go.Proofs.Ytblmpmapcdpaiaa
end
