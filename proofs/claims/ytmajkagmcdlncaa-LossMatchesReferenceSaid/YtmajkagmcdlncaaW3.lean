/- package nadirref18: Options. -/
import Derived.Test.YtmajkagmcdlncaaW2
import Derived.Test.YtmajkagmcdlncaaQ1
import Derived.Test.YtmajkagmcdlncaaRd
import Derived.Deep.RegionHeld3
namespace Go.Proofs.Ytmajkagmcdlncaa
open Go.RowKit Go.Shelf
open L18 (Pass Slot noPass noSlot optV)

theorem E39 : ElemOK Try.prog 39 28 (.agg #[.int .i64 0, .int .i64 0, .int .i64 0, .int .i64 0, .int .i64 0, .int .i64 0, .int .i64 0, .int .i64 0, .slice none 0 0]) 9 88 := ⟨Try.underlying39, by kernel_rfl, rfl, by decide⟩
/-- The options, one after the other: those with slots. -/
def optsK (l : List Pass) (x : List (List Int)) : Nat → List OptD
  | 0 => []
  | i + 1 => if 0 < (optV l ((x.getD i []).take 8)).length then optsK l x i ++ [⟨optHd (i : Nat), optV l ((x.getD i []).take 8)⟩] else optsK l x i
def optsG (l : List Pass) (x : List (List Int)) : List OptD := optsK l x (min x.length 8)
theorem optsK_len (l : List Pass) (x : List (List Int)) : ∀ i, (optsK l x i).length ≤ i
  | 0 => Nat.le_refl _
  | i + 1 => by
    have := optsK_len l x i
    rw [optsK]
    split
    · rw [List.length_append]; simp; omega
    · omega
def pairCs (p : OptD × Value) : List Value := optCells p.1.hd p.2
/-- An own row of options: each with the value of its slots; the slots' blocks are others than the row's. -/
def OwnO (W : World) (B : Nat) (v : Value) (ps : List (OptD × Value)) : Prop := W.ownsRow B 28 9 v ps.length (flat pairCs ps) ∧ ∀ p ∈ ps, OwnS W B p.2 p.1.slots ∧ Apart v p.2
theorem OwnO.opts {W : World} {B : Nat} {v : Value} {ps : List (OptD × Value)} (h : OwnO W B v ps) : OptsAt W v (ps.map (·.1)) := by
  obtain ⟨a, cap, e, h1, h2, h3⟩ := owned_structs (f := pairCs) (R := fun w cs p => OptC w cs p.1) (fun _ => rfl) h.1 (fun p hp => ⟨_, rfl, (h.2 p hp).1.slots⟩)
  refine ⟨a, cap, by rw [List.length_map]; exact e, by rw [List.length_map]; exact h1, h2, fun hl => ?_⟩
  obtain ⟨b, off, e2, h4⟩ := h3 (by simpa using hl)
  refine ⟨b, off, e2, fun j y hj => ?_⟩
  rw [List.getElem?_map] at hj
  obtain ⟨p, hp1, rfl⟩ := Option.map_eq_some_iff.1 hj
  exact h4 j p hp1
theorem OwnO.nil (W : World) (B : Nat) : OwnO W B (.slice none 0 0) [] := ⟨World.ownsRow_nil _ _ _ _, fun p hp => by cases hp⟩
theorem OwnO.below {W W' : World} {B : Nat} {v : Value} {ps : List (OptD × Value)} (h : OwnO W B v ps) (hb : Below W.heap.size W W') : OwnO W' B v ps := ⟨owned_below h.1 hb, fun p hp => ⟨owned_below (h.2 p hp).1 hb, (h.2 p hp).2⟩⟩
/-- A further option, whose slots lie behind the row. -/
theorem OwnO.snoc {W W' : World} {B D : Nat} {v v' vs : Value} {ps : List (OptD × Value)} {od : OptD} (h : OwnO W B v ps) (hrow : W'.ownsRow B 28 9 v' (ps.length + 1) (flat pairCs ps ++ pairCs (od, vs)))
    (hk : ∀ k, k < W.heap.size → v.ownBlock ≠ some k → W'.heap[k]? = W.heap[k]?) (hv : v'.ownBlock = v.ownBlock ∨ ∃ g, v'.ownBlock = some g ∧ W.heap.size ≤ g) (hB : B ≤ D) (hs : OwnS W D vs od.slots) (hD : ∀ g, v.ownBlock = some g → g < D) : OwnO W' B v' (ps ++ [(od, vs)]) := by
  have hkeep : ∀ {u : Value} {o : List Slot} {E : Nat}, OwnS W E u o → Apart v u → OwnS W' E u o ∧ Apart v' u := by
    intro u o E hu hap
    have hlt : ∀ g, u.ownBlock = some g → g < W.heap.size := fun g hg => by obtain ⟨cur, h3, -⟩ := owned_block hu hg; exact h3.lt
    refine ⟨owned_kept hu fun g hg => hk g (hlt g hg) fun e => hap g e hg, fun g hg hg2 => ?_⟩
    rcases hv with e | ⟨g', e, he⟩
    · exact hap g (e ▸ hg) hg2
    · rw [hg] at e; cases e
      have := hlt g hg2
      omega
  refine ⟨?_, fun p hp => ?_⟩
  · rw [List.length_append, List.length_singleton, show flat pairCs (ps ++ [(od, vs)]) = flat pairCs ps ++ pairCs (od, vs) by unfold flat; simp]
    exact hrow
  · rcases List.mem_append.1 hp with hp | hp
    · exact hkeep (h.2 p hp).1 (h.2 p hp).2
    · simp at hp; subst hp
      obtain ⟨q1, q2⟩ := hkeep hs (fun g hg hg2 => by
        obtain ⟨cur, -, h4⟩ := owned_block hs hg2
        have := hD g hg
        omega)
      exact ⟨ownsRow_base q1 hB, q2⟩
theorem OwnO.lt {W : World} {B : Nat} {v : Value} {ps : List (OptD × Value)} (h : OwnO W B v ps) : ∀ g, v.ownBlock = some g → g < W.heap.size := fun g hg => by obtain ⟨cur, h3, -⟩ := owned_block h.1 hg; exact h3.lt
/-- wpList_pushN, with where the row lies afterwards. -/
theorem wpList_pushL {P : Program} {ops : Array Oper} {rest : List Oper} {o : Oper} {a : Act} {Q : Exit → Act → World → Prop} {t e : TypeId} {z : Value} {size bytes : Nat} {w0 : World} {us : List Value}
    (E : ElemOK P t e z size bytes) (hgd : o.guard = none) (s x : Operand)
    (ho : o.op = .call { callee := .builtin .append, args := #[s, x], argTypes := #[t, t] })
    (B : Nat) {v : Value} {n : Nat} {xs : List Value} (hown : w0.ownsRow B e size v n xs) (hs : a.eval s = v) (hx : a.eval x = .slice (some ⟨w0.heap.size, 0, none⟩) 1 1)
    (hus : us.length = size) (h1 : ∀ u ∈ us, u.oneCell' = true) (h63 : n + 1 ≤ maxLen) (hbytes : (n + 1) * bytes ≤ 140737488355328) (hB : B ≤ w0.heap.size)
    (h : ∀ v' w', w'.ownsRow B e size v' (n + 1) (xs ++ us) → Below B w0 w' → (∀ k, k < w0.heap.size → v.ownBlock ≠ some k → w'.heap[k]? = w0.heap[k]?) → (v'.ownBlock = v.ownBlock ∨ ∃ g, v'.ownBlock = some g ∧ w0.heap.size ≤ g) → wpList P ops Q rest (a.put o.dst v') w') :
    wpList P ops Q (o :: rest) a (w0.alloc (.cells us.toArray e)) := by
  obtain ⟨i, hi, hz0, hz1, hz2⟩ := info_parts E.info
  have hown1 : (w0.alloc (.cells us.toArray e)).ownsRow B e size v n xs := World.ownsRow.alloc hown _
  obtain ⟨v', w', hrun, r1, r2, r3⟩ := run_append_where (P := P) (w0.alloc (.cells us.toArray e)) B t o.type e i z size bytes E.und hi hz0 hz1 hz2 E.zs E.pos v n xs hown1 ⟨w0.heap.size, 0, none⟩ 1 1 us (by rw [hus, Nat.one_mul])
    (fun j u hj => by rw [add_zero_off, World.cell?_alloc_at _ _ _ _ rfl]; simpa using hj) h1 h63 hbytes (by simp; omega)
  refine wpList_plain hgd fun K hK' => ?_
  unfold Oper.wp
  simp [execOp, ho, resolve, invoke, builtin, hs, hx, hrun, Result.andThen]
  have hkk : ∀ k, k < w0.heap.size → v.ownBlock ≠ some k → w'.heap[k]? = w0.heap[k]? := fun k hk hne => by
    rw [r2.block k (by simp; omega) (fun e => hne e.symm)]
    exact Below.heap_alloc _ _ _ hk
  refine hK' _ _ (h v' w' r1 ?_ hkk ?_)
  · have hb1 : Below B w0 (w0.alloc (.cells us.toArray e)) := (Below.refl _ _).alloc hB _
    refine hb1.trans ⟨r2.os, r2.tape, r2.output, r2.size, fun k hk => r2.block k (by simp; omega) (fun e => ?_)⟩
    obtain ⟨cur, -, hg⟩ := owned_block hown1 e.symm
    omega
  · rcases r3 with e | e
    · exact .inl e
    · exact .inr ⟨_, e, by simp⟩
theorem wp_suchO {P : Program} {c : Code} {Q : Exit → Act → World → Prop} {a : Act} {fr : Nat → Option Addr → Nat → Act} {w : World} (R : World → Nat → Option Addr → Nat → Prop) (h : c.wp P (NoPanic fun e a' w' => e = .normal ∧ ∃ g v n, a' = fr g v n ∧ R w' g v n) a w) (k : ∀ g v n w', R w' g v n → Q .normal (fr g v n) w') : c.wp P Q a w :=
  Code.wp_mono (fun e a' w' hh => by obtain ⟨rfl, g, v, n, rfl, hb⟩ := NoPanic.imp e a' w' hh; exact k g v n w' hb) h
theorem ints_cut {W : World} {a : Option Addr} {n cap k : Nat} {l : List Int} (h : IntsAt W (.slice a n cap) l) (hk : k ≤ l.length) : IntsAt W (.slice a k cap) (l.take k) := by
  obtain ⟨a', c, e, h1, h2, h3⟩ := h
  cases e
  have hl : (l.take k).length = k := by rw [List.length_take]; omega
  refine ⟨_, _, by rw [hl], by omega, h2, fun h0 => ?_⟩
  obtain ⟨b', off', e2, h4⟩ := h3 (by omega)
  refine ⟨_, _, e2, fun j y hj => h4 j y ?_⟩
  rw [List.getElem?_take] at hj
  split at hj
  · exact hj
  · cases hj
theorem own_fill9 {X : World} {B : Nat} {vs : Value} {s : List Slot} (h : OwnS X (B + 1) vs s) (u0 u1 u2 u3 u4 u5 u6 u7 u8 : Value) : OwnS (((((((((X.setCell ⟨B, 0, none⟩ u0).setCell ⟨B, 1, none⟩ u1).setCell ⟨B, 2, none⟩ u2).setCell ⟨B, 3, none⟩ u3).setCell ⟨B, 4, none⟩ u4).setCell ⟨B, 5, none⟩ u5).setCell ⟨B, 6, none⟩ u6).setCell ⟨B, 7, none⟩ u7).setCell ⟨B, 8, none⟩ u8) B vs s := by
  have step : ∀ {X : World} (i : Nat) (u : Value), OwnS X (B + 1) vs s → OwnS (X.setCell ⟨B, i, none⟩ u) (B + 1) vs s := fun i u h => owned_kept h fun g hg => by
    obtain ⟨cur, -, h2⟩ := owned_block h hg
    exact Below.heap_setCell _ _ _ _ (by simp; omega)
  exact ownsRow_base (step 8 u8 (step 7 u7 (step 6 u6 (step 5 u5 (step 4 u4 (step 3 u3 (step 2 u2 (step 1 u1 (step 0 u0 h))))))))) (Nat.le_succ B)
abbrev oD (i : Nat) (v : Value) : Array Value := #[.int .i64 (i : Int), .int .i64 0, .int .i64 0, .int .i64 0, .int .i64 0, .int .i64 0, .int .i64 0, .int .i64 1, v]
set_option maxRecDepth 100000 in
set_option maxHeartbeats 4000000 in
theorem options30 (vp vx : Value) (l : List Pass) (x : List (List Int)) (w : World) (hp : PassesAt w vp l) (hv : RowsAt w vx x) (hs : SureOK l) (hx : ∀ r ∈ x, ∀ y ∈ r, InR y) (hl : l.length ≤ 64) :
    Calls Try.prog 30 #[vp, vx] w fun e w' => ∃ v', e = .returned v' ∧ OptsAt w' v' (optsG l x) ∧ Below w.heap.size w w' := by
  have HP := Lib.hid hp
  have HV := Lib.hid hv
  have HSU := Lib.hid hs
  have HXR := Lib.hid hx
  obtain ⟨pa, pc, rfl, hple, hpcm⟩ := hp.len
  obtain ⟨xa, xc, rfl, hxle, hxcm⟩ := hv.len
  unfold maxLen at hpcm hxcm
  clear hp hv hs hx
  obtain ⟨M, hM⟩ : ∃ M, min x.length 8 = M := ⟨_, rfl⟩
  have HG := Lib.hid (show optsG l x = optsK l x M by rw [← hM]; rfl)
  go_enter Try.func30, Try.ntmps30
  go_wp2
  go_loopw [5, 6, 7, 8] (fun u5 u6 _ _ wr => ∃ (i : Nat) (ps : List (OptD × Value)), i ≤ M ∧ u6 = .int .i64 (i : Int) ∧ OwnO wr w.heap.size u5 ps ∧ ps.map (·.1) = optsK l x i ∧ Below w.heap.size w wr) (fun _ u6 _ _ _ => (M - intOf u6).toNat)
  case atStart => exact ⟨0, [], by omega, rfl, OwnO.nil _ _, rfl, Below.refl _ _⟩
  case round =>
    obtain ⟨i, ps, hi, rfl, ho, hps, hBr⟩ := hrel
    by_cases hil : i < M
    · have hix : i < x.length := by omega
      have i1 : (0 : Int) ≤ (i : Int) ∧ (i : Int) < (x.length : Int) := by omega
      have e1 : decide ((i : Int) < (x.length : Int)) = true := decide_eq_true (by omega)
      have e2 : decide ((i : Int) < 8) = true := decide_eq_true (by omega)
      obtain ⟨b, off, vr, rfl, c0, hir⟩ := (HV.out.later hBr).get (getD_some [] hix)
      obtain ⟨r, hr⟩ : ∃ r, x.getD i [] = r := ⟨_, rfl⟩
      have HRR := HXR.out (x.getD i []) (L18.getD_mem [] hix)
      rw [hr] at hir HRR
      have HOK := Lib.hid (show optsK l x (i + 1) = if 0 < (optV l (r.take 8)).length then optsK l x i ++ [⟨optHd (i : Nat), optV l (r.take 8)⟩] else optsK l x i by rw [optsK, hr])
      obtain ⟨ra, rc, rfl, hrle, hrcm⟩ := SliceOf.len hir
      unfold maxLen at hrcm
      obtain ⟨n, hn⟩ : ∃ n, min r.length 8 = n := ⟨_, rfl⟩
      have hnl : n ≤ r.length := by omega
      have htk : r.take 8 = r.take n := by rw [← hn]; by_cases h : r.length ≤ 8 <;> simp [Nat.min_def, h]; rw [List.take_of_length_le h]
      have hmn : (if (8 : Int) < (r.length : Int) then (8 : Int) else (r.length : Int)) = (n : Int) := by rw [← hn, Nat.min_def]; split <;> split <;> omega
      have hmn2 : min (r.length : Int) 8 = (n : Int) := by rw [← hmn, Int.min_def]; split <;> split <;> omega
      have j1 : (0 : Int) ≤ (n : Int) ∧ (n : Int) ≤ (r.length : Int) ∧ (n : Int) ≤ (rc : Int) := by omega
      have lb := World.block_lt_of_cell? _ _ c0
      simp only at lb
      have HC := Lib.hid (fun W (hW : Below wr.heap.size wr W) => show W.cell? ⟨b, off + i, none⟩ = some (.slice ra r.length rc) from (hW.cell lb).trans c0)
      have hcut := ints_cut hir hnl
      have HO12 := Lib.hid (fun W (hW : Below wr.heap.size wr W) => option12o (i : Int) _ _ l (r.take n) W (PassesAt.later HP.out (hBr.trans (hW.mono hBr.size))) (IntsAt_below hcut hW) HSU.out (fun y hy => HRR y (List.mem_of_mem_take hy)) hl)
      have HTK := Lib.hid htk
      have HOW := Lib.hid ho
      have HPS := Lib.hid hps
      generalize hov : optV l (r.take n) = ov at HO12
      have HOV := Lib.hid hov
      obtain ⟨bo, hbo⟩ : ∃ bo, decide (0 < ov.length) = bo := ⟨_, rfl⟩
      rw [hbo] at HO12
      have HBO := Lib.hid hbo
      clear hbo
      clear hir hr hn hnl htk hcut ho hps hov HRR c0
      go_upto_region 5 with (fail)
      apply wp_suchO (fun w' g na nc => Below wr.heap.size wr w' ∧ Blk w' g (oD i (.slice na ov.length nc)) 28 ∧ OwnS w' wr.heap.size (.slice na ov.length nc) ov ∧ wr.heap.size ≤ g)
      · go_region_held3 (fun w' => Below wr.heap.size wr w' ∧ w'.cell? ⟨b, off + i, none⟩ = some (.slice ra r.length rc))
          (first | (have hh : Below wr.heap.size wr wr.drew := (Below.refl _ _).drew; with_reducible exact ⟨hh, HC.out _ hh⟩) | (have hb : Below wr.heap.size wr (wr.drew.alloc (.cells oZ 28)) := (Below.refl _ _).drew.alloc (Nat.le_refl _) _; with_reducible exact ⟨hb, HC.out _ hb⟩) | (have hb : Below wr.heap.size wr (wr.alloc (.cells oZ 28)).drew := ((Below.refl _ _).alloc (Nat.le_refl _) _).drew; with_reducible exact ⟨hb, HC.out _ hb⟩) | (with_reducible exact ⟨hSr, HC.out _ hSr⟩) | (have hb := hSr.alloc hSz (.cells oZ 28); with_reducible exact ⟨hb, HC.out _ hb⟩) | (have hb := hSr.alloc hSz (.cells (oD i (.slice na ov.length nc)) 28); with_reducible exact ⟨hb, HC.out _ hb⟩) | (have hb := (((((((((hSr.setCell (p := ⟨wr.heap.size, 0, none⟩) (Nat.le_refl _) (.int .i64 (i : Int))).setCell (p := ⟨wr.heap.size, 1, none⟩) (Nat.le_refl _) (.int .i64 0)).setCell (p := ⟨wr.heap.size, 2, none⟩) (Nat.le_refl _) (.int .i64 0)).setCell (p := ⟨wr.heap.size, 3, none⟩) (Nat.le_refl _) (.int .i64 0)).setCell (p := ⟨wr.heap.size, 4, none⟩) (Nat.le_refl _) (.int .i64 0)).setCell (p := ⟨wr.heap.size, 5, none⟩) (Nat.le_refl _) (.int .i64 0)).setCell (p := ⟨wr.heap.size, 6, none⟩) (Nat.le_refl _) (.int .i64 0)).setCell (p := ⟨wr.heap.size, 7, none⟩) (Nat.le_refl _) (.int .i64 1)).setCell (p := ⟨wr.heap.size, 8, none⟩) (Nat.le_refl _) (.slice na ov.length nc)); with_reducible exact ⟨hb, HC.out _ hb⟩))
          (first
            | (go_at_call 12; (with_reducible refine (HO12.out _ (‹Below wr.heap.size wr _ ∧ _›).1).mono ?_); rintro e wq ⟨⟨vs, rfl, hs⟩, hBq⟩; obtain ⟨na, nc, rfl, hn1, hn2⟩ := hs.len; have hSz := Nat.le_trans (‹Below wr.heap.size wr _ ∧ _›).1.size hBq.size; have hSr := (‹Below wr.heap.size wr _ ∧ _›).1.trans (hBq.mono (‹Below wr.heap.size wr _ ∧ _›).1.size); have hblk : Blk wq wr.heap.size oZ 28 := (Blk.newAt wr.drew oZ 28 (n := wr.heap.size) rfl).below hBq (by simp); have fr0 := hblk.frozen; have u0 := hblk.cell 0; have u1 := hblk.cell 1; have u2 := hblk.cell 2; have u3 := hblk.cell 3; have u4 := hblk.cell 4; have u5 := hblk.cell 5; have u6 := hblk.cell 6; have u7 := hblk.cell 7; have u8 := hblk.cell 8; simp only [List.getElem?_toArray, List.getElem?_cons_zero, List.getElem?_cons_succ] at u0 u1 u2 u3 u4 u5 u6 u7 u8)
            | (go_at_call 12; (with_reducible refine (HO12.out _ (‹Below wr.heap.size wr _ ∧ _›).1).mono ?_); rintro e wq ⟨⟨vs, rfl, hs⟩, hBq⟩; obtain ⟨na, nc, rfl, hn1, hn2⟩ := hs.len; have hSz := Nat.le_trans (‹Below wr.heap.size wr _ ∧ _›).1.size hBq.size; have hSr := (‹Below wr.heap.size wr _ ∧ _›).1.trans (hBq.mono (‹Below wr.heap.size wr _ ∧ _›).1.size)))
        all_goals (
          refine NoPanic.normal ?_
          first
            | (have hz : Blk (wq.alloc (.cells (oD i (.slice na ov.length nc)) 28)) wq.heap.size (oD i (.slice na ov.length nc)) 28 := Blk.new _ _ _
               have hsl : OwnS (wq.alloc (.cells (oD i (.slice na ov.length nc)) 28)) wr.heap.size (.slice na ov.length nc) ov := owned_below (ownsRow_base hs (by simp)) ((Below.refl _ _).alloc (Nat.le_refl _) _)
               have hbb := hSr.alloc hSz (.cells (oD i (.slice na ov.length nc)) 28)
               obtain ⟨gx, hgx⟩ : ∃ g, wq.heap.size = g := ⟨_, rfl⟩
               rw [hgx] at hz hSz
               rw [hgx]
               exact ⟨rfl, gx, na, nc, rfl, hbb, hz, hsl, hSz⟩)
            | (have hz := (fill9 hblk (.int .i64 (i : Int)) (.int .i64 0) (.int .i64 0) (.int .i64 0) (.int .i64 0) (.int .i64 0) (.int .i64 0) (.int .i64 1) (.slice na ov.length nc)).1
               have hbb := (((((((((hSr.setCell (p := ⟨wr.heap.size, 0, none⟩) (Nat.le_refl _) (.int .i64 (i : Int))).setCell (p := ⟨wr.heap.size, 1, none⟩) (Nat.le_refl _) (.int .i64 0)).setCell (p := ⟨wr.heap.size, 2, none⟩) (Nat.le_refl _) (.int .i64 0)).setCell (p := ⟨wr.heap.size, 3, none⟩) (Nat.le_refl _) (.int .i64 0)).setCell (p := ⟨wr.heap.size, 4, none⟩) (Nat.le_refl _) (.int .i64 0)).setCell (p := ⟨wr.heap.size, 5, none⟩) (Nat.le_refl _) (.int .i64 0)).setCell (p := ⟨wr.heap.size, 6, none⟩) (Nat.le_refl _) (.int .i64 0)).setCell (p := ⟨wr.heap.size, 7, none⟩) (Nat.le_refl _) (.int .i64 1)).setCell (p := ⟨wr.heap.size, 8, none⟩) (Nat.le_refl _) (.slice na ov.length nc))
               have hs2 : OwnS wq (wr.heap.size + 1) (.slice na ov.length nc) ov := ownsRow_base hs (by simp)
               have hsl := own_fill9 hs2 (.int .i64 (i : Int)) (.int .i64 0) (.int .i64 0) (.int .i64 0) (.int .i64 0) (.int .i64 0) (.int .i64 0) (.int .i64 1) (.slice na ov.length nc)
               exact ⟨rfl, wr.heap.size, na, nc, rfl, hbb, hz, hsl, Nat.le_refl _⟩)
           )
      · rintro g na nc W17 ⟨hb17, k17, s17, hg⟩
        have hBW := hBr.trans (hb17.mono hBr.size)
        have y0 := k17.cell 0
        have y1 := k17.cell 1
        have y2 := k17.cell 2
        have y3 := k17.cell 3
        have y4 := k17.cell 4
        have y5 := k17.cell 5
        have y6 := k17.cell 6
        have y7 := k17.cell 7
        have y8 := k17.cell 8
        simp only [List.getElem?_toArray, List.getElem?_cons_zero, List.getElem?_cons_succ] at y0 y1 y2 y3 y4 y5 y6 y7 y8
        have hpl : ps.length ≤ i := by
          have := optsK_len l x i
          rw [← HPS.out, List.length_map] at this
          exact this
        have how := HOW.out.below hb17
        have HHO := Lib.hid how
        have hrow := how.1
        have HS17 := Lib.hid s17
        clear how s17 k17 hg
        cases bo with
        | true =>
          have HN := Lib.hid (show optsK l x (i + 1) = optsK l x i ++ [⟨optHd (i : Nat), ov⟩] by rw [HOK.out, HTK.out, HOV.out, if_pos (of_decide_eq_true HBO.out)])
          go_wp2_with (at_builtin; refine wpList_pushL E39 rfl _ _ rfl w.heap.size hrow rfl rfl rfl (by intro u hu; simp at hu; rcases hu with rfl | rfl | rfl | rfl <;> rfl) (by unfold maxLen; omega) (by omega) hBW.size ?_; intro v' w3 hown' hb1 hkk hvv)
          have hON := Lib.hid (OwnO.snoc (od := ⟨optHd (i : Nat), ov⟩) HHO.out hown' hkk hvv hBr.size HS17.out HOW.out.lt)
          clear hown' hkk hvv y0 y1 y2 y3 y4 y5 y6 y7 y8
          go_wp2
          go_roundw
          case rel => exact ⟨i + 1, ps ++ [(⟨optHd (i : Nat), ov⟩, .slice na ov.length nc)], by omega, by go_num, hON.out, by rw [List.map_append, HPS.out, HN.out]; rfl, hBW.trans hb1⟩
          case measure => simp [intOf]; omega
        | false =>
          have HN := Lib.hid (show optsK l x (i + 1) = optsK l x i by rw [HOK.out, HTK.out, HOV.out, if_neg (of_decide_eq_false HBO.out)])
          clear y0 y1 y2 y3 y4 y5 y6 y7 y8
          go_wp2
          go_roundw
          case rel => exact ⟨i + 1, ps, by omega, by go_num, HHO.out, by rw [HN.out]; exact HPS.out, hBW⟩
          case measure => simp [intOf]; omega
    · obtain rfl : i = M := by omega
      have HR := Lib.hid (And.intro ho.opts hps)
      clear ho hps
      by_cases hx8 : x.length ≤ 8
      · have e1 : decide ((i : Int) < (x.length : Int)) = false := decide_eq_false (by omega)
        have e0 : decide (i < x.length) = false := decide_eq_false (by omega)
        go_wp2
        go_ret
        exact ⟨_, rfl, by rw [HG.out, ← HR.out.2]; exact HR.out.1, hBr⟩
      · have e1 : decide ((i : Int) < (x.length : Int)) = true := decide_eq_true (by omega)
        have e0 : decide (i < x.length) = true := decide_eq_true (by omega)
        have e2 : decide ((i : Int) < 8) = false := decide_eq_false (by omega)
        go_wp2
        go_ret
        exact ⟨_, rfl, by rw [HG.out, ← HR.out.2]; exact HR.out.1, hBr⟩
end Go.Proofs.Ytmajkagmcdlncaa
