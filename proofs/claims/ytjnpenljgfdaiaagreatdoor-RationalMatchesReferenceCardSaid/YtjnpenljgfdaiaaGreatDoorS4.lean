/- package integer: quotient and remainder. -/
import Derived.Test.YtjnpenljgfdaiaaGreatDoorS3
namespace Go.Proofs.YtjnpenljgfdaiaaGreatDoor
open Go.RowKit Go.Shelf Lib
attribute [local go_sem] Oper.semAt_some run_store_func' make_func'

theorem mk88n (n : Nat) (hn : n ≤ 1000000) (w : World) : (Instr.makeSlice 88 (.int .i64 n) (.int .i64 n)).run Tryz.prog w = .ok (.slice (some ⟨w.heap.size, 0, none⟩) n n) (w.alloc (.cells (madeCells #[.int .i64 0] n) 3)) := by
  obtain ⟨i, hi, hz0, hz1, hz2⟩ := info_parts E88.info
  have h := run_make (P := Tryz.prog) w 88 3 i _ E88.und hi hz0 .i64 .i64 n n (by omega) (Int.le_refl _) (by rw [hz2]; omega) (by omega)
  rw [Int.toNat_natCast, hz1, Nat.mul_one] at h
  exact h
/-- A block of cells, as a whole. -/
def BlkC (W : World) (B : Nat) (cs : Array Value) : Prop := W.heap[B]? = some (.cells cs 3 (0, 0))
theorem BlkC.lt {W : World} {B : Nat} {cs : Array Value} (h : BlkC W B cs) : B < W.heap.size := (Array.getElem?_eq_some_iff.1 h).1
theorem BlkC.cell {W : World} {B : Nat} {cs : Array Value} (h : BlkC W B cs) (i : Nat) : W.cell? ⟨B, i, none⟩ = cs[i]? := by simp [World.cell?, show W.heap[B]? = _ from h]
theorem BlkC.frozen {W : World} {B : Nat} {cs : Array Value} (h : BlkC W B cs) (i : Nat) : W.frozen? ⟨B, i, none⟩ = false := by simp [World.frozen?, show W.heap[B]? = _ from h]
theorem BlkC.below {W W' : World} {D B : Nat} {cs : Array Value} (h : BlkC W B cs) (hb : Below D W W') (hD : B < D) : BlkC W' B cs := (hb.block B hD).trans h
theorem BlkC.alloc {W : World} {B : Nat} {cs : Array Value} (h : BlkC W B cs) (o : Obj) : BlkC (W.alloc o) B cs := (Below.heap_alloc W o B h.lt).trans h
theorem BlkC.set {W : World} {B : Nat} {cs : Array Value} (h : BlkC W B cs) (i : Nat) (v : Value) : BlkC (W.setCell ⟨B, i, none⟩ v) B (cs.setIfInBounds i v) := heap_setCell_same W B i cs 3 v h
theorem BlkC.other {W : World} {B : Nat} {cs : Array Value} (h : BlkC W B cs) {a : Addr} (v : Value) (ha : B ≠ a.block) : BlkC (W.setCell a v) B cs := (heap_setCell_other W a B v ha).trans h
theorem IntsAt.setOff {w : World} {g off n c : Nat} {l : List Int} (h : IntsAt w (.slice (some ⟨g, off, none⟩) n c) l) {p : Addr} (hp : g ≠ p.block) (u : Value) : IntsAt (w.setCell p u) (.slice (some ⟨g, off, none⟩) n c) l := by
  obtain ⟨a, cap, h1, h2, h3, h4⟩ := h
  refine ⟨a, cap, h1, h2, h3, fun hl => ?_⟩
  obtain ⟨b, o, rfl, h5⟩ := h4 hl
  cases h1
  refine ⟨_, _, rfl, fun j y hj => ?_⟩
  rw [World.cell?_setCell_other _ _ _ _ (fun e => by rw [e] at hp; exact hp rfl)]
  exact h5 j y hj
def castV (l : List Nat) : Array Value := ((castL l).map (Value.int .i64)).toArray
theorem castV_get {l : List Nat} {i : Nat} (h : i < l.length) : (castV l)[i]? = some (.int .i64 (l.getD i 0 : Nat)) := by
  unfold castV
  rw [List.getElem?_toArray, List.getElem?_map, castL_get h]; rfl
theorem castV_zero (n : Nat) : castV (List.replicate n 0) = madeCells #[.int .i64 0] n := by
  unfold castV castL
  apply Array.ext
  · simp [madeCells]
  · intro i h1 h2
    simp [madeCells, Nat.mod_one]
theorem castV_set {l : List Nat} (i d : Nat) : (castV l).setIfInBounds i (.int .i64 (d : Nat)) = castV (l.set i d) := by
  unfold castV castL
  rw [List.setIfInBounds_toArray, ← List.map_set, ← List.map_set]
theorem BlkC.ints {W : World} {B : Nat} {l : List Nat} (h : BlkC W B (castV l)) (hl : l.length ≤ 1000000) : IntsAt W (.slice (some ⟨B, 0, none⟩) l.length l.length) (castL l) := by
  refine ⟨_, l.length, by rw [castL_len], by rw [castL_len]; omega, by unfold maxLen; omega, fun _ => ⟨B, 0, rfl, fun j y hj => ?_⟩⟩
  have : j < l.length := by
    have := (List.getElem?_eq_some_iff.1 hj).1
    rwa [castL_len] at this
  rw [Nat.zero_add, h.cell, castV_get this]
  rw [castL_get this] at hj
  cases hj; rfl
theorem keep_S1 {W V V' : World} {p : Addr} {a : Value} (h : Below W.heap.size W V ∧ V.cell? p = some a) (hB : Below V.heap.size V V') : Below W.heap.size W V' ∧ V'.cell? p = some a :=
  ⟨h.1.trans (hB.mono h.1.size), (hB.cell (World.block_lt_of_cell? _ _ h.2)).trans h.2⟩
theorem AnsB.below {w V : World} {f : Value} {p : Nat → Bool} (h : AnsB w f p) (hV : Below w.heap.size w V) : AnsB V f p := by
  obtain ⟨k, caps, h1, h2, h3⟩ := h
  exact ⟨k, caps, h1, h2, fun i hi W hW => h3 i hi W (hV.trans (hW.mono hV.size))⟩
/-- What over's search finds. -/
theorem search_over (w V : World) (p q : Addr) (v2 vr : Value) (m r : Nat) (_hm : 0 < m) (hr2 : r < 10000 * m) (h2 : NumAt w v2 m) (hr : NumAt w vr r) (hp : w.cell? p = some (.func (.func 117) #[v2] #[])) (hq : w.cell? q = some vr) (l2 : (N3.toG m).length ≤ 1000) (hV : Below w.heap.size w V) :
    Calls Tryz.prog 120 #[.int .i64 9999, .func (.func 119) #[] #[.pointer (some p), .pointer (some q)]] V fun e w' => e = .returned (.int .i64 ((r / m : Nat) : Int)) ∧ Below V.heap.size V w' := by
  refine (search_any 9999 _ _ V ((over1_ans w p q v2 vr m r h2 hr hp hq l2).below hV) (fun i j hij hi => ?_) (Nat.le_refl _)).mono ?_
  · have hi := of_decide_eq_true hi
    have := Nat.mul_le_mul_left m (show i + 1 ≤ j + 1 by omega)
    exact decide_eq_true (by omega)
  · rintro e w' ⟨d, rfl, h1, h3, h4, hB⟩
    have := N3.search_group hr2 h1 (fun i hi => by have := of_decide_eq_false (h3 i hi); rwa [Nat.mul_comm] at this) (fun hd => by have := of_decide_eq_true (h4 hd); rwa [Nat.mul_comm] at this)
    exact ⟨by rw [this], hB⟩
set_option maxRecDepth 100000 in
set_option maxHeartbeats 2000000 in
theorem over_any (v1 v2 : Value) (n m : Nat) (w : World) (h1 : NumAt w v1 n) (h2 : NumAt w v2 m) (hm : 0 < m) (l1 : (N3.toG n).length ≤ 1000) (l2 : (N3.toG m).length ≤ 1000) :
    Calls Tryz.prog 88 #[v1, v2] w fun e w' => ∃ vq vr, e = .returned (.tuple #[vq, vr]) ∧ NumAt w' vq (n / m) ∧ NumAt w' vr (n % m) ∧ Below w.heap.size w w' := by
  obtain ⟨a, cp, rfl, g1, g2⟩ := (show IntsAt w v1 _ from h1).len
  obtain ⟨b, cq, rfl, k1, k2⟩ := (show IntsAt w v2 _ from h2).len
  rw [castL_len] at g1 k1
  have hmk := fun w => mk88n (N3.toG n).length (by omega) w
  rw [castL_len, castL_len]
  rw [castL_len] at h2
  obtain ⟨W0, hW0⟩ : ∃ W0, ((((w.alloc (.cells #[.slice b (N3.toG m).length cq] 88)).alloc (.cells #[.slice (some ⟨w.heap.size + 1 + 1 + 1, 0, none⟩) (N3.toG n).length (N3.toG n).length] 88)).alloc (.cells #[.slice none 0 0] 88)).alloc (.cells (madeCells #[.int .i64 0] (N3.toG n).length) 3)).alloc (.cells #[.slice a (N3.toG n).length cp] 88) = W0 := ⟨_, rfl⟩
  have hsz : W0.heap.size = w.heap.size + 5 := by rw [← hW0]; simp
  have hB0 : Below w.heap.size w W0 := by rw [← hW0]; exact (((((Below.refl _ _).alloc (Nat.le_refl _) _).alloc (by simp) _).alloc (by simp; omega) _).alloc (by simp; omega) _).alloc (by simp; omega) _
  have hb1 : Boxed W0 w.heap.size 88 (.slice b (N3.toG m).length cq) := by rw [← hW0]; exact ((((Boxed.new w 88 _).alloc _).alloc _).alloc _).alloc _
  have hb2 : Boxed W0 (w.heap.size + 1) 88 (.slice (some ⟨w.heap.size + 1 + 1 + 1, 0, none⟩) (N3.toG n).length (N3.toG n).length) := by
    have := (((Boxed.new (w.alloc (.cells #[.slice b (N3.toG m).length cq] 88)) 88 (.slice (some ⟨w.heap.size + 1 + 1 + 1, 0, none⟩) (N3.toG n).length (N3.toG n).length)).alloc (.cells #[.slice none 0 0] 88)).alloc (.cells (madeCells #[.int .i64 0] (N3.toG n).length) 3)).alloc (.cells #[.slice a (N3.toG n).length cp] 88)
    rw [World.size_alloc] at this
    rw [← hW0]; exact this
  have hb3 : Boxed W0 (w.heap.size + 1 + 1) 88 (.slice none 0 0) := by
    have := ((Boxed.new ((w.alloc (.cells #[.slice b (N3.toG m).length cq] 88)).alloc (.cells #[.slice (some ⟨w.heap.size + 1 + 1 + 1, 0, none⟩) (N3.toG n).length (N3.toG n).length] 88)) 88 (.slice none 0 0)).alloc (.cells (madeCells #[.int .i64 0] (N3.toG n).length) 3)).alloc (.cells #[.slice a (N3.toG n).length cp] 88)
    rw [World.size_alloc, World.size_alloc] at this
    rw [← hW0]; exact this
  have hb4 : BlkC W0 (w.heap.size + 1 + 1 + 1) (castV (N3.quoK (N3.toG n) m 0)) := by
    rw [N3.quoK_zero, castV_zero, ← hW0]
    refine BlkC.alloc ?_ _
    have := heap_alloc_new (((w.alloc (.cells #[.slice b (N3.toG m).length cq] 88)).alloc (.cells #[.slice (some ⟨w.heap.size + 1 + 1 + 1, 0, none⟩) (N3.toG n).length (N3.toG n).length] 88)).alloc (.cells #[.slice none 0 0] 88)) (.cells (madeCells #[.int .i64 0] (N3.toG n).length) 3)
    simp only [World.size_alloc] at this
    exact this
  have hb5 : Boxed W0 (w.heap.size + 1 + 1 + 1 + 1) 88 (.slice a (N3.toG n).length cp) := by
    have := Boxed.new ((((w.alloc (.cells #[.slice b (N3.toG m).length cq] 88)).alloc (.cells #[.slice (some ⟨w.heap.size + 1 + 1 + 1, 0, none⟩) (N3.toG n).length (N3.toG n).length] 88)).alloc (.cells #[.slice none 0 0] 88)).alloc (.cells (madeCells #[.int .i64 0] (N3.toG n).length) 3)) 88 (.slice a (N3.toG n).length cp)
    simp only [World.size_alloc] at this
    rw [← hW0]; exact this
  have hseq := Lib.hid (backward_seq 4 (by omega) (w.heap.size + 1 + 1 + 1 + 1) (N3.toG n) w W0 _ h1 hB0 (by omega) ⟨_, _, by rw [castL_len]; exact hb5⟩)
  have hnil : NumAt W0 (.slice none 0 0) 0 := ⟨none, 0, by rw [N3.toG_zero]; rfl, by rw [N3.toG_zero]; exact Nat.le_refl _, by unfold maxLen; omega, fun h => by rw [N3.toG_zero] at h; exact absurd h (by decide)⟩
  refine (callsIn_wide (n := 5)).1 ?_
  refine callsIn_of_wp_marks Tryz.func88 rfl trivial ?_ rfl
  simp only [Tryz.ntmps88, List.size_toArray, List.length_cons, List.length_nil, Nat.reduceAdd, Nat.reduceSub, Array.replicate_succ, Array.replicate_zero, List.push_toArray, List.append_toArray, List.nil_append, List.cons_append]
  refine wpIn_wide.2 ?_
  go_wp2_with fail
  refine (backward_made _ _ _ _).mono ?_
  rintro e w' ⟨rfl, rfl⟩
  go_wp2_with fail
  refine (wpIn_wide (n := 5)).1 ?_
  refine wpIn_rangeFunc_Mf (zs := fun k => False) rfl (by omega) (gf := 138) (lb := #[.pointer (some ⟨w.heap.size + 1 + 1 + 1 + 1, 0, none⟩)]) (by simp [Act.eval]) trivial Tryz.call138
    (fun k hk => hk.elim) hseq.out (fun h k => h.trans k)
    (fun W l o o' hl ho _ _ => KpC.putObj o' (by omega) (by omega) ho) (Below.refl _ _) (fun _ => rfl)
    (fun pre W => pre.length ≤ (N3.toG n).length ∧ Boxed W w.heap.size 88 (.slice b (N3.toG m).length cq) ∧ Boxed W (w.heap.size + 1) 88 (.slice (some ⟨w.heap.size + 1 + 1 + 1, 0, none⟩) (N3.toG n).length (N3.toG n).length) ∧ BlkC W (w.heap.size + 1 + 1 + 1) (castV (N3.quoK (N3.toG n) m pre.length)) ∧ (∃ vo, Boxed W (w.heap.size + 1 + 1) 88 vo ∧ NumAt W vo (N3.remK (N3.toG n) m pre.length)) ∧ Below w.heap.size w W ∧ w.heap.size + 5 ≤ W.heap.size)
    (fun _ _ _ => False)
    (fun s A B hs ht => ⟨hs.1, ht.boxed hs.2.1 (fun h => h), ht.boxed hs.2.2.1 (fun h => h), ht.heap hs.2.2.2.1 (fun h => h) (.inr rfl), by
      obtain ⟨vo, q1, q2⟩ := hs.2.2.2.2.1
      exact ⟨vo, ht.boxed q1 (fun h => h), IntsAt.turn q2 ht (fun _ h => h)⟩, ht.below hs.2.2.2.2.2.1 (Nat.le_refl _) (by omega) (fun k hk h => h), Nat.le_trans hs.2.2.2.2.2.2 ht.size⟩)
    (fun _ _ _ _ hs _ => hs)
    ⟨by simp, hb1, hb2, hb4, ⟨_, hb3, by rw [show ([] : List (Nat × Nat)).length = 0 from rfl, N3.remK_zero]; exact hnil⟩, hB0, by omega⟩
    (fun x t => (((t.setIfInBounds 15 (.int .i64 (x.1 : Int))).setIfInBounds 16 (.int .i64 (x.2 : Int))).setIfInBounds 6 (.int .i64 (x.1 : Int))).setIfInBounds 7 (.int .i64 (x.2 : Int))) ?assign ?body ?done ?stop
  case assign =>
    intro l x W K hK
    dsimp only [encB]
    gi_wp2
    exact hK
  case body =>
    rintro l pre x W ⟨hpl, hcm, hcq, hqd, ⟨vo, hcr, hvr⟩, hB, hsz1⟩ ⟨hlt, rfl⟩
    have hx4 : (nthB (N3.toG n) pre.length).2 < 10000 := getD_lt (N3.toG_lt n) _
    have hi1 : (nthB (N3.toG n) pre.length).1 < (N3.toG n).length := by show (N3.toG n).length - 1 - pre.length < _; omega
    have hrb := N3.rem_bound (N3.toG_lt n) (k := pre.length) hm
    have hrk := N3.remK_succ (m := m) hlt
    have hqk := N3.quoK_succ (m := m) hlt
    have hql := N3.quoK_len (m := m) (Nat.le_of_lt hlt)
    have hrlen : (N3.toG (N3.remK (N3.toG n) m pre.length)).length ≤ 1000 := by
      have : N3.remK (N3.toG n) m pre.length ≤ m := Nat.le_of_lt (Nat.mod_lt _ hm)
      have := len_mono this; omega
    unfold N3.digK at hrk hqk
    rw [show (N3.toG n).getD ((N3.toG n).length - 1 - pre.length) 0 = (nthB (N3.toG n) pre.length).2 from rfl] at hrb hrk hqk
    rw [show (N3.toG n).length - 1 - pre.length = (nthB (N3.toG n) pre.length).1 from rfl] at hqk
    generalize nthB (N3.toG n) pre.length = xx at hx4 hi1 hrb hrk hqk ⊢
    generalize hh : N3.remK (N3.toG n) m pre.length = r at hvr hrb hrk hqk hrlen
    generalize hqq : N3.quoK (N3.toG n) m pre.length = qs at hqd hqk hql
    generalize hR : xx.2 + 10000 * r = R at hrb hrk hqk
    have HR := Lib.hid hR
    clear hR
    have hRl : (N3.toG R).length ≤ 1002 := by
      have q1 := len_mono (Nat.le_of_lt hrb)
      have q2 := len_mul 10000 m
      have q3 : (N3.toG 10000).length ≤ 2 := N3.toG_len_le (by decide)
      omega
    have hpre' := Lib.hid hlt
    have HRK := Lib.hid hrk
    have HQK := Lib.hid hqk
    have HQL := Lib.hid hql
    have hj1 := hcm.cell
    have hj2 := hcq.cell
    have hj3 := hcr.cell
    have hf3 := hcr.frozen
    obtain ⟨oa, oc, rfl, o1, o2⟩ := (show IntsAt W vo _ from hvr).len
    rw [castL_len] at *
    have HV := Lib.hid (show IntsAt W (.slice oa (N3.toG r).length oc) (castL (N3.toG r)) from hvr)
    have HRB := Lib.hid hrb
    have hm2 : (N3.toG r).length ≤ 1000000 := by omega
    generalize hlen : (N3.toG r).length = len at hj3 HV o1 hm2 hrlen
    have HLN := Lib.hid hlen
    clear hlen hvr hpl hlt hrk hqk hql hh hqq hrb
    have hj3a : (W.alloc (.cells #[.int .i64 xx.2] 3)).cell? ⟨w.heap.size + 1 + 1, 0, none⟩ = some (.slice oa len oc) := (World.cell?_alloc_lt _ _ _ (by simp; omega)).trans hj3
    gi_wp2_with (gi_at_builtin; refine wpListIn_round (fun c h => by cases h) ?_; refine wpList_cons rfl _ _ rfl HV.out rfl rfl (by rw [HLN.out]; exact hm2) ?_; intro g c w1 hia hc11 hc12 hB1 hg1; rw [HLN.out] at hia hc11; refine wpList_nil ?_; refine OnlyN.normal ?_; show wpListIn _ _ _ _ _ _ _ _; rw [HLN.out])
    refine ⟨trivial, ?_⟩
    have hok : N3.OKl (xx.2 :: N3.toG r) := fun y hy => by
      rcases List.mem_cons.1 hy with rfl | hy
      · exact hx4
      · exact N3.toG_lt r y hy
    have hvt : IntsAt w1 (.slice (some ⟨g, 0, none⟩) (xx.2 :: N3.toG r).length c) (castL (xx.2 :: N3.toG r)) := by rw [List.length_cons, HLN.out, Nat.add_comm]; exact hia
    have htr := trimmed_at (some ⟨g, 0, none⟩) c (xx.2 :: N3.toG r) w1 hvt hok
    have hvw := trimmed_view hvt hok
    have hval : N3.val (xx.2 :: N3.toG r) = R := by
      show xx.2 + 10000 * N3.val (N3.toG r) = _
      rw [N3.val_toG]; exact HR.out
    rw [hval] at htr hvw
    rw [List.length_cons, HLN.out, Nat.add_comm] at htr
    clear hvt hok hval hia
    refine (CallsIn.inRound l (callsIn_wide.2 htr)).mono ?_
    rintro e w' ⟨rfl, rfl⟩
    have HVW := Lib.hid hvw
    have hk3 := (boxed_below hB1 hcr).cell
    have hk3f := (boxed_below hB1 hcr).frozen
    have hk1 := (boxed_below hB1 hcm).cell
    clear hvw htr hj3a hj1 hj2 hj3 hf3
    gi_wp2_with fail
    generalize hW3 : ((w1.setCell ⟨w.heap.size + 1 + 1, 0, none⟩ (.slice (some ⟨g, 0, none⟩) (N3.toG R).length c)).alloc (.cells #[.func (.func 117) #[.slice b (N3.toG m).length cq] #[]] 128)) = W3
    have hs1 := hB1.size
    have z3 : W3.heap.size = w1.heap.size + 1 := by rw [← hW3]; simp
    have b1 : Boxed W3 w.heap.size 88 (.slice b (N3.toG m).length cq) := by rw [← hW3]; exact Boxed.alloc ((Below.heap_setCell _ _ _ _ (by dsimp only; omega)).trans (boxed_below hB1 hcm)) _
    have b2 : Boxed W3 (w.heap.size + 1) 88 (.slice (some ⟨w.heap.size + 1 + 1 + 1, 0, none⟩) (N3.toG n).length (N3.toG n).length) := by rw [← hW3]; exact Boxed.alloc ((Below.heap_setCell _ _ _ _ (by dsimp only; omega)).trans (boxed_below hB1 hcq)) _
    have b3 : Boxed W3 (w.heap.size + 1 + 1) 88 (.slice (some ⟨g, 0, none⟩) (N3.toG R).length c) := by rw [← hW3]; exact Boxed.alloc ((boxed_below hB1 hcr).set _) _
    have b4 : BlkC W3 (w.heap.size + 1 + 1 + 1) (castV qs) := by rw [← hW3]; exact BlkC.alloc (BlkC.other (hqd.below hB1 (by omega)) _ (by simp)) _
    have b5 : W3.heap[w.heap.size + 1 + 1 + 1 + 1]? = W.heap[w.heap.size + 1 + 1 + 1 + 1]? := by
      rw [← hW3, Below.heap_alloc _ _ _ (by simp; omega), Below.heap_setCell _ _ _ _ (by dsimp only; omega)]
      exact hB1.block _ (by omega)
    have b6 : Boxed W3 w1.heap.size 128 (.func (.func 117) #[.slice b (N3.toG m).length cq] #[]) := by
      have := Boxed.new (w1.setCell ⟨w.heap.size + 1 + 1, 0, none⟩ (.slice (some ⟨g, 0, none⟩) (N3.toG R).length c)) 128 (.func (.func 117) #[.slice b (N3.toG m).length cq] #[])
      rw [World.size_setCell] at this
      rw [← hW3]; exact this
    have b7 := Lib.hid (show NumAt W3 (.slice (some ⟨g, 0, none⟩) (N3.toG R).length c) R by
      rw [← hW3]
      exact NumAt.below (IntsAt.setBox HVW.out (boxed_below hB1 hcr) _) ((Below.refl _ _).alloc (Nat.le_refl _) _))
    have b8 : KeepsOthers W W3 := by rw [← hW3]; exact (keeps_below hB1).trans ((KeepsOthers.setCell _ _ _).trans (KeepsOthers.alloc _ _))
    have b9 : Below w.heap.size W W3 := by rw [← hW3]; exact ((hB1.mono hB.size).setCell (by dsimp only; omega) _).alloc (by simp; omega) _
    have hrb := HRB.out
    have hB3 := hB.trans b9
    have hd := Lib.hid (fun (V : World) (hV : Below W3.heap.size W3 V) => search_over W3 V ⟨w1.heap.size, 0, none⟩ ⟨w.heap.size + 1 + 1, 0, none⟩ (.slice b (N3.toG m).length cq) _ m R hm hrb (NumAt.below h2 hB3) b7.out b6.cell b3.cell l2 hV)
    have hd4 : R / m < 10000 := (Nat.div_lt_iff_lt_mul hm).2 hrb
    have hdle : m * (R / m) ≤ R := Nat.mul_div_le R m
    generalize R / m = d at hd hd4 hdle HRK HQK
    have HDL := Lib.hid hdle
    have hi2 := b2.cell
    have hi2b := hi2
    have hpi : (0 : Int) ≤ (xx.1 : Int) ∧ (xx.1 : Int) < ((N3.toG n).length : Int) := by omega
    clear hk3 hk3f hk1 hW3 HVW hdle hrb
    refine wpIn_round_E (S := (fun w' => Below W3.heap.size W3 w' ∧ w'.cell? ⟨w.heap.size + 1, 0, none⟩ = some (.slice (some ⟨w.heap.size + 1 + 1 + 1, 0, none⟩) (N3.toG n).length (N3.toG n).length))) 5 (by kernel_rfl) (by kernel_rfl) ⟨(Below.refl _ _).drew, hi2⟩ (fun hHeld => ?_)
    refine wpE_take (i := 0) (oi := { dst := some 25, op := Op.load 88 (Operand.tmp 4), type := 88, pos := "integer.go:164", after := #[], guard := none }) (v := ?_) rfl (by kernel_rfl) (by kernel_rfl) (by kernel_rfl) (by kernel_rfl) (fun _ _ _ h => h) (Or.inl ⟨by kernel_rfl, ?_⟩) (by assumption) ?_
    rotate_left
    · intro w hSw
      (try dsimp only at hSw)
      go_simp
      all_goals (with_reducible rfl)
    (try simp only [Act.put, List.setIfInBounds_toArray, List.set_cons_zero, List.set_cons_succ])
    refine wpE_take (i := 1) (oi := { dst := some 26, op := Op.move (Operand.tmp 6), type := 3, pos := "integer.go:164", after := #[], guard := none }) (v := ?_) rfl (by kernel_rfl) (by kernel_rfl) (by kernel_rfl) (by kernel_rfl) (fun _ _ _ h => h) (Or.inl ⟨by kernel_rfl, ?_⟩) (by assumption) ?_
    rotate_left
    · intro w hSw
      (try dsimp only at hSw)
      go_simp
      all_goals (with_reducible rfl)
    (try simp only [Act.put, List.setIfInBounds_toArray, List.set_cons_zero, List.set_cons_succ])
    refine wpE_take (i := 2) (oi := { dst := some 27, op := Op.move (Operand.tmp 9), type := 129, pos := "integer.go:164", after := #[], guard := none }) (v := ?_) rfl (by kernel_rfl) (by kernel_rfl) (by kernel_rfl) (by kernel_rfl) (fun _ _ _ h => h) (Or.inl ⟨by kernel_rfl, ?_⟩) (by assumption) ?_
    rotate_left
    · intro w hSw
      (try dsimp only at hSw)
      go_simp
      all_goals (with_reducible rfl)
    (try simp only [Act.put, List.setIfInBounds_toArray, List.set_cons_zero, List.set_cons_succ])
    refine wpE_one (i := 3) (o := { dst := some 28, op := Op.call { callee := Callee.value (Operand.func 120), args := #[Operand.const (Value.int IntKind.i64 9999), Operand.tmp 27], argTypes := #[3, 129] }, type := 3, pos := "integer.go:164", after := #[{ on := 2, ground := Ground.data }], guard := none }) (by kernel_rfl) rfl (fun K hK => ?_)
    go_simp
    go_at_call 120
    refine (hd.out _ hHeld.1).mono ?_
    rintro e w5 ⟨rfl, hB5⟩
    refine hK.out _ _ (fun _ => ?_) (fun hHeld2 => ?_)
    · exact keep_S1 hHeld hB5
    clear hHeld
    have hHeld := hHeld2 (by decide)
    clear hHeld2
    clear hK K
    (try simp only [Act.put, List.setIfInBounds_toArray, List.set_cons_zero, List.set_cons_succ])
    refine wpE_take (i := 4) (oi := { dst := some 29, op := Op.indexAddr 88 (Operand.tmp 25) (Operand.tmp 26), type := 0, pos := "integer.go:164", after := #[{ on := 0, ground := Ground.data }, { on := 1, ground := Ground.data }, { on := 0, ground := Ground.phase }, { on := 1, ground := Ground.phase }, { on := 2, ground := Ground.phase }, { on := 3, ground := Ground.phase }], guard := none }) (v := ?_) rfl (by kernel_rfl) (by kernel_rfl) (by kernel_rfl) (by kernel_rfl) (fun _ _ _ h => h) (Or.inl ⟨by kernel_rfl, ?_⟩) (by assumption) ?_
    rotate_left
    · intro w hSw
      (try dsimp only at hSw)
      go_simp
      all_goals (with_reducible rfl)
    (try simp only [Act.put, List.setIfInBounds_toArray, List.set_cons_zero, List.set_cons_succ])
    refine wpE_one (i := 5) (o := { dst := none, op := Op.store 3 (Operand.tmp 29) (Operand.tmp 28), type := 0, pos := "integer.go:164", after := #[{ on := 4, ground := Ground.data }, { on := 3, ground := Ground.data }, { on := 3, ground := Ground.chain }, { on := 0, ground := Ground.phase }, { on := 1, ground := Ground.phase }, { on := 2, ground := Ground.phase }, { on := 3, ground := Ground.phase }], guard := none }) (by kernel_rfl) rfl (fun K hK => ?_)
    have hq5 := b4.below hHeld.1 (by omega)
    have hcs := (hq5.cell xx.1).trans (castV_get (by rw [HQL.out]; exact hi1))
    have hfs := hq5.frozen xx.1
    have hHeldB := hHeld.1
    go_simp
    refine hK.out _ _ (fun h => absurd rfl h) (fun _ => ?_)
    clear hK K
    (try simp only [Act.put, List.setIfInBounds_toArray, List.set_cons_zero, List.set_cons_succ])
    refine wpE_done (by kernel_rfl) ?_ _
    refine OnlyN.normal ?_
    gi_wp2_with fail
    generalize hW4 : w5.setCell ⟨w.heap.size + 1 + 1 + 1, xx.1, none⟩ (.int .i64 d) = W4
    have hs5 := hHeldB.size
    have z4 : W4.heap.size = w5.heap.size := by rw [← hW4]; simp
    have c1 : Boxed W4 w.heap.size 88 (.slice b (N3.toG m).length cq) := by rw [← hW4]; exact (Below.heap_setCell _ _ _ _ (by dsimp only; omega)).trans (boxed_below hHeldB b1)
    have c2 : Boxed W4 (w.heap.size + 1) 88 (.slice (some ⟨w.heap.size + 1 + 1 + 1, 0, none⟩) (N3.toG n).length (N3.toG n).length) := by rw [← hW4]; exact (Below.heap_setCell _ _ _ _ (by dsimp only; omega)).trans (boxed_below hHeldB b2)
    have c3 : Boxed W4 (w.heap.size + 1 + 1) 88 (.slice (some ⟨g, 0, none⟩) (N3.toG R).length c) := by rw [← hW4]; exact (Below.heap_setCell _ _ _ _ (by dsimp only; omega)).trans (boxed_below hHeldB b3)
    have c4 : BlkC W4 (w.heap.size + 1 + 1 + 1) (castV (qs.set xx.1 d)) := by rw [← hW4, ← castV_set]; exact (b4.below hHeldB (by omega)).set _ _
    have c5 : W4.heap[w.heap.size + 1 + 1 + 1 + 1]? = W.heap[w.heap.size + 1 + 1 + 1 + 1]? := by
      rw [← hW4, Below.heap_setCell _ _ _ _ (by dsimp only; omega), ← b5]
      exact hHeldB.block _ (by omega)
    have c6 : Boxed W4 w1.heap.size 128 (.func (.func 117) #[.slice b (N3.toG m).length cq] #[]) := by rw [← hW4]; exact (Below.heap_setCell _ _ _ _ (by dsimp only; omega)).trans (boxed_below hHeldB b6)
    have c7 := Lib.hid (show NumAt W4 (.slice (some ⟨g, 0, none⟩) (N3.toG R).length c) R by
      rw [← hW4]
      exact IntsAt.setOff (NumAt.below b7.out hHeldB) (by dsimp only; omega) _)
    have c8 : KeepsOthers W W4 := by rw [← hW4]; exact b8.trans ((keeps_below hHeldB).trans (KeepsOthers.setCell _ _ _))
    have c9 : Below w.heap.size W W4 := by rw [← hW4]; exact (b9.trans (hHeldB.mono hB3.size)).setCell (by dsimp only; omega) _
    have hB4 := hB.trans c9
    have hby := Lib.hid (fun (V : World) (hV : Below W4.heap.size W4 V) => by_any (.slice b (N3.toG m).length cq) m d V (NumAt.below h2 (hB4.trans (hV.mono hB4.size))) hd4 (by omega))
    have hmi := Lib.hid (fun (V : World) (hV : Below W4.heap.size W4 V) (v6 : Value) (h6 : NumAt V v6 (m * d)) => minus_any (.slice (some ⟨g, 0, none⟩) (N3.toG R).length c) v6 R (m * d) V (NumAt.below c7.out hV) h6 (by omega) HDL.out)
    have hj1 := c3.cell
    have hj2 := c6.cell
    have hj3 := c2.cell
    have hj4 : W4.cell? ⟨w.heap.size + 1 + 1 + 1, xx.1, none⟩ = some (.int .i64 d) := by
      rw [c4.cell, castV_get (by rw [List.length_set, HQL.out]; exact hi1)]
      rw [List.getD_eq_getElem?_getD, List.getElem?_set_self (by rw [HQL.out]; exact hi1)]; rfl
    clear hW4 hi2 hi2b
    refine wpIn_round_E (S := (fun w' => Below W4.heap.size W4 w' ∧ w'.cell? ⟨w.heap.size + 1 + 1, 0, none⟩ = some (.slice (some ⟨g, 0, none⟩) (N3.toG R).length c) ∧ w'.cell? ⟨w1.heap.size, 0, none⟩ = some (.func (.func 117) #[.slice b (N3.toG m).length cq] #[]) ∧ w'.cell? ⟨w.heap.size + 1, 0, none⟩ = some (.slice (some ⟨w.heap.size + 1 + 1 + 1, 0, none⟩) (N3.toG n).length (N3.toG n).length) ∧ w'.cell? ⟨w.heap.size + 1 + 1 + 1, xx.1, none⟩ = some (.int .i64 d))) 8 (by kernel_rfl) (by kernel_rfl) ⟨(Below.refl _ _).drew, hj1, hj2, hj3, hj4⟩ (fun hHeld => ?_)
    refine wpE_take (i := 0) (oi := { dst := some 30, op := Op.load 88 (Operand.tmp 5), type := 88, pos := "integer.go:165", after := #[], guard := none }) (v := ?_) rfl (by kernel_rfl) (by kernel_rfl) (by kernel_rfl) (by kernel_rfl) (fun _ _ _ h => h) (Or.inl ⟨by kernel_rfl, ?_⟩) (by assumption) ?_
    rotate_left
    · intro w hSw
      (try dsimp only at hSw)
      go_simp
      all_goals (with_reducible rfl)
    (try simp only [Act.put, List.setIfInBounds_toArray, List.set_cons_zero, List.set_cons_succ])
    refine wpE_take (i := 1) (oi := { dst := some 31, op := Op.load 128 (Operand.tmp 8), type := 128, pos := "integer.go:165", after := #[], guard := none }) (v := ?_) rfl (by kernel_rfl) (by kernel_rfl) (by kernel_rfl) (by kernel_rfl) (fun _ _ _ h => h) (Or.inl ⟨by kernel_rfl, ?_⟩) (by assumption) ?_
    rotate_left
    · intro w hSw
      (try dsimp only at hSw)
      go_simp
      all_goals (with_reducible rfl)
    (try simp only [Act.put, List.setIfInBounds_toArray, List.set_cons_zero, List.set_cons_succ])
    refine wpE_take (i := 2) (oi := { dst := some 32, op := Op.load 88 (Operand.tmp 4), type := 88, pos := "integer.go:165", after := #[], guard := none }) (v := ?_) rfl (by kernel_rfl) (by kernel_rfl) (by kernel_rfl) (by kernel_rfl) (fun _ _ _ h => h) (Or.inl ⟨by kernel_rfl, ?_⟩) (by assumption) ?_
    rotate_left
    · intro w hSw
      (try dsimp only at hSw)
      go_simp
      all_goals (with_reducible rfl)
    (try simp only [Act.put, List.setIfInBounds_toArray, List.set_cons_zero, List.set_cons_succ])
    refine wpE_take (i := 3) (oi := { dst := some 33, op := Op.move (Operand.tmp 6), type := 3, pos := "integer.go:165", after := #[], guard := none }) (v := ?_) rfl (by kernel_rfl) (by kernel_rfl) (by kernel_rfl) (by kernel_rfl) (fun _ _ _ h => h) (Or.inl ⟨by kernel_rfl, ?_⟩) (by assumption) ?_
    rotate_left
    · intro w hSw
      (try dsimp only at hSw)
      go_simp
      all_goals (with_reducible rfl)
    (try simp only [Act.put, List.setIfInBounds_toArray, List.set_cons_zero, List.set_cons_succ])
    refine wpE_take (i := 4) (oi := { dst := some 34, op := Op.indexAddr 88 (Operand.tmp 32) (Operand.tmp 33), type := 0, pos := "integer.go:165", after := #[{ on := 2, ground := Ground.data }, { on := 3, ground := Ground.data }], guard := none }) (v := ?_) rfl (by kernel_rfl) (by kernel_rfl) (by kernel_rfl) (by kernel_rfl) (fun _ _ _ h => h) (Or.inl ⟨by kernel_rfl, ?_⟩) (by assumption) ?_
    rotate_left
    · intro w hSw
      (try dsimp only at hSw)
      go_simp
      all_goals (with_reducible rfl)
    (try simp only [Act.put, List.setIfInBounds_toArray, List.set_cons_zero, List.set_cons_succ])
    refine wpE_take (i := 5) (oi := { dst := some 35, op := Op.load 3 (Operand.tmp 34), type := 3, pos := "integer.go:165", after := #[{ on := 4, ground := Ground.data }], guard := none }) (v := ?_) rfl (by kernel_rfl) (by kernel_rfl) (by kernel_rfl) (by kernel_rfl) (fun _ _ _ h => h) (Or.inl ⟨by kernel_rfl, ?_⟩) (by assumption) ?_
    rotate_left
    · intro w hSw
      (try dsimp only at hSw)
      go_simp
      all_goals (with_reducible rfl)
    (try simp only [Act.put, List.setIfInBounds_toArray, List.set_cons_zero, List.set_cons_succ])
    refine wpE_one (i := 6) (o := { dst := some 36, op := Op.call { callee := Callee.value (Operand.tmp 31), args := #[Operand.tmp 35], argTypes := #[3] }, type := 88, pos := "integer.go:165", after := #[{ on := 1, ground := Ground.data }, { on := 5, ground := Ground.data }], guard := none }) (by kernel_rfl) rfl (fun K hK => ?_)
    go_simp
    go_at_call 117
    refine (hby.out _ hHeld.1).mono ?_
    rintro e w6 ⟨v6, rfl, hn6, hBx⟩
    refine hK.out _ _ (fun _ => ?_) (fun hHeld2 => ?_)
    · exact keep_S4 hHeld hBx
    clear hHeld
    have hHeld := hHeld2 (by decide)
    clear hHeld2
    clear hK K
    (try simp only [Act.put, List.setIfInBounds_toArray, List.set_cons_zero, List.set_cons_succ])
    refine wpE_one (i := 7) (o := { dst := some 37, op := Op.call { callee := Callee.value (Operand.func 91), args := #[Operand.tmp 30, Operand.tmp 36], argTypes := #[88, 88] }, type := 88, pos := "integer.go:165", after := #[{ on := 0, ground := Ground.data }, { on := 6, ground := Ground.data }, { on := 6, ground := Ground.chain }], guard := none }) (by kernel_rfl) rfl (fun K hK => ?_)
    go_simp
    go_at_call 91
    refine (hmi.out _ hHeld.1 _ hn6).mono ?_
    rintro e w7 ⟨v7, rfl, hn7, hBx⟩
    refine hK.out _ _ (fun _ => ?_) (fun hHeld2 => ?_)
    · exact keep_S4 hHeld hBx
    clear hHeld
    have hHeld := hHeld2 (by decide)
    clear hHeld2
    clear hK K
    (try simp only [Act.put, List.setIfInBounds_toArray, List.set_cons_zero, List.set_cons_succ])
    refine wpE_one (i := 8) (o := { dst := none, op := Op.store 88 (Operand.tmp 5) (Operand.tmp 37), type := 0, pos := "integer.go:165", after := #[{ on := 7, ground := Ground.data }, { on := 7, ground := Ground.chain }, { on := 0, ground := Ground.phase }, { on := 1, ground := Ground.phase }, { on := 2, ground := Ground.phase }, { on := 3, ground := Ground.phase }, { on := 4, ground := Ground.phase }, { on := 5, ground := Ground.phase }, { on := 6, ground := Ground.phase }, { on := 7, ground := Ground.phase }], guard := none }) (by kernel_rfl) rfl (fun K hK => ?_)
    obtain ⟨ya, yc, rfl, y1, y2⟩ := (show IntsAt _ v7 _ from hn7).len
    have hcs := hHeld.2.1
    have hfs := (boxed_below hHeld.1 c3).frozen
    have hHeldC := hHeld.1
    go_simp
    refine hK.out _ _ (fun h => absurd rfl h) (fun _ => ?_)
    clear hK K
    (try simp only [Act.put, List.setIfInBounds_toArray, List.set_cons_zero, List.set_cons_succ])
    refine wpE_done (by kernel_rfl) ?_ _
    refine OnlyN.normal ?_
    gi_wp2_with fail
    have hs7 := hHeldC.size
    refine ⟨c8.trans ((keeps_below hHeldC).trans (KeepsOthers.setCell _ _ _)), ⟨c9.trans ((hHeldC.mono hB4.size).setCell (by dsimp only; omega) _), (Below.heap_setCell _ _ _ _ (by dsimp only; omega)).trans ((hHeldC.block _ (by omega)).trans c5)⟩, by have := hpre'.out; simp; omega, ?_, ?_, ?_, ⟨_, (boxed_below hHeldC c3).set _, ?_⟩, hB4.trans ((hHeldC.mono hB4.size).setCell (by dsimp only; omega) _), ?_⟩
    · exact (Below.heap_setCell _ _ _ _ (by dsimp only; omega)).trans (boxed_below hHeldC c1)
    · exact (Below.heap_setCell _ _ _ _ (by dsimp only; omega)).trans (boxed_below hHeldC c2)
    · rw [List.length_append, List.length_singleton, HQK.out]
      exact BlkC.other (c4.below hHeldC (by omega)) _ (by dsimp only; omega)
    · rw [List.length_append, List.length_singleton, HRK.out]
      exact IntsAt.setBox hn7 (boxed_below hHeldC c3) _
    · simp; omega
  case done =>
    rintro D ys W hD hys ⟨_, hcm, hcq, hqd, ⟨vo, hcr, hvr⟩, hB, hsz1⟩ hK
    have hj2 := hcq.cell
    have hf2 := hcq.frozen
    rw [hys, N3.remK_all, N3.val_toG] at hvr
    rw [hys, N3.quoK_all] at hqd
    have hj3 := hcr.cell
    have hf3 := hcr.frozen
    obtain ⟨oa, oc, rfl, o1, o2⟩ := (show IntsAt W vo _ from hvr).len
    have hqi := hqd.ints (by rw [N3.quo_len]; omega)
    rw [N3.quo_len] at hqi
    have hqok := N3.quo_ok hm (N3.toG_lt n)
    have htr := trimmed_at (some ⟨w.heap.size + 1 + 1 + 1, 0, none⟩) (N3.toG n).length (N3.quo m (N3.toG n)) W.drew (by rw [N3.quo_len]; exact SliceOf.below hqi (Below.refl _ _).drew) hqok
    have htv := trimmed_view (a := some ⟨w.heap.size + 1 + 1 + 1, 0, none⟩) (cp := (N3.toG n).length) (l := N3.quo m (N3.toG n)) (w := W) (by rw [N3.quo_len]; exact hqi) hqok
    rw [N3.quo_val hm, N3.val_toG] at htr htv
    rw [N3.quo_len] at htr
    have HV := Lib.hid hvr
    have HQ := Lib.hid htv
    have HT := Lib.hid htr
    clear hvr htv htr hqi
    go_wp2_with fail
    go_region_with (go_at_call 118; refine HT.out.mono ?_; rintro e w2 ⟨rfl, rfl⟩)
    all_goals (
      rw [castL_len]
      generalize hF : ((W.setCell ⟨w.heap.size + 1, 0, none⟩ (.slice (some ⟨w.heap.size + 1 + 1 + 1, 0, none⟩) (N3.toG (n / m)).length (N3.toG n).length)).setCell ⟨w.heap.size + 1 + 1, 0, none⟩ (.slice oa (N3.toG (n % m)).length oc)).drew = F
      have f1 : Boxed F (w.heap.size + 1) 88 (.slice (some ⟨w.heap.size + 1 + 1 + 1, 0, none⟩) (N3.toG (n / m)).length (N3.toG n).length) := by
        rw [← hF]
        exact (Below.heap_setCell _ _ _ _ (by dsimp only; omega)).trans (hcq.set _)
      have f2 : Boxed F (w.heap.size + 1 + 1) 88 (.slice oa (N3.toG (n % m)).length oc) := by
        rw [← hF]
        have : Boxed (W.setCell ⟨w.heap.size + 1, 0, none⟩ (.slice (some ⟨w.heap.size + 1 + 1 + 1, 0, none⟩) (N3.toG (n / m)).length (N3.toG n).length)) (w.heap.size + 1 + 1) 88 (.slice oa (N3.toG (n % m)).length oc) := (Below.heap_setCell _ _ _ _ (by dsimp only; omega)).trans (by have := hcr; rw [castL_len] at this; exact this)
        exact this.set _
      have f3 : NumAt F (.slice (some ⟨w.heap.size + 1 + 1 + 1, 0, none⟩) (N3.toG (n / m)).length (N3.toG n).length) (n / m) := by
        rw [← hF]
        refine NumAt.below ?_ (Below.refl _ _).drew
        exact IntsAt.setOff (IntsAt.setOff HQ.out (by dsimp only; omega) _) (by dsimp only; omega) _
      have f4 : NumAt F (.slice oa (N3.toG (n % m)).length oc) (n % m) := by
        rw [← hF]
        refine NumAt.below ?_ (Below.refl _ _).drew
        have hv := HV.out
        rw [castL_len] at hv
        exact IntsAt.setBox (IntsAt.setBox hv hcq _) (xa := oa) (xn := (N3.toG (n % m)).length) (xc := oc) ((Below.heap_setCell _ _ _ _ (by dsimp only; omega)).trans (by have := hcr; rw [castL_len] at this; exact this)) _
      have f5 : F.heap[D]? = some (.deferred (some [])) := by
        rw [← hF]
        exact (Below.heap_setCell _ _ _ _ (by dsimp only; omega)).trans ((Below.heap_setCell _ _ _ _ (by dsimp only; omega)).trans hK)
      have f6 : Below w.heap.size w F := by
        rw [← hF]
        exact ((hB.setCell (by dsimp only; omega) _).setCell (by dsimp only; omega) _).drew
      have f1' : ∀ o, (F.putObj D o).cell? ⟨w.heap.size + 1, 0, none⟩ = some (.slice (some ⟨w.heap.size + 1 + 1 + 1, 0, none⟩) (N3.toG (n / m)).length (N3.toG n).length) := fun o => Boxed.cell (t := 88) ((World.putObj_heap_other (by omega)).trans f1)
      have f2' : ∀ o, (F.putObj D o).cell? ⟨w.heap.size + 1 + 1, 0, none⟩ = some (.slice oa (N3.toG (n % m)).length oc) := fun o => Boxed.cell (t := 88) ((World.putObj_heap_other (by omega)).trans f2)
      clear hF hj2 hf2 hj3 hf3
      go_wp2_with fail
      refine ⟨by simp, .inl ⟨_, _, rfl, run_takeDeferred f5, ?_⟩⟩
      refine ⟨.tuple #[.slice (some ⟨w.heap.size + 1 + 1 + 1, 0, none⟩) (N3.toG (n / m)).length (N3.toG n).length, .slice oa (N3.toG (n % m)).length oc], by simp [results, Tryz.results88, go_sem, f1', f2'], _, _, rfl, ?_, ?_, ?_⟩
      · exact IntsAt.putObj f3 _ f5 rfl
      · exact IntsAt.putObj f4 _ f5 rfl
      · exact f6.trans (belowK_b (w := w) (Nat.le_refl _) _ D _ _ (by omega) f5 rfl rfl))
  case stop =>
    intro D c pre W _ _ h _
    exact h.elim
end Go.Proofs.YtjnpenljgfdaiaaGreatDoor
