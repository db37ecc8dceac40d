/- nadirref23.Solve. -/
import Derived.Test.YtblmpmapcdpaiaaR13
import Derived.Test.YtblmpmapcdpaiaaM5
import Derived.Test.YtblmpmapcdpaiaaL5
namespace Go.Proofs.Ytblmpmapcdpaiaa
open Go.RowKit Go.Shelf Lib Go.Joins

set_option maxRecDepth 100000 in
set_option maxHeartbeats 2000000 in
theorem solve_ref_bad (v : Value) (p : ProgD) (w : World) (hv : ProgV w v p) (hval : validB p = false) :
    Calls Try.prog 21 #[v] w fun e w' => ∃ v', e = .returned (.tuple #[v', .int .i64 230]) ∧ SolV w' v' ⟨false, 0, 0, []⟩ ∧ Below w.heap.size w w' := by
  obtain ⟨vr, vg, rfl, hvr, hvg⟩ := hv
  have hB0 : Below w.heap.size w ((w.alloc (.cells #[.int .i64 p.vars, vr, vg] 29)).alloc (.cells #[.bool false, .int .i64 0, .int .i64 0, .slice none 0 0] 37)) := ((Below.refl _ _).alloc (Nat.le_refl _) _).alloc (by simp) _
  have hx := all_ref _ p _ ⟨vr, vg, rfl, hvr.below hB0, hvg.below hB0⟩
  have he : errV p = 230 := by unfold errV; rw [hval]; rfl
  rw [he] at hx
  obtain ⟨ra, rc, rfl, -, -⟩ := (show SlicesLen vr p.rows.length from hvr.len)
  obtain ⟨ga, gc, rfl, -, -⟩ := (show SlicesLen vg p.gain.length from hvg.len)
  clear hval hvr hvg he
  go_enter Try.func21, Try.ntmps21
  go_wp2_with fail
  refine hx.mono ?_
  rintro e w' ⟨v9, rfl, -, hB⟩
  have kb : Blk w' (w.heap.size + 1) #[.bool false, .int .i64 0, .int .i64 0, .slice none 0 0] 37 := (Blk.newAt _ _ _ (by simp)).below hB (by simp)
  have i0 := kb.cell 0
  have i1 := kb.cell 1
  have i2 := kb.cell 2
  have i3 := kb.cell 3
  have f0 := kb.frozen 0
  have f1 := kb.frozen 1
  have f2 := kb.frozen 2
  have f3 := kb.frozen 3
  simp only [List.getElem?_toArray, List.getElem?_cons_succ, List.getElem?_cons_zero] at i0 i1 i2 i3
  go_wp2
  refine bodyPost_ret (v := .tuple #[.agg #[.bool false, .int .i64 0, .int .i64 0, .slice none 0 0], .int .i64 230]) (by simp [results, Try.results21, go_sem, i0, i1, i2, i3]) rfl ?_
  have hB2 : ∀ (i : Nat) (u : Value) (W : World), Below w.heap.size w W → Below w.heap.size w (W.setCell ⟨w.heap.size + 1, i, none⟩ u) := fun i u W h => h.setCell (p := ⟨w.heap.size + 1, i, none⟩) (by simp) u
  exact ⟨_, rfl, ⟨_, rfl, none, 0, rfl, by simp, by decide, fun h => by simp at h⟩, hB2 _ _ _ (hB2 _ _ _ (hB2 _ _ _ (hB2 _ _ _ (hB0.trans (hB.mono hB0.size)))))⟩
/-- Rows appended to rows of the call's own. -/
theorem wpList_rowsT {ops : Array Oper} {rest : List Oper} {o : Oper} {a : Act} {Q : Exit → Act → World → Prop} {w : World} (hgd : o.guard = none) (s x : Operand)
    (ho : o.op = Op.call { callee := Callee.builtin Builtin.append, args := #[s, x], argTypes := #[27, 27] })
    (base : Nat) {v : Value} {n m c : Nat} {xs news : List Value} {xa : Option Addr} (hown : w.ownsRow base 26 6 v n xs) (hs : a.eval s = v) (hx : a.eval x = .slice xa m c) (hl : news.length = m * 6)
    (hnews : ∀ p, xa = some p → ∀ j u, news[j]? = some u → w.cell? (p.add j) = some u) (hnone : xa = none → m = 0 ∧ c = 0) (h1 : ∀ u ∈ news, u.oneCell' = true) (hn : n + m ≤ 1000) (hbase : base ≤ w.heap.size)
    (h : ∀ v' w', w'.ownsRow base 26 6 v' (n + m) (xs ++ news) → T3 w w' → Below base w w' → wpList Try.prog ops Q rest (a.put o.dst v') w') :
    wpList Try.prog ops Q (o :: rest) a w :=
  wpList_plain hgd fun K hK => by
    have := step_appT (ops := #[]) (E := True) (K := K) (Q := Q) hgd s x ho base hown hs hx hl hnews hnone h1 hn hbase (fun v' w' h1 h2 _ h4 => hK _ _ (h v' w' h1 h2 h4))
    rwa [if_pos (by simp [Region.wanted, hgd])] at this
theorem flatC_one {W : World} : ∀ {l : List RowD} {cs : List Value}, FlatC 6 RowCs W cs l → ∀ u ∈ cs, u.oneCell' = true := by
  intro l
  induction l with
  | nil => intro cs h u hu; rw [show cs = [] from h] at hu; cases hu
  | cons y l ih =>
    rintro cs ⟨ds, rest, rfl, -, ⟨vc, rfl, h2⟩, h⟩ u hu
    rcases List.mem_append.1 hu with h3 | h3
    · obtain ⟨a, c, rfl, -, -⟩ := h2.len
      simp at h3
      rcases h3 with rfl | rfl | rfl | rfl | rfl | rfl <;> rfl
    · exact ih h u h3
/-- Steps of the call's own, and a cell of another block. -/
structure Own80 (base : Nat) (W : World) (v : Value) (l : List StepD) (cs : List Value) : Prop where
  own : W.ownsRow base 80 4 v l.length cs
  st : StepsC W cs l
theorem Own80.set {base : Nat} {W : World} {v : Value} {l : List StepD} {cs : List Value} (h : Own80 base W v l cs) {b : Nat} {ds : Array Value} {t : TypeId} (hb : Blk W b ds t) (h1 : t ≠ 80) (h2 : t ≠ 82) (o : Nat) (u : Value) : Own80 base (W.setCell ⟨b, o, none⟩ u) v l cs := by
  refine ⟨ownsRow_set_ne h.own (fun g hg e => ?_) o u, StepsC.other (fun k cs hk => hk.other u (fun e => ?_)) h.st⟩
  · subst e
    rcases h.own.2 with ⟨rfl, -⟩ | ⟨g', cap, cur, rfl, -, hgg, -⟩
    · cases hg
    · obtain rfl : g' = g := Option.some.inj hg
      have := (show W.heap[g']? = _ from hb).symm.trans hgg
      simp at this; exact h1 this.2
  · have e : k = b := e
    subst e
    have := (show W.heap[k]? = _ from hb).symm.trans hk
    simp at this; exact h2 this.2
theorem Own80.view {base : Nat} {W : World} {v : Value} {l : List StepD} {cs : List Value} (h : Own80 base W v l cs) : StepsAt W v l := steps_view h.own h.st
/-- The last of the best from behind, over the choices from the k-th on. -/
def backK (gain : List Int) (l : List Nat) (k : Nat) : Option (Nat × Int) := (l.drop k).foldr (betterBack gain) none
theorem backK_step (gain : List Int) {l : List Nat} {k x : Nat} (h : l[k]? = some x) : backK gain l k = betterBack gain x (backK gain l (k + 1)) := by
  obtain ⟨hk, rfl⟩ := List.getElem?_eq_some_iff.1 h
  unfold backK
  rw [List.drop_eq_getElem_cons hk]; rfl
theorem intL_at {l : List Nat} {k x : Nat} (h : l[k]? = some x) : (intL l)[k]? = some (x : Int) := by unfold intL; rw [List.getElem?_map, h]; rfl
theorem backK_end (gain : List Int) (l : List Nat) : backK gain l l.length = none := by unfold backK; rw [List.drop_length]; rfl
theorem backK_bd {gain : List Int} {l : List Nat} (hb : ∀ s, -1000000000000 ≤ ch gain s ∧ ch gain s ≤ 1000000000000) (k : Nat) : ∀ x, backK gain l k = some x → -1000000000000 ≤ x.2 ∧ x.2 ≤ 1000000000000 := by
  unfold backK
  induction l.drop k with
  | nil => intro x h; cases h
  | cons y m ih =>
    intro x h
    simp only [List.foldr_cons] at h
    cases hm : m.foldr (betterBack gain) none with
    | none => rw [hm] at h; simp only [betterBack, Option.some.injEq] at h; subst h; exact hb y
    | some z =>
      rw [hm] at h
      simp only [betterBack] at h
      split at h
      · simp only [Option.some.injEq] at h; subst h; exact hb y
      · simp only [Option.some.injEq] at h; subst h; exact ih _ hm
set_option maxRecDepth 100000 in
set_option maxHeartbeats 4000000 in
theorem solve_ref_good (v : Value) (p : ProgD) (w : World) (hv : ProgV w v p) (hnil : ∀ c vr vg, v = .agg #[.int .i64 p.vars, vr, vg] → vr = .slice none 0 c → c = 0) (hval : validB p = true) :
    Calls Try.prog 21 #[v] w fun e w' => ∃ v', e = .returned (.tuple #[v', .int .i64 0]) ∧ SolV w' v' (solveV p) ∧ Below w.heap.size w w' := by
  obtain ⟨vr, vg, rfl, hvr, hvg⟩ := hv
  have hB0 : Below w.heap.size w ((w.alloc (.cells #[.int .i64 p.vars, vr, vg] 29)).alloc (.cells #[.bool false, .int .i64 0, .int .i64 0, .slice none 0 0] 37)) := ((Below.refl _ _).alloc (Nat.le_refl _) _).alloc (by simp) _
  have hx := all_ref _ p _ ⟨vr, vg, rfl, hvr.below hB0, hvg.below hB0⟩
  have he : errV p = 0 := by unfold errV; rw [hval]; rfl
  have hall : allV p = intL (allS p) := by unfold allV; rw [if_pos hval]; rfl
  rw [he, hall] at hx
  obtain ⟨ra, rc, rfl, hr1, hr2⟩ := (show SlicesLen vr p.rows.length from hvr.len)
  obtain ⟨ga, gc, rfl, hg1, hg2⟩ := (show SlicesLen vg p.gain.length from hvg.len)
  obtain ⟨v1, v2, v3, v4, v5, v6⟩ := validB_true hval
  have hgl : p.gain.length ≤ 60 := by omega
  have hll : (allS p).length ≤ 4096 := by
    have := chL_len p.rows (2 ^ p.vars.toNat)
    have h2 : 2 ^ p.vars.toNat ≤ 2 ^ 12 := Nat.pow_le_pow_right (by omega) (by omega)
    exact Nat.le_trans this (by omega)
  have hbest := Lib.hid (bestS_back p)
  have hbd := Lib.hid (fun k => backK_bd (gain := p.gain) (l := allS p) (fun s => ch_bd v6 hgl s) k)
  have hchb := Lib.hid (fun s => ch_bd (l := p.gain) v6 hgl s)
  have hrl : p.rows.length ≤ 300 := v3
  have hnone : Hid (ra = none → p.rows.length = 0 ∧ rc = 0) := fun e => by
    subst e
    have h0 : p.rows = [] := StructsOf.none hvr
    have hz : p.rows.length = 0 := by rw [h0]; rfl
    exact ⟨hz, hnil rc _ _ rfl (by rw [hz])⟩
  have HV := Lib.hid (And.intro hvr hvg)
  have HOK := Lib.hid v6
  have HVAL := Lib.hid hval
  have hcnt : Hid (∀ k x : Nat, (allS p)[k]? = some x → backK p.gain (allS p) k = betterBack p.gain x (backK p.gain (allS p) (k + 1))) := fun k x h => backK_step _ h
  have hend := Lib.hid (backK_end p.gain (allS p))
  have hb0 : Hid (bestS p = backK p.gain (allS p) 0) := hbest.out
  generalize allS p = L at hx hll hbd hcnt hend hb0
  clear hval hvr hvg he hall hbest v4 v5 v6 hnil
  unfold maxLen at hr2 hg2
  go_enter Try.func21, Try.ntmps21
  go_wp2_with fail
  refine hx.mono ?_
  rintro e w1 ⟨v9, rfl, hl9, hB⟩
  obtain ⟨la, lc, rfl, hl1, hl2⟩ := hl9.len
  have hiL := intL_len L
  rw [hiL] at hl9 hl1 ⊢
  unfold maxLen at hl2
  have kp := ((Blk.new w #[.int .i64 p.vars, .slice ra p.rows.length rc, .slice ga p.gain.length gc] 29).alloc (.cells #[.bool false, .int .i64 0, .int .i64 0, .slice none 0 0] 37)).below hB (by simp; omega)
  have kz : Blk w1 (w.heap.size + 1) #[.bool false, .int .i64 0, .int .i64 0, .slice none 0 0] 37 := (Blk.newAt _ _ _ (by simp)).below hB (by simp)
  have hB1 := hB0.trans (hB.mono hB0.size)
  have lkp := kp.lt
  have lkz := kz.lt
  have hwl : IntKind.i64.wrap ((L.length : Int) - 1) = (L.length : Int) - 1 := wrapS _ (by omega) (by omega)
  clear hx hB hB0 hiL
  go_wp2_with fail
  go_loopw [7] (fun u7 wr => ∃ k : Nat, k ≤ L.length ∧ u7 = .int .i64 ((k : Int) - 1) ∧ Blk wr w1.heap.size (bestC (backK p.gain L k) (.slice none 0 0)) 37 ∧ Below w1.heap.size w1 wr) (fun u7 _ => (intOf u7 + 1).toNat)
  case atStart => exact ⟨L.length, Nat.le_refl _, rfl, by rw [hend.out]; exact Blk.new _ _ _, (Below.refl _ _).alloc (Nat.le_refl _) _⟩
  case round =>
    obtain ⟨k, hk, rfl, kb, hBk⟩ := hrel
    have kpk := kp.below hBk lkp
    have j2 := kpk.cell 2
    simp only [List.getElem?_toArray, List.getElem?_cons_succ, List.getElem?_cons_zero] at j2
    cases k with
    | zero =>
      rw [← hb0.out] at kb
      have j1 := kpk.cell 1
      simp only [List.getElem?_toArray, List.getElem?_cons_succ, List.getElem?_cons_zero] at j1
      have lpk := kpk.lt
      have lkb := kb.lt
      have hBw := hB1.trans (hBk.mono hB1.size)
      obtain ⟨cs, hf, hcs⟩ := (HV.out.1.below hBw).flat
      have HF := Lib.hid hf
      have HCS := Lib.hid hcs
      have hcl : Hid (cs.length = p.rows.length * 6) := hf.len
      have hone := Lib.hid (flatC_one hf)
      clear hf hcs
      have HO0 : Hid (World.ownsRow (wr.alloc (.cells #[] 26)) wr.heap.size 26 6 (.slice (some ⟨wr.heap.size, 0, none⟩) 0 0) 0 []) := own_empty (Blk.new _ _ _) (Nat.le_refl _)
      have HC0 : Hid (∀ q, ra = some q → ∀ j u, cs[j]? = some u → (wr.alloc (.cells #[] 26)).cell? (q.add j) = some u) := fun q hq j u hj => by
        have := HCS.out q hq j u hj
        exact ((Below.refl _ _).alloc (Nat.le_refl _) (.cells #[] 26)).cell (World.block_lt_of_cell? _ _ this) |>.trans this
      cases hbs : bestS p with
      | none =>
        rw [hbs] at kb
        unfold bestC at kb
        have b0 := kb.cell 0
        simp only [List.getElem?_toArray, List.getElem?_cons_zero] at b0
        go_wp2_with (at_builtin; refine wpList_rowsT (xa := ra) (m := p.rows.length) (c := rc) (n := 0) (xs := []) (news := cs) rfl (.tmp 50) (.tmp 52) rfl wr.heap.size HO0.out rfl rfl hcl.out HC0.out hnone.out hone.out (by omega) (by simp) ?_; intro v5 w5 ho5 ht5 hb5; rw [show 0 + p.rows.length = p.rows.length from Nat.zero_add _, List.nil_append] at ho5; obtain ⟨na, nc, rfl, hn1, hn2⟩ := owned_len ho5; have hB5 : Below wr.heap.size wr w5 := ((Below.refl _ _).alloc (Nat.le_refl _) _).trans hb5; have kb5 := kb.below hB5 lkb; have b0' := kb5.cell 0; simp only [List.getElem?_toArray, List.getElem?_cons_zero] at b0')
        have hrw5 : RowsAt w5 (.slice na p.rows.length nc) p.rows := flat_view ho5 (HF.out.to (fun _ _ h => h.below hB5))
        have hvm : p.vars = (p.vars.toNat : Int) := by omega
        have hRS : rowsS p = p.rows := by unfold rowsS; rw [hbs]
        have hplain := plain_all w5.heap.size w5 _ p.rows p.vars.toNat (by omega) (by rw [← hRS]; exact rowsS_len HVAL.out hvm) (by rw [← hRS]; exact rowsS_bad HVAL.out hvm) (by omega) hrw5 (Nat.le_refl _) p.vars.toNat 0 0 0 w5 (.slice none 0 0) [] (by omega) (by omega)
          (by have : 2 ^ (p.vars.toNat + 1) ≤ 2 ^ 13 := Nat.pow_le_pow_right (by omega) (by omega); omega) (Below.refl _ _) (Nat.le_refl _) (World.ownsRow_nil _ _ _ _)
        have hpf : growS p.rows p.vars.toNat 0 0 0 = proofS p := by unfold proofS; rw [hRS]
        rw [hpf] at hplain
        simp only [Int.natCast_zero, Nat.zero_add, List.nil_append] at hplain
        have hsv : solveV p = ⟨false, 0, 0, proofS p⟩ := by unfold solveV; rw [if_pos HVAL.out, hbs]
        have hBw5 := hBw.trans (hB5.mono hBw.size)
        have kz5 := (kz.below hBk lkz).below hB5 (by have := hBk.size; omega)
        generalize proofS p = P at hplain hsv
        have HSV := Lib.hid hsv
        clear hsv hpf hRS hrw5 ho5 ht5 hb5 hbs kb b0 j2 j1 hvm
        refine hplain.mono ?_
        rintro e w6 ⟨v6, ys, rfl, ho6, hst6, hfq6⟩
        obtain ⟨va, vc, rfl, hva1, hva2⟩ := owned_len ho6
        have hB6 := hfq6.below (Nat.le_refl _)
        have kb6 := kb5.below hB6 kb5.lt
        have kz6 := kz5.below hB6 kz5.lt
        have hBw6 := hBw5.trans (hB6.mono hBw5.size)
        have hO6 : Own80 w5.heap.size w6 (.slice va P.length vc) P ys := ⟨ho6, hst6⟩
        have i0 := kz6.cell 0
        have i1 := kz6.cell 1
        have i2 := kz6.cell 2
        have i3 := kz6.cell 3
        have f0 := kz6.frozen 0
        have f1 := kz6.frozen 1
        have f2 := kz6.frozen 2
        have f3 := kz6.frozen 3
        have b0 := kb6.cell 0
        have b1 := kb6.cell 1
        have b2 := kb6.cell 2
        have b3 := kb6.cell 3
        have h3 := kb6.frozen 3
        simp only [List.getElem?_toArray, List.getElem?_cons_succ, List.getElem?_cons_zero] at i0 i1 i2 i3 b0 b1 b2 b3
        have ne1 : ¬ (w1.heap.size = w.heap.size + 1) := by omega
        have ne2 : ¬ (w.heap.size + 1 = w1.heap.size) := by omega
        clear hplain b0' hst6 ho6 hfq6 kb5 kz5
        go_wp2
        have kzs := fun W (h : Blk W (w.heap.size + 1) #[.bool false, .int .i64 0, .int .i64 0, .slice none 0 0] 37) => h
        have hO7 := hO6.set kb6 (by decide) (by decide) 3 (.slice va P.length vc)
        have kz7 : Blk (w6.setCell ⟨w1.heap.size, 3, none⟩ (.slice va P.length vc)) (w.heap.size + 1) #[.bool false, .int .i64 0, .int .i64 0, .slice none 0 0] 37 := kz6.other _ ne2
        have hO8 := hO7.set kz7 (by decide) (by decide) 0 (.bool false)
        have kz8 := kz7.set 0 (.bool false)
        have hO9 := hO8.set kz8 (by decide) (by decide) 1 (.int .i64 0)
        have kz9 := kz8.set 1 (.int .i64 0)
        have hOa := hO9.set kz9 (by decide) (by decide) 2 (.int .i64 0)
        have kza := kz9.set 2 (.int .i64 0)
        have hOb := hOa.set kza (by decide) (by decide) 3 (.slice va P.length vc)
        have hBf := ((((hBw6.setCell (p := ⟨w1.heap.size, 3, none⟩) (by show w.heap.size ≤ w1.heap.size; omega) (.slice va P.length vc)).setCell (p := ⟨w.heap.size + 1, 0, none⟩) (Nat.le_succ w.heap.size) (.bool false)).setCell (p := ⟨w.heap.size + 1, 1, none⟩) (Nat.le_succ w.heap.size) (.int .i64 0)).setCell (p := ⟨w.heap.size + 1, 2, none⟩) (Nat.le_succ w.heap.size) (.int .i64 0)).setCell (p := ⟨w.heap.size + 1, 3, none⟩) (Nat.le_succ w.heap.size) (.slice va P.length vc)
        refine bodyPost_ret (v := .tuple #[.agg #[.bool false, .int .i64 0, .int .i64 0, .slice va P.length vc], .int .i64 0]) (by simp [results, Try.results21, go_sem, i0, i1, i2, i3]) rfl ?_
        exact ⟨_, rfl, by rw [HSV.out]; exact ⟨_, rfl, hOb.view⟩, hBf⟩
      | some y =>
        obtain ⟨ys, yg⟩ := y
        have hby := best_bd HVAL.out hbs
        simp only at hby
        rw [hbs] at kb
        unfold bestC at kb
        have b0 := kb.cell 0
        simp only [List.getElem?_toArray, List.getElem?_cons_zero] at b0
        go_wp2_with (at_builtin; refine wpList_rowsT (xa := ra) (m := p.rows.length) (c := rc) (n := 0) (xs := []) (news := cs) rfl (.tmp 50) (.tmp 52) rfl wr.heap.size HO0.out rfl rfl hcl.out HC0.out hnone.out hone.out (by omega) (by simp) ?_; intro v5 w5 ho5 ht5 hb5; rw [show 0 + p.rows.length = p.rows.length from Nat.zero_add _, List.nil_append] at ho5; obtain ⟨na, nc, rfl, hn1, hn2⟩ := owned_len ho5; have hB5 : Below wr.heap.size wr w5 := ((Below.refl _ _).alloc (Nat.le_refl _) _).trans hb5; have kb5 := kb.below hB5 lkb; have b0' := kb5.cell 0; have b2' := kb5.cell 2; have kp5 := kpk.below hB5 lpk; have m0 := kp5.cell 0; have m1 := kp5.cell 1; have m2 := kp5.cell 2; simp only [List.getElem?_toArray, List.getElem?_cons_succ, List.getElem?_cons_zero] at b0' b2' m0 m1 m2)
        have hBw5 := hBw.trans (hB5.mono hBw.size)
        have hg := goal_ref (.agg #[.int .i64 p.vars, .slice ra p.rows.length rc, .slice ga p.gain.length gc]) p yg w5 ⟨_, _, rfl, HV.out.1.below hBw5, HV.out.2.below hBw5⟩ hgl HOK.out (by omega) (by omega)
        refine hg.mono ?_
        rintro e wG ⟨vG, rfl, hoG, hBG⟩
        obtain ⟨Ga, Gc, rfl, -, -⟩ := owned_len hoG
        have hAG : Below w5.heap.size w5 (wG.alloc (.cells #[.int .i64 0, .int .i64 0, .int .i64 0, .int .i64 0, .slice Ga (goalS p.gain yg).coef.length Gc, .int .i64 (goalS p.gain yg).most] 26)) := hBG.alloc hBG.size _
        have HOG : Hid (World.ownsRow (wG.alloc (.cells #[.int .i64 0, .int .i64 0, .int .i64 0, .int .i64 0, .slice Ga (goalS p.gain yg).coef.length Gc, .int .i64 (goalS p.gain yg).most] 26)) wr.heap.size 26 6 (.slice na p.rows.length nc) p.rows.length cs) := owned_below ho5 hAG
        have HCG : Hid (∀ q, some (⟨wG.heap.size, 0, none⟩ : Addr) = some q → ∀ j u, ([.int .i64 0, .int .i64 0, .int .i64 0, .int .i64 0, .slice Ga (goalS p.gain yg).coef.length Gc, .int .i64 (goalS p.gain yg).most] : List Value)[j]? = some u → (wG.alloc (.cells #[.int .i64 0, .int .i64 0, .int .i64 0, .int .i64 0, .slice Ga (goalS p.gain yg).coef.length Gc, .int .i64 (goalS p.gain yg).most] 26)).cell? (q.add j) = some u) := fun q hq j u hj => by
          cases hq; rw [add_zero_off]; exact ((Blk.new wG #[.int .i64 0, .int .i64 0, .int .i64 0, .int .i64 0, .slice Ga (goalS p.gain yg).coef.length Gc, .int .i64 (goalS p.gain yg).most] 26).cell j).trans (by simpa using hj)
        have HRO : Hid (∀ u ∈ ([.int .i64 0, .int .i64 0, .int .i64 0, .int .i64 0, .slice Ga (goalS p.gain yg).coef.length Gc, .int .i64 (goalS p.gain yg).most] : List Value), u.oneCell' = true) := rowO_one (show RowO wG [.int .i64 0, .int .i64 0, .int .i64 0, .int .i64 0, .slice Ga (goalS p.gain yg).coef.length Gc, .int .i64 (goalS p.gain yg).most] (goalS p.gain yg) from ⟨_, rfl, hoG⟩)
        have HSZ : Hid (wr.heap.size ≤ (wG.alloc (.cells #[.int .i64 0, .int .i64 0, .int .i64 0, .int .i64 0, .slice Ga (goalS p.gain yg).coef.length Gc, .int .i64 (goalS p.gain yg).most] 26)).heap.size) := Nat.le_trans hB5.size hAG.size
        clear hg m0 m1 m2 b0 b0' b2' j1 j2
        go_wp2_with (at_builtin; refine wpList_rowsT (xa := some ⟨wG.heap.size, 0, none⟩) (m := 1) (c := 1) (n := p.rows.length) (xs := cs) (news := [.int .i64 0, .int .i64 0, .int .i64 0, .int .i64 0, .slice Ga (goalS p.gain yg).coef.length Gc, .int .i64 (goalS p.gain yg).most]) rfl (.tmp 56) (.tmp 61) rfl wr.heap.size HOG.out rfl rfl rfl HCG.out (fun h => by cases h) HRO.out (by omega) HSZ.out ?_; intro v7 w7 ho7 ht7 hb7; obtain ⟨na7, nc7, rfl, hn3, hn4⟩ := owned_len ho7)
        have hB7 : Below wr.heap.size wr w7 := (hB5.trans (hAG.mono hB5.size)).trans hb7
        have hTG : T3 wG w7 := (T3.of_below ((Below.refl _ _).alloc (Nat.le_refl _) _)).trans ht7
        have hfg : FlatC 6 RowCs w7 [.int .i64 0, .int .i64 0, .int .i64 0, .int .i64 0, .slice Ga (goalS p.gain yg).coef.length Gc, .int .i64 (goalS p.gain yg).most] [goalS p.gain yg] := ⟨_, [], (List.append_nil _).symm, rfl, RowO.row ⟨_, rfl, hoG.t hTG⟩, rfl⟩
        have hvm : p.vars = (p.vars.toNat : Int) := by omega
        have hRS : rowsS p = p.rows ++ [goalS p.gain yg] := by unfold rowsS; rw [hbs]
        have hrw7 : RowsAt w7 (.slice na7 (p.rows.length + 1) nc7) (p.rows ++ [goalS p.gain yg]) := by
          have h0 : RowsAt w7 (.slice na7 (p.rows ++ [goalS p.gain yg]).length nc7) (p.rows ++ [goalS p.gain yg]) := flat_view (by rw [List.length_append]; exact ho7) ((HF.out.to (fun _ _ h => h.below hB7)).app hfg)
          rw [List.length_append] at h0
          exact h0
        have hplain := plain_all w7.heap.size w7 _ (p.rows ++ [goalS p.gain yg]) p.vars.toNat (by omega) (by rw [← hRS]; exact rowsS_len HVAL.out hvm) (by rw [← hRS]; exact rowsS_bad HVAL.out hvm) (by rw [List.length_append]; simp; omega) hrw7 (Nat.le_refl _) p.vars.toNat 0 0 0 w7 (.slice none 0 0) [] (by omega) (by omega)
          (by have : 2 ^ (p.vars.toNat + 1) ≤ 2 ^ 13 := Nat.pow_le_pow_right (by omega) (by omega); omega) (Below.refl _ _) (Nat.le_refl _) (World.ownsRow_nil _ _ _ _)
        have hpf : growS (p.rows ++ [goalS p.gain yg]) p.vars.toNat 0 0 0 = proofS p := by unfold proofS; rw [hRS]
        rw [hpf] at hplain
        simp only [Int.natCast_zero, Nat.zero_add, List.nil_append] at hplain
        have hsv : solveV p = ⟨true, ys, yg, proofS p⟩ := by unfold solveV; rw [if_pos HVAL.out, hbs]
        have hBw7 := hBw.trans (hB7.mono hBw.size)
        have kz7 := (kz.below hBk lkz).below hB7 (by have := hBk.size; omega)
        have kb7 := kb.below hB7 lkb
        generalize proofS p = P at hplain hsv
        have HSV := Lib.hid hsv
        clear hsv hpf hRS hrw7 ho7 ht7 hb7 hbs kb hvm ho5 ht5 hb5 HOG HCG HRO hoG hfg hTG kb5 kp5
        refine hplain.mono ?_
        rintro e w6 ⟨v6, yl, rfl, ho6, hst6, hfq6⟩
        obtain ⟨va, vc, rfl, hva1, hva2⟩ := owned_len ho6
        have hB6 := hfq6.below (Nat.le_refl _)
        have kb6 := kb7.below hB6 kb7.lt
        have kz6 := kz7.below hB6 kz7.lt
        have hBw6 := hBw7.trans (hB6.mono hBw7.size)
        have hO6 : Own80 w7.heap.size w6 (.slice va P.length vc) P yl := ⟨ho6, hst6⟩
        have i0 := kz6.cell 0
        have i1 := kz6.cell 1
        have i2 := kz6.cell 2
        have i3 := kz6.cell 3
        have f0 := kz6.frozen 0
        have f1 := kz6.frozen 1
        have f2 := kz6.frozen 2
        have f3 := kz6.frozen 3
        have b0 := kb6.cell 0
        have b1 := kb6.cell 1
        have b2 := kb6.cell 2
        have b3 := kb6.cell 3
        have h3 := kb6.frozen 3
        simp only [List.getElem?_toArray, List.getElem?_cons_succ, List.getElem?_cons_zero] at i0 i1 i2 i3 b0 b1 b2 b3
        have ne1 : ¬ (w1.heap.size = w.heap.size + 1) := by omega
        have ne2 : ¬ (w.heap.size + 1 = w1.heap.size) := by omega
        clear hplain hst6 ho6 hfq6 kb7 kz7
        go_wp2
        have kzs := fun W (h : Blk W (w.heap.size + 1) #[.bool false, .int .i64 0, .int .i64 0, .slice none 0 0] 37) => h
        have hO7 := hO6.set kb6 (by decide) (by decide) 3 (.slice va P.length vc)
        have kz7 : Blk (w6.setCell ⟨w1.heap.size, 3, none⟩ (.slice va P.length vc)) (w.heap.size + 1) #[.bool false, .int .i64 0, .int .i64 0, .slice none 0 0] 37 := kz6.other _ ne2
        have hO8 := hO7.set kz7 (by decide) (by decide) 0 (.bool true)
        have kz8 := kz7.set 0 (.bool true)
        have hO9 := hO8.set kz8 (by decide) (by decide) 1 (.int .i64 ys)
        have kz9 := kz8.set 1 (.int .i64 ys)
        have hOa := hO9.set kz9 (by decide) (by decide) 2 (.int .i64 yg)
        have kza := kz9.set 2 (.int .i64 yg)
        have hOb := hOa.set kza (by decide) (by decide) 3 (.slice va P.length vc)
        have hBf := ((((hBw6.setCell (p := ⟨w1.heap.size, 3, none⟩) (by show w.heap.size ≤ w1.heap.size; omega) (.slice va P.length vc)).setCell (p := ⟨w.heap.size + 1, 0, none⟩) (Nat.le_succ w.heap.size) (.bool true)).setCell (p := ⟨w.heap.size + 1, 1, none⟩) (Nat.le_succ w.heap.size) (.int .i64 ys)).setCell (p := ⟨w.heap.size + 1, 2, none⟩) (Nat.le_succ w.heap.size) (.int .i64 yg)).setCell (p := ⟨w.heap.size + 1, 3, none⟩) (Nat.le_succ w.heap.size) (.slice va P.length vc)
        refine bodyPost_ret (v := .tuple #[.agg #[.bool true, .int .i64 ys, .int .i64 yg, .slice va P.length vc], .int .i64 0]) (by simp [results, Try.results21, go_sem, i0, i1, i2, i3]) rfl ?_
        exact ⟨_, rfl, by rw [HSV.out]; exact ⟨_, rfl, hOb.view⟩, hBf⟩
    | succ k =>
      have hx := List.getElem?_eq_getElem (show k < L.length by omega)
      generalize L[k] = x at hx
      have hstp := hcnt.out k x hx
      obtain ⟨lb, lo, rfl, hl⟩ := (hl9.below hBk).get (intL_at hx)
      have e1 : ((k + 1 : Nat) : Int) - 1 = (k : Int) := by omega
      rw [e1]
      have hcx := hchb.out x
      have htot := Lib.hid (fun U (hU : Below wr.heap.size wr U) => total_any (.slice ga p.gain.length gc) p.gain x U (HV.out.2.below ((hB1.trans (hBk.mono hB1.size)).trans (hU.mono (hB1.trans (hBk.mono hB1.size)).size))) hgl HOK.out)
      have lpk := kpk.lt
      have llk := World.block_lt_of_cell? _ _ hl
      simp only at llk
      have hki : (0 : Int) ≤ (k : Int) ∧ (k : Int) < (L.length : Int) := by omega
      have hwk : IntKind.i64.wrap ((k : Int) - 1) = (k : Int) - 1 := wrapS _ (by omega) (by omega)
      have hbk := hbd.out (k + 1)
      have HX := Lib.hid hx
      generalize backK p.gain L (k + 1) = o at hstp kb hbk
      have hr0 : o = none → backK p.gain L k = some (x, ch p.gain x) := fun e => by rw [hstp, e]; rfl
      have hr1' : ∀ z, o = some z → z.2 ≤ ch p.gain x → backK p.gain L k = some (x, ch p.gain x) := fun z e h => by rw [hstp, e]; simp only [betterBack]; rw [if_pos h]
      have hr2' : ∀ z, o = some z → ¬ z.2 ≤ ch p.gain x → backK p.gain L k = some z := fun z e h => by rw [hstp, e]; simp only [betterBack]; rw [if_neg h]
      clear hstp
      generalize ch p.gain x = cx at hcx htot hr0 hr1' hr2'
      have HR := Lib.hid (And.intro hr0 (And.intro hr1' hr2'))
      clear hr0 hr1' hr2'
      clear hx
      go_wp2_with fail
      apply wp_below (w0 := wr)
      · go_region_held3 (fun w' => Below wr.heap.size wr w' ∧ w'.cell? ⟨w.heap.size, 2, none⟩ = some (.slice ga p.gain.length gc) ∧ w'.cell? ⟨lb, lo + k, none⟩ = some (.int .i64 x))
          (first | exact ⟨(Below.refl _ _).drew, j2, hl⟩ | (have hh := ‹Below wr.heap.size wr _ ∧ _›; exact ⟨hh.1.trans (hB6.mono hh.1.size), (hB6.cell (Nat.lt_of_lt_of_le lpk hh.1.size)).trans hh.2.1, (hB6.cell (Nat.lt_of_lt_of_le llk hh.1.size)).trans hh.2.2⟩))
          (first | (go_at_call 64; refine (htot.out _ (‹Below wr.heap.size wr _ ∧ _›).1).mono ?_; rintro e w6 ⟨rfl, hB6⟩))
        all_goals exact ⟨rfl, rfl, (‹Below wr.heap.size wr _ ∧ _›).1⟩
      intro w6 hB6
      clear hl
      have hBw6 := hBk.trans (hB6.mono hBk.size)
      have kb6 := kb.below hB6 kb.lt
      obtain ⟨lb', lo', e, hl⟩ := (hl9.below hBw6).get (intL_at HX.out)
      cases e
      have f0 := kb6.frozen 0
      have f1 := kb6.frozen 1
      have f2 := kb6.frozen 2
      have llk6 := World.block_lt_of_cell? _ _ ((hl9.get (intL_at HX.out)).elim fun _ h => h.elim fun _ h => by obtain ⟨e, h⟩ := h; cases e; exact h)
      simp only at llk6
      have ne1 : ¬ (w1.heap.size = lb) := by omega
      clear j2
      cases o with
      | none =>
        have hres := Lib.hid (HR.out.1 rfl)
        unfold bestC at kb6
        have b0 := kb6.cell 0
        have b1 := kb6.cell 1
        have b2 := kb6.cell 2
        simp only [List.getElem?_toArray, List.getElem?_cons_succ, List.getElem?_cons_zero] at b0 b1 b2
        go_wp2
        go_roundw
        case rel => exact ⟨k, by omega, by go_num, by rw [hres.out]; exact ((kb6.set 0 _).set 1 _).set 2 _, ((hBw6.setCell (p := ⟨w1.heap.size, 0, none⟩) (Nat.le_refl _) _).setCell (p := ⟨w1.heap.size, 1, none⟩) (Nat.le_refl _) _).setCell (p := ⟨w1.heap.size, 2, none⟩) (Nat.le_refl _) _⟩
        case measure => simp [intOf]
      | some z =>
        obtain ⟨zs, zg⟩ := z
        unfold bestC at kb6
        have b0 := kb6.cell 0
        have b1 := kb6.cell 1
        have b2 := kb6.cell 2
        simp only [List.getElem?_toArray, List.getElem?_cons_succ, List.getElem?_cons_zero] at b0 b1 b2
        by_cases hge : zg ≤ cx
        · have hres := Lib.hid (HR.out.2.1 _ rfl hge)
          have q1 : decide (zg ≤ cx) = true := decide_eq_true hge
          go_wp2
          go_roundw
          case rel => exact ⟨k, by omega, by go_num, by rw [hres.out]; exact ((kb6.set 0 _).set 1 _).set 2 _, ((hBw6.setCell (p := ⟨w1.heap.size, 0, none⟩) (Nat.le_refl _) _).setCell (p := ⟨w1.heap.size, 1, none⟩) (Nat.le_refl _) _).setCell (p := ⟨w1.heap.size, 2, none⟩) (Nat.le_refl _) _⟩
          case measure => simp [intOf]
        · have hres := Lib.hid (HR.out.2.2 _ rfl (by simp only; omega))
          have q1 : decide (zg ≤ cx) = false := decide_eq_false hge
          go_wp2
          go_roundw
          case rel => exact ⟨k, by omega, by go_num, by rw [hres.out]; exact kb6, hBw6⟩
          case measure => simp [intOf]
theorem solve_ref (v : Value) (p : ProgD) (w : World) (hv : ProgV w v p) (hnil : ∀ c vr vg, v = .agg #[.int .i64 p.vars, vr, vg] → vr = .slice none 0 c → c = 0) :
    Calls Try.prog 21 #[v] w fun e w' => ∃ v', e = .returned (.tuple #[v', .int .i64 (errV p)]) ∧ SolV w' v' (solveV p) ∧ Below w.heap.size w w' := by
  cases hval : validB p with
  | false =>
    have e1 : errV p = 230 := by unfold errV; rw [hval]; rfl
    have e2 : solveV p = ⟨false, 0, 0, []⟩ := by unfold solveV; rw [hval]; rfl
    rw [e1, e2]
    exact solve_ref_bad v p w hv hval
  | true =>
    have e1 : errV p = 0 := by unfold errV; rw [hval]; rfl
    rw [e1]
    exact solve_ref_good v p w hv hnil hval
end Go.Proofs.Ytblmpmapcdpaiaa
