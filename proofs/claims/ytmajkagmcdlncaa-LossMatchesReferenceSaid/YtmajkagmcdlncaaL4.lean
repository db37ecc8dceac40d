/- nadirlaw18.LossWorstMatchesReference. -/
import Derived.Test.YtmajkagmcdlncaaWF
import Derived.Test.YtmajkagmcdlncaaQ3
namespace Go.Proofs.Ytmajkagmcdlncaa
open Go.RowKit Go.Shelf
open L18 (Pass Slot noPass noSlot validB passesG optV pickV X3 ownV mostV sentV allowB limB)

/-- Options as pairs of what they are and the value of their slots: cells in a row, of any owner. -/
structure OptP (W : World) (v : Value) (ps : List (OptD × Value)) : Prop where
  opts : OptsAt W v (ps.map (·.1))
  len : ∃ (a : Option Addr) (cap : Nat), v = .slice a ps.length cap ∧ ps.length ≤ cap ∧ cap ≤ maxLen ∧ (0 < ps.length → ∃ b off, a = some ⟨b, off, none⟩ ∧ ∀ j y, ps[j]? = some y → ∀ i c, (pairCs y)[i]? = some c → W.cell? ⟨b, off + j * 9 + i, none⟩ = some c)
  slots : ∀ p ∈ ps, SlotsAt W p.2 p.1.slots
theorem OptsAt.pairs {W : World} {v : Value} {os : List OptD} (h : OptsAt W v os) : ∃ ps : List (OptD × Value), ps.map (·.1) = os ∧ OptP W v ps := by
  obtain ⟨a, cap, e, h1, h2, h3⟩ := h
  by_cases h0 : 0 < os.length
  · obtain ⟨b, off, e2, h4⟩ := h3 h0
    obtain ⟨vs, hvl, hvs⟩ := choose_list (fun i (x : Value) => ∀ y, os[i]? = some y → ∃ cs, cs.length = 9 ∧ (∀ k c, cs[k]? = some c → W.cell? ⟨b, off + i * 9 + k, none⟩ = some c) ∧ cs = optCells y.hd x ∧ SlotsAt W x y.slots) os.length (fun i hi => by
      obtain ⟨cs, q1, q2, vs, q3, q4⟩ := h4 i _ (List.getElem?_eq_getElem hi)
      refine ⟨vs, fun y hy => ?_⟩
      rw [List.getElem?_eq_getElem hi] at hy; cases hy
      exact ⟨cs, q1, q2, q3, q4⟩)
    have hm : (os.zip vs).map (·.1) = os := List.map_fst_zip (by omega)
    have hzl : (os.zip vs).length = os.length := by rw [List.length_zip, hvl, Nat.min_self]
    have hat : ∀ j (y : OptD × Value), (os.zip vs)[j]? = some y → os[j]? = some y.1 ∧ vs[j]? = some y.2 := fun j y hj => by
      rw [List.getElem?_zip_eq_some] at hj
      exact hj
    refine ⟨os.zip vs, hm, ⟨?_, ⟨a, cap, by rw [hzl]; exact e, by omega, h2, fun _ => ⟨b, off, e2, fun j y hj i c hic => ?_⟩⟩, fun p hp => ?_⟩⟩
    · rw [hm]; exact ⟨a, cap, e, h1, h2, h3⟩
    · obtain ⟨q1, q2⟩ := hat j y hj
      obtain ⟨cs, -, r2, r3, -⟩ := hvs j y.2 q2 y.1 q1
      exact r2 i c (by rw [r3]; exact hic)
    · obtain ⟨j, hj⟩ := List.getElem?_of_mem hp
      obtain ⟨q1, q2⟩ := hat j p hj
      obtain ⟨cs, -, -, -, r4⟩ := hvs j p.2 q2 p.1 q1
      exact r4
  · have hn : os = [] := List.eq_nil_of_length_eq_zero (by omega)
    subst hn
    exact ⟨[], rfl, ⟨⟨a, cap, e, h1, h2, h3⟩, ⟨a, cap, e, h1, h2, fun h => absurd h (Nat.lt_irrefl 0)⟩, fun p hp => by cases hp⟩⟩
/-- An own row of pairs whose slots lie in the world before it. -/
theorem own_opts {W0 W : World} {v : Value} {ps : List (OptD × Value)} (h : W.ownsRow W0.heap.size 28 9 v ps.length (flat pairCs ps)) (hb : Below W0.heap.size W0 W) (hs : ∀ p ∈ ps, SlotsAt W0 p.2 p.1.slots) : OptsAt W v (ps.map (·.1)) := by
  obtain ⟨a, cap, e, h1, h2, h3⟩ := owned_structs (f := pairCs) (R := fun w cs p => OptC w cs p.1) (fun _ => rfl) h (fun p hp => ⟨_, rfl, SlotsAt.later (hs p hp) hb⟩)
  refine ⟨a, cap, by rw [List.length_map]; exact e, by rw [List.length_map]; exact h1, h2, fun hl => ?_⟩
  obtain ⟨b, off, e2, h4⟩ := h3 (by simpa using hl)
  refine ⟨b, off, e2, fun j y hj => ?_⟩
  rw [List.getElem?_map] at hj
  obtain ⟨p, hp1, rfl⟩ := Option.map_eq_some_iff.1 hj
  exact h4 j p hp1
theorem flat_snoc {α : Type} (f : α → List Value) (l : List α) (x : α) : flat f (l ++ [x]) = flat f l ++ f x := by unfold flat; simp
theorem run_copyN {P : Program} {α : Type} {f : α → List Value} {w0 : World} {t e ty : TypeId} {z : Value} {size bytes : Nat}
    (E : ElemOK P t e z size bytes) {B : Nat} (hB : B ≤ w0.heap.size) {xa : Option Addr} {xc : Nat} {l : List α}
    (hf : ∀ y, (f y).length = size) (hv : 0 < l.length → ∃ b off, xa = some ⟨b, off, none⟩ ∧ ∀ j y, l[j]? = some y → ∀ i c, (f y)[i]? = some c → w0.cell? ⟨b, off + j * size + i, none⟩ = some c)
    (hn : l.length ≤ 100000) (hby : bytes ≤ 1000) :
    ∃ v' w', (Builtin.append_ #[t, t] ty #[.slice (some ⟨w0.heap.size, 0, none⟩) 0 0, .slice xa l.length xc]).run P (w0.alloc (.cells #[] e)) = .ok v' w' ∧ w'.ownsRow B e size v' l.length (flat f l) ∧ Below B w0 w' := by
  obtain ⟨i, hi, hz0, hz1, hz2⟩ := info_parts E.info
  have hbA : Below B w0 (w0.alloc (.cells #[] e)) := (Below.refl _ _).alloc hB _
  by_cases h0 : 0 < l.length
  · obtain ⟨b, off, rfl, hc⟩ := hv h0
    have hcell := StructsOf.flatCells (f := f) (w := w0.alloc (.cells #[] e)) (b := b) (off := off) (l := l) E.pos hf (fun j y hj i c hic => by
      have := hc j y hj i c hic
      exact ((Below.refl w0.heap.size w0).alloc (Nat.le_refl _) (.cells #[] e)).cell (World.block_lt_of_cell? _ _ this) |>.trans this)
    obtain ⟨v', w', hrun, r1, r2⟩ := run_append_arg_grows (P := P) (w0.alloc (.cells #[] e)) t ty e i z size bytes E.und hi hz0 hz1 hz2 E.zs E.pos ⟨w0.heap.size, 0, none⟩ 0 0 [] (by simp) (fun j u hj => by simp at hj)
      ⟨b, off, none⟩ l.length xc (flat f l) (flat_len hf l) hcell (by omega) (by unfold maxLen; omega) (by
        rw [Nat.zero_add]
        exact Nat.le_trans (Nat.mul_le_mul hn hby) (by decide))
    refine ⟨v', w', hrun, ?_, hbA.trans ?_⟩
    · rw [Nat.zero_add, List.nil_append] at r1
      exact ownsRow_base r1 (by simp; omega)
    · exact ⟨r2.os, r2.tape, r2.output, r2.size, fun k hk => r2.block k (by simp; omega) (by simp)⟩
  · have hnil : l = [] := List.eq_nil_of_length_eq_zero (by omega)
    subst hnil
    have hsrc : Src P i.size t (.slice xa 0 xc) 0 [] (w0.alloc (.cells #[] e)) := by
      cases xa with
      | none => exact Src.ofNil _ E.und _
      | some ad => exact Src.ofSlice _ E.und _ _ _ _ (by simp) (fun j u hj => by simp at hj) (fun u hu => by cases hu)
    exact ⟨_, _, run_append_room_src (w0.alloc (.cells #[] e)) t t ty e i E.und hi w0.heap.size 0 0 0 _ _ _ hsrc (by omega) (fun j hj => by simp at hj) (fun j hj => by simp at hj),
      ⟨by simp [flat], .inr ⟨w0.heap.size, 0, #[], rfl, hB, Blk.new w0 #[] e, by simp, by decide, by simp, by simp [flat]⟩⟩, hbA⟩
theorem step_copyN {P : Program} {α : Type} {f : α → List Value} {ops : Array Oper} {o : Oper} {a : Act} {K : Act → World → Prop} {Q : Exit → Act → World → Prop} {F : Prop} {t e : TypeId} {z : Value} {size bytes : Nat} {w0 : World}
    (E : ElemOK P t e z size bytes) (hg : o.guard = none) (s x : Operand) (ho : o.op = .call { callee := .builtin .append, args := #[s, x], argTypes := #[t, t] })
    {B : Nat} (hB : B ≤ w0.heap.size) (hs : a.eval s = .slice (some ⟨w0.heap.size, 0, none⟩) 0 0) {xa : Option Addr} {xc : Nat} {l : List α} (hx : a.eval x = .slice xa l.length xc)
    (hf : ∀ y, (f y).length = size) (hv : 0 < l.length → ∃ b off, xa = some ⟨b, off, none⟩ ∧ ∀ j y, l[j]? = some y → ∀ i c, (f y)[i]? = some c → w0.cell? ⟨b, off + j * size + i, none⟩ = some c)
    (hn : l.length ≤ 100000) (hby : bytes ≤ 1000)
    (h : ∀ v' w', w'.ownsRow B e size v' l.length (flat f l) → Below B w0 w' → K (a.put o.dst v') w') : if Region.wanted o (yielded ops a.tmps) = true then Oper.wp P o a (w0.alloc (.cells #[] e)) K Q else F := by
  have hw : Region.wanted o (yielded ops a.tmps) = true := by simp [Region.wanted, hg]
  rw [if_pos hw]
  obtain ⟨v', w', hrun, r1, r2⟩ := run_copyN (ty := o.type) E hB (xa := xa) (xc := xc) hf hv hn hby
  unfold Oper.wp
  simp [execOp, ho, resolve, invoke, builtin, hs, hx, hrun, Result.andThen]
  exact h v' w' r1 r2
/-- A further element, as a step of a drawn region; with what it leaves as it is. -/
theorem step_pushL {P : Program} {ops : Array Oper} {o : Oper} {a : Act} {K : Act → World → Prop} {Q : Exit → Act → World → Prop} {F : Prop} {t e : TypeId} {z : Value} {size bytes : Nat} {w0 : World} {us : List Value}
    (E : ElemOK P t e z size bytes) (hg : o.guard = none) (s x : Operand) (ho : o.op = .call { callee := .builtin .append, args := #[s, x], argTypes := #[t, t] })
    (B : Nat) {v : Value} {n : Nat} {xs : List Value} (hown : w0.ownsRow B e size v n xs) (hs : a.eval s = v) (hx : a.eval x = .slice (some ⟨w0.heap.size, 0, none⟩) 1 1)
    (hus : us.length = size) (h1 : ∀ u ∈ us, u.oneCell' = true) (h63 : n + 1 ≤ maxLen) (hbytes : (n + 1) * bytes ≤ 140737488355328) (hB : B ≤ w0.heap.size)
    (h : ∀ v' w', w'.ownsRow B e size v' (n + 1) (xs ++ us) → Below B w0 w' → K (a.put o.dst v') w') :
    if Region.wanted o (yielded ops a.tmps) = true then Oper.wp P o a (w0.alloc (.cells us.toArray e)) K Q else F := by
  have hw : Region.wanted o (yielded ops a.tmps) = true := by simp [Region.wanted, hg]
  rw [if_pos hw]
  obtain ⟨i, hi, hz0, hz1, hz2⟩ := info_parts E.info
  have hown1 : (w0.alloc (.cells us.toArray e)).ownsRow B e size v n xs := World.ownsRow.alloc hown _
  obtain ⟨v', w', hrun, r1, r2, -⟩ := run_append_where (P := P) (w0.alloc (.cells us.toArray e)) B t o.type e i z size bytes E.und hi hz0 hz1 hz2 E.zs E.pos v n xs hown1 ⟨w0.heap.size, 0, none⟩ 1 1 us (by rw [hus, Nat.one_mul])
    (fun j u hj => by rw [add_zero_off, World.cell?_alloc_at _ _ _ _ rfl]; simpa using hj) h1 h63 hbytes (by simp; omega)
  unfold Oper.wp
  simp [execOp, ho, resolve, invoke, builtin, hs, hx, hrun, Result.andThen]
  refine h v' w' r1 ?_
  have hb1 : Below B w0 (w0.alloc (.cells us.toArray e)) := (Below.refl _ _).alloc hB _
  refine hb1.trans ⟨r2.os, r2.tape, r2.output, r2.size, fun k hk => r2.block k (by simp; omega) (fun e => ?_)⟩
  obtain ⟨cur, -, hg⟩ := owned_block hown1 e.symm
  omega
abbrev aggO (h : OptH) (vs : Value) : Value := .agg #[.int .i64 h.id, .int .i64 h.order, .int .i64 h.clause, .int .i64 h.sat, .int .i64 h.fr, .int .i64 h.to, .int .i64 h.look, .int .i64 h.size, vs]
set_option maxRecDepth 100000 in
theorem short14x (i0 i1 i2 i3 i4 i5 i6 i7 : Int) (a : Option Addr) (n cap : Nat) (w : World) (hle : n ≤ cap) (hcm : cap ≤ maxLen) :
    Calls Try.prog 14 #[.agg #[.int .i64 i0, .int .i64 i1, .int .i64 i2, .int .i64 i3, .int .i64 i4, .int .i64 i5, .int .i64 i6, .int .i64 i7, .slice a n cap]] w fun e w' => e = .returned (.agg #[.int .i64 i0, .int .i64 i1, .int .i64 i2, .int .i64 i3, .int .i64 i4, .int .i64 i5, .int .i64 i6, .int .i64 i7, .slice a (min n 7) cap]) ∧ Below w.heap.size w w' := by
  obtain ⟨m, hm⟩ : ∃ m, min n 7 = m := ⟨_, rfl⟩
  rw [hm]
  unfold maxLen at hcm
  have hmn : (if (7 : Int) < (n : Int) then (7 : Int) else (n : Int)) = (m : Int) := by rw [← hm, Nat.min_def]; split <;> split <;> omega
  have hmn2 : min (n : Int) 7 = (m : Int) := by rw [← hmn, Int.min_def]; split <;> split <;> omega
  have j1 : (0 : Int) ≤ (m : Int) ∧ (m : Int) ≤ (n : Int) ∧ (m : Int) ≤ (cap : Int) := by omega
  clear hm
  go_enter Try.func14, Try.ntmps14
  go_wp2
  refine bodyPost_ret (v := .agg #[.int .i64 i0, .int .i64 i1, .int .i64 i2, .int .i64 i3, .int .i64 i4, .int .i64 i5, .int .i64 i6, .int .i64 i7, .slice a m cap]) (by simp [results, Try.results14, go_sem]) rfl ?_
  exact ⟨rfl, ((Below.refl _ _).alloc (Nat.le_refl _) _).alloc (by simp) _⟩
theorem slots_short {W : World} {a : Option Addr} {n cap : Nat} {o : List Slot} (h : SlotsAt W (.slice a n cap) o) : SlotsAt W (.slice a (min n 7) cap) (o.take 7) := by
  have hn : n = o.length := by obtain ⟨a', c, e, -, -, -⟩ := h; cases e; rfl
  subst hn
  have := slots_cut (k := min o.length 7) h (Nat.min_le_left _ _)
  rw [List.take_eq_take_min (i := 7), Nat.min_comm 7] 
  exact this
theorem OptP.later {W W' : World} {v : Value} {ps : List (OptD × Value)} (h : OptP W v ps) (hb : Below W.heap.size W W') : OptP W' v ps := by
  obtain ⟨h1, ⟨a, cap, e, h2, h3, h4⟩, h5⟩ := h
  refine ⟨OptsAt.later h1 hb, ⟨a, cap, e, h2, h3, fun h0 => ?_⟩, fun p hp => SlotsAt.later (h5 p hp) hb⟩
  obtain ⟨b, off, e2, h6⟩ := h4 h0
  exact ⟨b, off, e2, fun j y hj i c hc => (hb.cell (World.block_lt_of_cell? _ _ (h6 j y hj i c hc))).trans (h6 j y hj i c hc)⟩
theorem OptP.parts {W : World} {oa : Option Addr} {n oc : Nat} {ps : List (OptD × Value)} (h : OptP W (.slice oa n oc) ps) : n = ps.length ∧ (0 < ps.length → ∃ b off, oa = some ⟨b, off, none⟩ ∧ ∀ j y, ps[j]? = some y → ∀ i c, (pairCs y)[i]? = some c → W.cell? ⟨b, off + j * 9 + i, none⟩ = some c) := by
  obtain ⟨-, ⟨a, cap, e, h2, h3, h4⟩, -⟩ := h
  injection e with e1 e2 e3
  subst e1
  exact ⟨e2, h4⟩
theorem OptP.get0 {W : World} {oa : Option Addr} {n oc : Nat} {p : OptD × Value} {ps : List (OptD × Value)} (h : OptP W (.slice oa n oc) (p :: ps)) : ∃ b off, oa = some ⟨b, off, none⟩ ∧ W.cell? ⟨b, off, none⟩ = some (.int .i64 p.1.hd.id) ∧ W.cell? ⟨b, off + 1, none⟩ = some (.int .i64 p.1.hd.order) ∧ W.cell? ⟨b, off + 2, none⟩ = some (.int .i64 p.1.hd.clause) ∧ W.cell? ⟨b, off + 3, none⟩ = some (.int .i64 p.1.hd.sat) ∧ W.cell? ⟨b, off + 4, none⟩ = some (.int .i64 p.1.hd.fr) ∧ W.cell? ⟨b, off + 5, none⟩ = some (.int .i64 p.1.hd.to) ∧ W.cell? ⟨b, off + 6, none⟩ = some (.int .i64 p.1.hd.look) ∧ W.cell? ⟨b, off + 7, none⟩ = some (.int .i64 p.1.hd.size) ∧ W.cell? ⟨b, off + 8, none⟩ = some p.2 ∧ SlotsAt W p.2 p.1.slots := by
  obtain ⟨-, h2⟩ := h.parts
  obtain ⟨b, off, e, h3⟩ := h2 (by simp)
  have h4 := h3 0 p rfl
  exact ⟨b, off, e, h4 0 _ rfl, by simpa using h4 1 _ rfl, by simpa using h4 2 _ rfl, by simpa using h4 3 _ rfl, by simpa using h4 4 _ rfl, by simpa using h4 5 _ rfl, by simpa using h4 6 _ rfl, by simpa using h4 7 _ rfl, by simpa using h4 8 _ rfl, h.slots p (by simp)⟩
def pick3 {α : Type} (a b c : α) : Nat → α
  | 0 => a
  | 1 => b
  | _ => c
theorem cells3 {W : World} {B : Nat} {t : TypeId} {a b c : Value} (h : Blk W B #[a, b, c] t) {j : Nat} (hj : j < 3) : W.cell? ⟨B, j, none⟩ = some (pick3 a b c j) := by
  rw [h.cell]
  match j, hj with
  | 0, _ => rfl
  | 1, _ => rfl
  | 2, _ => rfl
theorem pick3_all {α β : Type} {R : α → β → Prop} {a b c : α} {x y z : β} (h1 : R a x) (h2 : R b y) (h3 : R c z) (j : Nat) : R (pick3 a b c j) (pick3 x y z j) := by
  match j with
  | 0 => exact h1
  | 1 => exact h2
  | _ + 2 => exact h3
def pick2 {α : Type} (a b : α) : Nat → α
  | 0 => a
  | _ => b
theorem cells2 {W : World} {B : Nat} {t : TypeId} {a b : Int} (h : Blk W B #[.int .i64 a, .int .i64 b] t) {j : Nat} (hj : j < 2) : W.cell? ⟨B, j, none⟩ = some (.int .i64 (pick2 a b j)) := by
  rw [h.cell]
  match j, hj with
  | 0, _ => rfl
  | 1, _ => rfl
set_option maxRecDepth 100000 in
set_option maxHeartbeats 4000000 in
theorem worstRef_true (vx vy vo : Value) (x : List X3) (y : List (List Int)) (od : OptD) (kk : Int) (w : World) (hx : XsAt w vx x) (hy : RowsAt w vy y) (ho : OptV w vo od) (hxr : ∀ a ∈ x, XR a) (hyr : ∀ r ∈ y, ∀ a ∈ r, InR a) (hkk : InR kk) :
    Calls Try.prog 4 #[vx, vy, vo, .int .i64 kk] w fun e w' => e = .returned (.bool true) ∧ Below w.heap.size w w' := by
  obtain ⟨vs, rfl, hs⟩ := ho
  obtain ⟨⟨i0, i1, i2, i3, i4, i5, i6, i7⟩, o⟩ := od
  dsimp only at hs ⊢
  obtain ⟨sa, sc, rfl, hsle, hscm⟩ := hs.len
  have HX := Lib.hid hx
  have HY := Lib.hid hy
  have HXR := Lib.hid hxr
  have HYR := Lib.hid hyr
  have HSL := Lib.hid hs
  have hp13 := fun W => pick13 kk 5 W hkk (by decide) (by decide)
  obtain ⟨kp, hkp⟩ : ∃ kp, pickV kk 5 = kp := ⟨_, rfl⟩
  rw [hkp] at hp13
  have HP13 := Lib.hid hp13
  clear hx hy hxr hyr hs hp13 hkp hkk
  go_enter Try.func4, Try.ntmps4
  go_wp2_with fail
  have hb0 := (Below.refl w.heap.size w).alloc (Nat.le_refl _) (.cells #[.int .i64 i0, .int .i64 i1, .int .i64 i2, .int .i64 i3, .int .i64 i4, .int .i64 i5, .int .i64 i6, .int .i64 i7, .slice sa o.length sc] 28)
  have kB := Blk.new w #[.int .i64 i0, .int .i64 i1, .int .i64 i2, .int .i64 i3, .int .i64 i4, .int .i64 i5, .int .i64 i6, .int .i64 i7, .slice sa o.length sc] 28
  generalize w.alloc (.cells #[.int .i64 i0, .int .i64 i1, .int .i64 i2, .int .i64 i3, .int .i64 i4, .int .i64 i5, .int .i64 i6, .int .i64 i7, .slice sa o.length sc] 28) = W0 at hb0 kB ⊢
  obtain ⟨B, hB⟩ : ∃ B, w.heap.size = B := ⟨_, rfl⟩
  rw [hB] at kB ⊢
  refine (sane10 _).mono ?_
  rintro e w1 ⟨rfl, b1⟩
  have b01 := hb0.trans (b1.mono hb0.size)
  have hq := passes11 _ x w1 (HX.out.later b01) HXR.out
  go_wp2_with fail
  refine hq.mono ?_
  rintro e w2 ⟨vp, rfl, hp, b2⟩
  clear hq
  have hps := hp.passes
  have b12 := b01.trans (b2.mono b01.size)
  have hpl := passesG_len x
  have hq := options30 vp vy _ y w2 hps (HY.out.later b12) (sureOK_G x) HYR.out (by omega)
  have hol := opts_len (passesG x) y
  have HCAN := Lib.hid (can_proper (L18.properG x))
  obtain ⟨pa, pc, rfl, hple, hpcm⟩ := hps.len
  unfold maxLen at hpcm
  generalize hl : passesG x = l at hps hq hple hpl HCAN hol
  generalize hos : optsG l y = os at hq hol
  have HP := Lib.hid hps
  clear hps hl hos hp
  go_wp2_with fail
  refine hq.mono ?_
  rintro e w3 ⟨vo, rfl, ho, b3⟩
  clear hq
  obtain ⟨oa, oc, rfl, hole, hocm⟩ := ho.len
  obtain ⟨ps, hpm, hP⟩ := OptsAt.pairs ho
  obtain ⟨hol2, hcp⟩ := hP.parts
  have b13 := b12.trans (b3.mono b12.size)
  have HO := Lib.hid hP
  have HP3 := Lib.hid (PassesAt.later HP.out b3)
  have HS3 := Lib.hid (SlotsAt.later HSL.out b13)
  have k3 := ((kB.below b1 kB.lt).below b2 (kB.below b1 kB.lt).lt).below b3 ((kB.below b1 kB.lt).below b2 (kB.below b1 kB.lt).lt).lt
  have lB := k3.lt
  have z0 := k3.cell 0
  have z1 := k3.cell 1
  have z2 := k3.cell 2
  have z3 := k3.cell 3
  have z4 := k3.cell 4
  have z5 := k3.cell 5
  have z6 := k3.cell 6
  have z7 := k3.cell 7
  have z8 := k3.cell 8
  simp only [List.getElem?_toArray, List.getElem?_cons_zero, List.getElem?_cons_succ] at z0 z1 z2 z3 z4 z5 z6 z7 z8
  have hcp3 : 0 < ps.length → ∃ b off, oa = some ⟨b, off, none⟩ ∧ ∀ j y, ps[j]? = some y → ∀ i c, (pairCs y)[i]? = some c → w3.drew.cell? ⟨b, off + j * 9 + i, none⟩ = some c := hcp
  have hbd : Below w3.heap.size w3 w3.drew := (Below.refl _ _).drew
  subst hpm
  rw [List.length_map] at hole hol hol2 ⊢
  clear ho hP hcp HX HY HXR HYR HP HSL b1 b2 b3 b12 b01 hb0 kB k3
  unfold maxLen at hocm
  go_upto_region 5 with (fail)
  have HC := Lib.hid (fun W (hW : Below w3.heap.size w3 W) => show W.cell? ⟨B, 0, none⟩ = some (.int .i64 i0) ∧ W.cell? ⟨B, 1, none⟩ = some (.int .i64 i1) ∧ W.cell? ⟨B, 2, none⟩ = some (.int .i64 i2) ∧ W.cell? ⟨B, 3, none⟩ = some (.int .i64 i3) ∧ W.cell? ⟨B, 4, none⟩ = some (.int .i64 i4) ∧ W.cell? ⟨B, 5, none⟩ = some (.int .i64 i5) ∧ W.cell? ⟨B, 6, none⟩ = some (.int .i64 i6) ∧ W.cell? ⟨B, 7, none⟩ = some (.int .i64 i7) ∧ W.cell? ⟨B, 8, none⟩ = some (.slice sa o.length sc) from ⟨(hW.cell (p := ⟨B, 0, none⟩) lB).trans z0, (hW.cell (p := ⟨B, 1, none⟩) lB).trans z1, (hW.cell (p := ⟨B, 2, none⟩) lB).trans z2, (hW.cell (p := ⟨B, 3, none⟩) lB).trans z3, (hW.cell (p := ⟨B, 4, none⟩) lB).trans z4, (hW.cell (p := ⟨B, 5, none⟩) lB).trans z5, (hW.cell (p := ⟨B, 6, none⟩) lB).trans z6, (hW.cell (p := ⟨B, 7, none⟩) lB).trans z7, (hW.cell (p := ⟨B, 8, none⟩) lB).trans z8⟩)
  refine wp_region_noPanic ?_
  refine wp_region_held_drew (S := (fun w' => Below w3.heap.size w3 w' ∧ w'.cell? ⟨B, 0, none⟩ = some (.int .i64 i0) ∧ w'.cell? ⟨B, 1, none⟩ = some (.int .i64 i1) ∧ w'.cell? ⟨B, 2, none⟩ = some (.int .i64 i2) ∧ w'.cell? ⟨B, 3, none⟩ = some (.int .i64 i3) ∧ w'.cell? ⟨B, 4, none⟩ = some (.int .i64 i4) ∧ w'.cell? ⟨B, 5, none⟩ = some (.int .i64 i5) ∧ w'.cell? ⟨B, 6, none⟩ = some (.int .i64 i6) ∧ w'.cell? ⟨B, 7, none⟩ = some (.int .i64 i7) ∧ w'.cell? ⟨B, 8, none⟩ = some (.slice sa o.length sc))) (by kernel_rfl) ⟨hbd, HC.out _ hbd⟩ (fun hHeld => ?_)
  refine wpAnyH_take (i := 1) (oi := { dst := some 32, op := Op.move (Operand.tmp 10), type := 39, pos := "law.go:124", after := #[], guard := none }) (v := ?_) rfl (by kernel_rfl) (by kernel_rfl) (by kernel_rfl) (fun _ _ _ h => h) (Or.inl ⟨by kernel_rfl, ?_⟩) (by assumption) ?_
  rotate_left
  · intro w hSw
    (try dsimp only at hSw)
    go_simp
    all_goals (with_reducible rfl)
  (try simp only [Act.put, List.setIfInBounds_toArray, List.set_cons_zero, List.set_cons_succ])
  refine wpAnyH_take (i := 3) (oi := { dst := some 34, op := Op.load 28 (Operand.tmp 6), type := 28, pos := "law.go:124", after := #[], guard := none }) (v := ?_) rfl (by kernel_rfl) (by kernel_rfl) (by kernel_rfl) (fun _ _ _ h => h) (Or.inl ⟨by kernel_rfl, ?_⟩) (by assumption) ?_
  rotate_left
  · intro w hSw
    (try dsimp only at hSw)
    go_simp
    all_goals (with_reducible rfl)
  (try simp only [Act.put, List.setIfInBounds_toArray, List.set_cons_zero, List.set_cons_succ])
  refine wpAnyH_one1 (i := 0) (o := { dst := some 31, op := Op.buildSlice 39 0 #[], type := 39, pos := "law.go:124", after := #[], guard := none }) (by kernel_rfl) rfl (fun K hK => ?_)
  go_simp
  have hb1 := hHeld.1.alloc hHeld.1.size (.cells #[] 28)
  refine hK.out _ _ ?_ (fun hHeld2 => ?_)
  · first | (with_reducible exact ⟨hb9, HC.out _ hb9⟩) | (with_reducible exact ⟨hb4, HC.out _ hb4⟩) | (with_reducible exact ⟨hb3, HC.out _ hb3⟩) | (with_reducible exact ⟨hb2, HC.out _ hb2⟩) | exact ⟨hb1, HC.out _ hb1⟩
  clear hHeld
  have hHeld := hHeld2
  clear hHeld2
  clear hK K
  (try simp only [Act.put, List.setIfInBounds_toArray, List.set_cons_zero, List.set_cons_succ])
  refine wpAnyH_one1 (i := 2) (o := { dst := some 33, op := Op.call { callee := Callee.builtin Builtin.append, args := #[Operand.tmp 31, Operand.tmp 32], argTypes := #[39, 39] }, type := 39, pos := "law.go:124", after := #[{ on := 0, ground := Ground.data }, { on := 1, ground := Ground.data }], guard := none }) (by kernel_rfl) rfl (fun K hK => ?_)
  refine step_copyN E39 (f := pairCs) (l := ps) (w0 := w3.drew) rfl _ _ rfl (B := w3.heap.size) (Nat.le_refl _) rfl rfl (fun _ => rfl) hcp3 (by omega) (by decide) (fun v5 w5 ho5 hb5 => ?_)
  have hb2 := hbd.trans hb5
  refine hK.out _ _ ?_ (fun hHeld2 => ?_)
  · first | (with_reducible exact ⟨hb9, HC.out _ hb9⟩) | (with_reducible exact ⟨hb4, HC.out _ hb4⟩) | (with_reducible exact ⟨hb3, HC.out _ hb3⟩) | (with_reducible exact ⟨hb2, HC.out _ hb2⟩) | exact ⟨hb1, HC.out _ hb1⟩
  clear hHeld
  have hHeld := hHeld2
  clear hHeld2
  clear hK K
  (try simp only [Act.put, List.setIfInBounds_toArray, List.set_cons_zero, List.set_cons_succ])
  refine wpAnyH_one1 (i := 4) (o := { dst := some 35, op := Op.call { callee := Callee.value (Operand.func 14), args := #[Operand.tmp 34], argTypes := #[28] }, type := 28, pos := "law.go:124", after := #[{ on := 3, ground := Ground.data }, { on := 2, ground := Ground.chain }], guard := none }) (by kernel_rfl) rfl (fun K hK => ?_)
  go_simp
  go_at_call 14
  refine (short14x i0 i1 i2 i3 i4 i5 i6 i7 sa o.length sc _ hsle hscm).mono ?_
  rintro e wq ⟨rfl, hBq⟩
  have hb3 := hb2.trans (hBq.mono hb2.size)
  have ho6 := owned_below ho5 hBq
  refine hK.out _ _ ?_ (fun hHeld2 => ?_)
  · first | (with_reducible exact ⟨hb9, HC.out _ hb9⟩) | (with_reducible exact ⟨hb4, HC.out _ hb4⟩) | (with_reducible exact ⟨hb3, HC.out _ hb3⟩) | (with_reducible exact ⟨hb2, HC.out _ hb2⟩) | exact ⟨hb1, HC.out _ hb1⟩
  clear hHeld
  have hHeld := hHeld2
  clear hHeld2
  clear hK K
  (try simp only [Act.put, List.setIfInBounds_toArray, List.set_cons_zero, List.set_cons_succ])
  refine wpAnyH_one1 (i := 5) (o := { dst := some 36, op := Op.buildSlice 39 1 #[(0, Operand.tmp 35)], type := 39, pos := "law.go:124", after := #[{ on := 4, ground := Ground.data }], guard := none }) (by kernel_rfl) rfl (fun K hK => ?_)
  go_simp
  have hb4 := hb3.alloc hb3.size (.cells #[.int .i64 i0, .int .i64 i1, .int .i64 i2, .int .i64 i3, .int .i64 i4, .int .i64 i5, .int .i64 i6, .int .i64 i7, .slice sa (min o.length 7) sc] 28)
  refine hK.out _ _ ?_ (fun hHeld2 => ?_)
  · first | (with_reducible exact ⟨hb9, HC.out _ hb9⟩) | (with_reducible exact ⟨hb4, HC.out _ hb4⟩) | (with_reducible exact ⟨hb3, HC.out _ hb3⟩) | (with_reducible exact ⟨hb2, HC.out _ hb2⟩) | exact ⟨hb1, HC.out _ hb1⟩
  clear hHeld
  have hHeld := hHeld2
  clear hHeld2
  clear hK K
  (try simp only [Act.put, List.setIfInBounds_toArray, List.set_cons_zero, List.set_cons_succ])
  refine wpAnyH_one1 (i := 6) (o := { dst := some 37, op := Op.call { callee := Callee.builtin Builtin.append, args := #[Operand.tmp 33, Operand.tmp 36], argTypes := #[39, 39] }, type := 39, pos := "law.go:124", after := #[{ on := 2, ground := Ground.data }, { on := 5, ground := Ground.data }, { on := 4, ground := Ground.chain }], guard := none }) (by kernel_rfl) rfl (fun K hK => ?_)
  refine step_pushL E39 (us := [.int .i64 i0, .int .i64 i1, .int .i64 i2, .int .i64 i3, .int .i64 i4, .int .i64 i5, .int .i64 i6, .int .i64 i7, .slice sa (min o.length 7) sc]) rfl _ _ rfl w3.heap.size ho6 rfl rfl rfl (by intro u hu; simp at hu; rcases hu with rfl | rfl | rfl | rfl | rfl | rfl | rfl | rfl | rfl <;> rfl) (by unfold maxLen; omega) (by omega) hb3.size (fun v7 w7 ho7 hb7 => ?_)
  have hb9 := hb3.trans hb7
  refine hK.out _ _ ?_ (fun hHeld2 => ?_)
  · first | (with_reducible exact ⟨hb9, HC.out _ hb9⟩) | (with_reducible exact ⟨hb4, HC.out _ hb4⟩) | (with_reducible exact ⟨hb3, HC.out _ hb3⟩) | (with_reducible exact ⟨hb2, HC.out _ hb2⟩) | exact ⟨hb1, HC.out _ hb1⟩
  clear hHeld
  have hHeld := hHeld2
  clear hHeld2
  clear hK K
  (try simp only [Act.put, List.setIfInBounds_toArray, List.set_cons_zero, List.set_cons_succ])
  refine wpAnyH_take (i := 7) (oi := { dst := some 11, op := Op.assign (Operand.tmp 37), type := 39, pos := "law.go:124", after := #[{ on := 6, ground := Ground.data }, { on := 6, ground := Ground.chain }, { on := 0, ground := Ground.phase }, { on := 1, ground := Ground.phase }, { on := 2, ground := Ground.phase }, { on := 3, ground := Ground.phase }, { on := 4, ground := Ground.phase }, { on := 5, ground := Ground.phase }, { on := 6, ground := Ground.phase }], guard := none }) (v := ?_) rfl (by kernel_rfl) (by kernel_rfl) (by kernel_rfl) (fun _ _ _ h => h) (Or.inl ⟨by kernel_rfl, ?_⟩) (by assumption) ?_
  rotate_left
  · intro w hSw
    (try dsimp only at hSw)
    go_simp
    all_goals (with_reducible rfl)
  (try simp only [Act.put, List.setIfInBounds_toArray, List.set_cons_zero, List.set_cons_succ])
  refine wpAnyH_done (by kernel_rfl) ?_ _
  refine NoPanic.normal ?_
  have hX := hHeld.1
  clear hHeld hb1 hb2 hb3 hb4 ho5 ho6 z0 z1 z2 z3 z4 z5 z6 z7 z8 HC hcp3
  have hmore : OptsAt w7 v7 (ps.map (·.1) ++ [⟨⟨i0, i1, i2, i3, i4, i5, i6, i7⟩, o.take 7⟩]) := by
    have := own_opts (W0 := w3) (W := w7) (v := v7) (ps := ps ++ [(⟨⟨i0, i1, i2, i3, i4, i5, i6, i7⟩, o.take 7⟩, .slice sa (min o.length 7) sc)]) (by
      rw [List.length_append, List.length_singleton, flat_snoc]; exact ho7) hX (fun p hp => by
        rcases List.mem_append.1 hp with hp | hp
        · exact HO.out.slots p hp
        · simp at hp; subst hp; exact slots_short HS3.out)
    rw [List.map_append] at this
    exact this
  generalize ps.map (·.1) ++ [(⟨⟨i0, i1, i2, i3, i4, i5, i6, i7⟩, o.take 7⟩ : OptD)] = ms at hmore
  obtain ⟨ma, mc, rfl, hmle, hmcm⟩ := hmore.len
  have HM := Lib.hid hmore
  have HO7 := Lib.hid (HO.out.later hX)
  have HP7 := Lib.hid (PassesAt.later HP3.out hX)
  have b17 := b13.trans (hX.mono b13.size)
  clear hmore ho7 hb7 HO HP3 HS3 b13 hX lB
  go_wp2
  go_loopw [12, 13] (fun u12 u13 wr => ∃ (i : Nat) (qs : List (OptD × Value)), i ≤ 13 ∧ u13 = .int .i64 (i : Int) ∧ qs.length = i ∧ (∀ p ∈ qs, p ∈ ps) ∧ wr.ownsRow w7.heap.size 28 9 u12 qs.length (flat pairCs qs) ∧ Below w7.heap.size w7 wr) (fun _ u13 _ => (13 - intOf u13).toNat)
  case atStart => exact ⟨0, [], by omega, rfl, rfl, fun p hp => by (cases hp), World.ownsRow_nil _ _ _ _, Below.refl _ _⟩
  case round =>
    obtain ⟨i, qs, hi, rfl, hqs, hqm, hrow, hBr⟩ := hrel
    have HQM := Lib.hid hqm
    clear hqm
    by_cases hi13 : i < 13
    · have e1 : decide ((i : Int) < 13) = true := decide_eq_true (by omega)
      have e1b : decide (i < 13) = true := decide_eq_true (by omega)
      by_cases hpos : 0 < ps.length
      · have e2 : decide ((0 : Int) < (ps.length : Int)) = true := decide_eq_true (by omega)
        have e2b : decide (0 < ps.length) = true := decide_eq_true (by omega)
        have j1 : (0 : Int) < (ps.length : Int) := by omega
        obtain ⟨p0, pt, hpt⟩ : ∃ p0 pt, ps = p0 :: pt := by
          cases ps with
          | nil => simp at hpos
          | cons a b => exact ⟨a, b, rfl⟩
        have HPT := Lib.hid hpt
        have hOr := HO7.out.later hBr
        rw [HPT.out] at hOr
        obtain ⟨b, off, rfl, d0, d1, d2, d3, d4, d5, d6, d7, d8, hsl⟩ := hOr.get0
        obtain ⟨⟨⟨j0, j1, j2, j3, j4, j5, j6, j7⟩, o2⟩, v2⟩ := p0
        dsimp only at d0 d1 d2 d3 d4 d5 d6 d7 d8 hsl
        obtain ⟨s2a, s2c, rfl, -, -⟩ := hsl.len
        clear hpt hOr hsl
        go_wp2_with (at_builtin; refine wpList_pushN E39 rfl _ _ rfl w7.heap.size hrow rfl rfl rfl (by intro u hu; simp at hu; rcases hu with rfl | rfl | rfl | rfl | rfl | rfl | rfl | rfl | rfl <;> rfl) (by unfold maxLen; omega) (by omega) hBr.size ?_; intro v' wz hown' hgrow hbz)
        clear hgrow d0 d1 d2 d3 d4 d5 d6 d7 d8 hrow
        go_wp2
        go_roundw
        case rel => exact ⟨i + 1, qs ++ [(⟨⟨j0, j1, j2, j3, j4, j5, j6, j7⟩, o2⟩, .slice s2a o2.length s2c)], by omega, by go_num, by rw [List.length_append, hqs]; rfl, fun p hp => by
          rcases List.mem_append.1 hp with hp | hp
          · exact HQM.out p hp
          · simp at hp; subst hp; rw [HPT.out]; exact List.mem_cons_self, by rw [List.length_append, List.length_singleton, flat_snoc]; exact hown', hBr.trans hbz⟩
        case measure => simp [intOf]; omega
      · have e2 : decide ((0 : Int) < (ps.length : Int)) = false := decide_eq_false (by omega)
        have e2b : decide (0 < ps.length) = false := decide_eq_false (by omega)
        obtain ⟨w9, hren⟩ : ∃ z, z = wr := ⟨_, rfl⟩
        subst hren
        have hmany : OptsAt w9 _ (qs.map (·.1)) := own_opts hrow hBr (fun p hp => HO7.out.slots p (HQM.out p hp))
        have hnl : (qs.map (·.1)).length = qs.length := List.length_map ..
        obtain ⟨na, nc, rfl, hnle, hncm⟩ := hmany.len
        rw [hnl] at hnle ⊢
        have hpml : (ps.map (·.1)).length = ps.length := List.length_map ..
        have HZ := Lib.hid (fun j => pick3_all (R := fun v os => OptsAt w9 v os) (HO7.out.later hBr).opts (OptsAt.later HM.out hBr) hmany j)
        have HSL3 := Lib.hid (pick3_all (R := fun (v : Value) (os : List OptD) => ∃ a c, v = .slice a os.length c) (a := .slice oa ps.length oc) (b := .slice ma ms.length mc) (c := .slice na qs.length nc) (x := ps.map (·.1)) (y := ms) (z := qs.map (·.1)) ⟨oa, oc, by rw [hpml]⟩ ⟨ma, mc, rfl⟩ ⟨na, nc, by rw [hnl]⟩)
        rw [hnl, hpml] at HZ
        have HPr := Lib.hid (PassesAt.later HP7.out hBr)
        have b1r := b17.trans (hBr.mono b17.size)
        clear hmany HO7 HM HP7 b17 hBr hrow HQM hqs
        clear hnl hpml
        generalize qs.map (·.1) = qz at HZ HSL3
        go_wp2
        have kZ := Blk.new w9 #[.slice oa ps.length oc, .slice ma ms.length mc, .slice na qs.length nc] 39
        have hbZ := (Below.refl w9.heap.size w9).alloc (Nat.le_refl _) (.cells #[.slice oa ps.length oc, .slice ma ms.length mc, .slice na qs.length nc] 39)
        generalize hZB : w9.heap.size = ZB at kZ ⊢
        generalize w9.alloc (.cells #[.slice oa ps.length oc, .slice ma ms.length mc, .slice na qs.length nc] 39) = WZ at kZ hbZ ⊢
        have KZ := Lib.hid kZ
        go_loopw [15, 17, 18, 19, 20, 21, 22, 23, 58] (fun _ _ _ _ _ _ _ _ u58 wq => ∃ j : Nat, j ≤ 3 ∧ u58 = .int .i64 (j : Int) ∧ Blk wq ZB #[.slice oa ps.length oc, .slice ma ms.length mc, .slice na qs.length nc] 39 ∧ Below w9.heap.size w9 wq) (fun _ _ _ _ _ _ _ _ u58 _ => (3 - intOf u58).toNat)
        case atStart => exact ⟨0, by omega, rfl, KZ.out, hbZ⟩
        case round =>
          obtain ⟨wq, hren⟩ : ∃ z, z = wr := ⟨_, rfl⟩
          subst hren
          obtain ⟨j, hj, rfl, kq, hBq⟩ := hrel
          by_cases hj3 : j < 3
          · have i1 : (0 : Int) ≤ (j : Int) ∧ (j : Int) < 3 := by omega
            have e3 : decide ((j : Int) < 3) = true := decide_eq_true (by omega)
            have c1 := cells3 kq hj3
            have hz := HZ.out j
            obtain ⟨a', c', e'⟩ := HSL3.out j
            have KQ := Lib.hid kq
            rw [e'] at c1 hz
            generalize pick3 (ps.map (·.1)) ms qz j = zs at c1 hz
            have HZS := Lib.hid hz
            clear kq hz e'
            go_wp2_with fail
            refine (HP13.out _).mono ?_
            rintro e wf ⟨rfl, rfl⟩
            go_wp2
            have kI := Blk.new wq #[.int .i64 kk, .int .i64 kp] 3
            have hbI := hBq.alloc hBq.size (.cells #[.int .i64 kk, .int .i64 kp] 3)
            have KQ2 := Lib.hid (KQ.out.alloc (.cells #[.int .i64 kk, .int .i64 kp] 3))
            generalize wq.alloc (.cells #[.int .i64 kk, .int .i64 kp] 3) = WI at kI hbI KQ2 ⊢
            generalize wq.heap.size = IB at kI ⊢
            have KI := Lib.hid kI
            clear kI c1
            go_loopw [17, 18, 19, 20, 21, 22, 23, 67] (fun _ _ _ _ _ _ _ u67 wt => ∃ m : Nat, m ≤ 2 ∧ u67 = .int .i64 (m : Int) ∧ Blk wt IB #[.int .i64 kk, .int .i64 kp] 3 ∧ Blk wt ZB #[.slice oa ps.length oc, .slice ma ms.length mc, .slice na qs.length nc] 39 ∧ Below w9.heap.size w9 wt) (fun _ _ _ _ _ _ _ u67 _ => (2 - intOf u67).toNat)
            case atStart => exact ⟨0, by omega, rfl, KI.out, KQ2.out, hbI⟩
            case round =>
              obtain ⟨wt, hren⟩ : ∃ z, z = wr := ⟨_, rfl⟩
              subst hren
              obtain ⟨m, hm, rfl, ki, kz, hBt⟩ := hrel
              by_cases hm2 : m < 2
              · have i2 : (0 : Int) ≤ (m : Int) ∧ (m : Int) < 2 := by omega
                have e4 : decide ((m : Int) < 2) = true := decide_eq_true (by omega)
                have c2 := cells2 ki hm2
                have KI2 := Lib.hid ki
                have KZ2 := Lib.hid kz
                generalize pick2 kk kp m = kv at c2
                have hq := worst31 _ _ zs l kv wt (OptsAt.later HZS.out hBt) (PassesAt.later HPr.out hBt) HCAN.out
                obtain ⟨we, hwe⟩ : ∃ z, worstE l zs kv = z := ⟨_, rfl⟩
                obtain ⟨wl, hwl⟩ : ∃ z, worstL l zs kv = z := ⟨_, rfl⟩
                obtain ⟨ws, hws⟩ : ∃ z, nI (worstS l zs kv) = z := ⟨_, rfl⟩
                rw [hwe, hwl, hws] at hq
                have HE := Lib.hid (And.intro hwe (And.intro hwl hws))
                clear ki kz hwe hwl hws
                go_wp2_with fail
                refine hq.mono ?_
                rintro e wu ⟨⟨v1, v2, rfl, h1, h2⟩, bu⟩
                clear hq c2
                have hBu := hBt.trans (bu.mono hBt.size)
                have hq := worst32 _ _ zs l kv wu (OptsAt.later HZS.out hBu) (PassesAt.later HPr.out hBu) HCAN.out
                rw [HE.out.1, HE.out.2.1, HE.out.2.2] at hq
                have H1 := Lib.hid h1
                have H2 := Lib.hid h2
                clear h1 h2
                go_wp2_with fail
                refine hq.mono ?_
                rintro e wv ⟨⟨v3, v4, rfl, h3, h4⟩, bv⟩
                clear hq
                have hBv := hBu.trans (bv.mono hBu.size)
                have hq := ints25 _ _ wl wv (IntsAt_below H1.out bv) h3
                have H24 := Lib.hid (And.intro (IntsAt_below H2.out bv) h4)
                have q0 : (we != we) = false := bne_self_eq_false _
                clear h3 h4
                go_wp2_with fail
                refine hq.mono ?_
                rintro e wy ⟨rfl, by_⟩
                clear hq
                have hBy := hBv.trans (by_.mono hBv.size)
                have hq := ints25 _ _ ws wy (IntsAt_below H24.out.1 by_) (IntsAt_below H24.out.2 by_)
                go_wp2_with fail
                refine hq.mono ?_
                rintro e wx ⟨rfl, bx⟩
                clear hq
                have hBx := hBy.trans (bx.mono hBy.size)
                have ku := fun {c : Array Value} {t : TypeId} {b : Nat} (h : Blk wt b c t) => (((h.below bu h.lt).below bv (h.below bu h.lt).lt).below by_ ((h.below bu h.lt).below bv (h.below bu h.lt).lt).lt).below bx (((h.below bu h.lt).below bv (h.below bu h.lt).lt).below by_ ((h.below bu h.lt).below bv (h.below bu h.lt).lt).lt).lt
                have KI3 := Lib.hid (ku KI2.out)
                have KZ3 := Lib.hid (ku KZ2.out)
                clear ku
                go_wp2
                go_roundw
                case rel => exact ⟨m + 1, by omega, by go_num, KI3.out, KZ3.out, hBx⟩
                case measure => simp [intOf]; omega
              · obtain rfl : m = 2 := by omega
                have KZ2 := Lib.hid kz
                clear kz ki
                go_wp2
                go_roundw
                case rel => exact ⟨j + 1, by omega, by go_num, KZ2.out, hBt⟩
                case measure => simp [intOf]; omega
          · obtain rfl : j = 3 := by omega
            clear kq
            go_wp2
            go_ret
            exact ⟨rfl, b1r.trans (hBq.mono b1r.size)⟩
    · have e1 : decide ((i : Int) < 13) = false := decide_eq_false (by omega)
      have e1b : decide (i < 13) = false := decide_eq_false (by omega)
      obtain ⟨w9, hren⟩ : ∃ z, z = wr := ⟨_, rfl⟩
      subst hren
      have hmany : OptsAt w9 _ (qs.map (·.1)) := own_opts hrow hBr (fun p hp => HO7.out.slots p (HQM.out p hp))
      have hnl : (qs.map (·.1)).length = qs.length := List.length_map ..
      obtain ⟨na, nc, rfl, hnle, hncm⟩ := hmany.len
      rw [hnl] at hnle ⊢
      have hpml : (ps.map (·.1)).length = ps.length := List.length_map ..
      have HZ := Lib.hid (fun j => pick3_all (R := fun v os => OptsAt w9 v os) (HO7.out.later hBr).opts (OptsAt.later HM.out hBr) hmany j)
      have HSL3 := Lib.hid (pick3_all (R := fun (v : Value) (os : List OptD) => ∃ a c, v = .slice a os.length c) (a := .slice oa ps.length oc) (b := .slice ma ms.length mc) (c := .slice na qs.length nc) (x := ps.map (·.1)) (y := ms) (z := qs.map (·.1)) ⟨oa, oc, by rw [hpml]⟩ ⟨ma, mc, rfl⟩ ⟨na, nc, by rw [hnl]⟩)
      rw [hnl, hpml] at HZ
      have HPr := Lib.hid (PassesAt.later HP7.out hBr)
      have b1r := b17.trans (hBr.mono b17.size)
      clear hmany HO7 HM HP7 b17 hBr hrow HQM hqs
      clear hnl hpml
      generalize qs.map (·.1) = qz at HZ HSL3
      go_wp2
      have kZ := Blk.new w9 #[.slice oa ps.length oc, .slice ma ms.length mc, .slice na qs.length nc] 39
      have hbZ := (Below.refl w9.heap.size w9).alloc (Nat.le_refl _) (.cells #[.slice oa ps.length oc, .slice ma ms.length mc, .slice na qs.length nc] 39)
      generalize hZB : w9.heap.size = ZB at kZ ⊢
      generalize w9.alloc (.cells #[.slice oa ps.length oc, .slice ma ms.length mc, .slice na qs.length nc] 39) = WZ at kZ hbZ ⊢
      have KZ := Lib.hid kZ
      go_loopw [15, 17, 18, 19, 20, 21, 22, 23, 58] (fun _ _ _ _ _ _ _ _ u58 wq => ∃ j : Nat, j ≤ 3 ∧ u58 = .int .i64 (j : Int) ∧ Blk wq ZB #[.slice oa ps.length oc, .slice ma ms.length mc, .slice na qs.length nc] 39 ∧ Below w9.heap.size w9 wq) (fun _ _ _ _ _ _ _ _ u58 _ => (3 - intOf u58).toNat)
      case atStart => exact ⟨0, by omega, rfl, KZ.out, hbZ⟩
      case round =>
        obtain ⟨wq, hren⟩ : ∃ z, z = wr := ⟨_, rfl⟩
        subst hren
        obtain ⟨j, hj, rfl, kq, hBq⟩ := hrel
        by_cases hj3 : j < 3
        · have i1 : (0 : Int) ≤ (j : Int) ∧ (j : Int) < 3 := by omega
          have e3 : decide ((j : Int) < 3) = true := decide_eq_true (by omega)
          have c1 := cells3 kq hj3
          have hz := HZ.out j
          obtain ⟨a', c', e'⟩ := HSL3.out j
          have KQ := Lib.hid kq
          rw [e'] at c1 hz
          generalize pick3 (ps.map (·.1)) ms qz j = zs at c1 hz
          have HZS := Lib.hid hz
          clear kq hz e'
          go_wp2_with fail
          refine (HP13.out _).mono ?_
          rintro e wf ⟨rfl, rfl⟩
          go_wp2
          have kI := Blk.new wq #[.int .i64 kk, .int .i64 kp] 3
          have hbI := hBq.alloc hBq.size (.cells #[.int .i64 kk, .int .i64 kp] 3)
          have KQ2 := Lib.hid (KQ.out.alloc (.cells #[.int .i64 kk, .int .i64 kp] 3))
          generalize wq.alloc (.cells #[.int .i64 kk, .int .i64 kp] 3) = WI at kI hbI KQ2 ⊢
          generalize wq.heap.size = IB at kI ⊢
          have KI := Lib.hid kI
          clear kI c1
          go_loopw [17, 18, 19, 20, 21, 22, 23, 67] (fun _ _ _ _ _ _ _ u67 wt => ∃ m : Nat, m ≤ 2 ∧ u67 = .int .i64 (m : Int) ∧ Blk wt IB #[.int .i64 kk, .int .i64 kp] 3 ∧ Blk wt ZB #[.slice oa ps.length oc, .slice ma ms.length mc, .slice na qs.length nc] 39 ∧ Below w9.heap.size w9 wt) (fun _ _ _ _ _ _ _ u67 _ => (2 - intOf u67).toNat)
          case atStart => exact ⟨0, by omega, rfl, KI.out, KQ2.out, hbI⟩
          case round =>
            obtain ⟨wt, hren⟩ : ∃ z, z = wr := ⟨_, rfl⟩
            subst hren
            obtain ⟨m, hm, rfl, ki, kz, hBt⟩ := hrel
            by_cases hm2 : m < 2
            · have i2 : (0 : Int) ≤ (m : Int) ∧ (m : Int) < 2 := by omega
              have e4 : decide ((m : Int) < 2) = true := decide_eq_true (by omega)
              have c2 := cells2 ki hm2
              have KI2 := Lib.hid ki
              have KZ2 := Lib.hid kz
              generalize pick2 kk kp m = kv at c2
              have hq := worst31 _ _ zs l kv wt (OptsAt.later HZS.out hBt) (PassesAt.later HPr.out hBt) HCAN.out
              obtain ⟨we, hwe⟩ : ∃ z, worstE l zs kv = z := ⟨_, rfl⟩
              obtain ⟨wl, hwl⟩ : ∃ z, worstL l zs kv = z := ⟨_, rfl⟩
              obtain ⟨ws, hws⟩ : ∃ z, nI (worstS l zs kv) = z := ⟨_, rfl⟩
              rw [hwe, hwl, hws] at hq
              have HE := Lib.hid (And.intro hwe (And.intro hwl hws))
              clear ki kz hwe hwl hws
              go_wp2_with fail
              refine hq.mono ?_
              rintro e wu ⟨⟨v1, v2, rfl, h1, h2⟩, bu⟩
              clear hq c2
              have hBu := hBt.trans (bu.mono hBt.size)
              have hq := worst32 _ _ zs l kv wu (OptsAt.later HZS.out hBu) (PassesAt.later HPr.out hBu) HCAN.out
              rw [HE.out.1, HE.out.2.1, HE.out.2.2] at hq
              have H1 := Lib.hid h1
              have H2 := Lib.hid h2
              clear h1 h2
              go_wp2_with fail
              refine hq.mono ?_
              rintro e wv ⟨⟨v3, v4, rfl, h3, h4⟩, bv⟩
              clear hq
              have hBv := hBu.trans (bv.mono hBu.size)
              have hq := ints25 _ _ wl wv (IntsAt_below H1.out bv) h3
              have H24 := Lib.hid (And.intro (IntsAt_below H2.out bv) h4)
              have q0 : (we != we) = false := bne_self_eq_false _
              clear h3 h4
              go_wp2_with fail
              refine hq.mono ?_
              rintro e wy ⟨rfl, by_⟩
              clear hq
              have hBy := hBv.trans (by_.mono hBv.size)
              have hq := ints25 _ _ ws wy (IntsAt_below H24.out.1 by_) (IntsAt_below H24.out.2 by_)
              go_wp2_with fail
              refine hq.mono ?_
              rintro e wx ⟨rfl, bx⟩
              clear hq
              have hBx := hBy.trans (bx.mono hBy.size)
              have ku := fun {c : Array Value} {t : TypeId} {b : Nat} (h : Blk wt b c t) => (((h.below bu h.lt).below bv (h.below bu h.lt).lt).below by_ ((h.below bu h.lt).below bv (h.below bu h.lt).lt).lt).below bx (((h.below bu h.lt).below bv (h.below bu h.lt).lt).below by_ ((h.below bu h.lt).below bv (h.below bu h.lt).lt).lt).lt
              have KI3 := Lib.hid (ku KI2.out)
              have KZ3 := Lib.hid (ku KZ2.out)
              clear ku
              go_wp2
              go_roundw
              case rel => exact ⟨m + 1, by omega, by go_num, KI3.out, KZ3.out, hBx⟩
              case measure => simp [intOf]; omega
            · obtain rfl : m = 2 := by omega
              have KZ2 := Lib.hid kz
              clear kz ki
              go_wp2
              go_roundw
              case rel => exact ⟨j + 1, by omega, by go_num, KZ2.out, hBt⟩
              case measure => simp [intOf]; omega
        · obtain rfl : j = 3 := by omega
          clear kq
          go_wp2
          go_ret
          exact ⟨rfl, b1r.trans (hBq.mono b1r.size)⟩
end Go.Proofs.Ytmajkagmcdlncaa
