/- The reference's disk (nadirref33), in one text. -/
import Derived.Test.YtnckpnbecmmcpaaGreatDoorMK2
import Derived.StillTailTactics
import Derived.Lib.SmallJoins
section
/- nadirref33: a disk of the reference in memory; apply, has, New, Visible. -/
namespace Go.Proofs.YtnckpnbecmmcpaaGreatDoor
open Go.RowKit Go.Shelf Lib

/-- A disk of the reference at block R: its four cells, the durable content, the row of pending writes. -/
structure RefAt (W : World) (R : Nat) (vs vl : Value) (n : Nat) (D : DiskD) : Prop where
  box : Blk W R #[vs, vl, .bool D.off, .int .i64 D.left] 67
  sure : W.ownsRow 0 5 1 vs n (bcs D.dur)
  pen : W.ownsRow 0 100 2 vl D.pend.length (wcs D.pend)
def RFoot (R : Nat) (vs vl : Value) (k : Nat) : Prop := k = R ∨ vs.ownBlock = some k ∨ vl.ownBlock = some k
section
variable {W W' : World} {R : Nat} {vs vl : Value} {n : Nat} {D : DiskD}
theorem RefAt.lt (h : RefAt W R vs vl n D) : ∀ k, RFoot R vs vl k → k < W.heap.size := by
  rintro k (rfl | hk | hk)
  · exact h.box.lt
  · exact (h.sure.lt k hk).2
  · exact (h.pen.lt k hk).2
theorem RefAt.frm {F : Nat → Prop} (h : RefAt W R vs vl n D) (hf : Frm F W W') (hF : ∀ k, RFoot R vs vl k → ¬ F k) : RefAt W' R vs vl n D :=
  ⟨h.box.frm hf (hF _ (.inl rfl)), owned_kept h.sure (fun g hg => hf.block g (h.sure.lt g hg).2 (hF _ (.inr (.inl hg)))), owned_kept h.pen (fun g hg => hf.block g (h.pen.lt g hg).2 (hF _ (.inr (.inr hg))))⟩
theorem RefAt.below (h : RefAt W R vs vl n D) (hb : Below W.heap.size W W') : RefAt W' R vs vl n D :=
  h.frm (F := fun _ => False) (Frm.of_below hb) (fun _ _ h => h)
theorem RefAt.neS (h : RefAt W R vs vl n D) : ∀ g, vs.ownBlock = some g → g ≠ R := fun g hg => by
  obtain ⟨cur, hb, -⟩ := owned_block h.sure hg
  exact hb.ne h.box (by decide)
theorem RefAt.neL (h : RefAt W R vs vl n D) : ∀ g, vl.ownBlock = some g → g ≠ R := fun g hg => by
  obtain ⟨cur, hb, -⟩ := owned_block h.pen hg
  exact hb.ne h.box (by decide)
end
theorem owned_ne {W : World} {b1 b2 e1 e2 k1 k2 n1 n2 : Nat} {v1 v2 : Value} {x1 x2 : List Value} (h1 : W.ownsRow b1 e1 k1 v1 n1 x1) (h2 : W.ownsRow b2 e2 k2 v2 n2 x2) (he : e1 ≠ e2) : ∀ g, v1.ownBlock = some g → v2.ownBlock ≠ some g := fun g q1 q2 => by
  obtain ⟨c1, hb1, -⟩ := owned_block h1 q1
  obtain ⟨c2, hb2, -⟩ := owned_block h2 q2
  exact hb1.ne hb2 he rfl
theorem bcs_setL (b : List UInt8) (i : Nat) (x : UInt8) : (bcs b).set i (.int .u8 (x.toNat : Int)) = bcs (b.set i x) := by
  simp [bcs, List.map_set]
set_option maxRecDepth 100000 in
theorem apply_any {w : World} {base g c n : Nat} {b : List UInt8} (hg : w.ownsRow base 5 1 (.slice (some ⟨g, 0, none⟩) n c) n (bcs b)) (hb : b.length = n) (hn : n ≤ 4194304) (o : Nat) (s : ByteArray) (hfit : o + s.size ≤ n) :
    Calls Tryz.prog 53 #[.slice (some ⟨g, 0, none⟩) n c, .int .i64 (o : Nat), .string s] w fun e w' => e = .returned (.tuple #[]) ∧ w'.ownsRow base 5 1 (.slice (some ⟨g, 0, none⟩) n c) n (bcs (putB b o (bts s))) ∧ Frm (fun k => k = g) w w' := by
  have hsz : (bts s).length = s.size := rfl
  have HB := Lib.hid (fun k (hk : k < s.size) => putB_step b o k (bts s) hk (by rw [hb]; exact hfit))
  have HG := Lib.hid hg
  have hbl := Lib.hid (fun k (hk : k ≤ s.size) => show (putB b o ((bts s).take k)).length = n by rw [putB_len (by rw [List.length_take, hb, hsz]; omega), hb])
  clear hg hb hsz
  go_enter Tryz.func53, Tryz.ntmps53
  go_wp2
  go_loopw [6] (fun u6 wr => ∃ k : Nat, k ≤ s.size ∧ u6 = .int .i64 k ∧ wr.ownsRow base 5 1 (.slice (some ⟨g, 0, none⟩) n c) n (bcs (putB b o ((bts s).take k))) ∧ Frm (fun i => i = g) w wr) (fun u6 _ => (s.size - intOf u6).toNat)
  case atStart => exact ⟨0, by omega, rfl, by rw [List.take_zero, putB_zero]; exact HG.out, Frm.refl _ _⟩
  case round =>
    obtain ⟨k, hk, rfl, hgk, hfk⟩ := hrel
    by_cases hkl : k < s.size
    · have hx : Hid ((bts s).getD k 0 = s[k]) := by show _ = _; rw [List.getD_eq_getElem?_getD, List.getElem?_eq_getElem (show k < (bts s).length from hkl)]; rfl
      have hstep := HB.out k hkl
      have hcell : ∃ y, wr.cell? ⟨g, o + k, none⟩ = some y := by
        have hl := hbl.out k (by omega)
        refine ⟨_, (hgk.cellAt (o + k) (by omega)).trans (List.getElem?_eq_getElem ?_)⟩
        rw [bcs_len]; omega
      obtain ⟨y, hcell⟩ := hcell
      have hfz := hgk.frozenAt (o + k)
      have hki : (0 : Int) ≤ (k : Int) ∧ (k : Int) < (s.size : Int) := by omega
      have hoi : (0 : Int) ≤ (o : Int) + (k : Int) ∧ (o : Int) + (k : Int) < (n : Int) := by omega
      have hw : IntKind.i64.wrap ((o : Int) + (k : Int)) = (o : Int) + (k : Int) := wrapS _ (by omega) (by omega)
      have hnat : ((o : Int) + (k : Int)).toNat = o + k := by omega
      have hgs := (hgk.stored (o + k) (.int .u8 (s[k].toNat : Int))).1
      rw [bcs_setL, ← hx.out, hstep] at hgs
      have HGS := Lib.hid hgs
      clear hgs hgk hstep
      go_wp2
      go_roundw
      case rel => exact ⟨k + 1, by omega, by go_num, by have := HGS.out; rw [hx.out] at this; exact this, hfk.setCell (fun _ => rfl) _⟩
      case measure => simp [intOf]; omega
    · obtain rfl : k = s.size := by omega
      go_wp2
      go_end0
      exact ⟨rfl, by rw [List.take_of_length_le (show (bts s).length ≤ s.size from Nat.le_refl _)] at hgk; exact hgk, hfk⟩
theorem retBo {a b : Bool} (h : a = b) : Ending.returned (.bool a) = .returned (.bool b) := by rw [h]
set_option maxRecDepth 100000 in
theorem has_any {w : World} (vk : Value) (kl : List Int) (hk : IntsAt w vk kl) (x : Int) : Calls Tryz.prog 93 #[vk, .int .i64 x] w fun e w' => e = .returned (.bool (decide (x ∈ kl))) ∧ w = w' := by
  obtain ⟨ka, kc, rfl, h1, h2⟩ := hk.len
  unfold maxLen at h2
  have HK := Lib.hid hk
  have HX : Hid (∀ i, i < kl.length → (∀ j, j < i → kl[j]? ≠ some x) → kl[i]? = some x → decide (x ∈ kl) = true) := fun i hi _ he => decide_eq_true (List.mem_of_getElem? he)
  clear hk
  go_enter Tryz.func93, Tryz.ntmps93
  go_wp2
  go_loopw [5] (fun u5 wr => ∃ k : Nat, k ≤ kl.length ∧ u5 = .int .i64 k ∧ Hid (∀ j, j < k → kl[j]? ≠ some x) ∧ wr = w) (fun u5 _ => (kl.length - intOf u5).toNat)
  case atStart => exact ⟨0, by omega, rfl, fun j hj => absurd hj (by omega), rfl⟩
  case round =>
    obtain ⟨k, hk, rfl, hno, rfl⟩ := hrel
    by_cases hkl : k < kl.length
    · have hx := List.getElem?_eq_getElem hkl
      generalize kl[k] = y at hx
      obtain ⟨kb, ko, rfl, kcell⟩ := HK.out.get hx
      have hki : (0 : Int) ≤ (k : Int) ∧ (k : Int) < (kl.length : Int) := by omega
      by_cases hy : y = x
      · subst hy
        have hm : Hid (decide (y ∈ kl) = true) := HX.out k hkl hno.out hx
        clear hx
        go_wp2
        go_ret
        exact ⟨retBo hm.out.symm, rfl⟩
      · have dy : (y == x) = false := beq_eq_false_iff_ne.2 hy
        have hno2 : Hid (∀ j, j < k + 1 → kl[j]? ≠ some x) := fun j hj e => by
          by_cases hjk : j = k
          · subst hjk; rw [hx] at e; exact hy (Option.some.inj e)
          · exact hno.out j (by omega) e
        clear hx hno
        go_wp2
        go_roundw
        case rel => exact ⟨k + 1, by omega, by go_num, hno2, trivial⟩
        case measure => simp [intOf]; omega
    · obtain rfl : k = kl.length := by omega
      have hm : Hid (decide (x ∈ kl) = false) := decide_eq_false fun hmem => by
        obtain ⟨j, hj, e⟩ := List.getElem_of_mem hmem
        exact hno.out j hj (by rw [List.getElem?_eq_getElem hj, e])
      go_wp2
      go_ret
      exact ⟨retBo hm.out.symm, rfl⟩
set_option maxRecDepth 100000 in
theorem new_ref (n : Nat) (w : World) (h1 : 1 ≤ n) (h2 : n ≤ 4194304) : Calls Tryz.prog 33 #[.int .i64 (n : Nat)] w fun e w' => ∃ R vs, e = .returned (.tuple #[.pointer (some ⟨R, 0, none⟩), .int .i64 0]) ∧
    RefAt w' R vs (.slice none 0 0) n (newD n) ∧ w.heap.size ≤ R ∧ (∀ g, vs.ownBlock = some g → w.heap.size ≤ g) ∧ Below w.heap.size w w' := by
  have d1 : decide ((n : Int) < 1) = false := decide_eq_false (by omega)
  have d2 : decide ((4194304 : Int) < (n : Int)) = false := decide_eq_false (by omega)
  have hmk := mk40 n h2
  have H := Lib.hid (And.intro h1 h2)
  clear h1 h2
  go_enter Tryz.func33, Tryz.ntmps33
  go_wp2
  go_ret2
  have hA : Below w.heap.size w (w.alloc (.cells (bcs (List.replicate n 0)).toArray 5)) := (Below.refl _ _).alloc (Nat.le_refl _) _
  have ka := (World.ownsRow_lit (base := 0) (e := 5) (size := 1) w (bcs (List.replicate n 0)).toArray n (Nat.zero_le _) (by have := H.out.2; unfold maxLen; omega) (by simp [bcs_len]))
  exact ⟨_, _, rfl, ⟨Blk.newAt _ _ _ (by simp), ka.alloc _, World.ownsRow_nil _ _ _ _⟩, by omega, fun g hg => by cases hg; exact Nat.le_refl _, hA.alloc (by simp) _⟩
end Go.Proofs.YtnckpnbecmmcpaaGreatDoor
end
section
/- nadirref33: Visible. -/
namespace Go.Proofs.YtnckpnbecmmcpaaGreatDoor
open Go.RowKit Go.Shelf Lib

theorem own5_empty {W : World} {B base : Nat} (hb : Blk W B #[] 5) (h : base ≤ B) : W.ownsRow base 5 1 (.slice (some ⟨B, 0, none⟩) 0 0) 0 [] :=
  ⟨rfl, .inr ⟨B, 0, #[], rfl, h, hb, Nat.le_refl _, by decide, rfl, rfl⟩⟩
/-- 'append([]byte{}, b...)': a copy. -/
theorem wpList_bytes {ops : Array Oper} {rest : List Oper} {o : Oper} {a : Act} {Q : Exit → Act → World → Prop} {w : World} (hgd : o.guard = none) (s x : Operand)
    (ho : o.op = .call { callee := .builtin .append, args := #[s, x], argTypes := #[39, 39] })
    (hs : a.eval s = .slice (some ⟨w.heap.size, 0, none⟩) 0 0) {base g n c : Nat} {b : List UInt8} (hown : w.ownsRow base 5 1 (.slice (some ⟨g, 0, none⟩) n c) n (bcs b)) (hx : a.eval x = .slice (some ⟨g, 0, none⟩) n c) (hn0 : 0 < n) (hn : n ≤ 4194304)
    (h : ∀ g' c' w', w'.ownsRow w.heap.size 5 1 (.slice (some ⟨g', 0, none⟩) n c') n (bcs b) → Below w.heap.size w w' → wpList Tryz.prog ops Q rest (a.put o.dst (.slice (some ⟨g', 0, none⟩) n c')) w') :
    wpList Tryz.prog ops Q (o :: rest) a (w.alloc (.cells #[] 5)) := by
  obtain ⟨i, hi, hz0, hz1, hz2⟩ := info_parts E40.info
  have hA : Below w.heap.size w (w.alloc (.cells #[] 5)) := (Below.refl _ _).alloc (Nat.le_refl _) _
  have hf := own5_empty (Blk.new w #[] 5) (Nat.le_refl _)
  have hl := hown.1
  refine wpList_append_own _ hgd s x 39 ho w.heap.size 5 i _ 1 1 E40.und hi hz0 hz1 hz2 E40.zs E40.pos _ 0 [] hs hf ⟨g, 0, none⟩ n c (bcs b) hx (by omega) ?_ (bcs_one b) (by unfold maxLen; omega) (by omega) (by simp) ?_
  · intro j u hj
    have := hown.cells rfl j u hj
    rw [World.cell?_alloc_some _ _ _ (by rw [this]; rfl)]
    exact this
  · intro v' w' h3 h4 _
    rw [Nat.zero_add, List.nil_append] at h3
    obtain ⟨g', c', rfl⟩ := Go.Joins.ownsRow_form h3 hn0
    exact h g' c' w' h3 (hA.grown h4 (by simp) (fun k hk => by cases hk; exact Nat.le_refl _))
theorem foldl_step {l : List WrD} {k : Nat} {x : WrD} {b : List UInt8} (h : l[k]? = some x) : (l.take (k + 1)).foldl ontoW b = putB ((l.take k).foldl ontoW b) x.off (bts x.s) := by
  rw [List.take_add_one, h, List.foldl_append]
  rfl
theorem take_len {n : Nat} {D : DiskD} (h : Inv n D) (k : Nat) : ((D.pend.take k).foldl ontoW D.dur).length = n := foldl_len _ _ h.dur (fun w hw => h.fit w (List.mem_of_mem_take hw))
set_option maxRecDepth 100000 in
set_option maxHeartbeats 2000000 in
theorem visible_any {w : World} {R : Nat} {vs vl : Value} {n : Nat} {D : DiskD} (h : RefAt w R vs vl n D) (hI : Inv n D) (hp : D.pend.length ≤ 1000000) :
    Calls Tryz.prog 23 #[.pointer (some ⟨R, 0, none⟩)] w fun e w' => ∃ g c, e = .returned (.slice (some ⟨g, 0, none⟩) n c) ∧ w'.ownsRow w.heap.size 5 1 (.slice (some ⟨g, 0, none⟩) n c) n (bcs D.vis) ∧ Below w.heap.size w w' := by
  obtain ⟨sg, sc, rfl⟩ := Go.Joins.ownsRow_form h.sure hI.pos
  obtain ⟨pa, pc, rfl, hp1, hp2⟩ := owned_len h.pen
  have hn0 := hI.pos
  have hn := hI.most
  have hsu := h.sure
  have i0 := h.box.cell 0
  simp only [List.getElem?_toArray, List.getElem?_cons_zero] at i0
  have HI := Lib.hid hI
  have H := Lib.hid h
  have hlt := h.box.lt
  have i0a : (w.alloc (.cells #[] 5)).cell? ⟨R, 0, none⟩ = some (.slice (some ⟨sg, 0, none⟩) n sc) := by
    have := (h.box.alloc (.cells #[] 5)).cell 0
    simpa using this
  clear h hI
  go_enter Tryz.func23, Tryz.ntmps23
  go_wp2_with (at_builtin; refine wpList_bytes rfl _ _ rfl rfl hsu rfl (by omega) hn ?_; intro g c w1 hown hB1)
  clear i0 i0a hsu
  go_loopw [4] (fun u4 wr => ∃ k : Nat, k ≤ D.pend.length ∧ u4 = .int .i64 k ∧ wr.ownsRow w.heap.size 5 1 (.slice (some ⟨g, 0, none⟩) n c) n (bcs ((D.pend.take k).foldl ontoW D.dur)) ∧ Below w.heap.size w wr) (fun u4 _ => (D.pend.length - intOf u4).toNat)
  case atStart => exact ⟨0, by omega, rfl, by rw [List.take_zero]; exact hown, hB1⟩
  case round =>
    obtain ⟨k, hk, rfl, hgk, hBr⟩ := hrel
    rename World => wr
    have i1 := (H.out.box.below hBr hlt).cell 1
    simp only [List.getElem?_toArray, List.getElem?_cons_succ, List.getElem?_cons_zero] at i1
    by_cases hkl : k < D.pend.length
    · have hx := List.getElem?_eq_getElem hkl
      generalize D.pend[k] = x at hx
      obtain ⟨q, qc, hq⟩ := Go.Joins.ownsRow_form (H.out.pen) (by omega)
      cases hq
      have hpr := owned_kept H.out.pen (fun i hi => hBr.block i (H.out.pen.lt i hi).2)
      obtain ⟨x1, x2⟩ := wcs_get hx
      have c1 := (hpr.cellAt (k * 2) (by omega)).trans x1
      have c2 := (hpr.cellAt (k * 2 + 1) (by omega)).trans x2
      have hki : (0 : Int) ≤ (k : Int) ∧ (k : Int) < (D.pend.length : Int) := by omega
      have hfit := HI.out.fit x (List.mem_of_getElem? hx)
      have hap := apply_any (w := wr.drew) (base := w.heap.size) hgk (take_len HI.out k) hn x.off x.s hfit
      rw [← foldl_step hx] at hap
      have HB := Lib.hid hBr
      obtain ⟨xo, xs⟩ := x
      simp only at c1 c2 hap
      have hgl := hgk.lt g rfl
      clear hx hpr x1 x2 hfit hgk
      go_wp2_with fail
      go_still_tail 17, (by kernel_rfl)
      change wpList _ _ _ _ _ wr.drew
      go_wp2_with fail
      refine hap.mono ?_
      rintro e w2 ⟨rfl, hg2, hf2⟩
      have hB2 := Lib.hid (HB.out.trans (((Below.refl _ wr).drew).trans (hf2.below (B := w.heap.size) (by have := HB.out.size; exact this) (fun i e => by subst e; exact hgl.1))) )
      clear hap i1 c1 c2
      go_wp2
      go_roundw
      case rel => exact ⟨k + 1, by omega, by go_num, hg2, hB2.out⟩
      case measure => simp [intOf]; omega
    · obtain rfl : k = D.pend.length := by omega
      have e : Hid ((D.pend.take D.pend.length).foldl ontoW D.dur = D.vis) := by show _ = _; rw [List.take_length, HI.out.vis]
      go_wp2
      go_ret
      exact ⟨g, c, rfl, by rw [← e.out]; exact hgk, hBr⟩
end Go.Proofs.YtnckpnbecmmcpaaGreatDoor
end
section
/- nadirref33: Read, Sync, Cut. -/
namespace Go.Proofs.YtnckpnbecmmcpaaGreatDoor
open Go.RowKit Go.Shelf Lib

/-- A disk of the reference as a whole; its blocks lie in F. -/
def RefF (W : World) (R n : Nat) (D : DiskD) (F : Nat → Prop) : Prop := ∃ vs vl, RefAt W R vs vl n D ∧ Inv n D ∧ ∀ k, RFoot R vs vl k → F k
section
variable {W W' : World} {R n : Nat} {D : DiskD} {F G : Nat → Prop}
theorem RefF.inv (h : RefF W R n D F) : Inv n D := by obtain ⟨_, _, _, h, _⟩ := h; exact h
theorem RefF.mono (h : RefF W R n D F) (hFG : ∀ k, k < W.heap.size → F k → G k) : RefF W R n D G := by
  obtain ⟨a, b, h1, h2, h3⟩ := h; exact ⟨a, b, h1, h2, fun k hk => hFG k (h1.lt k hk) (h3 k hk)⟩
theorem RefF.frm (h : RefF W R n D F) (hf : Frm G W W') (hFG : ∀ k, k < W.heap.size → F k → ¬ G k) : RefF W' R n D F := by
  obtain ⟨a, b, h1, h2, h3⟩ := h; exact ⟨a, b, h1.frm hf (fun k hk => hFG k (h1.lt k hk) (h3 k hk)), h2, h3⟩
theorem RefF.below (h : RefF W R n D F) (hb : Below W.heap.size W W') : RefF W' R n D F := h.frm (G := fun _ => False) (Frm.of_below hb) (fun _ _ _ h => h)
end
/-- Bytes of an own row, as a string. -/
theorem conv_row {w : World} {base g n cap o k c : Nat} {b : List UInt8} (hg : w.ownsRow base 5 1 (.slice (some ⟨g, 0, none⟩) n cap) n (bcs b)) (h : o + k ≤ n) (a : Addr) (ha : 0 < k → a = ⟨g, o, none⟩) (hz : ∃ b' o', a = ⟨b', o', none⟩) :
    (convert 39 9 (.slice (some a) k c)).run Tryz.prog w = .ok (.string (subS b o k)) w := by
  obtain ⟨b', o', rfl⟩ := hz
  have hbl : b.length = n := by have := hg.1; rw [bcs_len] at this; omega
  have key : strOfNums (((b.drop o).take k).map fun x => (x.toNat : Int)) = subS b o k := by
    unfold strOfNums subS
    congr 1
    have hf : ((fun n : Int => UInt8.ofNat n.toNat) ∘ fun x : UInt8 => (x.toNat : Int)) = id := by funext x; simp
    rw [List.map_map, hf, List.map_id]
  rw [← key]
  refine run_convert_bytes_arg (P := Tryz.prog) w 39 5 Tryz.underlying39 Tryz.underlying5 b' o' k c _ (by simp; omega) (fun i hi => ?_) 9 Tryz.underlying9
  cases ha (by omega)
  refine (hg.cellAt _ (by omega)).trans ?_
  have hl : o + i < b.length := by omega
  have h1 : (bcs b)[o + i]? = some (.int .u8 ((b[o + i]'hl).toNat : Int)) := by simp [bcs, hl]
  rw [h1]
  congr 2
  rw [List.getD_eq_getElem?_getD, List.getElem?_map, List.getElem?_take, if_pos hi, List.getElem?_drop, List.getElem?_eq_getElem hl]
  rfl
set_option maxRecDepth 100000 in
set_option maxHeartbeats 2000000 in
theorem read_ref {W : World} {R n : Nat} {D : DiskD} {F : Nat → Prop} (h : RefF W R n D F) (hp : D.pend.length ≤ 1000000) (off k : Int) :
    Calls Tryz.prog 74 #[.pointer (some ⟨R, 0, none⟩), .int .i64 off, .int .i64 k] W fun e w' => e = .returned (.tuple #[.string (readS D off k), .int .i64 (readE D off k)]) ∧ Below W.heap.size W w' := by
  obtain ⟨vs, vl, hA, hI, -⟩ := h
  have hd := hI.dur
  have hn := hI.most
  have hvi := Lib.hid (visible_any hA hI hp)
  obtain ⟨sg, sc, rfl⟩ := Go.Joins.ownsRow_form hA.sure hI.pos
  have i0 := hA.box.cell 0
  have i2 := hA.box.cell 2
  simp only [List.getElem?_toArray, List.getElem?_cons_succ, List.getElem?_cons_zero] at i0 i2
  have HC : Hid (readE D off k = if D.off then 331 else if insideB n off k then 0 else 330) := by unfold readE; rw [hd]; rfl
  have HS : Hid (readS D off k = if readE D off k = 0 then subS D.vis off.toNat k.toNat else ⟨#[]⟩) := rfl
  clear hA hI hd
  cases hD : D.off with
  | true =>
    rw [hD] at i2
    have e1 : Hid (readE D off k = 331) := by rw [HC.out, hD]; rfl
    have e2 : Hid (readS D off k = ⟨#[]⟩) := by rw [HS.out, e1.out]; rfl
    clear hD hvi HC HS
    go_enter Tryz.func74, Tryz.ntmps74
    go_wp2
    go_ret2
    exact ⟨retS e2.out e1.out, Below.refl _ _⟩
  | false =>
    rw [hD] at i2
    have hbad : insideB n off k = false → Hid (readE D off k = 330 ∧ readS D off k = ⟨#[]⟩) := fun hq => by
      have e1 : readE D off k = 330 := by rw [HC.out, hD, hq]; rfl
      exact ⟨e1, by rw [HS.out, e1]; rfl⟩
    have hgood : insideB n off k = true → Hid (readE D off k = 0 ∧ readS D off k = subS D.vis off.toNat k.toNat) := fun hq => by
      have e1 : readE D off k = 0 := by rw [HC.out, hD, hq]; rfl
      exact ⟨e1, by rw [HS.out, e1]; rfl⟩
    have hno : ¬ (0 ≤ off ∧ 0 ≤ k ∧ off ≤ n ∧ k ≤ n - off) → insideB n off k = false := fun hq => by
      cases hb : insideB n off k with
      | false => rfl
      | true => exact absurd (inside_iff.1 hb) hq
    clear hD HC HS
    by_cases h1 : off < 0
    · have d1 : decide (off < 0) = true := decide_eq_true h1
      have HB := hbad (hno (by omega))
      clear hvi hbad hgood hno h1
      go_enter Tryz.func74, Tryz.ntmps74
      go_wp2
      go_ret2
      exact ⟨retS HB.out.2 HB.out.1, Below.refl _ _⟩
    · have d1 : decide (off < 0) = false := decide_eq_false h1
      by_cases h2 : k < 0
      · have d2 : decide (k < 0) = true := decide_eq_true h2
        have HB := hbad (hno (by omega))
        clear hvi hbad hgood hno h1 h2
        go_enter Tryz.func74, Tryz.ntmps74
        go_wp2
        go_ret2
        exact ⟨retS HB.out.2 HB.out.1, Below.refl _ _⟩
      · have d2 : decide (k < 0) = false := decide_eq_false h2
        by_cases h3 : (n : Int) < off
        · have d3 : decide ((n : Int) < off) = true := decide_eq_true h3
          have HB := hbad (hno (by omega))
          clear hvi hbad hgood hno h1 h2 h3
          go_enter Tryz.func74, Tryz.ntmps74
          go_wp2
          go_ret2
          exact ⟨retS HB.out.2 HB.out.1, Below.refl _ _⟩
        · have d3 : decide ((n : Int) < off) = false := decide_eq_false h3
          have hw : IntKind.i64.wrap ((n : Int) - off) = (n : Int) - off := wrapS _ (by omega) (by omega)
          by_cases h4 : (n : Int) - off < k
          · have d4 : decide ((n : Int) - off < k) = true := decide_eq_true h4
            have HB := hbad (hno (by omega))
            clear hvi hbad hgood hno h1 h2 h3 h4
            go_enter Tryz.func74, Tryz.ntmps74
            go_wp2
            go_ret2
            exact ⟨retS HB.out.2 HB.out.1, Below.refl _ _⟩
          · have d4 : decide ((n : Int) - off < k) = false := decide_eq_false h4
            have HB := hgood (inside_iff.2 (by omega))
            obtain ⟨o, rfl⟩ := Int.eq_ofNat_of_zero_le (show 0 ≤ off by omega)
            obtain ⟨l, rfl⟩ := Int.eq_ofNat_of_zero_le (show 0 ≤ k by omega)
            have hw2 : IntKind.i64.wrap ((o : Int) + (l : Int)) = ((o + l : Nat) : Int) := by rw [wrapS _ (by omega) (by omega)]; omega
            have ho1 : o ≤ n := by omega
            have ho2 : o + l ≤ n := by omega
            rw [Int.toNat_natCast, Int.toNat_natCast] at HB
            clear hbad hgood hno h1 h2 h3 h4
            go_enter Tryz.func74, Tryz.ntmps74
            go_wp2_with fail
            refine hvi.out.mono ?_
            rintro e w1 ⟨g, c, rfl, hown, hB1⟩
            have hcap : n ≤ c := by rcases hown.2 with ⟨q, -⟩ | ⟨g', c', cur, q, -, -, q2, -⟩; cases q; cases q; exact q2
            have hoi : (0 : Int) ≤ (o : Int) ∧ (o : Int) ≤ (c : Int) := by omega
            have hoi2 : (o : Int) ≤ ((o + l : Nat) : Int) ∧ ((o + l : Nat) : Int) ≤ (c : Int) := by omega
            have hsub : o + l - o = l := by omega
            have hconv := conv_row (c := c - o) hown (o := o) (k := l) ho2
            have hA1 : c = o → (convert 39 9 (.slice (some ⟨g, 0, none⟩) l (c - o))).run Tryz.prog w1 = .ok (.string (subS D.vis o l)) w1 := fun e => hconv ⟨g, 0, none⟩ (fun h => absurd h (by omega)) ⟨_, _, rfl⟩
            have hA2 : (convert 39 9 (.slice (some ⟨g, o, none⟩) l (c - o))).run Tryz.prog w1 = .ok (.string (subS D.vis o l)) w1 := hconv ⟨g, o, none⟩ (fun _ => rfl) ⟨_, _, rfl⟩
            have hA : (convert 39 9 (.slice (if c = o then some ⟨g, 0, none⟩ else some ⟨g, o, none⟩) l (c - o))).run Tryz.prog w1 = .ok (.string (subS D.vis o l)) w1 := by
              by_cases e : c = o
              · rw [if_pos e]; exact hA1 e
              · rw [if_neg e]; exact hA2
            have HBW := Lib.hid hB1
            clear hA1 hconv hvi hown hB1
            go_wp2
            all_goals (
              go_ret2
              exact ⟨retS HB.out.2 HB.out.1, HBW.out⟩)
set_option maxRecDepth 100000 in
theorem cut_ref {W : World} {R n : Nat} {D : DiskD} {F : Nat → Prop} (h : RefF W R n D F) (k : Int) (hk : k ≤ 9223372036854775807) :
    Calls Tryz.prog 66 #[.pointer (some ⟨R, 0, none⟩), .int .i64 k] W fun e w' => e = .returned (.int .i64 (cutE D k)) ∧ RefF w' R n (cutD D k) F ∧ Frm F W w' := by
  obtain ⟨vs, vl, hA, hI, hF⟩ := h
  have i2 := hA.box.cell 2
  have f2 := hA.box.frozen 2
  have i3 := hA.box.cell 3
  have f3 := hA.box.frozen 3
  simp only [List.getElem?_toArray, List.getElem?_cons_succ, List.getElem?_cons_zero] at i2 i3
  have HC : Hid (cutE D k = if D.off then 331 else if k < 0 then 2 else 0) := rfl
  have HD : Hid (cutD D k = if cutE D k = 0 then { D with off := decide (k = 0), left := k } else D) := rfl
  have H := Lib.hid (And.intro hA (And.intro hI hF))
  have hn1 := hA.neS
  have hn2 := hA.neL
  clear hA hI hF
  cases hD : D.off with
  | true =>
    rw [hD] at i2
    have e1 : Hid (cutE D k = 331) := by rw [HC.out, hD]; rfl
    have e2 : Hid (cutD D k = D) := by rw [HD.out, e1.out]; rfl
    clear hD
    go_enter Tryz.func66, Tryz.ntmps66
    go_wp2
    go_ret
    exact ⟨retI e1.out.symm, by rw [e2.out]; exact ⟨vs, vl, H.out.1, H.out.2.1, H.out.2.2⟩, Frm.refl _ _⟩
  | false =>
    rw [hD] at i2
    by_cases hk0 : k < 0
    · have e1 : Hid (cutE D k = 2) := by rw [HC.out, hD, if_pos hk0]; rfl
      have e2 : Hid (cutD D k = D) := by rw [HD.out, e1.out]; rfl
      have d1 : decide (k < 0) = true := decide_eq_true hk0
      clear hD
      go_enter Tryz.func66, Tryz.ntmps66
      go_wp2
      go_ret
      exact ⟨retI e1.out.symm, by rw [e2.out]; exact ⟨vs, vl, H.out.1, H.out.2.1, H.out.2.2⟩, Frm.refl _ _⟩
    · have e1 : Hid (cutE D k = 0) := by rw [HC.out, hD, if_neg hk0]; rfl
      have e2 : Hid (cutD D k = { D with off := decide (k = 0), left := k }) := by rw [HD.out, e1.out]; rfl
      have d1 : decide (k < 0) = false := decide_eq_false hk0
      have fin : ∀ b : Bool, decide (k = 0) = b → Hid (RefF ((W.setCell ⟨R, 3, none⟩ (.int .i64 k)).setCell ⟨R, 2, none⟩ (.bool b)) R n (cutD D k) F ∧ Frm F W ((W.setCell ⟨R, 3, none⟩ (.int .i64 k)).setCell ⟨R, 2, none⟩ (.bool b))) := by
        intro b hb
        have hR : F R := H.out.2.2 R (.inl rfl)
        have hfr : Frm (fun i => i = R) W ((W.setCell ⟨R, 3, none⟩ (.int .i64 k)).setCell ⟨R, 2, none⟩ (.bool b)) := ((Frm.refl (fun i => i = R) W).setCell (fun _ => rfl) _).setCell (fun _ => rfl) _
        refine ⟨⟨vs, vl, ⟨?_, ?_, ?_⟩, H.out.2.1.cut k hk, H.out.2.2⟩, hfr.mono (fun i _ e => e ▸ hR)⟩
        · rw [e2.out, hb]
          exact (H.out.1.box.set 3 (.int .i64 k)).set 2 (.bool b)
        · rw [e2.out]
          exact owned_kept H.out.1.sure (fun g hg => hfr.block g (H.out.1.sure.lt g hg).2 (fun e => hn1 g hg e))
        · rw [e2.out]
          exact owned_kept H.out.1.pen (fun g hg => hfr.block g (H.out.1.pen.lt g hg).2 (fun e => hn2 g hg e))
      have FIN := Lib.hid fin
      clear hD fin
      by_cases hz : k = 0
      · have q0 : (k == 0) = true := by rw [hz]; rfl
        have f := FIN.out true (decide_eq_true hz)
        clear FIN hz hk0
        go_enter Tryz.func66, Tryz.ntmps66
        go_wp2
        go_ret
        exact ⟨retI e1.out.symm, f.out.1, f.out.2⟩
      · have q0 : (k == 0) = false := beq_eq_false_iff_ne.2 hz
        have f := FIN.out false (decide_eq_false hz)
        clear FIN hz hk0
        go_enter Tryz.func66, Tryz.ntmps66
        go_wp2
        go_ret
        exact ⟨retI e1.out.symm, f.out.1, f.out.2⟩
set_option maxRecDepth 100000 in
theorem sync_ref {W : World} {R n : Nat} {D : DiskD} {F : Nat → Prop} (h : RefF W R n D F) (hF : ∀ k, W.heap.size ≤ k → F k) (hp : D.pend.length ≤ 1000000) :
    Calls Tryz.prog 45 #[.pointer (some ⟨R, 0, none⟩)] W fun e w' => e = .returned (.int .i64 (syncE D)) ∧ RefF w' R n (syncD D) F ∧ Frm F W w' := by
  obtain ⟨vs, vl, hA, hI, hFt⟩ := h
  have i2 := hA.box.cell 2
  simp only [List.getElem?_toArray, List.getElem?_cons_succ, List.getElem?_cons_zero] at i2
  have HE : Hid (syncE D = if D.off then 331 else 0) := rfl
  have HD : Hid (syncD D = if D.off then D else { D with dur := D.vis, pend := [] }) := rfl
  have hvi := Lib.hid (visible_any hA hI hp)
  have H := Lib.hid (And.intro hA (And.intro hI hFt))
  have hlt := hA.box.lt
  clear hA hI hFt
  cases hD : D.off with
  | true =>
    rw [hD] at i2
    have e1 : Hid (syncE D = 331) := by rw [HE.out, hD]; rfl
    have e2 : Hid (syncD D = D) := by rw [HD.out, hD]; rfl
    clear hD hvi
    go_enter Tryz.func45, Tryz.ntmps45
    go_wp2
    go_ret
    exact ⟨retI e1.out.symm, by rw [e2.out]; exact ⟨vs, vl, H.out.1, H.out.2.1, H.out.2.2⟩, Frm.refl _ _⟩
  | false =>
    rw [hD] at i2
    have e1 : Hid (syncE D = 0) := by rw [HE.out, hD]; rfl
    have e2 : Hid (syncD D = { D with dur := D.vis, pend := [] }) := by rw [HD.out, hD]; rfl
    have HIS := Lib.hid H.out.2.1.sync
    clear hD
    go_enter Tryz.func45, Tryz.ntmps45
    go_wp2_with fail
    refine hvi.out.mono ?_
    rintro e w1 ⟨g, c, rfl, hown, hB1⟩
    have hb1 := H.out.1.box.below hB1 hlt
    have j0 := hb1.cell 0
    have g0 := hb1.frozen 0
    have j1 := hb1.cell 1
    have g1 := hb1.frozen 1
    simp only [List.getElem?_toArray, List.getElem?_cons_succ, List.getElem?_cons_zero] at j0 j1
    have hgl := hown.lt g rfl
    have hfr : Frm (fun i => i = R) w1 ((w1.setCell ⟨R, 0, none⟩ (.slice (some ⟨g, 0, none⟩) n c)).setCell ⟨R, 1, none⟩ (.slice none 0 0)) := ((Frm.refl (fun i => i = R) w1).setCell (fun _ => rfl) _).setCell (fun _ => rfl) _
    have hR : F R := H.out.2.2 R (.inl rfl)
    have fin : RefF ((w1.setCell ⟨R, 0, none⟩ (.slice (some ⟨g, 0, none⟩) n c)).setCell ⟨R, 1, none⟩ (.slice none 0 0)) R n (syncD D) F ∧ Frm F W ((w1.setCell ⟨R, 0, none⟩ (.slice (some ⟨g, 0, none⟩) n c)).setCell ⟨R, 1, none⟩ (.slice none 0 0)) := by
      refine ⟨⟨.slice (some ⟨g, 0, none⟩) n c, .slice none 0 0, ⟨?_, ?_, ?_⟩, HIS.out, ?_⟩, (Frm.of_below hB1).trans hfr (fun i _ e => e ▸ hR)⟩
      · rw [e2.out]
        exact (hb1.set 0 _).set 1 _
      · rw [e2.out]
        exact ownsRow_base (owned_kept hown (fun i hi => hfr.block i (hown.lt i hi).2 (fun e => by have := (hown.lt i hi).1; omega))) (Nat.zero_le _)
      · rw [e2.out]
        exact World.ownsRow_nil _ _ _ _
      · rintro i (rfl | hi | hi)
        · exact hR
        · cases hi; exact hF _ hgl.1
        · cases hi
    have FIN := Lib.hid fin
    clear fin hfr hb1 hown hvi
    go_wp2
    go_ret
    exact ⟨retI e1.out.symm, FIN.out.1, FIN.out.2⟩
end Go.Proofs.YtnckpnbecmmcpaaGreatDoor
end
section
/- nadirref33: Write. -/
namespace Go.Proofs.YtnckpnbecmmcpaaGreatDoor
open Go.RowKit Go.Shelf Lib

theorem E41 : ElemOK Tryz.prog 65 100 (.agg #[.int .i64 0, .string ⟨#[]⟩]) 2 24 := ⟨Tryz.underlying65, by kernel_rfl, rfl, by decide⟩
/-- One element of several cells is appended to an own row; and where the row then lies. -/
theorem wpList_pushW {ops : Array Oper} {rest : List Oper} {o : Oper} {a : Act} {Q : Exit → Act → World → Prop} {t e : TypeId} {z : Value} {size bytes : Nat} {w0 : World} {us : List Value}
    (E : ElemOK Tryz.prog t e z size bytes) (hgd : o.guard = none) (s x : Operand)
    (ho : o.op = .call { callee := .builtin .append, args := #[s, x], argTypes := #[t, t] })
    (base : Nat) {v : Value} {n : Nat} {xs : List Value} (hown : w0.ownsRow base e size v n xs) (hs : a.eval s = v) (hx : a.eval x = .slice (some ⟨w0.heap.size, 0, none⟩) 1 1)
    (hus : us.length = size) (h1 : ∀ u ∈ us, u.oneCell' = true) (h63 : n + 1 ≤ maxLen) (hbytes : (n + 1) * bytes ≤ 140737488355328) (hbase : base ≤ w0.heap.size)
    (h : ∀ v' w', w'.ownsRow base e size v' (n + 1) (xs ++ us) → (w0.alloc (.cells us.toArray e)).grownBy w' v.ownBlock → (v'.ownBlock = v.ownBlock ∨ v'.ownBlock = some (w0.heap.size + 1)) → wpList Tryz.prog ops Q rest (a.put o.dst v') w') :
    wpList Tryz.prog ops Q (o :: rest) a (w0.alloc (.cells us.toArray e)) := by
  obtain ⟨i, hi, hz0, hz1, hz2⟩ := info_parts E.info
  refine wpList_plain hgd fun K hK => ?_
  obtain ⟨v', w', hrun, r1, r2, r3⟩ := run_append_where (P := Tryz.prog) (w0.alloc (.cells us.toArray e)) base t o.type e i z size bytes E.und hi hz0 hz1 hz2 E.zs E.pos v n xs (hown.alloc _) ⟨w0.heap.size, 0, none⟩ 1 1 us (by rw [hus, Nat.one_mul])
    (fun j y hj => by rw [add_zero_off, World.cell?_alloc_at _ _ _ _ rfl]; simpa using hj) h1 h63 hbytes (by simp; omega)
  unfold Oper.wp
  simp [execOp, ho, resolve, invoke, builtin, hs, hx, hrun, Result.andThen]
  exact hK _ _ (h v' w' r1 r2 (by simpa using r3))
section
variable {W : World} {R : Nat} {vs vl : Value} {n : Nat} {D : DiskD}
theorem RefAt.pushed {w5 : World} {v' : Value} {X : Obj} (h : RefAt W R vs vl n D) (o : Nat) (s : ByteArray) (vis : List UInt8)
    (hown : w5.ownsRow 0 100 2 v' (D.pend.length + 1) (wcs D.pend ++ [.int .i64 (o : Nat), .string s])) (hg : (W.alloc X).grownBy w5 vl.ownBlock) :
    Blk w5 R #[vs, vl, .bool D.off, .int .i64 D.left] 67 ∧ RefAt (w5.setCell ⟨R, 1, none⟩ v') R vs v' n { D with pend := D.pend ++ [⟨o, s⟩], vis := vis } ∧ Frm (RFoot R vs vl) W (w5.setCell ⟨R, 1, none⟩ v') := by
  have nL := h.neL
  have nSL := owned_ne h.sure h.pen (by decide)
  have bB : Blk w5 R #[vs, vl, .bool D.off, .int .i64 D.left] 67 := (hg.block R (by have := h.box.lt; simp; omega) (fun e => nL R e.symm rfl)).trans (h.box.alloc X)
  have hfr : Frm (RFoot R vs vl) W (w5.setCell ⟨R, 1, none⟩ v') := (((Frm.refl _ W).alloc X).grown hg (fun k hk _ => .inr (.inr hk))).setCell (fun _ => .inl rfl) _
  have e : wcs (D.pend ++ [⟨o, s⟩]) = wcs D.pend ++ [.int .i64 (o : Nat), .string s] := by rw [wcs_app]; rfl
  refine ⟨bB, ⟨bB.set 1 v', ?_, ?_⟩, hfr⟩
  · refine owned_kept h.sure (fun g hgg => ?_)
    have hl := (h.sure.lt g hgg).2
    exact (Below.heap_setCell _ _ _ _ (fun e => h.neS g hgg e)).trans ((hg.block g (by simp; omega) (fun e => nSL g hgg e.symm)).trans (Below.heap_alloc _ _ _ hl))
  · show (w5.setCell ⟨R, 1, none⟩ v').ownsRow 0 100 2 v' (D.pend ++ [(⟨o, s⟩ : WrD)]).length (wcs (D.pend ++ [⟨o, s⟩]))
    rw [e, List.length_append]
    refine owned_kept hown (fun g hgg => Below.heap_setCell _ _ _ _ (fun e => ?_))
    obtain ⟨cur, hb, -⟩ := owned_block hown hgg
    exact hb.ne bB (by decide) e
theorem RefAt.kept {W' : World} (h : RefAt W R vs vl n D) {off : Bool} {left : Int} (hfr : Frm (fun i => i = R) W W') (hb : Blk W' R #[vs, vl, .bool off, .int .i64 left] 67) : RefAt W' R vs vl n { D with off := off, left := left } :=
  ⟨hb, owned_kept h.sure (fun g hg => hfr.block g (h.sure.lt g hg).2 (h.neS g hg)), owned_kept h.pen (fun g hg => hfr.block g (h.pen.lt g hg).2 (h.neL g hg))⟩
end
set_option maxRecDepth 100000 in
set_option maxHeartbeats 4000000 in
theorem write_ref {W : World} {R n : Nat} {D : DiskD} {F : Nat → Prop} (h : RefF W R n D F) (hF : ∀ k, W.heap.size ≤ k → F k) (hp : D.pend.length ≤ 1000000) (off : Int) (s : ByteArray) :
    Calls Tryz.prog 16 #[.pointer (some ⟨R, 0, none⟩), .int .i64 off, .string s] W fun e w' => e = .returned (.int .i64 (writeE D off s)) ∧ RefF w' R n (writeD D off s) F ∧ Frm F W w' := by
  obtain ⟨vs, vl, hA, hI, hFt⟩ := h
  have hd := hI.dur
  have hn := hI.most
  have hss : (0 : Int) ≤ (s.size : Int) := by omega
  obtain ⟨sg, sc, rfl⟩ := Go.Joins.ownsRow_form hA.sure hI.pos
  have i0 := hA.box.cell 0
  have i1 := hA.box.cell 1
  have i2 := hA.box.cell 2
  simp only [List.getElem?_toArray, List.getElem?_cons_succ, List.getElem?_cons_zero] at i0 i1 i2
  have HC : Hid (writeE D off s = if D.off then 331 else if insideB n off s.size then 0 else 330) := by unfold writeE; rw [hd]; rfl
  have HW : Hid (writeD D off s = if writeE D off s = 0 then usedD { D with pend := D.pend ++ [⟨off.toNat, s⟩], vis := putB D.vis off.toNat (bts s) } else D) := rfl
  have hsame : writeE D off s ≠ 0 → Hid (RefF W R n (writeD D off s) F) := fun hq => by
    rw [HW.out, if_neg hq]; exact ⟨_, vl, hA, hI, hFt⟩
  cases hD : D.off with
  | true =>
    rw [hD] at i2
    have e1 : Hid (writeE D off s = 331) := by rw [HC.out, hD]; rfl
    have HS := hsame (by rw [e1.out]; decide)
    clear hD HC HW hsame hA hI hFt
    go_enter Tryz.func16, Tryz.ntmps16
    go_wp2
    go_ret
    exact ⟨retI e1.out.symm, HS.out, Frm.refl _ _⟩
  | false =>
    rw [hD] at i2
    have hbad : insideB n off s.size = false → Hid (writeE D off s = 330 ∧ RefF W R n (writeD D off s) F) := fun hq => by
      have e1 : writeE D off s = 330 := by rw [HC.out, hD, hq]; rfl
      exact ⟨e1, (hsame (by rw [e1]; decide)).out⟩
    have hno : ¬ (0 ≤ off ∧ off ≤ n ∧ (s.size : Int) ≤ n - off) → insideB n off s.size = false := fun hq => by
      cases hb : insideB n off s.size with
      | false => rfl
      | true => exact absurd ⟨(inside_iff.1 hb).1, (inside_iff.1 hb).2.2.1, (inside_iff.1 hb).2.2.2⟩ hq
    by_cases h1 : off < 0
    · have d1 : decide (off < 0) = true := decide_eq_true h1
      have HB := hbad (hno (by omega))
      clear hD hbad hno h1 HC HW hsame hA hI hFt
      go_enter Tryz.func16, Tryz.ntmps16
      go_wp2
      go_ret
      exact ⟨retI HB.out.1.symm, HB.out.2, Frm.refl _ _⟩
    · have d1 : decide (off < 0) = false := decide_eq_false h1
      by_cases h3 : (n : Int) < off
      · have d3 : decide ((n : Int) < off) = true := decide_eq_true h3
        have HB := hbad (hno (by omega))
        clear hD hbad hno h1 h3 HC HW hsame hA hI hFt
        go_enter Tryz.func16, Tryz.ntmps16
        go_wp2
        go_ret
        exact ⟨retI HB.out.1.symm, HB.out.2, Frm.refl _ _⟩
      · have d3 : decide ((n : Int) < off) = false := decide_eq_false h3
        have hw : IntKind.i64.wrap ((n : Int) - off) = (n : Int) - off := wrapS _ (by omega) (by omega)
        by_cases h4 : (n : Int) - off < (s.size : Int)
        · have d4 : decide ((n : Int) - off < (s.size : Int)) = true := decide_eq_true h4
          have HB := hbad (hno (by omega))
          clear hD hbad hno h1 h3 h4 HC HW hsame hA hI hFt
          go_enter Tryz.func16, Tryz.ntmps16
          go_wp2
          go_ret
          exact ⟨retI HB.out.1.symm, HB.out.2, Frm.refl _ _⟩
        · have d4 : decide ((n : Int) - off < (s.size : Int)) = false := decide_eq_false h4
          have hin : insideB n off s.size = true := inside_iff.2 ⟨by omega, by omega, by omega, by omega⟩
          have e1 : Hid (writeE D off s = 0) := by rw [HC.out, hD, hin]; rfl
          obtain ⟨o, rfl⟩ := Int.eq_ofNat_of_zero_le (show 0 ≤ off by omega)
          have e2 : Hid (writeD D (o : Int) s = usedD { D with pend := D.pend ++ [⟨o, s⟩], vis := putB D.vis o (bts s) }) := by show _ = _; rw [HW.out, if_pos e1.out, Int.toNat_natCast]
          have ho1 : o ≤ n := by omega
          have HI2 := Lib.hid (hI.write (o : Int) s)
          rw [e2.out] at HI2
          have hI0 := hI.left
          have hI1 := hI.leftM
          have H := Lib.hid (And.intro hA hFt)
          have hpen := hA.pen
          have hlt := hA.box.lt
          have i1a : (W.alloc (.cells #[.int .i64 (o : Nat), .string s] 100)).cell? ⟨R, 1, none⟩ = some vl := by
            have := (hA.box.alloc (.cells #[.int .i64 (o : Nat), .string s] 100)).cell 1
            simpa using this
          obtain ⟨pa, pc, rfl, hp1, hp2⟩ := owned_len hpen
          have hU : ∀ D1 : DiskD, usedD D1 = if D1.left = 0 then D1 else { D1 with left := D1.left - 1, off := decide (D1.left - 1 = 0) } := fun _ => rfl
          clear hbad hno h1 h3 h4 HC HW hsame hA hI hFt hin
          have hFv : ∀ v' : Value, (v'.ownBlock = (Value.slice pa D.pend.length pc).ownBlock ∨ v'.ownBlock = some (W.heap.size + 1)) → ∀ k, RFoot R (.slice (some ⟨sg, 0, none⟩) n sc) v' k → F k := by
            rintro v' hv k (rfl | hk | hk)
            · exact H.out.2 _ (.inl rfl)
            · exact H.out.2 _ (.inr (.inl hk))
            · rcases hv with e | e
              · exact H.out.2 _ (.inr (.inr (e ▸ hk)))
              · rw [e] at hk; cases hk; exact hF _ (by omega)
          have hR : F R := H.out.2 R (.inl rfl)
          have HFV := Lib.hid hFv
          clear hFv
          by_cases hz : D.left = 0
          · have e3 : Hid (usedD { D with pend := D.pend ++ [⟨o, s⟩], vis := putB D.vis o (bts s) } = { D with pend := D.pend ++ [⟨o, s⟩], vis := putB D.vis o (bts s) }) := by show _ = _; rw [hU, if_pos hz]
            have q0 : decide (0 < D.left) = false := decide_eq_false (by omega)
            clear hU hz
            go_enter Tryz.func16, Tryz.ntmps16
            go_wp2_with (at_builtin; refine wpList_pushW E41 rfl _ _ rfl 0 hpen rfl rfl rfl (by intro u hu; simp at hu; rcases hu with rfl | rfl <;> rfl) (by unfold maxLen; omega) (by omega) (Nat.zero_le _) ?_; intro v' w5 hown' hgrow hwh; obtain ⟨hb5, h6, hF6⟩ := H.out.1.pushed o s (putB D.vis o (bts s)) hown' hgrow; obtain ⟨na, nc, rfl, hn1, hn2⟩ := owned_len hown'; have j1 := hb5.cell 1; have g1 := hb5.frozen 1; simp only [List.getElem?_toArray, List.getElem?_cons_succ, List.getElem?_cons_zero] at j1; have k3 := h6.box.cell 3; have f3 := h6.box.frozen 3; have k2 := h6.box.cell 2; have f2 := h6.box.frozen 2; simp only [List.getElem?_toArray, List.getElem?_cons_succ, List.getElem?_cons_zero] at k3 k2)
            go_ret
            exact ⟨retI e1.out.symm, by rw [e2.out, e3.out]; exact ⟨_, _, h6, by rw [← e3.out]; exact HI2.out, HFV.out _ hwh⟩, hF6.mono (fun i _ e => H.out.2 i e)⟩
          · have hw1 : IntKind.i64.wrap (D.left - 1) = D.left - 1 := wrapS _ (by omega) (by omega)
            have q0 : decide (0 < D.left) = true := decide_eq_true (by omega)
            by_cases hz1 : D.left - 1 = 0
            · have e3 : Hid (usedD { D with pend := D.pend ++ [⟨o, s⟩], vis := putB D.vis o (bts s) } = { D with pend := D.pend ++ [⟨o, s⟩], vis := putB D.vis o (bts s), left := D.left - 1, off := true }) := by show _ = _; rw [hU, if_neg hz]; show DiskD.mk (decide (D.left - 1 = 0)) _ _ _ _ = _; rw [decide_eq_true hz1]
              have q1 : (D.left - 1 == 0) = true := by rw [hz1]; rfl
              clear hU hz hz1
              go_enter Tryz.func16, Tryz.ntmps16
              go_wp2_with (at_builtin; refine wpList_pushW E41 rfl _ _ rfl 0 hpen rfl rfl rfl (by intro u hu; simp at hu; rcases hu with rfl | rfl <;> rfl) (by unfold maxLen; omega) (by omega) (Nat.zero_le _) ?_; intro v' w5 hown' hgrow hwh; obtain ⟨hb5, h6, hF6⟩ := H.out.1.pushed o s (putB D.vis o (bts s)) hown' hgrow; obtain ⟨na, nc, rfl, hn1, hn2⟩ := owned_len hown'; have j1 := hb5.cell 1; have g1 := hb5.frozen 1; simp only [List.getElem?_toArray, List.getElem?_cons_succ, List.getElem?_cons_zero] at j1; have k3 := h6.box.cell 3; have f3 := h6.box.frozen 3; have k2 := h6.box.cell 2; have f2 := h6.box.frozen 2; simp only [List.getElem?_toArray, List.getElem?_cons_succ, List.getElem?_cons_zero] at k3 k2)
              go_ret
              have hfr : Frm (fun i => i = R) (w5.setCell ⟨R, 1, none⟩ (.slice na (D.pend.length + 1) nc)) (((w5.setCell ⟨R, 1, none⟩ (.slice na (D.pend.length + 1) nc)).setCell ⟨R, 3, none⟩ (.int .i64 (D.left - 1))).setCell ⟨R, 2, none⟩ (.bool true)) := ((Frm.refl (fun i => i = R) _).setCell (fun _ => rfl) _).setCell (fun _ => rfl) _
              exact ⟨retI e1.out.symm, by rw [e2.out]; exact ⟨_, _, by rw [e3.out]; exact h6.kept hfr ((h6.box.set 3 (.int .i64 (D.left - 1))).set 2 (.bool true)), HI2.out, HFV.out _ hwh⟩, (hF6.mono (fun i _ e => H.out.2 i e)).trans hfr (fun i _ e => e ▸ hR)⟩
            · have e3 : Hid (usedD { D with pend := D.pend ++ [⟨o, s⟩], vis := putB D.vis o (bts s) } = { D with pend := D.pend ++ [⟨o, s⟩], vis := putB D.vis o (bts s), left := D.left - 1, off := D.off }) := by show _ = _; rw [hU, if_neg hz]; show DiskD.mk (decide (D.left - 1 = 0)) _ _ _ _ = _; rw [decide_eq_false hz1, hD]
              have q1 : (D.left - 1 == 0) = false := beq_eq_false_iff_ne.2 hz1
              clear hU hz hz1
              go_enter Tryz.func16, Tryz.ntmps16
              go_wp2_with (at_builtin; refine wpList_pushW E41 rfl _ _ rfl 0 hpen rfl rfl rfl (by intro u hu; simp at hu; rcases hu with rfl | rfl <;> rfl) (by unfold maxLen; omega) (by omega) (Nat.zero_le _) ?_; intro v' w5 hown' hgrow hwh; obtain ⟨hb5, h6, hF6⟩ := H.out.1.pushed o s (putB D.vis o (bts s)) hown' hgrow; obtain ⟨na, nc, rfl, hn1, hn2⟩ := owned_len hown'; have j1 := hb5.cell 1; have g1 := hb5.frozen 1; simp only [List.getElem?_toArray, List.getElem?_cons_succ, List.getElem?_cons_zero] at j1; have k3 := h6.box.cell 3; have f3 := h6.box.frozen 3; have k2 := h6.box.cell 2; have f2 := h6.box.frozen 2; simp only [List.getElem?_toArray, List.getElem?_cons_succ, List.getElem?_cons_zero] at k3 k2)
              go_ret
              have hfr : Frm (fun i => i = R) (w5.setCell ⟨R, 1, none⟩ (.slice na (D.pend.length + 1) nc)) ((w5.setCell ⟨R, 1, none⟩ (.slice na (D.pend.length + 1) nc)).setCell ⟨R, 3, none⟩ (.int .i64 (D.left - 1))) := (Frm.refl (fun i => i = R) _).setCell (fun _ => rfl) _
              exact ⟨retI e1.out.symm, by rw [e2.out]; exact ⟨_, _, by rw [e3.out]; exact h6.kept hfr (h6.box.set 3 (.int .i64 (D.left - 1))), HI2.out, HFV.out _ hwh⟩, (hF6.mono (fun i _ e => H.out.2 i e)).trans hfr (fun i _ e => e ▸ hR)⟩
end Go.Proofs.YtnckpnbecmmcpaaGreatDoor
end
section
/- nadirref33: Crash. -/
namespace Go.Proofs.YtnckpnbecmmcpaaGreatDoor
open Go.RowKit Go.Shelf Lib

/-- The surviving ones among the first k writes. -/
def keptK (D : DiskD) (kl : List Int) (k : Nat) : List WrD := (keptI k kl).map fun i => D.pend.getD i dW
theorem keptK_yes {D : DiskD} {kl : List Int} {k : Nat} {x : WrD} (h : decide ((k : Int) ∈ kl) = true) (hx : D.pend[k]? = some x) : keptK D kl (k + 1) = keptK D kl k ++ [x] := by
  unfold keptK keptI
  rw [List.range_succ, List.filter_append, List.map_append]
  congr 1
  rw [List.filter_cons, h, if_pos rfl]
  simp [List.getD_eq_getElem?_getD, hx]
theorem keptK_no {D : DiskD} {kl : List Int} {k : Nat} (h : decide ((k : Int) ∈ kl) = false) : keptK D kl (k + 1) = keptK D kl k := by
  unfold keptK keptI
  rw [List.range_succ, List.filter_append, List.map_append, List.filter_cons, h]
  simp
theorem keptK_len (D : DiskD) (kl : List Int) (k : Nat) : (keptK D kl k).length ≤ k := by
  unfold keptK keptI
  rw [List.length_map]
  have := List.length_filter_le (fun i : Nat => decide ((i : Int) ∈ kl)) (List.range k)
  rw [List.length_range] at this
  exact this
theorem keptK_mem {D : DiskD} {kl : List Int} {k : Nat} (hk : k ≤ D.pend.length) : ∀ x ∈ keptK D kl k, x ∈ D.pend := by
  intro x hx
  unfold keptK keptI at hx
  obtain ⟨i, hi, rfl⟩ := List.mem_map.1 hx
  have hil : i < k := by have := (List.mem_filter.1 hi).1; simpa using this
  rw [List.getD_eq_getElem?_getD, List.getElem?_eq_getElem (show i < D.pend.length by omega)]
  exact List.getElem_mem _
theorem lastTorn_at (torn : Int) : ∀ (l : List WrD) (i : Nat) (x : WrD), l[i]? = some x → (lastTorn torn l)[i]? = some (if i + 1 = l.length then tornW torn x else x) := by
  intro l
  induction l with
  | nil => intro i x h; simp at h
  | cons w l ih =>
    intro i x h
    cases l with
    | nil =>
      cases i with
      | zero => simp at h; subst h; rfl
      | succ i => simp at h
    | cons y l =>
      cases i with
      | zero =>
        simp at h; subst h
        rw [if_neg (by simp)]; rfl
      | succ i =>
        have := ih i x (by simpa using h)
        show (lastTorn torn (y :: l))[i]? = _
        rw [this]
        simp
theorem lastTorn_ln (torn : Int) : ∀ l : List WrD, (lastTorn torn l).length = l.length := by
  intro l
  induction l with
  | nil => rfl
  | cons w l ih =>
    cases l with
    | nil => rfl
    | cons y l => show (lastTorn torn (y :: l)).length + 1 = _; rw [ih]; rfl
theorem tornW_same {torn : Int} {x : WrD} (h : ¬ (0 ≤ torn ∧ torn < x.s.size)) : tornW torn x = x := by
  unfold tornW
  split
  · obtain ⟨o, s⟩ := x
    simp only at h ⊢
    rw [show min torn.toNat s.size = s.size by omega, cutS_all]
  · rfl
theorem tornW_cut {t : Nat} {o : Nat} {s : ByteArray} (h : t < s.size) : tornW (t : Int) ⟨o, s⟩ = ⟨o, cutS s t⟩ := by
  unfold tornW
  rw [if_pos (by omega)]
  show WrD.mk o (cutS s (min (Int.toNat (t : Int)) s.size)) = _
  rw [Int.toNat_natCast, Nat.min_eq_left (by omega)]
theorem tornW_fits {n : Nat} {w : WrD} (h : w.off + w.s.size ≤ n) (torn : Int) : (tornW torn w).off + (tornW torn w).s.size ≤ n := by
  unfold tornW
  split
  · show w.off + (cutS w.s _).size ≤ n
    rw [cutS_size _ _ (by omega)]; omega
  · exact h
theorem lastTorn_fit {n : Nat} (torn : Int) : ∀ l : List WrD, (∀ w ∈ l, w.off + w.s.size ≤ n) → ∀ w ∈ lastTorn torn l, w.off + w.s.size ≤ n := by
  intro l
  induction l with
  | nil => intro _ w h; cases h
  | cons x l ih =>
    intro h w hw
    cases l with
    | nil =>
      have : w = tornW torn x := by simpa [lastTorn] using hw
      rw [this]
      exact tornW_fits (h x (by simp)) torn
    | cons y l =>
      have hw2 : w = x ∨ w ∈ lastTorn torn (y :: l) := by simpa [lastTorn] using hw
      rcases hw2 with rfl | hw
      · exact h _ (by simp)
      · exact ih (fun z hz => h z (by simp [hz])) w hw
set_option maxRecDepth 100000 in
set_option maxHeartbeats 4000000 in
theorem crash_ref {W : World} {R n : Nat} {D : DiskD} {F : Nat → Prop} (h : RefF W R n D F) (hp : D.pend.length ≤ 1000000) (vk : Value) (kl : List Int) (hkl : IntsAt W vk kl) (torn : Int) :
    Calls Tryz.prog 67 #[.pointer (some ⟨R, 0, none⟩), vk, .int .i64 torn] W fun e w' => e = .returned (.tuple #[]) ∧ RefF w' R n (crashD D kl torn) F ∧ Frm F W w' := by
  obtain ⟨vs, vl, hA, hI, hFt⟩ := h
  have hn := hI.most
  obtain ⟨sg, sc, rfl⟩ := Go.Joins.ownsRow_form hA.sure hI.pos
  obtain ⟨pa, pc, rfl, hp1, hp2⟩ := owned_len hA.pen
  have hlt := hA.box.lt
  have H := Lib.hid (And.intro hA (And.intro hI hFt))
  have HK := Lib.hid hkl
  clear hA hI hFt hkl
  go_enter Tryz.func67, Tryz.ntmps67
  go_wp2
  go_loopw [6, 7] (fun u6 u7 wr => ∃ k : Nat, k ≤ D.pend.length ∧ u7 = .int .i64 k ∧ wr.ownsRow W.heap.size 100 2 u6 (keptK D kl k).length (wcs (keptK D kl k)) ∧ Below W.heap.size W wr) (fun _ u7 _ => (D.pend.length - intOf u7).toNat)
  case atStart => exact ⟨0, by omega, rfl, World.ownsRow_nil _ _ _ _, Below.refl _ _⟩
  case round =>
    obtain ⟨k, hk, rfl, hrow, hBr⟩ := hrel
    rename World => wr
    have i1 := (H.out.1.box.below hBr hlt).cell 1
    simp only [List.getElem?_toArray, List.getElem?_cons_succ, List.getElem?_cons_zero] at i1
    by_cases hkl : k < D.pend.length
    · have hhas := has_any vk kl (HK.out.below hBr) (k : Int)
      have hx := List.getElem?_eq_getElem hkl
      generalize D.pend[k] = x at hx
      obtain ⟨q, qc, hq⟩ := Go.Joins.ownsRow_form (H.out.1.pen) (by omega)
      cases hq
      have hpr := owned_kept H.out.1.pen (fun i hi => hBr.block i (H.out.1.pen.lt i hi).2)
      obtain ⟨x1, x2⟩ := wcs_get hx
      have c1 := (hpr.cellAt (k * 2) (by omega)).trans x1
      have c2 := (hpr.cellAt (k * 2 + 1) (by omega)).trans x2
      have hki : (0 : Int) ≤ (k : Int) ∧ (k : Int) < (D.pend.length : Int) := by omega
      cases hm : decide ((k : Int) ∈ kl) with
      | true =>
        have HY := Lib.hid (keptK_yes hm hx)
        have hkl2 := keptK_len D kl k
        rw [hm] at hhas
        obtain ⟨xo, xs⟩ := x
        simp only at c1 c2
        have hus : ∀ u ∈ ([.int .i64 (xo : Nat), .string xs] : List Value), u.oneCell' = true := by intro u hu; simp at hu; rcases hu with rfl | rfl <;> rfl
        have hbs := hBr.size
        clear hpr x1 x2 hm hx
        go_wp2_with fail
        refine hhas.mono ?_
        rintro e wq ⟨rfl, rfl⟩
        clear hhas
        go_wp2_with (at_builtin; refine wpList_pushW E41 rfl _ _ rfl W.heap.size hrow rfl rfl rfl hus (by unfold maxLen; omega) (by omega) hbs ?_; intro v' w5 hown' hgrow hwh)
        have hB5 := (hBr.alloc hbs (.cells #[.int .i64 (xo : Nat), .string xs] 100)).grown hgrow (by simp; omega) (fun i hi => (hrow.lt i hi).1)
        have hr5 : w5.ownsRow W.heap.size 100 2 v' (keptK D kl (k + 1)).length (wcs (keptK D kl (k + 1))) := by
          rw [HY.out, List.length_append, wcs_app]; exact hown'
        clear hgrow hwh hown' hrow hus i1 c1 c2
        go_roundw
        case rel => exact ⟨k + 1, by omega, by go_num, hr5, hB5⟩
        case measure => simp [intOf]; omega
      | false =>
        have HY := Lib.hid (keptK_no (D := D) hm)
        rw [hm] at hhas
        clear hpr x1 x2 hm hx c1 c2
        go_wp2_with fail
        refine hhas.mono ?_
        rintro e wq ⟨rfl, rfl⟩
        clear hhas
        go_wp2
        go_roundw
        case rel => exact ⟨k + 1, by omega, by go_num, by rw [HY.out]; exact hrow, hBr⟩
        case measure => simp [intOf]; omega
    · obtain rfl : k = D.pend.length := by omega
      have hmK := keptK_len D kl D.pend.length
      have hKm := keptK_mem (D := D) (kl := kl) (Nat.le_refl D.pend.length)
      have hKW : keptK D kl D.pend.length = keptW D kl := rfl
      have hcb : Hid (crashB D kl torn = (lastTorn torn (keptK D kl D.pend.length)).foldl ontoW D.dur) := rfl
      obtain ⟨la, lc, rfl, hl1, hl2⟩ := owned_len hrow
      have HKM := Lib.hid (fun w hw => H.out.2.1.fit w (hKm w hw))
      have hsg : sg < W.heap.size := (H.out.1.sure.lt sg rfl).2
      have hsR : sg ≠ R := H.out.1.neS sg rfl
      have hw0 : (wr.ownsRow 0 5 1 (.slice (some ⟨sg, 0, none⟩) n sc) n (bcs D.dur)) := owned_kept H.out.1.sure (fun i hi => hBr.block i (H.out.1.sure.lt i hi).2)
      have hbR := H.out.1.box.below hBr hlt
      have HBR := Lib.hid (And.intro hbR hrow)
      have hrs := hBr.size
      clear hKm hKW hbR
      generalize keptK D kl D.pend.length = K at *
      go_wp2
      clear i1
      go_loopw [8, 9] (fun u8 u9 wt => ∃ j : Nat, j ≤ K.length ∧ u8 = .int .i64 j ∧ wt.ownsRow 0 5 1 (.slice (some ⟨sg, 0, none⟩) n sc) n (bcs (((lastTorn torn K).take j).foldl ontoW D.dur)) ∧ Frm (fun i => i = sg) wr wt) (fun u8 _ _ => (K.length - intOf u8).toNat)
      case atStart => exact ⟨0, by omega, rfl, by rw [List.take_zero]; exact hw0, Frm.refl _ _⟩
      case round =>
        obtain ⟨j, hj, rfl, hsj, hfj⟩ := hrel
        rename World => wt
        by_cases hjl : j < K.length
        · have hx := List.getElem?_eq_getElem hjl
          generalize K[j] = x at hx
          have hxt := lastTorn_at torn K j x hx
          obtain ⟨q, qc, hq⟩ := Go.Joins.ownsRow_form (HBR.out.2) (by omega)
          cases hq
          have hql := HBR.out.2.lt q rfl
          have hpr := owned_kept HBR.out.2 (fun i hi => hfj.block i (HBR.out.2.lt i hi).2 (fun e => by have := (HBR.out.2.lt i hi).1; omega))
          obtain ⟨x1, x2⟩ := wcs_get hx
          have c1 := (hpr.cellAt (j * 2) (by omega)).trans x1
          have c2 := (hpr.cellAt (j * 2 + 1) (by omega)).trans x2
          have i0 := (HBR.out.1.frm hfj (fun e => hsR e.symm)).cell 0
          simp only [List.getElem?_toArray, List.getElem?_cons_zero] at i0
          have hji : (0 : Int) ≤ (j : Int) ∧ (j : Int) < (K.length : Int) := by omega
          have hlw : IntKind.i64.wrap ((K.length : Int) - 1) = (K.length : Int) - 1 := wrapS _ (by omega) (by omega)
          have hlen : (((lastTorn torn K).take j).foldl ontoW D.dur).length = n := foldl_len _ _ H.out.2.1.dur (fun w hw => lastTorn_fit torn K HKM.out w (List.mem_of_mem_take hw))
          have hfx := HKM.out x (List.mem_of_getElem? hx)
          have hfy := lastTorn_fit torn K HKM.out _ (List.mem_of_getElem? hxt)
          have HBX := Lib.hid (And.intro hlen hsj)
          have hap := Lib.hid (fun (y : WrD) (hy : (lastTorn torn K)[j]? = some y) (hf : y.off + y.s.size ≤ n) => by
            have := apply_any (w := wt.drew) (base := 0) hsj hlen hn y.off y.s hf
            rw [← foldl_step hy] at this
            exact this)
          have HF := Lib.hid hfj
          obtain ⟨xo, xs⟩ := x
          simp only at c1 c2 hfx
          clear hpr x1 x2 hx hlen hsj hfj
          by_cases hl : j + 1 = K.length
          · have q0 : ((j : Int) == (K.length : Int) - 1) = true := by rw [beq_iff_eq]; omega
            rw [if_pos hl] at hxt hfy
            by_cases ht0 : 0 ≤ torn
            · have t0 : ((0 : Int) ≤ torn) = True := eq_true ht0
              obtain ⟨t, rfl⟩ := Int.eq_ofNat_of_zero_le ht0
              by_cases ht1 : t < xs.size
              · have t1 : decide ((t : Int) < (xs.size : Int)) = true := decide_eq_true (by omega)
                have t2 : (0 : Int) ≤ (t : Int) ∧ (t : Int) ≤ (xs.size : Int) := by omega
                rw [tornW_cut ht1] at hxt hfy
                have hz := hap.out _ hxt hfy
                unfold cutS at hz
                simp only at hz
                clear hxt hfy
                go_wp2_with fail
                go_still_tail 10, (by kernel_rfl)
                change wpList _ _ _ _ _ wt.drew
                go_wp2_with fail
                refine hz.mono ?_
                rintro e w2 ⟨rfl, hg2, hf2⟩
                have hF2 := HF.out.trans (((Frm.refl (fun i => i = sg) wt).drew).trans hf2 (fun i _ e => e)) (fun i _ e => e)
                clear hz i0 c1 c2 hap
                go_wp2
                go_roundw
                case rel => exact ⟨j + 1, by omega, by go_num, hg2, hF2⟩
                case measure => simp [intOf]; omega
              · have t1 : decide ((t : Int) < (xs.size : Int)) = false := decide_eq_false (by omega)
                rw [tornW_same (by simp only; omega)] at hxt
                have hz := hap.out _ hxt hfx
                simp only at hz
                clear hxt hfy
                go_wp2_with fail
                go_still_tail 10, (by kernel_rfl)
                change wpList _ _ _ _ _ wt.drew
                go_wp2_with fail
                refine hz.mono ?_
                rintro e w2 ⟨rfl, hg2, hf2⟩
                have hF2 := HF.out.trans (((Frm.refl (fun i => i = sg) wt).drew).trans hf2 (fun i _ e => e)) (fun i _ e => e)
                clear hz i0 c1 c2 hap
                go_wp2
                go_roundw
                case rel => exact ⟨j + 1, by omega, by go_num, hg2, hF2⟩
                case measure => simp [intOf]; omega
            · have t0 : ((0 : Int) ≤ torn) = False := eq_false ht0
              rw [tornW_same (by omega)] at hxt
              have hz := hap.out _ hxt hfx
              simp only at hz
              clear hxt hfy
              go_wp2_with fail
              go_still_tail 10, (by kernel_rfl)
              change wpList _ _ _ _ _ wt.drew
              go_wp2_with fail
              refine hz.mono ?_
              rintro e w2 ⟨rfl, hg2, hf2⟩
              have hF2 := HF.out.trans (((Frm.refl (fun i => i = sg) wt).drew).trans hf2 (fun i _ e => e)) (fun i _ e => e)
              clear hz i0 c1 c2 hap
              go_wp2
              go_roundw
              case rel => exact ⟨j + 1, by omega, by go_num, hg2, hF2⟩
              case measure => simp [intOf]; omega
          · have q0 : ((j : Int) == (K.length : Int) - 1) = false := by rw [beq_eq_false_iff_ne]; omega
            rw [if_neg hl] at hxt hfy
            have hz := hap.out _ hxt hfx
            simp only at hz
            clear hxt hfy
            go_wp2_with fail
            go_still_tail 10, (by kernel_rfl)
            change wpList _ _ _ _ _ wt.drew
            go_wp2_with fail
            refine hz.mono ?_
            rintro e w2 ⟨rfl, hg2, hf2⟩
            have hF2 := HF.out.trans (((Frm.refl (fun i => i = sg) wt).drew).trans hf2 (fun i _ e => e)) (fun i _ e => e)
            clear hz i0 c1 c2 hap
            go_wp2
            go_roundw
            case rel => exact ⟨j + 1, by omega, by go_num, hg2, hF2⟩
            case measure => simp [intOf]; omega
        · obtain rfl : j = K.length := by omega
          have hall : Hid (((lastTorn torn K).take K.length).foldl ontoW D.dur = crashB D kl torn) := by show _ = _; rw [hcb.out, List.take_of_length_le (by rw [lastTorn_ln]; exact Nat.le_refl _)]
          have hb := HBR.out.1.frm hfj (fun e => hsR e.symm)
          have j1 := hb.cell 1
          have f1 := hb.frozen 1
          have j2 := hb.cell 2
          have f2 := hb.frozen 2
          have j3 := hb.cell 3
          have f3 := hb.frozen 3
          simp only [List.getElem?_toArray, List.getElem?_cons_succ, List.getElem?_cons_zero] at j1 j2 j3
          have HS := Lib.hid (And.intro hb (And.intro hsj hfj))
          clear hb hsj hfj
          go_wp2
          go_end0
          have hfr : Frm (fun i => i = R) wt (((wt.setCell ⟨R, 1, none⟩ (.slice none 0 0)).setCell ⟨R, 2, none⟩ (.bool false)).setCell ⟨R, 3, none⟩ (.int .i64 0)) := (((Frm.refl (fun i => i = R) _).setCell (fun _ => rfl) _).setCell (fun _ => rfl) _).setCell (fun _ => rfl) _
          have hR : F R := H.out.2.2 R (.inl rfl)
          have hS : F sg := H.out.2.2 sg (.inr (.inl rfl))
          refine ⟨rfl, ⟨.slice (some ⟨sg, 0, none⟩) n sc, .slice none 0 0, ⟨((HS.out.1.set 1 (.slice none 0 0)).set 2 (.bool false)).set 3 (.int .i64 0), ?_, World.ownsRow_nil _ _ _ _⟩, H.out.2.1.crash kl torn, ?_⟩, ((Frm.of_below hBr).trans HS.out.2.2 (fun i _ e => e ▸ hS)).trans hfr (fun i _ e => e ▸ hR)⟩
          · show World.ownsRow _ 0 5 1 _ n (bcs (crashB D kl torn))
            rw [← hall.out]
            exact owned_kept HS.out.2.1 (fun i hi => hfr.block i (HS.out.2.1.lt i hi).2 (fun e => by cases hi; exact hsR e))
          · rintro i (rfl | hi | hi)
            · exact hR
            · cases hi; exact hS
            · cases hi
end Go.Proofs.YtnckpnbecmmcpaaGreatDoor
end
section
/- A disk and a disk of the reference, apart from each other. -/
namespace Go.Proofs.YtnckpnbecmmcpaaGreatDoor
open Go.RowKit Go.Shelf Lib

theorem RefF.away {W : World} {R n : Nat} {D : DiskD} {F : Nat → Prop} (h : RefF W R n D F) {x : Nat} {cs : Array Value} {t : TypeId} (hx : Blk W x cs t) (h1 : t ≠ 67) (h2 : t ≠ 5) (h3 : t ≠ 100) : RefF W R n D (fun k => F k ∧ k ≠ x) := by
  obtain ⟨vs, vl, a, b, c⟩ := h
  refine ⟨vs, vl, a, b, fun k hk => ⟨c k hk, ?_⟩⟩
  rcases hk with rfl | hk | hk
  · exact a.box.ne hx h1.symm
  · obtain ⟨cur, hb, -⟩ := owned_block a.sure hk
    exact hb.ne hx h2.symm
  · obtain ⟨cur, hb, -⟩ := owned_block a.pen hk
    exact hb.ne hx h3.symm
def Duo (W : World) (P : Nat → Prop) (n B R : Nat) (D E : DiskD) : Prop :=
  ∃ F1 F2 : Nat → Prop, (∀ k, F1 k → P k) ∧ (∀ k, F2 k → P k) ∧ (∀ k, F1 k → ¬ F2 k) ∧ OwnF W B n D F1 ∧ RefF W R n E F2
section
variable {W W' : World} {P Q : Nat → Prop} {n B R : Nat} {D E : DiskD}
theorem Duo.mono (h : Duo W P n B R D E) (hPQ : ∀ k, k < W.heap.size → P k → Q k) : Duo W Q n B R D E := by
  obtain ⟨F1, F2, p1, p2, d, o1, o2⟩ := h
  exact ⟨fun k => F1 k ∧ k < W.heap.size, fun k => F2 k ∧ k < W.heap.size, fun k h => hPQ k h.2 (p1 k h.1), fun k h => hPQ k h.2 (p2 k h.1), fun k a b => d k a.1 b.1, o1.mono (fun k hk h => ⟨h, hk⟩), o2.mono (fun k hk h => ⟨h, hk⟩)⟩
theorem Duo.away (h : Duo W P n B R D E) {x : Nat} {cs : Array Value} (hx : Blk W x cs 39) : Duo W (fun k => P k ∧ k ≠ x) n B R D E := by
  obtain ⟨F1, F2, p1, p2, d, o1, o2⟩ := h
  exact ⟨fun k => F1 k ∧ k ≠ x, fun k => F2 k ∧ k ≠ x, fun k h => ⟨p1 k h.1, h.2⟩, fun k h => ⟨p2 k h.1, h.2⟩, fun k a b => d k a.1 b.1, o1.away hx (by decide) (by decide) (by decide), o2.away hx (by decide) (by decide) (by decide)⟩
theorem Duo.below (h : Duo W P n B R D E) (hb : Below W.heap.size W W') : Duo W' P n B R D E := by
  obtain ⟨F1, F2, p1, p2, d, o1, o2⟩ := h
  exact ⟨F1, F2, p1, p2, d, o1.below hb, o2.below hb⟩
theorem Duo.drew (h : Duo W P n B R D E) : Duo W.drew P n B R D E := h.below ((Below.refl _ _).drew)
theorem Duo.o1 (h : Duo W P n B R D E) : OwnF W B n D P := by
  obtain ⟨F1, F2, p1, p2, d, o1, o2⟩ := h
  exact o1.mono (fun k _ h => p1 k h)
theorem Duo.r2 (h : Duo W P n B R D E) : RefF W R n E P := by
  obtain ⟨F1, F2, p1, p2, d, o1, o2⟩ := h
  exact o2.mono (fun k _ h => p2 k h)
theorem Duo.write_d (h : Duo W P n B R D E) (hP : ∀ k, W.heap.size ≤ k → P k) (hp : D.pend.length ≤ 1000000) (off : Int) (s : ByteArray) :
    Calls Tryz.prog 13 #[.pointer (some ⟨B, 0, none⟩), .int .i64 off, .string s] W fun e w' => e = .returned (.int .i64 (writeE D off s)) ∧ Duo w' P n B R (writeD D off s) E ∧ Frm P W w' := by
  obtain ⟨F1, F2, p1, p2, d, o1, o2⟩ := h
  refine (write_f o1 hp off s).mono ?_
  rintro e w' ⟨rfl, q1, q2⟩
  refine ⟨rfl, ⟨fun k => F1 k ∨ W.heap.size ≤ k, fun k => F2 k ∧ k < W.heap.size, ?_, fun k h => p2 k h.1, ?_, q1, ?_⟩, q2.mono (fun k _ h => p1 k h)⟩
  · rintro k (h | h)
    · exact p1 k h
    · exact hP k h
  · rintro k (h | h) ⟨a, b⟩
    · exact d k h a
    · omega
  · exact (o2.mono (G := fun k => F2 k ∧ k < W.heap.size) (fun k hk h => ⟨h, hk⟩)).frm q2 (fun k _ h a => d k a h.1)
theorem Duo.write_r (h : Duo W P n B R D E) (hP : ∀ k, W.heap.size ≤ k → P k) (hp : E.pend.length ≤ 1000000) (off : Int) (s : ByteArray) :
    Calls Tryz.prog 16 #[.pointer (some ⟨R, 0, none⟩), .int .i64 off, .string s] W fun e w' => e = .returned (.int .i64 (writeE E off s)) ∧ Duo w' P n B R D (writeD E off s) ∧ Frm P W w' := by
  obtain ⟨F1, F2, p1, p2, d, o1, o2⟩ := h
  refine (write_ref (o2.mono (G := fun k => F2 k ∨ W.heap.size ≤ k) (fun k _ h => .inl h)) (fun k hk => .inr hk) hp off s).mono ?_
  rintro e w' ⟨rfl, q1, q2⟩
  refine ⟨rfl, ⟨fun k => F1 k ∧ k < W.heap.size, fun k => F2 k ∨ W.heap.size ≤ k, fun k h => p1 k h.1, ?_, ?_, ?_, q1⟩, q2.mono (fun k hk h => by rcases h with h | h; exact p2 k h; omega)⟩
  · rintro k (h | h)
    · exact p2 k h
    · exact hP k h
  · rintro k ⟨a, b⟩ (h | h)
    · exact d k a h
    · omega
  · exact (o1.mono (G := fun k => F1 k ∧ k < W.heap.size) (fun k hk h => ⟨h, hk⟩)).frm q2 (fun k _ h a => by rcases a with a | a; exact d k h.1 a; omega)
theorem Duo.sync_d (h : Duo W P n B R D E) : Calls Tryz.prog 42 #[.pointer (some ⟨B, 0, none⟩)] W fun e w' => e = .returned (.int .i64 (syncE D)) ∧ Duo w' P n B R (syncD D) E ∧ Frm P W w' := by
  obtain ⟨F1, F2, p1, p2, d, o1, o2⟩ := h
  refine (sync_f o1).mono ?_
  rintro e w' ⟨rfl, q1, q2⟩
  exact ⟨rfl, ⟨F1, F2, p1, p2, d, q1, o2.frm q2 (fun k _ h a => d k a h)⟩, q2.mono (fun k _ h => p1 k h)⟩
theorem Duo.sync_r (h : Duo W P n B R D E) (hP : ∀ k, W.heap.size ≤ k → P k) (hp : E.pend.length ≤ 1000000) : Calls Tryz.prog 45 #[.pointer (some ⟨R, 0, none⟩)] W fun e w' => e = .returned (.int .i64 (syncE E)) ∧ Duo w' P n B R D (syncD E) ∧ Frm P W w' := by
  obtain ⟨F1, F2, p1, p2, d, o1, o2⟩ := h
  refine (sync_ref (o2.mono (G := fun k => F2 k ∨ W.heap.size ≤ k) (fun k _ h => .inl h)) (fun k hk => .inr hk) hp).mono ?_
  rintro e w' ⟨rfl, q1, q2⟩
  refine ⟨rfl, ⟨fun k => F1 k ∧ k < W.heap.size, fun k => F2 k ∨ W.heap.size ≤ k, fun k h => p1 k h.1, ?_, ?_, ?_, q1⟩, q2.mono (fun k hk h => by rcases h with h | h; exact p2 k h; omega)⟩
  · rintro k (h | h)
    · exact p2 k h
    · exact hP k h
  · rintro k ⟨a, b⟩ (h | h)
    · exact d k a h
    · omega
  · exact (o1.mono (G := fun k => F1 k ∧ k < W.heap.size) (fun k hk h => ⟨h, hk⟩)).frm q2 (fun k _ h a => by rcases a with a | a; exact d k h.1 a; omega)
theorem Duo.cut_d (h : Duo W P n B R D E) (k : Int) (hk : k ≤ 9223372036854775807) : Calls Tryz.prog 29 #[.pointer (some ⟨B, 0, none⟩), .int .i64 k] W fun e w' => e = .returned (.int .i64 (cutE D k)) ∧ Duo w' P n B R (cutD D k) E ∧ Frm P W w' := by
  obtain ⟨F1, F2, p1, p2, d, o1, o2⟩ := h
  refine (cut_f o1 k hk).mono ?_
  rintro e w' ⟨rfl, q1, q2⟩
  exact ⟨rfl, ⟨F1, F2, p1, p2, d, q1, o2.frm q2 (fun k _ h a => d k a h)⟩, q2.mono (fun k _ h => p1 k h)⟩
theorem Duo.cut_r (h : Duo W P n B R D E) (k : Int) (hk : k ≤ 9223372036854775807) : Calls Tryz.prog 66 #[.pointer (some ⟨R, 0, none⟩), .int .i64 k] W fun e w' => e = .returned (.int .i64 (cutE E k)) ∧ Duo w' P n B R D (cutD E k) ∧ Frm P W w' := by
  obtain ⟨F1, F2, p1, p2, d, o1, o2⟩ := h
  refine (cut_ref o2 k hk).mono ?_
  rintro e w' ⟨rfl, q1, q2⟩
  exact ⟨rfl, ⟨F1, F2, p1, p2, d, o1.frm q2 (fun k _ h a => d k h a), q1⟩, q2.mono (fun k _ h => p2 k h)⟩
theorem Duo.crash_d (h : Duo W P n B R D E) (vk : Value) (kl : List Int) (hk : IntsAt W vk kl) (hks : kl.length ≤ 1000) (torn : Int) : Calls Tryz.prog 30 #[.pointer (some ⟨B, 0, none⟩), vk, .int .i64 torn] W fun e w' => e = .returned (.int .i64 0) ∧ Duo w' P n B R (crashD D kl torn) E ∧ Frm P W w' := by
  obtain ⟨F1, F2, p1, p2, d, o1, o2⟩ := h
  refine (crash_f o1 vk kl hk hks torn).mono ?_
  rintro e w' ⟨rfl, q1, q2⟩
  exact ⟨rfl, ⟨F1, F2, p1, p2, d, q1, o2.frm q2 (fun k _ h a => d k a h)⟩, q2.mono (fun k _ h => p1 k h)⟩
theorem Duo.crash_r (h : Duo W P n B R D E) (hp : E.pend.length ≤ 1000000) (vk : Value) (kl : List Int) (hk : IntsAt W vk kl) (torn : Int) : Calls Tryz.prog 67 #[.pointer (some ⟨R, 0, none⟩), vk, .int .i64 torn] W fun e w' => e = .returned (.tuple #[]) ∧ Duo w' P n B R D (crashD E kl torn) ∧ Frm P W w' := by
  obtain ⟨F1, F2, p1, p2, d, o1, o2⟩ := h
  refine (crash_ref o2 hp vk kl hk torn).mono ?_
  rintro e w' ⟨rfl, q1, q2⟩
  exact ⟨rfl, ⟨F1, F2, p1, p2, d, o1.frm q2 (fun k _ h a => d k h a), q1⟩, q2.mono (fun k _ h => p2 k h)⟩
end
theorem Duo.new {b1 : Nat} {w2 w3 : World} {n B R : Nat} {D E : DiskD} {vs : Value} (h1 : Own b1 w2 B n D) (hb : b1 ≤ w2.heap.size) (h2 : RefAt w3 R vs (.slice none 0 0) n E) (hI : Inv n E) (hR : w2.heap.size ≤ R) (hv : ∀ g, vs.ownBlock = some g → w2.heap.size ≤ g) (hb3 : Below w2.heap.size w2 w3) :
    Duo w3 (fun k => b1 ≤ k) n B R D E := by
  refine ⟨fun k => b1 ≤ k ∧ k < w2.heap.size, fun k => w2.heap.size ≤ k, fun k h => h.1, fun k h => by omega, fun k a b => by omega, (OwnF.mono h1 (G := fun k => b1 ≤ k ∧ k < w2.heap.size) (fun k hk h => ⟨h, hk⟩)).below hb3, ⟨vs, _, h2, hI, ?_⟩⟩
  rintro k (rfl | hk | hk)
  · exact hR
  · exact hv k hk
  · cases hk
theorem pend_write (D : DiskD) (o : Int) (s : ByteArray) : (writeD D o s).pend.length ≤ D.pend.length + 1 := by
  unfold writeD usedD
  split
  · split <;> simp
  · omega
theorem pend_sync (D : DiskD) : (syncD D).pend.length ≤ D.pend.length := by
  unfold syncD
  split
  · exact Nat.le_refl _
  · exact Nat.zero_le _
theorem pend_cut (D : DiskD) (k : Int) : (cutD D k).pend.length ≤ D.pend.length := by
  unfold cutD
  split <;> exact Nat.le_refl _
end Go.Proofs.YtnckpnbecmmcpaaGreatDoor
end
