/- nadirref33: a disk of the reference in memory; apply, has, New, Visible. -/
import Derived.Test.YtfmdpmcniccioaaOn3
import Derived.StillTailTactics
namespace Go.Proofs.Ytfmdpmcniccioaa
open Go.RowKit Go.Shelf Lib

/-- A disk of the reference at block R: its four cells, the durable content, the row of pending writes. -/
structure RefAt (W : World) (R : Nat) (vs vl : Value) (n : Nat) (D : DiskD) : Prop where
  box : Blk W R #[vs, vl, .bool D.off, .int .i64 D.left] 43
  sure : W.ownsRow 0 5 1 vs n (bcs D.dur)
  pen : W.ownsRow 0 80 2 vl D.pend.length (wcs D.pend)
def RFoot (R : Nat) (vs vl : Value) (k : Nat) : Prop := k = R ∨ vs.ownBlock = some k ∨ vl.ownBlock = some k
section
variable {W W' : World} {R : Nat} {vs vl : Value} {n : Nat} {D : DiskD}
theorem RefAt.lt (h : RefAt W R vs vl n D) : ∀ k, RFoot R vs vl k → k < W.heap.size := by
  rintro k (rfl | hk | hk)
  · exact h.box.lt
  · exact (h.sure.lt k hk).2
  · exact (h.pen.lt k hk).2
theorem RefAt.frm {F : Nat → Prop} (h : RefAt W R vs vl n D) (hf : Frm F W W') (hF : ∀ k, RFoot R vs vl k → ¬ F k) : RefAt W' R vs vl n D :=
  ⟨h.box.frm hf (hF _ (.inl rfl)), owned_kept h.sure (fun g hg => hf.block g (h.sure.lt g hg).2 (hF _ (.inr (.inl hg)))), owned_kept h.pen (fun g hg => hf.block g (h.pen.lt g hg).2 (hF _ (.inr (.inr hg))))⟩
theorem RefAt.below (h : RefAt W R vs vl n D) (hb : Below W.heap.size W W') : RefAt W' R vs vl n D :=
  h.frm (F := fun _ => False) (Frm.of_below hb) (fun _ _ h => h)
theorem RefAt.neS (h : RefAt W R vs vl n D) : ∀ g, vs.ownBlock = some g → g ≠ R := fun g hg => by
  obtain ⟨cur, hb, -⟩ := owned_block h.sure hg
  exact hb.ne h.box (by decide)
theorem RefAt.neL (h : RefAt W R vs vl n D) : ∀ g, vl.ownBlock = some g → g ≠ R := fun g hg => by
  obtain ⟨cur, hb, -⟩ := owned_block h.pen hg
  exact hb.ne h.box (by decide)
end
theorem owned_ne {W : World} {b1 b2 e1 e2 k1 k2 n1 n2 : Nat} {v1 v2 : Value} {x1 x2 : List Value} (h1 : W.ownsRow b1 e1 k1 v1 n1 x1) (h2 : W.ownsRow b2 e2 k2 v2 n2 x2) (he : e1 ≠ e2) : ∀ g, v1.ownBlock = some g → v2.ownBlock ≠ some g := fun g q1 q2 => by
  obtain ⟨c1, hb1, -⟩ := owned_block h1 q1
  obtain ⟨c2, hb2, -⟩ := owned_block h2 q2
  exact hb1.ne hb2 he rfl
theorem bcs_setL (b : List UInt8) (i : Nat) (x : UInt8) : (bcs b).set i (.int .u8 (x.toNat : Int)) = bcs (b.set i x) := by
  simp [bcs, List.map_set]
set_option maxRecDepth 100000 in
theorem apply_any {w : World} {base g c n : Nat} {b : List UInt8} (hg : w.ownsRow base 5 1 (.slice (some ⟨g, 0, none⟩) n c) n (bcs b)) (hb : b.length = n) (hn : n ≤ 4194304) (o : Nat) (s : ByteArray) (hfit : o + s.size ≤ n) :
    Calls Try.prog 44 #[.slice (some ⟨g, 0, none⟩) n c, .int .i64 (o : Nat), .string s] w fun e w' => e = .returned (.tuple #[]) ∧ w'.ownsRow base 5 1 (.slice (some ⟨g, 0, none⟩) n c) n (bcs (putB b o (bts s))) ∧ Frm (fun k => k = g) w w' := by
  have hsz : (bts s).length = s.size := rfl
  have HB := Lib.hid (fun k (hk : k < s.size) => putB_step b o k (bts s) hk (by rw [hb]; exact hfit))
  have HG := Lib.hid hg
  have hbl := Lib.hid (fun k (hk : k ≤ s.size) => show (putB b o ((bts s).take k)).length = n by rw [putB_len (by rw [List.length_take, hb, hsz]; omega), hb])
  clear hg hb hsz
  go_enter Try.func44, Try.ntmps44
  go_wp2
  go_loopw [6] (fun u6 wr => ∃ k : Nat, k ≤ s.size ∧ u6 = .int .i64 k ∧ wr.ownsRow base 5 1 (.slice (some ⟨g, 0, none⟩) n c) n (bcs (putB b o ((bts s).take k))) ∧ Frm (fun i => i = g) w wr) (fun u6 _ => (s.size - intOf u6).toNat)
  case atStart => exact ⟨0, by omega, rfl, by rw [List.take_zero, putB_zero]; exact HG.out, Frm.refl _ _⟩
  case round =>
    obtain ⟨k, hk, rfl, hgk, hfk⟩ := hrel
    by_cases hkl : k < s.size
    · have hx : Hid ((bts s).getD k 0 = s[k]) := by show _ = _; rw [List.getD_eq_getElem?_getD, List.getElem?_eq_getElem (show k < (bts s).length from hkl)]; rfl
      have hstep := HB.out k hkl
      have hcell : ∃ y, wr.cell? ⟨g, o + k, none⟩ = some y := by
        have hl := hbl.out k (by omega)
        refine ⟨_, (hgk.cellAt (o + k) (by omega)).trans (List.getElem?_eq_getElem ?_)⟩
        rw [bcs_len]; omega
      obtain ⟨y, hcell⟩ := hcell
      have hfz := hgk.frozenAt (o + k)
      have hki : (0 : Int) ≤ (k : Int) ∧ (k : Int) < (s.size : Int) := by omega
      have hoi : (0 : Int) ≤ (o : Int) + (k : Int) ∧ (o : Int) + (k : Int) < (n : Int) := by omega
      have hw : IntKind.i64.wrap ((o : Int) + (k : Int)) = (o : Int) + (k : Int) := wrapS _ (by omega) (by omega)
      have hnat : ((o : Int) + (k : Int)).toNat = o + k := by omega
      have hgs := (hgk.stored (o + k) (.int .u8 (s[k].toNat : Int))).1
      rw [bcs_setL, ← hx.out, hstep] at hgs
      have HGS := Lib.hid hgs
      clear hgs hgk hstep
      go_wp2
      go_roundw
      case rel => exact ⟨k + 1, by omega, by go_num, by have := HGS.out; rw [hx.out] at this; exact this, hfk.setCell (fun _ => rfl) _⟩
      case measure => simp [intOf]; omega
    · obtain rfl : k = s.size := by omega
      go_wp2
      go_end0
      exact ⟨rfl, by rw [List.take_of_length_le (show (bts s).length ≤ s.size from Nat.le_refl _)] at hgk; exact hgk, hfk⟩
theorem retBo {a b : Bool} (h : a = b) : Ending.returned (.bool a) = .returned (.bool b) := by rw [h]
set_option maxRecDepth 100000 in
theorem has_any {w : World} (vk : Value) (kl : List Int) (hk : IntsAt w vk kl) (x : Int) : Calls Try.prog 43 #[vk, .int .i64 x] w fun e w' => e = .returned (.bool (decide (x ∈ kl))) ∧ w = w' := by
  obtain ⟨ka, kc, rfl, h1, h2⟩ := hk.len
  unfold maxLen at h2
  have HK := Lib.hid hk
  have HX : Hid (∀ i, i < kl.length → (∀ j, j < i → kl[j]? ≠ some x) → kl[i]? = some x → decide (x ∈ kl) = true) := fun i hi _ he => decide_eq_true (List.mem_of_getElem? he)
  clear hk
  go_enter Try.func43, Try.ntmps43
  go_wp2
  go_loopw [5] (fun u5 wr => ∃ k : Nat, k ≤ kl.length ∧ u5 = .int .i64 k ∧ Hid (∀ j, j < k → kl[j]? ≠ some x) ∧ wr = w) (fun u5 _ => (kl.length - intOf u5).toNat)
  case atStart => exact ⟨0, by omega, rfl, fun j hj => absurd hj (by omega), rfl⟩
  case round =>
    obtain ⟨k, hk, rfl, hno, rfl⟩ := hrel
    by_cases hkl : k < kl.length
    · have hx := List.getElem?_eq_getElem hkl
      generalize kl[k] = y at hx
      obtain ⟨kb, ko, rfl, kcell⟩ := HK.out.get hx
      have hki : (0 : Int) ≤ (k : Int) ∧ (k : Int) < (kl.length : Int) := by omega
      by_cases hy : y = x
      · subst hy
        have hm : Hid (decide (y ∈ kl) = true) := HX.out k hkl hno.out hx
        clear hx
        go_wp2
        go_ret
        exact ⟨retBo hm.out.symm, rfl⟩
      · have dy : (y == x) = false := beq_eq_false_iff_ne.2 hy
        have hno2 : Hid (∀ j, j < k + 1 → kl[j]? ≠ some x) := fun j hj e => by
          by_cases hjk : j = k
          · subst hjk; rw [hx] at e; exact hy (Option.some.inj e)
          · exact hno.out j (by omega) e
        clear hx hno
        go_wp2
        go_roundw
        case rel => exact ⟨k + 1, by omega, by go_num, hno2, trivial⟩
        case measure => simp [intOf]; omega
    · obtain rfl : k = kl.length := by omega
      have hm : Hid (decide (x ∈ kl) = false) := decide_eq_false fun hmem => by
        obtain ⟨j, hj, e⟩ := List.getElem_of_mem hmem
        exact hno.out j hj (by rw [List.getElem?_eq_getElem hj, e])
      go_wp2
      go_ret
      exact ⟨retBo hm.out.symm, rfl⟩
set_option maxRecDepth 100000 in
theorem new_ref (n : Nat) (w : World) (h1 : 1 ≤ n) (h2 : n ≤ 4194304) : Calls Try.prog 18 #[.int .i64 (n : Nat)] w fun e w' => ∃ R vs, e = .returned (.tuple #[.pointer (some ⟨R, 0, none⟩), .int .i64 0]) ∧
    RefAt w' R vs (.slice none 0 0) n (newD n) ∧ w.heap.size ≤ R ∧ (∀ g, vs.ownBlock = some g → w.heap.size ≤ g) ∧ Below w.heap.size w w' := by
  have d1 : decide ((n : Int) < 1) = false := decide_eq_false (by omega)
  have d2 : decide ((4194304 : Int) < (n : Int)) = false := decide_eq_false (by omega)
  have hmk := mk40 n h2
  have H := Lib.hid (And.intro h1 h2)
  clear h1 h2
  go_enter Try.func18, Try.ntmps18
  go_wp2
  go_ret2
  have hA : Below w.heap.size w (w.alloc (.cells (bcs (List.replicate n 0)).toArray 5)) := (Below.refl _ _).alloc (Nat.le_refl _) _
  have ka := (World.ownsRow_lit (base := 0) (e := 5) (size := 1) w (bcs (List.replicate n 0)).toArray n (Nat.zero_le _) (by have := H.out.2; unfold maxLen; omega) (by simp [bcs_len]))
  exact ⟨_, _, rfl, ⟨Blk.newAt _ _ _ (by simp), ka.alloc _, World.ownsRow_nil _ _ _ _⟩, by omega, fun g hg => by cases hg; exact Nat.le_refl _, hA.alloc (by simp) _⟩
end Go.Proofs.Ytfmdpmcniccioaa
