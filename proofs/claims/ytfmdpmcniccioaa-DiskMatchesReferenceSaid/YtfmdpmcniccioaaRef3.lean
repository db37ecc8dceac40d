/- nadirref33: Read, Sync, Cut. -/
import Derived.Test.YtfmdpmcniccioaaRef2
namespace Go.Proofs.Ytfmdpmcniccioaa
open Go.RowKit Go.Shelf Lib

/-- A disk of the reference as a whole; its blocks lie in F. -/
def RefF (W : World) (R n : Nat) (D : DiskD) (F : Nat → Prop) : Prop := ∃ vs vl, RefAt W R vs vl n D ∧ Inv n D ∧ ∀ k, RFoot R vs vl k → F k
section
variable {W W' : World} {R n : Nat} {D : DiskD} {F G : Nat → Prop}
theorem RefF.inv (h : RefF W R n D F) : Inv n D := by obtain ⟨_, _, _, h, _⟩ := h; exact h
theorem RefF.mono (h : RefF W R n D F) (hFG : ∀ k, k < W.heap.size → F k → G k) : RefF W R n D G := by
  obtain ⟨a, b, h1, h2, h3⟩ := h; exact ⟨a, b, h1, h2, fun k hk => hFG k (h1.lt k hk) (h3 k hk)⟩
theorem RefF.frm (h : RefF W R n D F) (hf : Frm G W W') (hFG : ∀ k, k < W.heap.size → F k → ¬ G k) : RefF W' R n D F := by
  obtain ⟨a, b, h1, h2, h3⟩ := h; exact ⟨a, b, h1.frm hf (fun k hk => hFG k (h1.lt k hk) (h3 k hk)), h2, h3⟩
theorem RefF.below (h : RefF W R n D F) (hb : Below W.heap.size W W') : RefF W' R n D F := h.frm (G := fun _ => False) (Frm.of_below hb) (fun _ _ _ h => h)
end
/-- Bytes of an own row, as a string. -/
theorem conv_row {w : World} {base g n cap o k c : Nat} {b : List UInt8} (hg : w.ownsRow base 5 1 (.slice (some ⟨g, 0, none⟩) n cap) n (bcs b)) (h : o + k ≤ n) (a : Addr) (ha : 0 < k → a = ⟨g, o, none⟩) (hz : ∃ b' o', a = ⟨b', o', none⟩) :
    (convert 40 9 (.slice (some a) k c)).run Try.prog w = .ok (.string (subS b o k)) w := by
  obtain ⟨b', o', rfl⟩ := hz
  have hbl : b.length = n := by have := hg.1; rw [bcs_len] at this; omega
  have key : strOfNums (((b.drop o).take k).map fun x => (x.toNat : Int)) = subS b o k := by
    unfold strOfNums subS
    congr 1
    have hf : ((fun n : Int => UInt8.ofNat n.toNat) ∘ fun x : UInt8 => (x.toNat : Int)) = id := by funext x; simp
    rw [List.map_map, hf, List.map_id]
  rw [← key]
  refine run_convert_bytes_arg (P := Try.prog) w 40 5 Try.underlying40 Try.underlying5 b' o' k c _ (by simp; omega) (fun i hi => ?_) 9 Try.underlying9
  cases ha (by omega)
  refine (hg.cellAt _ (by omega)).trans ?_
  have hl : o + i < b.length := by omega
  have h1 : (bcs b)[o + i]? = some (.int .u8 ((b[o + i]'hl).toNat : Int)) := by simp [bcs, hl]
  rw [h1]
  congr 2
  rw [List.getD_eq_getElem?_getD, List.getElem?_map, List.getElem?_take, if_pos hi, List.getElem?_drop, List.getElem?_eq_getElem hl]
  rfl
set_option maxRecDepth 100000 in
set_option maxHeartbeats 2000000 in
theorem read_ref {W : World} {R n : Nat} {D : DiskD} {F : Nat → Prop} (h : RefF W R n D F) (hp : D.pend.length ≤ 1000000) (off k : Int) :
    Calls Try.prog 20 #[.pointer (some ⟨R, 0, none⟩), .int .i64 off, .int .i64 k] W fun e w' => e = .returned (.tuple #[.string (readS D off k), .int .i64 (readE D off k)]) ∧ Below W.heap.size W w' := by
  obtain ⟨vs, vl, hA, hI, -⟩ := h
  have hd := hI.dur
  have hn := hI.most
  have hvi := Lib.hid (visible_any hA hI hp)
  obtain ⟨sg, sc, rfl⟩ := Go.Joins.ownsRow_form hA.sure hI.pos
  have i0 := hA.box.cell 0
  have i2 := hA.box.cell 2
  simp only [List.getElem?_toArray, List.getElem?_cons_succ, List.getElem?_cons_zero] at i0 i2
  have HC : Hid (readE D off k = if D.off then 331 else if insideB n off k then 0 else 330) := by unfold readE; rw [hd]; rfl
  have HS : Hid (readS D off k = if readE D off k = 0 then subS D.vis off.toNat k.toNat else ⟨#[]⟩) := rfl
  clear hA hI hd
  cases hD : D.off with
  | true =>
    rw [hD] at i2
    have e1 : Hid (readE D off k = 331) := by rw [HC.out, hD]; rfl
    have e2 : Hid (readS D off k = ⟨#[]⟩) := by rw [HS.out, e1.out]; rfl
    clear hD hvi HC HS
    go_enter Try.func20, Try.ntmps20
    go_wp2
    go_ret2
    exact ⟨retS e2.out e1.out, Below.refl _ _⟩
  | false =>
    rw [hD] at i2
    have hbad : insideB n off k = false → Hid (readE D off k = 330 ∧ readS D off k = ⟨#[]⟩) := fun hq => by
      have e1 : readE D off k = 330 := by rw [HC.out, hD, hq]; rfl
      exact ⟨e1, by rw [HS.out, e1]; rfl⟩
    have hgood : insideB n off k = true → Hid (readE D off k = 0 ∧ readS D off k = subS D.vis off.toNat k.toNat) := fun hq => by
      have e1 : readE D off k = 0 := by rw [HC.out, hD, hq]; rfl
      exact ⟨e1, by rw [HS.out, e1]; rfl⟩
    have hno : ¬ (0 ≤ off ∧ 0 ≤ k ∧ off ≤ n ∧ k ≤ n - off) → insideB n off k = false := fun hq => by
      cases hb : insideB n off k with
      | false => rfl
      | true => exact absurd (inside_iff.1 hb) hq
    clear hD HC HS
    by_cases h1 : off < 0
    · have d1 : decide (off < 0) = true := decide_eq_true h1
      have HB := hbad (hno (by omega))
      clear hvi hbad hgood hno h1
      go_enter Try.func20, Try.ntmps20
      go_wp2
      go_ret2
      exact ⟨retS HB.out.2 HB.out.1, Below.refl _ _⟩
    · have d1 : decide (off < 0) = false := decide_eq_false h1
      by_cases h2 : k < 0
      · have d2 : decide (k < 0) = true := decide_eq_true h2
        have HB := hbad (hno (by omega))
        clear hvi hbad hgood hno h1 h2
        go_enter Try.func20, Try.ntmps20
        go_wp2
        go_ret2
        exact ⟨retS HB.out.2 HB.out.1, Below.refl _ _⟩
      · have d2 : decide (k < 0) = false := decide_eq_false h2
        by_cases h3 : (n : Int) < off
        · have d3 : decide ((n : Int) < off) = true := decide_eq_true h3
          have HB := hbad (hno (by omega))
          clear hvi hbad hgood hno h1 h2 h3
          go_enter Try.func20, Try.ntmps20
          go_wp2
          go_ret2
          exact ⟨retS HB.out.2 HB.out.1, Below.refl _ _⟩
        · have d3 : decide ((n : Int) < off) = false := decide_eq_false h3
          have hw : IntKind.i64.wrap ((n : Int) - off) = (n : Int) - off := wrapS _ (by omega) (by omega)
          by_cases h4 : (n : Int) - off < k
          · have d4 : decide ((n : Int) - off < k) = true := decide_eq_true h4
            have HB := hbad (hno (by omega))
            clear hvi hbad hgood hno h1 h2 h3 h4
            go_enter Try.func20, Try.ntmps20
            go_wp2
            go_ret2
            exact ⟨retS HB.out.2 HB.out.1, Below.refl _ _⟩
          · have d4 : decide ((n : Int) - off < k) = false := decide_eq_false h4
            have HB := hgood (inside_iff.2 (by omega))
            obtain ⟨o, rfl⟩ := Int.eq_ofNat_of_zero_le (show 0 ≤ off by omega)
            obtain ⟨l, rfl⟩ := Int.eq_ofNat_of_zero_le (show 0 ≤ k by omega)
            have hw2 : IntKind.i64.wrap ((o : Int) + (l : Int)) = ((o + l : Nat) : Int) := by rw [wrapS _ (by omega) (by omega)]; omega
            have ho1 : o ≤ n := by omega
            have ho2 : o + l ≤ n := by omega
            rw [Int.toNat_natCast, Int.toNat_natCast] at HB
            clear hbad hgood hno h1 h2 h3 h4
            go_enter Try.func20, Try.ntmps20
            go_wp2_with fail
            refine hvi.out.mono ?_
            rintro e w1 ⟨g, c, rfl, hown, hB1⟩
            have hcap : n ≤ c := by rcases hown.2 with ⟨q, -⟩ | ⟨g', c', cur, q, -, -, q2, -⟩; cases q; cases q; exact q2
            have hoi : (0 : Int) ≤ (o : Int) ∧ (o : Int) ≤ (c : Int) := by omega
            have hoi2 : (o : Int) ≤ ((o + l : Nat) : Int) ∧ ((o + l : Nat) : Int) ≤ (c : Int) := by omega
            have hsub : o + l - o = l := by omega
            have hconv := conv_row (c := c - o) hown (o := o) (k := l) ho2
            have hA1 : c = o → (convert 40 9 (.slice (some ⟨g, 0, none⟩) l (c - o))).run Try.prog w1 = .ok (.string (subS D.vis o l)) w1 := fun e => hconv ⟨g, 0, none⟩ (fun h => absurd h (by omega)) ⟨_, _, rfl⟩
            have hA2 : (convert 40 9 (.slice (some ⟨g, o, none⟩) l (c - o))).run Try.prog w1 = .ok (.string (subS D.vis o l)) w1 := hconv ⟨g, o, none⟩ (fun _ => rfl) ⟨_, _, rfl⟩
            have hA : (convert 40 9 (.slice (if c = o then some ⟨g, 0, none⟩ else some ⟨g, o, none⟩) l (c - o))).run Try.prog w1 = .ok (.string (subS D.vis o l)) w1 := by
              by_cases e : c = o
              · rw [if_pos e]; exact hA1 e
              · rw [if_neg e]; exact hA2
            have HBW := Lib.hid hB1
            clear hA1 hconv hvi hown hB1
            go_wp2
            all_goals (
              go_ret2
              exact ⟨retS HB.out.2 HB.out.1, HBW.out⟩)
set_option maxRecDepth 100000 in
theorem cut_ref {W : World} {R n : Nat} {D : DiskD} {F : Nat → Prop} (h : RefF W R n D F) (k : Int) (hk : k ≤ 9223372036854775807) :
    Calls Try.prog 32 #[.pointer (some ⟨R, 0, none⟩), .int .i64 k] W fun e w' => e = .returned (.int .i64 (cutE D k)) ∧ RefF w' R n (cutD D k) F ∧ Frm F W w' := by
  obtain ⟨vs, vl, hA, hI, hF⟩ := h
  have i2 := hA.box.cell 2
  have f2 := hA.box.frozen 2
  have i3 := hA.box.cell 3
  have f3 := hA.box.frozen 3
  simp only [List.getElem?_toArray, List.getElem?_cons_succ, List.getElem?_cons_zero] at i2 i3
  have HC : Hid (cutE D k = if D.off then 331 else if k < 0 then 2 else 0) := rfl
  have HD : Hid (cutD D k = if cutE D k = 0 then { D with off := decide (k = 0), left := k } else D) := rfl
  have H := Lib.hid (And.intro hA (And.intro hI hF))
  have hn1 := hA.neS
  have hn2 := hA.neL
  clear hA hI hF
  cases hD : D.off with
  | true =>
    rw [hD] at i2
    have e1 : Hid (cutE D k = 331) := by rw [HC.out, hD]; rfl
    have e2 : Hid (cutD D k = D) := by rw [HD.out, e1.out]; rfl
    clear hD
    go_enter Try.func32, Try.ntmps32
    go_wp2
    go_ret
    exact ⟨retI e1.out.symm, by rw [e2.out]; exact ⟨vs, vl, H.out.1, H.out.2.1, H.out.2.2⟩, Frm.refl _ _⟩
  | false =>
    rw [hD] at i2
    by_cases hk0 : k < 0
    · have e1 : Hid (cutE D k = 2) := by rw [HC.out, hD, if_pos hk0]; rfl
      have e2 : Hid (cutD D k = D) := by rw [HD.out, e1.out]; rfl
      have d1 : decide (k < 0) = true := decide_eq_true hk0
      clear hD
      go_enter Try.func32, Try.ntmps32
      go_wp2
      go_ret
      exact ⟨retI e1.out.symm, by rw [e2.out]; exact ⟨vs, vl, H.out.1, H.out.2.1, H.out.2.2⟩, Frm.refl _ _⟩
    · have e1 : Hid (cutE D k = 0) := by rw [HC.out, hD, if_neg hk0]; rfl
      have e2 : Hid (cutD D k = { D with off := decide (k = 0), left := k }) := by rw [HD.out, e1.out]; rfl
      have d1 : decide (k < 0) = false := decide_eq_false hk0
      have fin : ∀ b : Bool, decide (k = 0) = b → Hid (RefF ((W.setCell ⟨R, 3, none⟩ (.int .i64 k)).setCell ⟨R, 2, none⟩ (.bool b)) R n (cutD D k) F ∧ Frm F W ((W.setCell ⟨R, 3, none⟩ (.int .i64 k)).setCell ⟨R, 2, none⟩ (.bool b))) := by
        intro b hb
        have hR : F R := H.out.2.2 R (.inl rfl)
        have hfr : Frm (fun i => i = R) W ((W.setCell ⟨R, 3, none⟩ (.int .i64 k)).setCell ⟨R, 2, none⟩ (.bool b)) := ((Frm.refl (fun i => i = R) W).setCell (fun _ => rfl) _).setCell (fun _ => rfl) _
        refine ⟨⟨vs, vl, ⟨?_, ?_, ?_⟩, H.out.2.1.cut k hk, H.out.2.2⟩, hfr.mono (fun i _ e => e ▸ hR)⟩
        · rw [e2.out, hb]
          exact (H.out.1.box.set 3 (.int .i64 k)).set 2 (.bool b)
        · rw [e2.out]
          exact owned_kept H.out.1.sure (fun g hg => hfr.block g (H.out.1.sure.lt g hg).2 (fun e => hn1 g hg e))
        · rw [e2.out]
          exact owned_kept H.out.1.pen (fun g hg => hfr.block g (H.out.1.pen.lt g hg).2 (fun e => hn2 g hg e))
      have FIN := Lib.hid fin
      clear hD fin
      by_cases hz : k = 0
      · have q0 : (k == 0) = true := by rw [hz]; rfl
        have f := FIN.out true (decide_eq_true hz)
        clear FIN hz hk0
        go_enter Try.func32, Try.ntmps32
        go_wp2
        go_ret
        exact ⟨retI e1.out.symm, f.out.1, f.out.2⟩
      · have q0 : (k == 0) = false := beq_eq_false_iff_ne.2 hz
        have f := FIN.out false (decide_eq_false hz)
        clear FIN hz hk0
        go_enter Try.func32, Try.ntmps32
        go_wp2
        go_ret
        exact ⟨retI e1.out.symm, f.out.1, f.out.2⟩
set_option maxRecDepth 100000 in
theorem sync_ref {W : World} {R n : Nat} {D : DiskD} {F : Nat → Prop} (h : RefF W R n D F) (hF : ∀ k, W.heap.size ≤ k → F k) (hp : D.pend.length ≤ 1000000) :
    Calls Try.prog 31 #[.pointer (some ⟨R, 0, none⟩)] W fun e w' => e = .returned (.int .i64 (syncE D)) ∧ RefF w' R n (syncD D) F ∧ Frm F W w' := by
  obtain ⟨vs, vl, hA, hI, hFt⟩ := h
  have i2 := hA.box.cell 2
  simp only [List.getElem?_toArray, List.getElem?_cons_succ, List.getElem?_cons_zero] at i2
  have HE : Hid (syncE D = if D.off then 331 else 0) := rfl
  have HD : Hid (syncD D = if D.off then D else { D with dur := D.vis, pend := [] }) := rfl
  have hvi := Lib.hid (visible_any hA hI hp)
  have H := Lib.hid (And.intro hA (And.intro hI hFt))
  have hlt := hA.box.lt
  clear hA hI hFt
  cases hD : D.off with
  | true =>
    rw [hD] at i2
    have e1 : Hid (syncE D = 331) := by rw [HE.out, hD]; rfl
    have e2 : Hid (syncD D = D) := by rw [HD.out, hD]; rfl
    clear hD hvi
    go_enter Try.func31, Try.ntmps31
    go_wp2
    go_ret
    exact ⟨retI e1.out.symm, by rw [e2.out]; exact ⟨vs, vl, H.out.1, H.out.2.1, H.out.2.2⟩, Frm.refl _ _⟩
  | false =>
    rw [hD] at i2
    have e1 : Hid (syncE D = 0) := by rw [HE.out, hD]; rfl
    have e2 : Hid (syncD D = { D with dur := D.vis, pend := [] }) := by rw [HD.out, hD]; rfl
    have HIS := Lib.hid H.out.2.1.sync
    clear hD
    go_enter Try.func31, Try.ntmps31
    go_wp2_with fail
    refine hvi.out.mono ?_
    rintro e w1 ⟨g, c, rfl, hown, hB1⟩
    have hb1 := H.out.1.box.below hB1 hlt
    have j0 := hb1.cell 0
    have g0 := hb1.frozen 0
    have j1 := hb1.cell 1
    have g1 := hb1.frozen 1
    simp only [List.getElem?_toArray, List.getElem?_cons_succ, List.getElem?_cons_zero] at j0 j1
    have hgl := hown.lt g rfl
    have hfr : Frm (fun i => i = R) w1 ((w1.setCell ⟨R, 0, none⟩ (.slice (some ⟨g, 0, none⟩) n c)).setCell ⟨R, 1, none⟩ (.slice none 0 0)) := ((Frm.refl (fun i => i = R) w1).setCell (fun _ => rfl) _).setCell (fun _ => rfl) _
    have hR : F R := H.out.2.2 R (.inl rfl)
    have fin : RefF ((w1.setCell ⟨R, 0, none⟩ (.slice (some ⟨g, 0, none⟩) n c)).setCell ⟨R, 1, none⟩ (.slice none 0 0)) R n (syncD D) F ∧ Frm F W ((w1.setCell ⟨R, 0, none⟩ (.slice (some ⟨g, 0, none⟩) n c)).setCell ⟨R, 1, none⟩ (.slice none 0 0)) := by
      refine ⟨⟨.slice (some ⟨g, 0, none⟩) n c, .slice none 0 0, ⟨?_, ?_, ?_⟩, HIS.out, ?_⟩, (Frm.of_below hB1).trans hfr (fun i _ e => e ▸ hR)⟩
      · rw [e2.out]
        exact (hb1.set 0 _).set 1 _
      · rw [e2.out]
        exact ownsRow_base (owned_kept hown (fun i hi => hfr.block i (hown.lt i hi).2 (fun e => by have := (hown.lt i hi).1; omega))) (Nat.zero_le _)
      · rw [e2.out]
        exact World.ownsRow_nil _ _ _ _
      · rintro i (rfl | hi | hi)
        · exact hR
        · cases hi; exact hF _ hgl.1
        · cases hi
    have FIN := Lib.hid fin
    clear fin hfr hb1 hown hvi
    go_wp2
    go_ret
    exact ⟨retI e1.out.symm, FIN.out.1, FIN.out.2⟩
end Go.Proofs.Ytfmdpmcniccioaa
