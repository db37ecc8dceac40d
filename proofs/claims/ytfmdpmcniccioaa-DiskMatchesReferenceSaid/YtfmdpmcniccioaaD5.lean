/- package disk: Write, where it succeeds. -/
import Derived.Test.YtfmdpmcniccioaaD4
namespace Go.Proofs.Ytfmdpmcniccioaa
open Go.RowKit

theorem DiskAt.pushed {w W1 w5 : World} {B bD bV : Nat} {vp v' : Value} {n : Nat} {D : DiskD} (h : DiskAt w B bD bV vp n D) (o : Nat) (s : ByteArray) (hf : Frm (Foot B bD bV vp) w W1)
    (h1 : DiskAt W1 B bD bV vp n D) (hown : w5.ownsRow 0 69 2 v' (D.pend.length + 1) (wcs D.pend ++ [.int .i64 (o : Nat), .string s])) (hg : W1.grownBy w5 vp.ownBlock) :
    Blk w5 B (dkc D n bD bV vp) 65 ∧ DiskAt (w5.setCell ⟨B, 4, none⟩ v') B bD bV v' n { D with pend := D.pend ++ [⟨o, s⟩] } ∧ Frm (Foot B bD bV vp) w (w5.setCell ⟨B, 4, none⟩ v') := by
  have nP := h.neP
  have bB : Blk w5 B (dkc D n bD bV vp) 65 := (hg.block B h1.box.lt (fun e => (nP B e.symm).1 rfl)).trans h1.box
  have bd : Blk w5 bD (bcs D.dur).toArray 5 := (hg.block bD h1.dur.lt (fun e => (nP bD e.symm).2.1 rfl)).trans h1.dur
  have bv : Blk w5 bV (bcs D.vis).toArray 5 := (hg.block bV h1.vis.lt (fun e => (nP bV e.symm).2.2 rfl)).trans h1.vis
  refine ⟨bB, ⟨bB.set 4 v', bd.other _ h.neD.symm, bv.other _ h.neV.symm, ?_, h.ne⟩, (hf.grown hg (fun k hk _ => .inr (.inr (.inr hk)))).setCell (fun _ => .inl rfl) _⟩
  have e : wcs (D.pend ++ [⟨o, s⟩]) = wcs D.pend ++ [.int .i64 (o : Nat), .string s] := by rw [wcs_app]; rfl
  show (w5.setCell ⟨B, 4, none⟩ v').ownsRow 0 69 2 v' (D.pend ++ [(⟨o, s⟩ : WrD)]).length (wcs (D.pend ++ [⟨o, s⟩]))
  rw [e, List.length_append]
  refine owned_kept hown (fun g hgg => Below.heap_setCell _ _ _ _ (fun e => ?_))
  obtain ⟨cur, hb, -⟩ := owned_block hown hgg
  exact hb.ne bB (by decide) e
set_option maxRecDepth 100000 in
set_option maxHeartbeats 1000000 in
theorem write_yes {w : World} {B bD bV : Nat} {vp : Value} {n : Nat} {D : DiskD} (h : DiskAt w B bD bV vp n D) (hI : Inv n D) (hp : D.pend.length ≤ 1000000) (off : Int) (s : ByteArray) (he : writeE D off s = 0) :
    Calls Try.prog 21 #[.pointer (some ⟨B, 0, none⟩), .int .i64 off, .string s] w fun e w' => ∃ vp', e = .returned (.int .i64 (writeE D off s)) ∧ DiskAt w' B bD bV vp' n (writeD D off s) ∧
      (vp'.ownBlock = vp.ownBlock ∨ ∃ g, vp'.ownBlock = some g ∧ w.heap.size ≤ g) ∧ Frm (Foot B bD bV vp) w w' := by
  have hn := hI.most
  have hc := check_any h
  have hi := inside_any h hn off s.size
  have hwD : writeD D off s = usedD { D with pend := D.pend ++ [⟨off.toNat, s⟩], vis := putB D.vis off.toNat (bts s) } := by unfold writeD; rw [if_pos he]
  have hoff : D.off = false := by
    cases hD : D.off with
    | false => rfl
    | true => unfold writeE at he; rw [hD] at he; cases he
  have hin : insideB n off s.size = true := by
    unfold writeE at he; rw [hoff, hI.dur] at he
    cases hq : insideB n off s.size with
    | true => rfl
    | false => rw [hq] at he; cases he
  unfold checkE at hc
  rw [hoff] at hc
  rw [hin] at hi
  obtain ⟨q1, q2, q3, q4⟩ := inside_iff.1 hin
  obtain ⟨o, rfl⟩ := Int.eq_ofNat_of_zero_le q1
  rw [Int.toNat_natCast] at hwD
  have hfit : o + s.size ≤ n := by omega
  have HW := Lib.hid hwD
  have HE := Lib.hid he
  have HI := Lib.hid hI
  have H := Lib.hid h
  clear hwD he hI hoff hin q1 q2 q3 q4
  obtain ⟨pa, pc, rfl, hp1, hp2⟩ := owned_len h.pen
  have hA := h.below (W' := w.alloc (.cells #[.int .i64 (o : Nat), .string s] 69)) ((Below.refl _ _).alloc (Nat.le_refl _) _)
  have kA := Blk.new w #[.int .i64 (o : Nat), .string s] 69
  have hFA : Frm (Foot B bD bV (.slice pa D.pend.length pc)) w (w.alloc (.cells #[.int .i64 (o : Nat), .string s] 69)) := (Frm.refl _ _).alloc _
  have hAs : (w.alloc (.cells #[.int .i64 (o : Nat), .string s] 69)).heap.size = w.heap.size + 1 := by simp
  go_enter Try.func21, Try.ntmps21
  go_wp2_with fail
  refine hc.mono ?_
  rintro e w' ⟨rfl, rfl⟩
  clear hc
  go_wp2_with fail
  refine hi.mono ?_
  rintro e w' ⟨rfl, rfl⟩
  clear hi h
  go_wp2_with fail
  generalize w.alloc (.cells #[.int .i64 (o : Nat), .string s] 69) = W1 at hA kA hFA hAs ⊢
  have i4 := hA.box.cell 4
  have f4 := hA.box.frozen 4
  have i3 := hA.box.cell 3
  unfold dkc at i4 i3
  have a0 := kA.cell 0
  have a1 := kA.cell 1
  simp only [List.getElem?_toArray, List.getElem?_cons_succ, List.getElem?_cons_zero] at i4 i3 a0 a1
  have hX : Below W1.heap.size W1 (W1.alloc (.cells #[.int .i64 (o : Nat), .string s] 69)).drew := ((Below.refl _ _).alloc (Nat.le_refl _) _).drew
  have HX := Lib.hid (And.intro (hA.below hX) ((hFA.alloc (.cells #[.int .i64 (o : Nat), .string s] 69)).drew))
  have HOWN := Lib.hid (owned_below hA.pen hX)
  have HNW : Hid (∀ j u, ([.int .i64 (o : Nat), .string s] : List Value)[j]? = some u → (W1.alloc (.cells #[.int .i64 (o : Nat), .string s] 69)).drew.cell? ((⟨W1.heap.size, 0, none⟩ : Addr).add j) = some u) := fun j u hj => by rw [add_zero_off]; exact ((Blk.new W1 _ 69).cell j).trans (by simpa using hj)
  have HO1 : Hid (∀ u ∈ ([.int .i64 (o : Nat), .string s] : List Value), u.oneCell' = true) := fun u hu => by simp at hu; rcases hu with rfl | rfl <;> rfl
  have lB := hA.box.lt
  have lA := kA.lt
  have HA := Lib.hid hA
  have HKA := Lib.hid kA
  have HAS := Lib.hid hAs
  clear hA kA hX hFA hAs
  go_region_law (first | (refine step_push (w := (W1.alloc (.cells #[.int .i64 (o : Nat), .string s] 69)).drew) E63 rfl (.tmp 27) (.tmp 29) rfl 0 HOWN.out (by simp [Act.eval]) ⟨W1.heap.size, 0, none⟩ (by simp [Act.eval]) rfl HNW.out HO1.out (by unfold maxLen; omega) (by omega) (Nat.zero_le _) ?_; intro v' w5 hown' hgrow hwh; obtain ⟨hb5, h5, hF5⟩ := H.out.pushed o s HX.out.2 HX.out.1 hown' hgrow; obtain ⟨na, nc, rfl, hn1, hn2⟩ := owned_len hown'; have j4 := hb5.cell 4; have g4 := hb5.frozen 4; unfold dkc at j4; simp only [List.getElem?_toArray, List.getElem?_cons_succ, List.getElem?_cons_zero] at j4))
  all_goals (
    go_wp2_with fail
    have kA5 : Blk w5 w.heap.size #[.int .i64 (o : Nat), .string s] 69 := (hgrow.block w.heap.size (by show w.heap.size < (W1.alloc _).heap.size; simp; omega) (fun e => by have := H.out.lt _ (.inr (.inr (.inr e.symm))); omega)).trans (HKA.out.alloc (.cells #[.int .i64 (o : Nat), .string s] 69))
    have kA6 := kA5.other (a := ⟨B, 4, none⟩) (.slice na (D.pend.length + 1) nc) (by have := H.out.box.lt; simp; omega)
    have hw2 : (Value.slice na (D.pend.length + 1) nc).ownBlock = (Value.slice pa D.pend.length pc).ownBlock ∨ ∃ g, (Value.slice na (D.pend.length + 1) nc).ownBlock = some g ∧ w.heap.size ≤ g := by
      rcases hwh with h | h
      · exact .inl h
      · exact .inr ⟨_, h, by show w.heap.size ≤ (W1.alloc _).heap.size; simp; omega⟩
    have HWH := Lib.hid hw2
    clear hw2 hwh hgrow hown' hb5 j4 g4 i4 f4 i3 a0 a1 kA5
    generalize w5.setCell ⟨B, 4, none⟩ (.slice na (D.pend.length + 1) nc) = W2 at h5 hF5 kA6 ⊢
    have i3 := h5.box.cell 3
    unfold dkc at i3
    have a0 := kA6.cell 0
    have a1 := kA6.cell 1
    simp only [List.getElem?_toArray, List.getElem?_cons_succ, List.getElem?_cons_zero] at i3 a0 a1
    have hv := HI.out.visLen
    have h5d := h5.below (W' := W2.drew) (Below.refl _ _).drew
    have hon := onto_any (n := n) h5d.vis hv o s hfit
    have HF := Lib.hid (hF5.drew)
    have HD := Lib.hid h5d
    clear h5 hF5 h5d hv kA6
    go_still_tail 5, (by kernel_rfl)
    change wpList _ _ _ _ _ W2.drew
    clear i3 a0 a1
    go_wp2_with fail
    refine hon.mono ?_
    rintro e w6 ⟨rfl, hV, hf6⟩
    have h6 : DiskAt w6 B bD bV (.slice na (D.pend.length + 1) nc) n { D with pend := D.pend ++ [⟨o, s⟩], vis := putB D.vis o (bts s) } :=
      ⟨HD.out.box.frm hf6 HD.out.neV, HD.out.dur.frm hf6 HD.out.ne, hV, owned_kept HD.out.pen (fun g hg => hf6.block g (HD.out.pen.lt g hg).2 (HD.out.neP g hg).2.2), HD.out.ne⟩
    have hu := used_any h6 HI.out.left HI.out.leftM
    have HF6 := Lib.hid (HF.out.trans hf6 (fun i _ e => .inr (.inr (.inl e))))
    clear hon hf6 hV h6
    go_wp2_with fail
    refine hu.mono ?_
    rintro e w7 ⟨rfl, h7, hf7⟩
    clear hu
    go_wp2
    go_ret
    exact ⟨_, retI HE.out.symm, by rw [HW.out]; exact h7, HWH.out, HF6.out.trans hf7 (fun i _ e => .inl e)⟩)
end Go.Proofs.Ytfmdpmcniccioaa
