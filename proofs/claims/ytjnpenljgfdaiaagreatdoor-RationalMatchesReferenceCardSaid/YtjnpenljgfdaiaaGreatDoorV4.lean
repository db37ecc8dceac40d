/- package integer: the number that a string is. -/
import Derived.Lib.AtoiErrMem
import Derived.Test.YtjnpenljgfdaiaaGreatDoorV3
namespace Go.Proofs.YtjnpenljgfdaiaaGreatDoor
open Go.RowKit Go.Shelf Lib

theorem neg_pos {l : List UInt8} (h : N3.isI l = true) (hl : (N3.bare l).length < l.length) : N3.decV (N3.bare l) ≠ 0 := by
  intro h0
  have h1 := (N3.itoa_intV h).1
  rw [N3.intV_bare, h0] at h1
  have h2 : N3.sgn (decide ((N3.bare l).length < l.length)) 0 = 0 := by unfold N3.sgn; split <;> rfl
  rw [h2, N3.itoa_zero] at h1
  rw [← h1] at hl
  exact absurd hl (by decide)
theorem okS_bare {s : ByteArray} (h : N3.okS s = true) : N3.bare s.data.toList ≠ [] ∧ (N3.bare s.data.toList).length ≤ 200 ∧ (N3.bare s.data.toList).all N3.isD = true := by
  unfold N3.okS at h
  rw [N3.isI_bare] at h
  simp only [Bool.and_eq_true, decide_eq_true_eq, Bool.not_eq_true'] at h
  exact ⟨fun e => by rw [e] at h; exact absurd h.1 (by decide), h.2.1, h.2.2.1⟩
theorem ownsRow_setCell_off {w : World} {base e size n : Nat} {v : Value} {xs : List Value} (h : w.ownsRow base e size v n xs) {B : Nat} (hB : B < base) (i : Nat) (u : Value) : (w.setCell ⟨B, i, none⟩ u).ownsRow base e size v n xs := by
  refine ⟨h.1, h.2.imp_right fun ⟨g, cap, cur, h1, h2, h3, h4⟩ => ⟨g, cap, cur, h1, h2, ?_, h4⟩⟩
  rw [Below.heap_setCell _ _ _ _ (by dsimp only; omega)]
  exact h3
theorem extr_end (s : ByteArray) (a : Nat) : (s.extract a s.size).data.toList = s.data.toList.drop a := by
  rw [ByteArray.data_extract, Array.toList_extract, List.extract_eq_take_drop, List.take_of_length_le (by rw [List.length_drop, Lib.size_eq]; omega)]
theorem extr_head (s : ByteArray) (a : Nat) : (s.extract 0 a).data.toList = s.data.toList.take a := by
  rw [ByteArray.data_extract, Array.toList_extract, List.extract_eq_take_drop, List.drop_zero, Nat.sub_zero]
set_option maxRecDepth 100000 in
set_option maxHeartbeats 1000000 in
theorem parse_any (s : ByteArray) (w : World) (_hs : s.size ≤ 9223372036854775807) (hok : N3.okS s = true) :
    Calls Tryz.prog 113 #[.string s] w fun e w' => ∃ b v n, e = .returned (.agg #[.bool b, v]) ∧ NumAt w' v n ∧ N3.sgn b n = N3.iV s ∧ (b = true → n ≠ 0) ∧ Below w.heap.size w w' := by
  obtain ⟨d1, d2, d3⟩ := okS_bare hok
  have hiv : N3.iV s = N3.sgn (decide ((N3.bare s.data.toList).length < s.data.toList.length)) (N3.decV (N3.bare s.data.toList)) := N3.intV_bare _
  rw [hiv]
  have hnz := fun h => neg_pos (l := s.data.toList) hok h
  have hp := Tryz.strings_TrimPrefix s ⟨#[45]⟩ (w.alloc (.cells #[.bool false, .slice none 0 0] 90))
  rw [show (⟨#[45]⟩ : ByteArray).data.toList = [45] from rfl, N3.prefix_bare] at hp
  have hsl : s.data.toList.length = s.size := (Lib.size_eq s).symm
  rw [hsl]
  rw [hsl] at hnz
  generalize N3.bare s.data.toList = d at *
  obtain ⟨D, hD⟩ : ∃ D : ByteArray, D = ⟨d.toArray⟩ := ⟨_, rfl⟩
  rw [← hD] at hp
  have hDd : D.data.toList = d := by rw [hD]
  have hDs : D.size = d.length := by rw [Lib.size_eq, hDd]
  have HP := Lib.hid hp
  rw [← hDs]
  rw [← hDs] at hnz
  have HNZ := Lib.hid (fun (h : decide (D.size < s.size) = true) => hnz (of_decide_eq_true h))
  clear hD hiv hp hDs hnz
  have HSL := Lib.hid hsl
  clear hsl
  go_enter Tryz.func113, Tryz.ntmps113
  go_wp2_with fail
  refine HP.out.mono ?_
  rintro e w' ⟨rfl, rfl⟩
  go_wp2_with fail
  go_loopw [3, 5, 6, 7] (fun u3 _ _ _ wr => ∃ (t : Nat) (g : List Nat) (v : Value), g.length + t ≤ d.length ∧ u3 = .string ⟨(d.take t).toArray⟩ ∧ BlkT wr w.heap.size #[.bool false, .slice none 0 0] 90 ∧ BlkT wr (w.heap.size + 1) #[.bool (decide (D.size < s.size)), v] 90 ∧ wr.ownsRow (w.heap.size + 2) 3 1 v g.length ((castL g).map (Value.int .i64)) ∧ N3.OKl g ∧ N3.val g = N3.decV (d.drop t) ∧ (t = 0 ∨ 10000 ^ g.length = 10 ^ (d.length - t)) ∧ Below w.heap.size w wr) (fun u3 _ _ _ _ => match u3 with | .string x => x.size | _ => 0)
  case atStart =>
    refine ⟨d.length, [], .slice none 0 0, by simp, ?_, (BlkT.newAt _ _ _ rfl).alloc _, BlkT.newAt _ _ _ (by simp), ⟨rfl, .inl ⟨rfl, rfl⟩⟩, fun x hx => by (cases hx), ?_, .inr ?_, ((Below.refl _ _).alloc (Nat.le_refl _) _).alloc (by simp) _⟩
    · rw [List.take_length]; exact congrArg Value.string (bytes_ext hDd)
    · rw [List.drop_length]; rfl
    · rw [Nat.sub_self]; rfl
  case round =>
    obtain ⟨t, g, v, hgt, rfl, hb1, hb2, hown, hok2, hval, hpow, hB⟩ := hrel
    have ht : t ≤ d.length := by omega
    by_cases h0 : 0 < t
    · obtain ⟨S, hS⟩ : ∃ S : ByteArray, S = ⟨(d.take t).toArray⟩ := ⟨_, rfl⟩
      rw [← hS]
      have hSd : S.data.toList = d.take t := by rw [hS]
      have hSs : S.size = t := by rw [Lib.size_eq, hSd, List.length_take]; omega
      obtain ⟨f, hf⟩ : ∃ f, f = t - 4 := ⟨_, rfl⟩
      have hw : IntKind.i64.wrap ((S.size : Int) - 4) = (S.size : Int) - 4 := by rw [IntKind.wrap_i64]; omega
      have hm1 : max (0 : Int) ((S.size : Int) - 4) = (f : Int) := by omega
      have hm2 : (if (0 : Int) < (S.size : Int) - 4 then (S.size : Int) - 4 else 0) = (f : Int) := by split <;> omega
      have hm3 : (if (S.size : Int) - 4 < 0 then (0 : Int) else (S.size : Int) - 4) = (f : Int) := by split <;> omega
      have hS0 : 0 < S.size := by omega
      have hfb : (0 : Int) ≤ (f : Int) ∧ (f : Int) ≤ (S.size : Int) := by omega
      clear hS
      have HSD := Lib.hid hSd
      have HSS := Lib.hid hSs
      have HF := Lib.hid hf
      clear hSd hSs hf
      have hin : (S.extract f S.size).data.toList = (d.take t).drop f := by rw [extr_end, HSD.out]
      have hpre : (S.extract 0 f).data.toList = d.take f := by rw [extr_head, HSD.out, List.take_take, Nat.min_eq_left (by have := HF.out; omega)]
      have hne : (d.take t).drop f ≠ [] := fun e => by
        have := congrArg List.length e
        rw [List.length_drop, List.length_take, List.length_nil] at this
        have := HF.out; omega
      have hall : ((d.take t).drop f).all N3.isD = true := List.all_eq_true.2 fun x hx => List.all_eq_true.1 d3 x (List.mem_of_mem_take (List.mem_of_mem_drop hx))
      have hlenp : ((d.take t).drop f).length = t - f := by rw [List.length_drop, List.length_take]; omega
      have hat := Tryz.strconv_Atoi (S.extract f S.size) (N3.decV ((d.take t).drop f) : Nat) (by rw [ByteArray.size_extract]; have := HF.out; have := HSS.out; omega) (by rw [hin]; exact N3.atoi_isD hall hne) wr
      have hx4 : N3.decV ((d.take t).drop f) < 10000 := by
        have h1 := N3.decV_lt _ hall
        rw [hlenp] at h1
        have h2 := Nat.pow_le_pow_right (show 0 < 10 by decide) (show t - f ≤ 4 by have := HF.out; omega)
        omega
      have hstep : N3.val (g ++ [N3.decV ((d.take t).drop f)]) = N3.decV (d.drop f) := N3.parse_step g (by have := HF.out; omega) ht (by rcases hpow with h | h; omega; exact h) hval
      generalize N3.decV ((d.take t).drop f) = x at hat hx4 hstep
      have HAT := Lib.hid hat
      have HST := Lib.hid hstep
      have HPW := Lib.hid hpow
      have HVL := Lib.hid hval
      have HPR := Lib.hid hpre
      obtain ⟨va, vc, rfl, vr1, vr2⟩ := owned_len hown
      clear hat hstep hpow hval hin hpre hne hall hlenp
      have e2 := hb2.cell 1
      simp at e2
      go_wp2_with fail
      refine HAT.out.mono ?_
      rintro e w1 ⟨rfl, tt, hw1⟩
      have hB1 : Below wr.heap.size wr w1 := by rw [hw1]; exact Lib.bytesWorld_below _ _ _
      clear hw1
      have hown1 := owned_below hown hB1
      have hs1 : wr.heap.size ≤ w1.heap.size := hB1.size
      have c1 := hb1.below hB1 hb1.lt
      have c2 := hb2.below hB1 hb2.lt
      have e2 := c2.cell 1
      simp at e2
      have e2f := c2.frozen 1
      have hsz := hb2.lt
      have hBx := hB.size
      go_wp2_with (at_builtin; refine wpList_push E88 rfl _ _ rfl (w.heap.size + 2) hown1 rfl rfl rfl (by unfold maxLen; omega) (by omega) (by omega) ?_; intro v' w3 ho3 hg3 hB3; have c3 := c2.below hB3 (by omega); have e3 := c3.cell 1; simp at e3; have e3f := c3.frozen 1; obtain ⟨va3, vc3, rfl, vr31, vr32⟩ := owned_len ho3)
      go_roundw
      case rel =>
        have hF := HF.out
        refine ⟨f, g ++ [x], _, by simp; omega, congrArg Value.string (bytes_ext (by rw [HPR.out])), (c1.below hB3 (by omega)).other _ (by dsimp only; omega), by simpa using c3.set 1 (.slice va3 (g.length + 1) vc3), ?_, ?_, HST.out, ?_, ((hB.trans (hB1.mono hBx)).trans (hB3.mono (by omega))).setCell (by dsimp only; omega) _⟩
        · have e : (castL (g ++ [x])).map (Value.int .i64) = (castL g).map (Value.int .i64) ++ [.int .i64 (x : Int)] := by unfold castL; rw [List.map_append, List.map_append]; rfl
          rw [e, List.length_append, List.length_singleton]
          exact ownsRow_setCell_off ho3 (by omega) _ _
        · intro y hy
          rcases List.mem_append.1 hy with hy | hy
          · exact hok2 y hy
          · rw [List.mem_singleton.1 hy]; exact hx4
        · rcases HPW.out with h | h
          · omega
          · by_cases h4 : 4 ≤ t
            · right
              rw [List.length_append, List.length_singleton, Nat.pow_succ, h, show d.length - f = (d.length - t) + 4 by omega, Nat.pow_add]
            · left; omega
      case measure =>
        have hF := HF.out
        have hS := HSS.out
        simp [ByteArray.size_extract]
        omega
    · obtain rfl : t = 0 := by omega
      have hS0 : (⟨(List.take 0 d).toArray⟩ : ByteArray).size = 0 := rfl
      generalize (⟨(List.take 0 d).toArray⟩ : ByteArray) = S at hS0
      rw [List.drop_zero] at hval
      have hvi : IntsAt wr v (castL g) := owned_slice (B := w.heap.size + 2) (e := 3) (by rw [castL_len]; exact hown)
      have htr := trimmed_any v g wr hvi hok2
      rw [hval] at htr
      obtain ⟨va, vc, rfl, vr1, vr2⟩ := owned_len hown
      have e2 := hb2.cell 1
      simp at e2
      have e2f := hb2.frozen 1
      have HTR := Lib.hid htr
      clear htr hvi hown hval hpow
      go_wp2_with fail
      refine HTR.out.mono ?_
      rintro e w4 ⟨v4, rfl, hn4, rfl⟩
      obtain ⟨a4, c4, rfl, q41, q42⟩ := (show IntsAt _ v4 _ from hn4).len
      have e1 := hb2.cell 0
      simp at e1
      have e3 := hb1.cell 0
      have e3f := hb1.frozen 0
      have e4 := hb1.cell 1
      have e4f := hb1.frozen 1
      simp at e3 e4
      go_wp2_with fail
      have f2 : BlkT (((wr.setCell ⟨w.heap.size + 1, 1, none⟩ (.slice a4 (castL (N3.toG (N3.decV d))).length c4)).setCell ⟨w.heap.size, 0, none⟩ (.bool (decide (D.size < s.size)))).setCell ⟨w.heap.size, 1, none⟩ (.slice a4 (castL (N3.toG (N3.decV d))).length c4)) w.heap.size #[.bool (decide (D.size < s.size)), .slice a4 (castL (N3.toG (N3.decV d))).length c4] 90 := by
        simpa using ((hb1.other (.slice a4 (castL (N3.toG (N3.decV d))).length c4) (a := ⟨w.heap.size + 1, 1, none⟩) (by dsimp only; omega)).set 0 (.bool (decide (D.size < s.size)))).set 1 (.slice a4 (castL (N3.toG (N3.decV d))).length c4)
      have f3 : NumAt (((wr.setCell ⟨w.heap.size + 1, 1, none⟩ (.slice a4 (castL (N3.toG (N3.decV d))).length c4)).setCell ⟨w.heap.size, 0, none⟩ (.bool (decide (D.size < s.size)))).setCell ⟨w.heap.size, 1, none⟩ (.slice a4 (castL (N3.toG (N3.decV d))).length c4)) (.slice a4 (castL (N3.toG (N3.decV d))).length c4) (N3.decV d) := by
        have k1 := hb1.other (.slice a4 (castL (N3.toG (N3.decV d))).length c4) (a := ⟨w.heap.size + 1, 1, none⟩) (by dsimp only; omega)
        refine IntsAt.setSlot (IntsAt.setSlot (IntsAt.setSlot hn4 hb2 (i := 1) (by simp) _) k1 (i := 0) (by simp) _) (k1.set 0 (.bool (decide (D.size < s.size)))) (i := 1) (by simp) _
      have f4 : Below w.heap.size w (((wr.setCell ⟨w.heap.size + 1, 1, none⟩ (.slice a4 (castL (N3.toG (N3.decV d))).length c4)).setCell ⟨w.heap.size, 0, none⟩ (.bool (decide (D.size < s.size)))).setCell ⟨w.heap.size, 1, none⟩ (.slice a4 (castL (N3.toG (N3.decV d))).length c4)) := ((hB.setCell (by dsimp only; omega) _).setCell (by dsimp only; omega) _).setCell (by dsimp only; omega) _
      generalize World.setCell _ _ _ = WF at f2 f3 f4 ⊢
      have r1 := f2.cell 0
      have r2 := f2.cell 1
      simp at r1 r2
      refine bodyPost_ret (v := .agg #[.bool (decide (D.size < s.size)), .slice a4 (castL (N3.toG (N3.decV d))).length c4]) (by simp [results, Tryz.results113, go_sem, r1, r2]) rfl ?_
      exact ⟨_, _, _, rfl, f3, rfl, HNZ.out, f4⟩
end Go.Proofs.YtjnpenljgfdaiaaGreatDoor
