/- package rational: check, reduced, Make, Of. -/
import Derived.Test.YtjnpenljgfdaiaaGreatDoorQ1
namespace Go.Proofs.YtjnpenljgfdaiaaGreatDoor
open Go.RowKit Go.Shelf Lib

/-- What 'check' leaves in the cell. -/
def chk (b : Bool) (v : Bool) : Bool := b || !v
def chkL (b : Bool) (l : List (ByteArray × ByteArray)) : Bool := l.foldl (fun b r => chk b (validR r.1 r.2)) b
def flatR (l : List (ByteArray × ByteArray)) : List Value := l.flatMap fun r => [.string r.1, .string r.2]
theorem flat_get {l : List (ByteArray × ByteArray)} {i : Nat} (h : i < l.length) : (flatR l)[i * 2]? = some (.string (l[i]).1) ∧ (flatR l)[i * 2 + 1]? = some (.string (l[i]).2) := by
  induction l generalizing i with
  | nil => exact absurd h (Nat.not_lt_zero _)
  | cons r l ih =>
    cases i with
    | zero => exact ⟨rfl, rfl⟩
    | succ i =>
      have := ih (i := i) (by simpa using h)
      rw [show (i + 1) * 2 = i * 2 + 2 by omega]
      exact this
theorem chk_take {b : Bool} {l : List (ByteArray × ByteArray)} {i : Nat} (h : i < l.length) : chkL b (l.take (i + 1)) = chk (chkL b (l.take i)) (validR (l[i]).1 (l[i]).2) := by
  unfold chkL
  rw [List.take_add_one, List.getElem?_eq_getElem h, Option.toList_some, List.foldl_append]; rfl
set_option maxRecDepth 100000 in
set_option maxHeartbeats 2000000 in
theorem check_u (l : List (ByteArray × ByteArray)) (g B : Nat) (bad : Bool) (w : World) (hl : l.length ≤ 10) (hs : ∀ r ∈ l, r.1.size ≤ 9223372036854775806 ∧ r.2.size ≤ 9223372036854775806) (a0 : World) (he : EnvW a0) (ha : Below a0.heap.size a0 w) (hag : a0.heap.size ≤ g) (hg : WkB w g bad) (hB : BlkT w B (flatR l).toArray 26) (hgB : B ≠ g) :
    Calls Tryz.prog 78 #[.pointer (some ⟨g, 0, none⟩), .slice (some ⟨B, 0, none⟩) l.length l.length] w fun r w' => r = .returned (.tuple #[]) ∧ WkB w' g (chkL bad l) ∧ Oth g w w' := by
  have HG := Lib.hid hg
  have HB := Lib.hid hB
  have HS := Lib.hid hs
  have HE := Lib.hid he
  clear hg hB hs he
  go_enter Tryz.func78, Tryz.ntmps78
  go_wp2_with fail
  go_loopw [5, 8] (fun _ u8 wr => ∃ i : Nat, i ≤ l.length ∧ u8 = .int .i64 (i : Nat) ∧ WkB wr g (chkL bad (l.take i)) ∧ Oth g w wr) (fun _ u8 _ => ((l.length : Int) - Go.RowKit.intOf u8).toNat)
  case atStart => exact ⟨0, Nat.zero_le _, rfl, HG.out, Oth.refl _ _⟩
  case round =>
    obtain ⟨i, hi, rfl, hgr, hO⟩ := hrel
    rename World => wr
    by_cases hlt : i < l.length
    · have hki : (0 : Int) ≤ (i : Int) ∧ (i : Int) < (l.length : Int) := by omega
      have hwi : IntKind.i64.wrap ((i : Int) + 1) = ((i + 1 : Nat) : Int) := by rw [IntKind.wrap_i64]; omega
      have hbk := hO.blk HB.out hgB
      obtain ⟨f0, f1⟩ := flat_get hlt
      have x0 := hbk.cell (i * 2)
      have x1 := hbk.cell (i * 2 + 1)
      rw [List.getElem?_toArray] at x0 x1
      rw [f0] at x0
      rw [f1] at x1
      have hnx := Lib.hid (chk_take (b := bad) hlt)
      obtain ⟨z1, z2⟩ := HS.out l[i] (List.getElem_mem _)
      generalize (l[i]).1 = n at *
      generalize (l[i]).2 = d at *
      generalize chkL bad (l.take i) = b at *
      have hgl := hgr.lt
      obtain ⟨W7, hW7⟩ : ∃ W, wr.alloc (.cells #[.string n, .string d] 26) = W := ⟨_, rfl⟩
      have hb7 : Below wr.heap.size wr W7 := hW7 ▸ (Below.refl _ _).alloc (Nat.le_refl _) _
      have hg7 : WkB W7 g b := BlkT.keep hgr hb7
      have h7 : BlkT W7 wr.heap.size #[.string n, .string d] 26 := hW7 ▸ BlkT.newAt _ _ _ rfl
      have hO7 := hO.trans (Oth.of hb7)
      have HV := Lib.hid (valid04 n d W7 z1 z2 (HE.out.below (hO7.below ha hag)))
      have y0 := h7.cell 0
      have y1 := h7.cell 1
      have c0 := hg7.cell 0
      have c1 := hg7.frozen 0
      simp only [List.getElem?_toArray, List.getElem?_cons_succ, List.getElem?_cons_zero] at y0 y1 c0
      have HG7 := Lib.hid hg7
      have hO7' := Lib.hid hO7
      clear hbk f0 f1 hgr hO h7 hg7 hO7 z1 z2
      cases b with
      | true =>
        rw [show chk true (validR n d) = true from rfl] at hnx
        go_wp2_with (simp only [hW7])
        go_roundw
        case rel => exact ⟨i + 1, by omega, by go_num, by rw [hnx.out]; exact HG7.out.set 0 _, hO7'.out.trans (Oth.set _ _ _ _)⟩
        case measure => simp [Go.RowKit.intOf]; omega
      | false =>
        rw [show chk false (validR n d) = !validR n d from rfl] at hnx
        generalize validR n d = v at *
        go_wp2_with (simp only [hW7])
        refine HV.out.mono ?_
        rintro r w8 ⟨rfl, hb8⟩
        have hg8 := BlkT.keep HG7.out hb8
        have c2 := hg8.cell 0
        have c3 := hg8.frozen 0
        simp only [List.getElem?_toArray, List.getElem?_cons_zero] at c2
        have HG8 := Lib.hid hg8
        clear c0 c1 y0 y1 x0 x1 hg8
        go_wp2_with fail
        go_roundw
        case rel => exact ⟨i + 1, by omega, by go_num, by rw [hnx.out]; exact HG8.out.set 0 _, hO7'.out.trans ((Oth.of hb8).trans (Oth.set _ _ _ _))⟩
        case measure => simp [Go.RowKit.intOf]; omega
    · obtain rfl : i = l.length := by omega
      have hq : ¬ (l.length : Int) < (l.length : Int) := by omega
      rw [List.take_length] at hgr
      go_wp2
      first | (refine bodyPost_end (results_none rfl _ _ _) rfl ?_) | (refine bodyPost_ret (results_none rfl _ _ _) rfl ?_) | (refine ⟨rfl, _, results_none rfl _ _ _, ?_⟩)
      exact ⟨rfl, hgr, hO⟩
end Go.Proofs.YtjnpenljgfdaiaaGreatDoor
