import Derived.Test.YtgjihgdomicijaaDoorPlain2
import Derived.Test.YtgjihgdomicijaaDoorRead
import Derived.Deep.CutRange
import Derived.Deep.DeepCutAuto
import Derived.RegionTactic
import Derived.Deep.RegionHeld3
import Derived.WalkLawsBesides
import Derived.Deep.RegionWith
import Derived.BigQuiet
import Derived.Deep.QuietTactic
namespace Go.Proofs.YtgjihgdomicijaaDoor
open Go.RowKit

def seqA (A B : Nat → ByteArray) : Nat → ByteArray
  | 0 => ⟨#[]⟩
  | k + 1 => seqA A B k ++ A k ++ B k
theorem seq_split (A B : Nat → ByteArray) (k : Nat) : ∀ n, k < n → ∃ r, (seqA A B n).data.toList = (seqA A B k).data.toList ++ ((A k).data.toList ++ ((B k).data.toList ++ r)) := by
  intro n
  induction n with
  | zero => intro h; omega
  | succ n ih =>
    intro h
    by_cases hk : k < n
    · obtain ⟨r, hr⟩ := ih hk
      exact ⟨r ++ ((A n).data.toList ++ (B n).data.toList), by simp [seqA, hr]⟩
    · obtain rfl : k = n := by omega
      exact ⟨[], by simp [seqA]⟩
theorem seq_size (A B : Nat → ByteArray) (hA : ∀ j, (A j).size ≤ 9) (hB : ∀ j, (B j).size ≤ 109) : ∀ n, (seqA A B n).size ≤ 118 * n := by
  intro n
  induction n with
  | zero => simp [seqA, ByteArray.size]
  | succ n ih => simp only [seqA, ByteArray.size_append]; have := hA n; have := hB n; omega
def fewT (t : ByteArray) : ByteArray := if 100 < t.size then t.extract 0 100 else t
theorem fewT_size (t : ByteArray) : (fewT t).size ≤ 100 := by
  unfold fewT; split
  · simp [ByteArray.size_extract]; omega
  · omega
def sqA (l : List Int) (j : Nat) : ByteArray := encT (numberS (l.getD j 0))
def sqB (ts : List ByteArray) (j : Nat) : ByteArray := putsT (fewT (ts.getD j ⟨#[]⟩))
theorem putsT_size (t : ByteArray) (h : t.size ≤ 65536) : (putsT t).size ≤ 9 + t.size := by
  unfold putsT; rw [if_pos h, ByteArray.size_append, strOfNums_size]
  have := enc_zig_len (n := (t.size : Int)) (by omega) (by omega)
  omega
def sq (l : List Int) (ts : List ByteArray) (k : Nat) : ByteArray := seqA (sqA l) (sqB ts) k
theorem sq_size (l : List Int) (ts : List ByteArray) (k : Nat) : (sq l ts k).size ≤ 118 * k :=
  seq_size _ _ (fun j => encT_size _) (fun j => by unfold sqB; have := putsT_size (fewT (ts.getD j ⟨#[]⟩)) (by have := fewT_size (ts.getD j ⟨#[]⟩); omega); have := fewT_size (ts.getD j ⟨#[]⟩); omega) k
theorem sq_succ (l : List Int) (ts : List ByteArray) (k : Nat) : sq l ts (k + 1) = sq l ts k ++ sqA l k ++ sqB ts k := rfl
theorem sq_drop (l : List Int) (ts : List ByteArray) {k n : Nat} (h : k < n) :
    ∃ r, (sq l ts n).data.toList.drop (sq l ts k).size = (sqA l k).data.toList ++ ((sqB ts k).data.toList ++ r) ∧
      (sq l ts n).data.toList.drop ((sq l ts k).size + (sqA l k).size) = (sqB ts k).data.toList ++ r := by
  obtain ⟨r, hr⟩ := seq_split (sqA l) (sqB ts) k n h
  have h1 : (sq l ts n).data.toList.drop (sq l ts k).size = (sqA l k).data.toList ++ ((sqB ts k).data.toList ++ r) := by
    show (seqA (sqA l) (sqB ts) n).data.toList.drop _ = _
    rw [hr]
    exact List.drop_left' (by simp [sq])
  refine ⟨r, h1, ?_⟩
  rw [← List.drop_drop, h1]
  exact List.drop_left' (by simp)

set_option maxRecDepth 100000 in
set_option maxHeartbeats 2000000 in
theorem law4 (v0 v1 : Value) (l : List Int) (ts : List ByteArray) (w : World) (hN : Nib w) (hl : SliceOf (Value.int .i64) w v0 l) (ht : SliceOf Value.string w v1 ts)
    (hlb : ∀ y ∈ l, -9223372036854775808 ≤ y ∧ y ≤ 9223372036854775807) (htb : ∀ t ∈ ts, t.size ≤ maxLen) :
    Calls Tryd.prog 6 #[v0, v1] w fun e w' => e = .returned (.bool true) ∧ Below w.heap.size w w' := by
  have hsane := sane_any w hN
  clear hN
  obtain ⟨a, cap, rfl, hle, hcm, hcl⟩ := hl
  obtain ⟨a2, cap2, rfl, hle2, hcm2, hcl2⟩ := ht
  have Hcl := Lib.hid hcl
  have Hcl2 := Lib.hid hcl2
  have Hlb := Lib.hid hlb
  have Htb := Lib.hid htb
  clear hcl hcl2 hlb htb
  unfold maxLen at hcm hcm2
  go_enter Tryd.func6, Tryd.ntmps6
  go_wp2_with fail
  refine hsane.mono ?_
  clear hsane
  rintro e w1 ⟨rfl, hB1⟩
  go_upto_region 2 with fail
  go_cut [6] from 25 (fun u6 wc => ∃ n : Nat, u6 = .int .i64 n ∧ n ≤ l.length ∧ n ≤ ts.length ∧ n ≤ 20 ∧ wc = w1)
  case first =>
    go_wp2_with fail
    all_goals go_meet
    · exact ⟨20, rfl, by omega, by omega, by omega, rfl⟩
    · exact ⟨ts.length, rfl, by omega, by omega, by omega, rfl⟩
    · exact ⟨l.length, rfl, by omega, by omega, by omega, rfl⟩
  case rest =>
    obtain ⟨n, rfl, hn1, hn2, hn3, rfl⟩ := hcut
    go_wp2_with fail
    go_loopw [7, 8, 9, 10, 11, 12] (fun u7 u8 _ _ _ _ wr => ∃ k : Nat, k ≤ n ∧ u8 = .int .i64 k ∧ u7 = .string (sq l ts k) ∧ Below w.heap.size w wr) (fun _ u8 _ _ _ _ _ => (n - intOf u8).toNat)
    case atStart => exact ⟨0, by omega, rfl, rfl, hB1⟩
    case round =>
      obtain ⟨k, hk, rfl, rfl, hBr⟩ := hrel
      by_cases hkn : k < n
      · obtain ⟨b, off, rfl, hc⟩ := Hcl.out (by omega)
        obtain ⟨b2, off2, rfl, hc2⟩ := Hcl2.out (by omega)
        have hck := hc k (l.getD k 0) (by rw [List.getD_eq_getElem?_getD, List.getElem?_eq_getElem (by omega)]; rfl)
        have hck2 := hc2 k (ts.getD k ⟨#[]⟩) (by rw [List.getD_eq_getElem?_getD, List.getElem?_eq_getElem (by omega)]; rfl)
        have hlk := Hlb.out (l.getD k 0) (by rw [List.getD_eq_getElem?_getD, List.getElem?_eq_getElem (by omega)]; exact List.getElem_mem _)
        have htk := Htb.out (ts.getD k ⟨#[]⟩) (by rw [List.getD_eq_getElem?_getD, List.getElem?_eq_getElem (by omega)]; exact List.getElem_mem _)
        have hsz := sq_size l ts k
        have hes := encT_size (numberS (l.getD k 0))
        have HS := Lib.hid (sq_succ l ts k)
        generalize hx : l.getD k 0 = x at hck hlk hes
        generalize hy : ts.getD k ⟨#[]⟩ = t at hck2 htk
        have HX := Lib.hid hx
        have HY := Lib.hid hy
        clear hx hy hc hc2
        unfold maxLen at htk
        have hnb := numberS_bd x
        have hE := (encT_eq (n := numberS x) (by omega) (by omega)).2
        have hck' := (hBr.cell (p := ⟨b, off + k, none⟩) (World.block_lt_of_cell? _ _ hck)).trans hck
        have hck2' := (hBr.cell (p := ⟨b2, off2 + k, none⟩) (World.block_lt_of_cell? _ _ hck2)).trans hck2
        clear hck hck2
        go_wp2_with fail
        refine (number_any x _ hlk.1 hlk.2).mono ?_
        rintro e w2 ⟨rfl, hB2⟩
        go_wp2_with fail
        refine (putU _ _).mono ?_
        rintro e w3 ⟨rfl, hB3⟩
        have hck3 := (hB3.cell (p := ⟨b2, off2 + k, none⟩) (World.block_lt_of_cell? _ _ ((hB2.cell (p := ⟨b2, off2 + k, none⟩) (World.block_lt_of_cell? _ _ hck2')).trans hck2'))).trans ((hB2.cell (p := ⟨b2, off2 + k, none⟩) (World.block_lt_of_cell? _ _ hck2')).trans hck2')
        clear hck' hck2'
        have hB4 : Below w.heap.size w w3 := (hBr.trans (hB2.mono hBr.size)).trans (hB3.mono (Nat.le_trans hBr.size hB2.size))
        go_upto_region 8 with fail
        go_cut [11, 12] from 30 to 69 (fun u11 u12 wx => u11 = .string (putsT (fewT t)) ∧ u12 = .int .i64 0 ∧ Below w.heap.size w wx)
        case first =>
          have hput : ∀ W, Calls Tryd.prog 19 #[.string (fewT t)] W fun e w' => e = .returned (.tuple #[.string (putsT (fewT t)), .int .i64 0]) ∧ Below W.heap.size W w' := fun W =>
            (putsU (fewT t) W (by have := fewT_size t; unfold maxLen; omega)).mono fun e w' ⟨he, hw⟩ => ⟨by rw [he, show putsE (fewT t) = 0 from if_pos (by have := fewT_size t; omega)], hw⟩
          have hfew : Hid (fewT t = if 100 < t.size then t.extract 0 100 else t) := Eq.refl _
          have h0k : (0 : Int) ≤ (k : Int) := Int.natCast_nonneg _
          have hkt : (k : Int) < (ts.length : Int) := by omega
          by_cases h100 : 100 < t.size
          · rw [if_pos h100] at hfew
            have hle100 : (100 : Int) ≤ (t.size : Int) := by omega
            have hgt : (100 : Int) < (t.size : Int) := by omega
            have hsl : ∀ W : World, (Instr.slice 9 (.string t) none (some (.int .i64 100)) none).run Tryd.prog W = .ok (.string (t.extract 0 100)) W := fun W =>
              run_slice_string_h W 9 t Tryd.underlying9 .i64 100 (by omega) hle100
            go_region_held3 (fun w' => w'.cell? ⟨b2, off2 + k, none⟩ = some (.string t))
              (first | go_keep | exact (hB5.cell (p := ⟨b2, off2 + k, none⟩) (World.block_lt_of_cell? _ _ (by assumption))).trans (by assumption))
              ((go_at_call 19; rw [← hfew.out]; refine (hput _).mono ?_; rintro e w4 ⟨rfl, hB5⟩))
            go_wp2_with fail
            go_meet
            exact ⟨rfl, rfl, hB4.drew.trans (hB5.mono hB4.size)⟩
          · rw [if_neg h100] at hfew
            have hgt : ¬ (100 : Int) < (t.size : Int) := by omega
            have hsl : ∀ W : World, (Instr.slice 9 (.string t) none (some (.int .i64 (t.size : Int))) none).run Tryd.prog W = .ok (.string t) W := fun W => by
              have := run_slice_string_h (P := Tryd.prog) W 9 t Tryd.underlying9 .i64 (t.size : Int) (by omega) (by omega)
              rw [this, show t.extract 0 ((t.size : Int)).toNat = t from by simp]
            go_region_held3 (fun w' => w'.cell? ⟨b2, off2 + k, none⟩ = some (.string t))
              (first | go_keep | exact (hB5.cell (p := ⟨b2, off2 + k, none⟩) (World.block_lt_of_cell? _ _ (by assumption))).trans (by assumption))
              ((go_at_call 19; rw [← hfew.out]; refine (hput _).mono ?_; rintro e w4 ⟨rfl, hB5⟩))
            go_wp2_with fail
            go_meet
            exact ⟨rfl, rfl, hB4.drew.trans (hB5.mono hB4.size)⟩
        case rest =>
          obtain ⟨rfl, rfl, hB6⟩ := hcut
          have hpt := putsT_size (fewT t) (by have := fewT_size t; omega)
          have hft := fewT_size t
          have hk20 : k < 20 := by omega
          have hps1 : (sq l ts k).size + (encT (numberS x)).size ≤ 9223372036854775807 := by omega
          have hps2 : (sq l ts k).size + (encT (numberS x)).size + (putsT (fewT t)).size ≤ 9223372036854775807 := by omega
          have HS2 : Hid (sq l ts (k + 1) = sq l ts k ++ encT (numberS x) ++ putsT (fewT t)) := by
            unfold Hid; rw [HS.out]; unfold sqA sqB; rw [HX.out, HY.out]
          go_wp2
          go_roundw
          case rel => exact ⟨k + 1, by omega, by go_num, by rw [HS2.out], hB6⟩
          case measure => simp [intOf]; omega
      · obtain rfl : n = k := by omega
        obtain ⟨wo, rfl⟩ : ∃ wo : World, wo = wr := ⟨_, rfl⟩
        have hszn := sq_size l ts n
        have hend : ∀ W, Calls Tryd.prog 15 #[.string (sq l ts n), .int .i64 ((sq l ts n).size : Int)] W fun e w' => e = .returned (.tuple #[.int .i64 0, .int .i64 0, .int .i64 10]) ∧ W = w' := fun W => by
          refine (intU (sq l ts n) _ W (by unfold maxLen; omega) (by omega) (by omega)).mono fun e w' ⟨he, hw⟩ => ⟨?_, hw⟩
          rw [he]; unfold intN intE intC intT
          rw [if_neg (by omega), Int.toNat_natCast, intS_none (take7_out (by omega))]
        have HEnd := Lib.hid hend
        clear hend
        go_wp2_with fail
        go_loopw [13, 14, 15, 16, 17, 18, 19, 20] (fun u13 u14 _ _ _ _ _ _ wr => ∃ k : Nat, k ≤ n ∧ u14 = .int .i64 k ∧ u13 = .int .i64 ((sq l ts k).size : Int) ∧ Below w.heap.size w wr) (fun _ u14 _ _ _ _ _ _ _ => (n - intOf u14).toNat)
        case atStart => exact ⟨0, by omega, rfl, rfl, hBr⟩
        case round =>
          clear hBr
          obtain ⟨k, hk, rfl, rfl, hBr⟩ := hrel
          by_cases hkn : k < n
          · obtain ⟨b, off, rfl, hc⟩ := Hcl.out (by omega)
            obtain ⟨b2, off2, rfl, hc2⟩ := Hcl2.out (by omega)
            have hck := hc k (l.getD k 0) (by rw [List.getD_eq_getElem?_getD, List.getElem?_eq_getElem (by omega)]; rfl)
            have hck2 := hc2 k (ts.getD k ⟨#[]⟩) (by rw [List.getD_eq_getElem?_getD, List.getElem?_eq_getElem (by omega)]; rfl)
            have hlk := Hlb.out (l.getD k 0) (by rw [List.getD_eq_getElem?_getD, List.getElem?_eq_getElem (by omega)]; exact List.getElem_mem _)
            have htk := Htb.out (ts.getD k ⟨#[]⟩) (by rw [List.getD_eq_getElem?_getD, List.getElem?_eq_getElem (by omega)]; exact List.getElem_mem _)
            have hsz := sq_size l ts k
            obtain ⟨r, hd1, hd2⟩ := sq_drop l ts hkn
            have hnb := numberS_bd (l.getD k 0)
            have hft := fewT_size (ts.getD k ⟨#[]⟩)
            have hI : ∀ W, Calls Tryd.prog 15 #[.string (sq l ts n), .int .i64 ((sq l ts k).size : Int)] W fun e w' => e = .returned (.tuple #[.int .i64 (numberS (l.getD k 0)), .int .i64 (((sq l ts k).size : Int) + (sqA l k).size), .int .i64 0]) ∧ W = w' := fun W => by
              have h := intT_at (s := sq l ts n) (a := (sq l ts k).size) (n := numberS (l.getD k 0)) (by omega) (by omega) hd1
              refine (intU (sq l ts n) _ W (by unfold maxLen; omega) (by omega) (by omega)).mono fun e w' ⟨he, hw⟩ => ⟨?_, hw⟩
              rw [he]; unfold intN intE intC; rw [h]; simp; rfl
            have hes : (sqA l k).size ≤ 9 := encT_size _
            have hSt : ∀ W, Calls Tryd.prog 17 #[.string (sq l ts n), .int .i64 (((sq l ts k).size : Int) + (sqA l k).size)] W fun e w' => e = .returned (.tuple #[.string (fewT (ts.getD k ⟨#[]⟩)), .int .i64 ((sq l ts (k + 1)).size : Int), .int .i64 0]) ∧ W = w' := fun W => by
              obtain ⟨h1, h2, h3⟩ := strV_at (s := sq l ts n) (a := (sq l ts k).size + (sqA l k).size) (t := fewT (ts.getD k ⟨#[]⟩)) (by omega) hd2
              refine (strU (sq l ts n) (((sq l ts k).size + (sqA l k).size : Nat) : Int) W (by unfold maxLen; omega) (by omega) (by omega)).mono fun e w' ⟨he, hw⟩ => ⟨?_, hw⟩
              rw [he, h1, h2, h3, sq_succ, ByteArray.size_append, ByteArray.size_append]; rfl
            have HI := Lib.hid hI
            have HSt := Lib.hid hSt
            clear hI hSt hd1 hd2 hc hc2
            generalize hx : l.getD k 0 = x at hck hlk hnb HI
            generalize hy : ts.getD k ⟨#[]⟩ = t at hck2 htk HSt hft
            clear hx hy
            unfold maxLen at htk
            have hck' := (hBr.cell (p := ⟨b, off + k, none⟩) (World.block_lt_of_cell? _ _ hck)).trans hck
            have hck2' := (hBr.cell (p := ⟨b2, off2 + k, none⟩) (World.block_lt_of_cell? _ _ hck2)).trans hck2
            clear hck hck2
            have h0k : (0 : Int) ≤ (k : Int) := Int.natCast_nonneg _
            have hkt : (k : Int) < (ts.length : Int) := by omega
            have hkl : (k : Int) < (l.length : Int) := by omega
            go_wp2_with fail
            refine (HI.out _).mono ?_
            rintro e w2 ⟨rfl, rfl⟩
            go_wp2_with fail
            refine (HSt.out _).mono ?_
            rintro e w3 ⟨rfl, rfl⟩
            have hfew : Hid (fewT t = if 100 < t.size then t.extract 0 100 else t) := Eq.refl _
            by_cases h100 : 100 < t.size
            · have hft2 : Hid (fewT t = t.extract 0 100) := by rw [if_pos h100] at hfew; exact hfew
              have hgt : (100 : Int) < (t.size : Int) := by omega
              have hsl : ∀ W : World, (Instr.slice 9 (.string t) none (some (.int .i64 100)) none).run Tryd.prog W = .ok (.string (fewT t)) W := fun W => by
                rw [hft2.out]; exact run_slice_string_h W 9 t Tryd.underlying9 .i64 100 (by omega) (by omega)
              go_wp2_with fail
              go_region_held3 (fun w' => w'.cell? ⟨b, off + k, none⟩ = some (.int .i64 x) ∧ w'.cell? ⟨b2, off2 + k, none⟩ = some (.string t))
                (first | go_keep | exact ⟨(hB5.cell (p := ⟨b, off + k, none⟩) (World.block_lt_of_cell? _ _ (by assumption))).trans (by assumption), (hB5.cell (p := ⟨b2, off2 + k, none⟩) (World.block_lt_of_cell? _ _ (by assumption))).trans (by assumption)⟩)
                ((go_at_call 11; refine (number_any x _ hlk.1 hlk.2).mono ?_; rintro e w4 ⟨rfl, hB5⟩))
              go_wp2_with fail
              go_roundw
              case rel => exact ⟨k + 1, by omega, by go_num, rfl, hBr.drew.trans (hB5.mono hBr.size)⟩
              case measure => simp [intOf]; omega
            · have hft2 : Hid (fewT t = t) := by rw [if_neg h100] at hfew; exact hfew
              have hsl : ∀ W : World, (Instr.slice 9 (.string t) none (some (.int .i64 (t.size : Int))) none).run Tryd.prog W = .ok (.string t) W := fun W => by
                have := run_slice_string_h (P := Tryd.prog) W 9 t Tryd.underlying9 .i64 (t.size : Int) (by omega) (by omega)
                rw [this, show t.extract 0 ((t.size : Int)).toNat = t from by simp]
              have hcmp : ((fewT t).toList == t.toList) = true := by rw [hft2.out]; simp
              go_wp2_with fail
              have hgt : ((100 : Int) < (t.size : Int)) = False := by simp; omega
              go_region_held3 (fun w' => w'.cell? ⟨b, off + k, none⟩ = some (.int .i64 x) ∧ w'.cell? ⟨b2, off2 + k, none⟩ = some (.string t))
                (first | go_keep | exact ⟨(hB5.cell (p := ⟨b, off + k, none⟩) (World.block_lt_of_cell? _ _ (by assumption))).trans (by assumption), (hB5.cell (p := ⟨b2, off2 + k, none⟩) (World.block_lt_of_cell? _ _ (by assumption))).trans (by assumption)⟩)
                ((go_at_call 11; refine (number_any x _ hlk.1 hlk.2).mono ?_; rintro e w4 ⟨rfl, hB5⟩))
              go_wp2_with fail
              go_roundw
              case rel => exact ⟨k + 1, by omega, by go_num, rfl, hBr.drew.trans (hB5.mono hBr.size)⟩
              case measure => simp [intOf]; omega
          · obtain rfl : n = k := by omega
            have hB9 := hBr
            go_wp2_with fail
            refine (HEnd.out _).mono ?_
            rintro e w2 ⟨rfl, rfl⟩
            go_wp2
            go_ret
            exact ⟨rfl, hB9⟩
end Go.Proofs.YtgjihgdomicijaaDoor
