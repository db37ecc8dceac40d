/- nadirlaw04: RationalLimits. -/
import Derived.Test.YtjnpenljgfdaiaaGreatDoorQ8
import Derived.Test.YtjnpenljgfdaiaaGreatDoorPK
namespace Go.Proofs.YtjnpenljgfdaiaaGreatDoor
open Go.RowKit Go.Shelf Lib

theorem i64_bd16 {x : Int} (h : (Lit.int .i64 x).wf = true) : -9223372036854775808 ≤ x ∧ x ≤ 9223372036854775807 := by
  simp [Lit.wf, IntKind.min, IntKind.max, IntKind.signed, IntKind.bits] at h
  exact ⟨by omega, by omega⟩
theorem wp_suchB {P : Program} {c : Code} {Q : Exit → Act → World → Prop} {a : Act} {fr : Nat → Act} {w0 w : World} (cs : Array Value) (h : c.wp P (NoPanic fun e a' w' => e = .normal ∧ ∃ g, a' = fr g ∧ (Below w0.heap.size w0 w' ∧ BlkT w' g cs 26)) a w) (k : ∀ g w', (Below w0.heap.size w0 w' ∧ BlkT w' g cs 26) → Q .normal (fr g) w') : c.wp P Q a w :=
  Code.wp_mono (fun e a' w' hh => by obtain ⟨rfl, g, rfl, hb⟩ := NoPanic.imp e a' w' hh; exact k g w' hb) h
def tenB (n : Nat) : ByteArray := N3.S ((10 ^ n : Nat) : Int)
theorem tb_zero : tenB 0 = ⟨#[49]⟩ := by unfold tenB; rw [show ((10 ^ 0 : Nat) : Int) = 1 from rfl, S_one]
theorem tb_size (n : Nat) : (tenB n).size = n + 1 := S_ten_size n
theorem tb_succ (n : Nat) : tenB n ++ ⟨#[48]⟩ = tenB (n + 1) := S_ten_succ n
theorem tb_mul {n m : Nat} (hn : n < 200) (hm : m < 200) : mulR (tenB n) (N3.S 1) (tenB m) (N3.S 1) = if n + m < 200 then some (strR (N3.mulF (((10 ^ n : Nat) : Int), 1) (((10 ^ m : Nat) : Int), 1))) else none := lim_mul hn hm
theorem tb_div {m : Nat} (hm : m < 200) : divR (N3.S 1) (N3.S 1) (tenB m) (N3.S 1) = some (N3.S 1, tenB m) := lim_div hm
theorem tb_add {n m : Nat} (hn : n < 200) (hm : m < 200) : errR (sumR N3.addO (tenB n) (N3.S 1) (N3.S 1) (tenB m)) = if n + m < 200 then 0 else 40 := lim_add hn hm
theorem tb_cmp1 {n m : Nat} (hn : n < 200) (hm : m < 200) : cmpR (tenB n) (N3.S 1) (tenB m) (N3.S 1) = if n < m then -1 else if m < n then 1 else 0 := lim_cmp1 hn hm
theorem tb_cmp2 {n m : Nat} (hn : n < 200) (hm : m < 200) : cmpR (tenB n) (N3.S 1) (N3.S 1) (tenB m) = if n + m = 0 then 0 else 1 := lim_cmp2 hn hm

set_option maxRecDepth 100000 in
set_option maxHeartbeats 8000000 in
theorem lim16_l0 (p q : Int) (n m : Nat) (w : World) (he : EnvR w) (hn : n < 200) (hm : m < 200) (h1 : n < m) (h0 : n = 0) (h2 : n + m < 200)
    (hp : ∀ V : World, Calls Tryz.prog 28 #[.int .i64 p, .int .i64 200] V fun e w' => e = .returned (.int .i64 (n : Int)) ∧ Below V.heap.size V w')
    (hq : ∀ V : World, Calls Tryz.prog 28 #[.int .i64 q, .int .i64 200] V fun e w' => e = .returned (.int .i64 (m : Int)) ∧ Below V.heap.size V w') :
    Calls Tryz.prog 16 #[.int .i64 p, .int .i64 q] w fun e w' => e = .returned (.bool true) ∧ Below w.heap.size w w' := by
  have HE := Lib.hid he
  have PP := Lib.hid hp
  have PQ := Lib.hid hq
  clear he hp hq
  have e1 := tb_mul hn hm
  have e2 := tb_div hm
  have e3 := tb_add hn hm
  have e4 := tb_cmp1 hn hm
  have e5 := tb_cmp2 hn hm
  rw [S_one] at e1 e2 e3 e4 e5
  rw [if_pos h2] at e1 e3
  rw [if_pos h1] at e4
  rw [if_neg (by omega)] at e5
  have H1 := Lib.hid h1
  have H0 := Lib.hid h0
  clear h1 h0
  have zn := tb_size n
  have zm := tb_size m
  have MU := Lib.hid (fun V (hV : EnvR V) => by have k := mul04 (tenB n) ⟨#[49]⟩ (tenB m) ⟨#[49]⟩ V (by omega) (by decide) (by omega) (by decide) hV.env; rw [e1] at k; exact k)
  have DV := Lib.hid (fun V (hV : EnvR V) => by have k := div04 ⟨#[49]⟩ ⟨#[49]⟩ (tenB m) ⟨#[49]⟩ V (by decide) (by decide) (by omega) (by decide) hV.env; rw [e2] at k; exact k)
  have AD := Lib.hid (fun V (hV : EnvR V) => by have k := add04 (tenB n) ⟨#[49]⟩ ⟨#[49]⟩ (tenB m) V (by omega) (by decide) (by decide) (by omega) hV.env; exact k)
  have C1 := Lib.hid (fun V (hV : EnvR V) => by have k := compare04 (tenB n) ⟨#[49]⟩ (tenB m) ⟨#[49]⟩ V (by omega) (by decide) (by omega) (by decide) hV.env; rw [e4] at k; exact k)
  have C2 := Lib.hid (fun V (hV : EnvR V) => by have k := compare04 (tenB n) ⟨#[49]⟩ ⟨#[49]⟩ (tenB m) V (by omega) (by decide) (by decide) (by omega) hV.env; rw [e5] at k; exact k)
  generalize strR (N3.mulF (((10 ^ n : Nat) : Int), 1) (((10 ^ m : Nat) : Int), 1)) = sr at *
  obtain ⟨mx, my⟩ := sr
  obtain ⟨xy, hR⟩ : ∃ xy, sumR N3.addO (tenB n) ⟨#[49]⟩ ⟨#[49]⟩ (tenB m) = some xy := by
    cases hs : sumR N3.addO (tenB n) ⟨#[49]⟩ ⟨#[49]⟩ (tenB m) with
    | none => rw [hs] at e3; cases e3
    | some xy => exact ⟨xy, rfl⟩
  obtain ⟨ax, ay⟩ := xy
  rw [hR] at AD
  clear e1 e2 e3 e4 e5 hR zn zm
  dsimp only [valR, errR] at MU DV AD
  go_enter Tryz.func16, Tryz.ntmps16
  go_wp2_with fail
  refine (sane04 _ HE.out).mono ?_
  rintro r V1 ⟨rfl, hb1⟩
  have hB1 := hb1
  go_wp2_with fail
  refine (PP.out _).mono ?_
  rintro r V2 ⟨rfl, hb2⟩
  have hB2 := hB1.trans (hb2.mono hB1.size)
  go_wp2_with fail
  refine (PQ.out _).mono ?_
  rintro r V3 ⟨rfl, hb3⟩
  have hB3 := hB2.trans (hb3.mono hB2.size)
  go_wp2_with fail
  go_loopw [6, 7] (fun u v wr => ∃ k : Nat, k ≤ n ∧ u = .string (tenB k) ∧ v = .int .i64 (k : Nat) ∧ V3 = wr) (fun _ v _ => ((n : Int) - Go.RowKit.intOf v).toNat)
  case atStart => exact ⟨0, Nat.zero_le _, by rw [tb_zero], rfl, rfl⟩
  case round =>
    obtain ⟨k, hk, rfl, rfl, rfl⟩ := hrel
    by_cases hkn : k < n
    · have hki : (k : Int) < (n : Int) := by omega
      have hw1 : IntKind.i64.wrap ((k : Int) + 1) = ((k + 1 : Nat) : Int) := by rw [IntKind.wrap_i64]; omega
      have hz := tb_size k
      have q1 : ¬ 9223372036854775807 < (tenB k).size + 1 := by omega
      have q2 : ¬ 9223372036854775807 < (tenB k).size + (⟨#[48]⟩ : ByteArray).size := by show ¬ 9223372036854775807 < (tenB k).size + 1; omega
      have hs' := tb_succ k
      generalize tenB k = sk at *
      have HS := Lib.hid hs'
      clear hz hs'
      go_wp2_with fail
      go_roundw
      case rel => exact ⟨k + 1, by omega, by rw [← HS.out], by go_num, by first | rfl | trivial⟩
      case measure => simp [Go.RowKit.intOf]; omega
    · have hkn2 : k = n := by omega
      rw [hkn2]
      have hkk : ¬ (n : Int) < (n : Int) := by omega
      clear hkn2
      go_wp2_with fail
      go_loopw [8, 9] (fun u v wr => ∃ k : Nat, k ≤ m ∧ u = .string (tenB k) ∧ v = .int .i64 (k : Nat) ∧ V3 = wr) (fun _ v _ => ((m : Int) - Go.RowKit.intOf v).toNat)
      case atStart => exact ⟨0, Nat.zero_le _, by rw [tb_zero], rfl, rfl⟩
      case round =>
        obtain ⟨k, hk, rfl, rfl, rfl⟩ := hrel
        by_cases hkn : k < m
        · have hki : (k : Int) < (m : Int) := by omega
          have hw1 : IntKind.i64.wrap ((k : Int) + 1) = ((k + 1 : Nat) : Int) := by rw [IntKind.wrap_i64]; omega
          have hz := tb_size k
          have q1 : ¬ 9223372036854775807 < (tenB k).size + 1 := by omega
          have q2 : ¬ 9223372036854775807 < (tenB k).size + (⟨#[48]⟩ : ByteArray).size := by show ¬ 9223372036854775807 < (tenB k).size + 1; omega
          have hs' := tb_succ k
          generalize tenB k = sk at *
          have HS := Lib.hid hs'
          clear hz hs'
          go_wp2_with fail
          go_roundw
          case rel => exact ⟨k + 1, by omega, by rw [← HS.out], by go_num, by first | rfl | trivial⟩
          case measure => simp [Go.RowKit.intOf]; omega
        · have hkn2 : k = m := by omega
          rw [hkn2]
          have hkk : ¬ (m : Int) < (m : Int) := by omega
          clear hkn2
          go_wp2_with fail
          generalize tenB n = sa at *
          generalize tenB m = sb at *
          refine (is_any _ _ _).mono ?_
          rintro r V4 ⟨rfl, hb4⟩
          have hB4 := hB3.trans (hb4.mono hB3.size)
          go_wp2_with fail
          generalize hW4 : World.alloc V4 _ = W4
          have hw4 : Below V4.heap.size V4 W4 := hW4 ▸ (Below.refl _ _).alloc (Nat.le_refl _) _
          have hBw4 := hB4.trans (hw4.mono hB4.size)
          have kx : BlkT W4 V4.heap.size #[.string sa, .string ⟨#[49]⟩] 26 := hW4 ▸ BlkT.newAt _ _ _ rfl
          clear hW4
          refine (is_any _ _ _).mono ?_
          rintro r V5 ⟨rfl, hb5⟩
          have hB5 := hBw4.trans (hb5.mono hBw4.size)
          have kx := BlkT.keep kx hb5
          go_upto_region 16 with (fail)
          generalize hW5 : World.alloc V5 _ = W5
          have hw5 : Below V5.heap.size V5 W5 := hW5 ▸ (Below.refl _ _).alloc (Nat.le_refl _) _
          have hBw5 := hB5.trans (hw5.mono hB5.size)
          have kx := BlkT.keep kx hw5
          have ky : BlkT W5 V5.heap.size #[.string sb, .string ⟨#[49]⟩] 26 := hW5 ▸ BlkT.newAt _ _ _ rfl
          clear hW5
          have kxc0 := kx.cell 0
          have kxc1 := kx.cell 1
          simp only [List.getElem?_toArray, List.getElem?_cons_succ, List.getElem?_cons_zero] at kxc0 kxc1
          have kyc0 := ky.cell 0
          have kyc1 := ky.cell 1
          simp only [List.getElem?_toArray, List.getElem?_cons_succ, List.getElem?_cons_zero] at kyc0 kyc1
          go_wp2_with fail
          refine (MU.out _ (HE.out.below hBw5)).mono ?_
          rintro r V6 ⟨rfl, hb6⟩
          have hB6 := hBw5.trans (hb6.mono hBw5.size)
          have kx := BlkT.keep kx hb6
          have ky := BlkT.keep ky hb6
          clear kxc0 kxc1
          clear kyc0 kyc1
          go_wp2_with fail
          generalize hW6 : World.alloc V6 _ = W6
          have hw6 : Below V6.heap.size V6 W6 := hW6 ▸ (Below.refl _ _).alloc (Nat.le_refl _) _
          have hBw6 := hB6.trans (hw6.mono hB6.size)
          have kx := BlkT.keep kx hw6
          have ky := BlkT.keep ky hw6
          have kz : BlkT W6 V6.heap.size #[.string mx, .string my] 26 := hW6 ▸ BlkT.newAt _ _ _ rfl
          clear hW6
          have HK6 := Lib.hid (fun V (hV : Below W6.heap.size W6 V) => And.intro ((BlkT.keep ky hV).cell 0) ((BlkT.keep ky hV).cell 1))
          simp only [List.getElem?_toArray, List.getElem?_cons_succ, List.getElem?_cons_zero] at HK6
          have HEV := Lib.hid (fun V (hV : Below W6.heap.size W6 V) => HE.out.below (hBw6.trans (hV.mono hBw6.size)))
          apply wp_suchB (w0 := W6) #[.string ⟨#[49]⟩, .string sb]
          · go_region_held3 (fun w' => Below W6.heap.size W6 w' ∧ (w'.cell? ⟨V5.heap.size, 0, none⟩ = some (.string sb) ∧ w'.cell? ⟨V5.heap.size, 1, none⟩ = some (.string ⟨#[49]⟩)))
              (first | exact ⟨(Below.refl _ _).drew, HK6.out _ (Below.refl _ _).drew⟩ | (have hh := (‹Below W6.heap.size W6 _ ∧ _›).1; have hb := hh.trans (hBq.mono hh.size); exact ⟨hb, HK6.out _ hb⟩) | (have hh := (‹Below W6.heap.size W6 _ ∧ _›).1; have hb := hh.trans (hBr.mono hh.size); exact ⟨hb, HK6.out _ hb⟩) | (have hh := (‹Below W6.heap.size W6 _ ∧ _›).1; exact ⟨hh.alloc hh.size _, HK6.out _ (hh.alloc hh.size _)⟩) | (have hh := (‹Below W6.heap.size W6 _ ∧ _›).1; exact ⟨(hh.setCell (by dsimp only; omega) _).setCell (by dsimp only; omega) _, HK6.out _ ((hh.setCell (by dsimp only; omega) _).setCell (by dsimp only; omega) _)⟩) | (exact ⟨hSr.alloc hSz _, HK6.out _ (hSr.alloc hSz _)⟩) | go_keep)
              (first
                | (go_at_call 25; (with_reducible refine (is_any _ _ _).mono ?_); rintro r wq ⟨rfl, hBq⟩; have hSq := Nat.le_trans (‹Below W6.heap.size W6 _ ∧ _›).1.size hBq.size; have hblk := BlkT.keep (BlkT.newAt (World.drew W6) #[.string ⟨#[]⟩, .string ⟨#[]⟩] 26 (n := W6.heap.size) rfl) hBq)
                | (go_at_call 25; (with_reducible refine (is_any _ _ _).mono ?_); rintro r wq ⟨rfl, hBq⟩; have hSq := Nat.le_trans (‹Below W6.heap.size W6 _ ∧ _›).1.size hBq.size)
                | (go_at_call 63; (with_reducible refine (DV.out _ (HEV.out _ (‹Below W6.heap.size W6 _ ∧ _›).1)).mono ?_); rintro r wr ⟨rfl, hBr⟩; have hSz := Nat.le_trans (‹Below W6.heap.size W6 _ ∧ _›).1.size hBr.size; have hSr := (‹Below W6.heap.size W6 _ ∧ _›).1.trans (hBr.mono (‹Below W6.heap.size W6 _ ∧ _›).1.size); have hblk2 := BlkT.keep hblk hBr; have u0 := hblk2.cell 0; have u1 := hblk2.cell 1; have v0 := hblk2.frozen 0; have v1 := hblk2.frozen 1; simp only [List.getElem?_toArray, List.getElem?_cons_succ, List.getElem?_cons_zero] at u0 u1)
                | (go_at_call 63; (with_reducible refine (DV.out _ (HEV.out _ (‹Below W6.heap.size W6 _ ∧ _›).1)).mono ?_); rintro r wr ⟨rfl, hBr⟩; have hSz := Nat.le_trans (‹Below W6.heap.size W6 _ ∧ _›).1.size hBr.size; have hSr := (‹Below W6.heap.size W6 _ ∧ _›).1.trans (hBr.mono (‹Below W6.heap.size W6 _ ∧ _›).1.size); have hblk2 := BlkT.keep (BlkT.newAt wq #[.string ⟨#[]⟩, .string ⟨#[]⟩] 26 rfl) hBr; have u0 := hblk2.cell 0; have u1 := hblk2.cell 1; have v0 := hblk2.frozen 0; have v1 := hblk2.frozen 1; simp only [List.getElem?_toArray, List.getElem?_cons_succ, List.getElem?_cons_zero] at u0 u1)
                | (go_at_call 63; (with_reducible refine (DV.out _ (HEV.out _ (‹Below W6.heap.size W6 _ ∧ _›).1)).mono ?_); rintro r wr ⟨rfl, hBr⟩; have hSz := Nat.le_trans (‹Below W6.heap.size W6 _ ∧ _›).1.size hBr.size; have hSr := (‹Below W6.heap.size W6 _ ∧ _›).1.trans (hBr.mono (‹Below W6.heap.size W6 _ ∧ _›).1.size); have hblk2 := BlkT.newAt wr #[.string ⟨#[]⟩, .string ⟨#[]⟩] 26 rfl; have u0 := hblk2.cell 0; have u1 := hblk2.cell 1; have v0 := hblk2.frozen 0; have v1 := hblk2.frozen 1; simp only [List.getElem?_toArray, List.getElem?_cons_succ, List.getElem?_cons_zero] at u0 u1))
            all_goals (
              refine NoPanic.normal ?_
              have hh := (‹Below W6.heap.size W6 _ ∧ _›).1
              first
                | (have hz : BlkT _ _ #[.string ⟨#[49]⟩, .string sb] 26 := (hblk2.set 0 (.string ⟨#[49]⟩)).set 1 (.string sb); generalize wr.heap.size = gx at *; exact ⟨rfl, gx, rfl, hh, hz⟩)
                | (have hz : BlkT _ _ #[.string ⟨#[49]⟩, .string sb] 26 := (hblk2.set 0 (.string ⟨#[49]⟩)).set 1 (.string sb); generalize wq.heap.size = gx at *; exact ⟨rfl, gx, rfl, hh, hz⟩)
                | (have hz : BlkT _ _ #[.string ⟨#[49]⟩, .string sb] 26 := (hblk2.set 0 (.string ⟨#[49]⟩)).set 1 (.string sb); obtain ⟨gx, hgx⟩ : ∃ g, wq.heap.size = g := ⟨_, rfl⟩; rw [hgx]; exact ⟨rfl, gx, rfl, hh, by rw [← hgx]; exact hz⟩)
                | (have hz : BlkT (wr.alloc (.cells #[.string ⟨#[49]⟩, .string sb] 26)) wr.heap.size #[.string ⟨#[49]⟩, .string sb] 26 := BlkT.newAt _ _ _ rfl; obtain ⟨gx, hgx⟩ : ∃ g, wr.heap.size = g := ⟨_, rfl⟩; rw [hgx] at hz; rw [hgx]; exact ⟨rfl, gx, rfl, hh, hz⟩)
                | (have hz : BlkT _ _ #[.string ⟨#[49]⟩, .string sb] 26 := (hblk2.set 0 (.string ⟨#[49]⟩)).set 1 (.string sb); exact ⟨rfl, _, rfl, hh, hz⟩)
                | (trace_state; fail))
          rintro g17 W17 ⟨hb17, k17⟩
          have hB17 := hBw6.trans (hb17.mono hBw6.size)
          clear HK6
          have kx := BlkT.keep kx hb17
          have ky := BlkT.keep ky hb17
          have kz := BlkT.keep kz hb17
          have kxc0 := kx.cell 0
          have kxc1 := kx.cell 1
          simp only [List.getElem?_toArray, List.getElem?_cons_succ, List.getElem?_cons_zero] at kxc0 kxc1
          have k17c0 := k17.cell 0
          have k17c1 := k17.cell 1
          simp only [List.getElem?_toArray, List.getElem?_cons_succ, List.getElem?_cons_zero] at k17c0 k17c1
          go_wp2_with fail
          refine (AD.out _ (HE.out.below hB17)).mono ?_
          rintro r V18 ⟨rfl, hb18⟩
          have hB18 := hB17.trans (hb18.mono hB17.size)
          have kx := BlkT.keep kx hb18
          have ky := BlkT.keep ky hb18
          have kz := BlkT.keep kz hb18
          have k17 := BlkT.keep k17 hb18
          clear kxc0 kxc1
          clear k17c0 k17c1
          have kzc0 := kz.cell 0
          have kzc1 := kz.cell 1
          simp only [List.getElem?_toArray, List.getElem?_cons_succ, List.getElem?_cons_zero] at kzc0 kzc1
          have hwmn : IntKind.i64.wrap ((n : Int) + (m : Int)) = (n : Int) + (m : Int) := by rw [IntKind.wrap_i64]; omega
          have hwmn1 : IntKind.i64.wrap ((n : Int) + (m : Int) + 1) = (n : Int) + (m : Int) + 1 := by rw [IntKind.wrap_i64]; omega
          have hf1 : (n : Int) + (m : Int) + 1 ≤ 200 := by omega
          have hf2 : decide ((n : Int) + (m : Int) + 1 ≤ 200) = true := decide_eq_true hf1
          have hlt : (n : Int) < (m : Int) := by have := H1.out; omega
          have hn0 : ((n : Int) == 0) = true := beq_iff_eq.2 (by have := H1.out; have := H0.out; omega)
          have hm0 : ((m : Int) == 0) = false := beq_eq_false_iff_ne.2 (by have := H1.out; have := H0.out; omega)
          clear kzc0 kzc1
          go_upto_region 20 with (fail)
          generalize hW18 : World.alloc V18 _ = W18
          have hw18 : Below V18.heap.size V18 W18 := hW18 ▸ (Below.refl _ _).alloc (Nat.le_refl _) _
          have hBw18 := hB18.trans (hw18.mono hB18.size)
          have kx := BlkT.keep kx hw18
          have ky := BlkT.keep ky hw18
          have kz := BlkT.keep kz hw18
          have k17 := BlkT.keep k17 hw18
          clear hW18
          have kxc0 := kx.cell 0
          have kxc1 := kx.cell 1
          simp only [List.getElem?_toArray, List.getElem?_cons_succ, List.getElem?_cons_zero] at kxc0 kxc1
          have kyc0 := ky.cell 0
          have kyc1 := ky.cell 1
          simp only [List.getElem?_toArray, List.getElem?_cons_succ, List.getElem?_cons_zero] at kyc0 kyc1
          have kzc0 := kz.cell 0
          have kzc1 := kz.cell 1
          simp only [List.getElem?_toArray, List.getElem?_cons_succ, List.getElem?_cons_zero] at kzc0 kzc1
          go_wp2_with fail
          refine (C1.out _ (HE.out.below hBw18)).mono ?_
          rintro r V19 ⟨rfl, hb19⟩
          have hB19 := hBw18.trans (hb19.mono hBw18.size)
          have kx := BlkT.keep kx hb19
          have ky := BlkT.keep ky hb19
          have kz := BlkT.keep kz hb19
          have k17 := BlkT.keep k17 hb19
          clear kxc0 kxc1
          clear kyc0 kyc1
          clear kzc0 kzc1
          have kxc0 := kx.cell 0
          have kxc1 := kx.cell 1
          simp only [List.getElem?_toArray, List.getElem?_cons_succ, List.getElem?_cons_zero] at kxc0 kxc1
          have k17c0 := k17.cell 0
          have k17c1 := k17.cell 1
          simp only [List.getElem?_toArray, List.getElem?_cons_succ, List.getElem?_cons_zero] at k17c0 k17c1
          go_wp2_with fail
          refine (C2.out _ (HE.out.below hB19)).mono ?_
          rintro r V20 ⟨rfl, hb20⟩
          have hB20 := hB19.trans (hb20.mono hB19.size)
          have kx := BlkT.keep kx hb20
          have ky := BlkT.keep ky hb20
          have kz := BlkT.keep kz hb20
          have k17 := BlkT.keep k17 hb20
          go_wp2_with fail
          go_ret
          exact ⟨rfl, hB20⟩
set_option maxRecDepth 100000 in
set_option maxHeartbeats 8000000 in
theorem lim16_l1 (p q : Int) (n m : Nat) (w : World) (he : EnvR w) (hn : n < 200) (hm : m < 200) (h1 : n < m) (h0 : n ≠ 0) (h2 : n + m < 200)
    (hp : ∀ V : World, Calls Tryz.prog 28 #[.int .i64 p, .int .i64 200] V fun e w' => e = .returned (.int .i64 (n : Int)) ∧ Below V.heap.size V w')
    (hq : ∀ V : World, Calls Tryz.prog 28 #[.int .i64 q, .int .i64 200] V fun e w' => e = .returned (.int .i64 (m : Int)) ∧ Below V.heap.size V w') :
    Calls Tryz.prog 16 #[.int .i64 p, .int .i64 q] w fun e w' => e = .returned (.bool true) ∧ Below w.heap.size w w' := by
  have HE := Lib.hid he
  have PP := Lib.hid hp
  have PQ := Lib.hid hq
  clear he hp hq
  have e1 := tb_mul hn hm
  have e2 := tb_div hm
  have e3 := tb_add hn hm
  have e4 := tb_cmp1 hn hm
  have e5 := tb_cmp2 hn hm
  rw [S_one] at e1 e2 e3 e4 e5
  rw [if_pos h2] at e1 e3
  rw [if_pos h1] at e4
  rw [if_neg (by omega)] at e5
  have H1 := Lib.hid h1
  have H0 := Lib.hid h0
  clear h1 h0
  have zn := tb_size n
  have zm := tb_size m
  have MU := Lib.hid (fun V (hV : EnvR V) => by have k := mul04 (tenB n) ⟨#[49]⟩ (tenB m) ⟨#[49]⟩ V (by omega) (by decide) (by omega) (by decide) hV.env; rw [e1] at k; exact k)
  have DV := Lib.hid (fun V (hV : EnvR V) => by have k := div04 ⟨#[49]⟩ ⟨#[49]⟩ (tenB m) ⟨#[49]⟩ V (by decide) (by decide) (by omega) (by decide) hV.env; rw [e2] at k; exact k)
  have AD := Lib.hid (fun V (hV : EnvR V) => by have k := add04 (tenB n) ⟨#[49]⟩ ⟨#[49]⟩ (tenB m) V (by omega) (by decide) (by decide) (by omega) hV.env; exact k)
  have C1 := Lib.hid (fun V (hV : EnvR V) => by have k := compare04 (tenB n) ⟨#[49]⟩ (tenB m) ⟨#[49]⟩ V (by omega) (by decide) (by omega) (by decide) hV.env; rw [e4] at k; exact k)
  have C2 := Lib.hid (fun V (hV : EnvR V) => by have k := compare04 (tenB n) ⟨#[49]⟩ ⟨#[49]⟩ (tenB m) V (by omega) (by decide) (by decide) (by omega) hV.env; rw [e5] at k; exact k)
  generalize strR (N3.mulF (((10 ^ n : Nat) : Int), 1) (((10 ^ m : Nat) : Int), 1)) = sr at *
  obtain ⟨mx, my⟩ := sr
  obtain ⟨xy, hR⟩ : ∃ xy, sumR N3.addO (tenB n) ⟨#[49]⟩ ⟨#[49]⟩ (tenB m) = some xy := by
    cases hs : sumR N3.addO (tenB n) ⟨#[49]⟩ ⟨#[49]⟩ (tenB m) with
    | none => rw [hs] at e3; cases e3
    | some xy => exact ⟨xy, rfl⟩
  obtain ⟨ax, ay⟩ := xy
  rw [hR] at AD
  clear e1 e2 e3 e4 e5 hR zn zm
  dsimp only [valR, errR] at MU DV AD
  go_enter Tryz.func16, Tryz.ntmps16
  go_wp2_with fail
  refine (sane04 _ HE.out).mono ?_
  rintro r V1 ⟨rfl, hb1⟩
  have hB1 := hb1
  go_wp2_with fail
  refine (PP.out _).mono ?_
  rintro r V2 ⟨rfl, hb2⟩
  have hB2 := hB1.trans (hb2.mono hB1.size)
  go_wp2_with fail
  refine (PQ.out _).mono ?_
  rintro r V3 ⟨rfl, hb3⟩
  have hB3 := hB2.trans (hb3.mono hB2.size)
  go_wp2_with fail
  go_loopw [6, 7] (fun u v wr => ∃ k : Nat, k ≤ n ∧ u = .string (tenB k) ∧ v = .int .i64 (k : Nat) ∧ V3 = wr) (fun _ v _ => ((n : Int) - Go.RowKit.intOf v).toNat)
  case atStart => exact ⟨0, Nat.zero_le _, by rw [tb_zero], rfl, rfl⟩
  case round =>
    obtain ⟨k, hk, rfl, rfl, rfl⟩ := hrel
    by_cases hkn : k < n
    · have hki : (k : Int) < (n : Int) := by omega
      have hw1 : IntKind.i64.wrap ((k : Int) + 1) = ((k + 1 : Nat) : Int) := by rw [IntKind.wrap_i64]; omega
      have hz := tb_size k
      have q1 : ¬ 9223372036854775807 < (tenB k).size + 1 := by omega
      have q2 : ¬ 9223372036854775807 < (tenB k).size + (⟨#[48]⟩ : ByteArray).size := by show ¬ 9223372036854775807 < (tenB k).size + 1; omega
      have hs' := tb_succ k
      generalize tenB k = sk at *
      have HS := Lib.hid hs'
      clear hz hs'
      go_wp2_with fail
      go_roundw
      case rel => exact ⟨k + 1, by omega, by rw [← HS.out], by go_num, by first | rfl | trivial⟩
      case measure => simp [Go.RowKit.intOf]; omega
    · have hkn2 : k = n := by omega
      rw [hkn2]
      have hkk : ¬ (n : Int) < (n : Int) := by omega
      clear hkn2
      go_wp2_with fail
      go_loopw [8, 9] (fun u v wr => ∃ k : Nat, k ≤ m ∧ u = .string (tenB k) ∧ v = .int .i64 (k : Nat) ∧ V3 = wr) (fun _ v _ => ((m : Int) - Go.RowKit.intOf v).toNat)
      case atStart => exact ⟨0, Nat.zero_le _, by rw [tb_zero], rfl, rfl⟩
      case round =>
        obtain ⟨k, hk, rfl, rfl, rfl⟩ := hrel
        by_cases hkn : k < m
        · have hki : (k : Int) < (m : Int) := by omega
          have hw1 : IntKind.i64.wrap ((k : Int) + 1) = ((k + 1 : Nat) : Int) := by rw [IntKind.wrap_i64]; omega
          have hz := tb_size k
          have q1 : ¬ 9223372036854775807 < (tenB k).size + 1 := by omega
          have q2 : ¬ 9223372036854775807 < (tenB k).size + (⟨#[48]⟩ : ByteArray).size := by show ¬ 9223372036854775807 < (tenB k).size + 1; omega
          have hs' := tb_succ k
          generalize tenB k = sk at *
          have HS := Lib.hid hs'
          clear hz hs'
          go_wp2_with fail
          go_roundw
          case rel => exact ⟨k + 1, by omega, by rw [← HS.out], by go_num, by first | rfl | trivial⟩
          case measure => simp [Go.RowKit.intOf]; omega
        · have hkn2 : k = m := by omega
          rw [hkn2]
          have hkk : ¬ (m : Int) < (m : Int) := by omega
          clear hkn2
          go_wp2_with fail
          generalize tenB n = sa at *
          generalize tenB m = sb at *
          refine (is_any _ _ _).mono ?_
          rintro r V4 ⟨rfl, hb4⟩
          have hB4 := hB3.trans (hb4.mono hB3.size)
          go_wp2_with fail
          generalize hW4 : World.alloc V4 _ = W4
          have hw4 : Below V4.heap.size V4 W4 := hW4 ▸ (Below.refl _ _).alloc (Nat.le_refl _) _
          have hBw4 := hB4.trans (hw4.mono hB4.size)
          have kx : BlkT W4 V4.heap.size #[.string sa, .string ⟨#[49]⟩] 26 := hW4 ▸ BlkT.newAt _ _ _ rfl
          clear hW4
          refine (is_any _ _ _).mono ?_
          rintro r V5 ⟨rfl, hb5⟩
          have hB5 := hBw4.trans (hb5.mono hBw4.size)
          have kx := BlkT.keep kx hb5
          go_upto_region 16 with (fail)
          generalize hW5 : World.alloc V5 _ = W5
          have hw5 : Below V5.heap.size V5 W5 := hW5 ▸ (Below.refl _ _).alloc (Nat.le_refl _) _
          have hBw5 := hB5.trans (hw5.mono hB5.size)
          have kx := BlkT.keep kx hw5
          have ky : BlkT W5 V5.heap.size #[.string sb, .string ⟨#[49]⟩] 26 := hW5 ▸ BlkT.newAt _ _ _ rfl
          clear hW5
          have kxc0 := kx.cell 0
          have kxc1 := kx.cell 1
          simp only [List.getElem?_toArray, List.getElem?_cons_succ, List.getElem?_cons_zero] at kxc0 kxc1
          have kyc0 := ky.cell 0
          have kyc1 := ky.cell 1
          simp only [List.getElem?_toArray, List.getElem?_cons_succ, List.getElem?_cons_zero] at kyc0 kyc1
          go_wp2_with fail
          refine (MU.out _ (HE.out.below hBw5)).mono ?_
          rintro r V6 ⟨rfl, hb6⟩
          have hB6 := hBw5.trans (hb6.mono hBw5.size)
          have kx := BlkT.keep kx hb6
          have ky := BlkT.keep ky hb6
          clear kxc0 kxc1
          clear kyc0 kyc1
          go_wp2_with fail
          generalize hW6 : World.alloc V6 _ = W6
          have hw6 : Below V6.heap.size V6 W6 := hW6 ▸ (Below.refl _ _).alloc (Nat.le_refl _) _
          have hBw6 := hB6.trans (hw6.mono hB6.size)
          have kx := BlkT.keep kx hw6
          have ky := BlkT.keep ky hw6
          have kz : BlkT W6 V6.heap.size #[.string mx, .string my] 26 := hW6 ▸ BlkT.newAt _ _ _ rfl
          clear hW6
          have HK6 := Lib.hid (fun V (hV : Below W6.heap.size W6 V) => And.intro ((BlkT.keep ky hV).cell 0) ((BlkT.keep ky hV).cell 1))
          simp only [List.getElem?_toArray, List.getElem?_cons_succ, List.getElem?_cons_zero] at HK6
          have HEV := Lib.hid (fun V (hV : Below W6.heap.size W6 V) => HE.out.below (hBw6.trans (hV.mono hBw6.size)))
          apply wp_suchB (w0 := W6) #[.string ⟨#[49]⟩, .string sb]
          · go_region_held3 (fun w' => Below W6.heap.size W6 w' ∧ (w'.cell? ⟨V5.heap.size, 0, none⟩ = some (.string sb) ∧ w'.cell? ⟨V5.heap.size, 1, none⟩ = some (.string ⟨#[49]⟩)))
              (first | exact ⟨(Below.refl _ _).drew, HK6.out _ (Below.refl _ _).drew⟩ | (have hh := (‹Below W6.heap.size W6 _ ∧ _›).1; have hb := hh.trans (hBq.mono hh.size); exact ⟨hb, HK6.out _ hb⟩) | (have hh := (‹Below W6.heap.size W6 _ ∧ _›).1; have hb := hh.trans (hBr.mono hh.size); exact ⟨hb, HK6.out _ hb⟩) | (have hh := (‹Below W6.heap.size W6 _ ∧ _›).1; exact ⟨hh.alloc hh.size _, HK6.out _ (hh.alloc hh.size _)⟩) | (have hh := (‹Below W6.heap.size W6 _ ∧ _›).1; exact ⟨(hh.setCell (by dsimp only; omega) _).setCell (by dsimp only; omega) _, HK6.out _ ((hh.setCell (by dsimp only; omega) _).setCell (by dsimp only; omega) _)⟩) | (exact ⟨hSr.alloc hSz _, HK6.out _ (hSr.alloc hSz _)⟩) | go_keep)
              (first
                | (go_at_call 25; (with_reducible refine (is_any _ _ _).mono ?_); rintro r wq ⟨rfl, hBq⟩; have hSq := Nat.le_trans (‹Below W6.heap.size W6 _ ∧ _›).1.size hBq.size; have hblk := BlkT.keep (BlkT.newAt (World.drew W6) #[.string ⟨#[]⟩, .string ⟨#[]⟩] 26 (n := W6.heap.size) rfl) hBq)
                | (go_at_call 25; (with_reducible refine (is_any _ _ _).mono ?_); rintro r wq ⟨rfl, hBq⟩; have hSq := Nat.le_trans (‹Below W6.heap.size W6 _ ∧ _›).1.size hBq.size)
                | (go_at_call 63; (with_reducible refine (DV.out _ (HEV.out _ (‹Below W6.heap.size W6 _ ∧ _›).1)).mono ?_); rintro r wr ⟨rfl, hBr⟩; have hSz := Nat.le_trans (‹Below W6.heap.size W6 _ ∧ _›).1.size hBr.size; have hSr := (‹Below W6.heap.size W6 _ ∧ _›).1.trans (hBr.mono (‹Below W6.heap.size W6 _ ∧ _›).1.size); have hblk2 := BlkT.keep hblk hBr; have u0 := hblk2.cell 0; have u1 := hblk2.cell 1; have v0 := hblk2.frozen 0; have v1 := hblk2.frozen 1; simp only [List.getElem?_toArray, List.getElem?_cons_succ, List.getElem?_cons_zero] at u0 u1)
                | (go_at_call 63; (with_reducible refine (DV.out _ (HEV.out _ (‹Below W6.heap.size W6 _ ∧ _›).1)).mono ?_); rintro r wr ⟨rfl, hBr⟩; have hSz := Nat.le_trans (‹Below W6.heap.size W6 _ ∧ _›).1.size hBr.size; have hSr := (‹Below W6.heap.size W6 _ ∧ _›).1.trans (hBr.mono (‹Below W6.heap.size W6 _ ∧ _›).1.size); have hblk2 := BlkT.keep (BlkT.newAt wq #[.string ⟨#[]⟩, .string ⟨#[]⟩] 26 rfl) hBr; have u0 := hblk2.cell 0; have u1 := hblk2.cell 1; have v0 := hblk2.frozen 0; have v1 := hblk2.frozen 1; simp only [List.getElem?_toArray, List.getElem?_cons_succ, List.getElem?_cons_zero] at u0 u1)
                | (go_at_call 63; (with_reducible refine (DV.out _ (HEV.out _ (‹Below W6.heap.size W6 _ ∧ _›).1)).mono ?_); rintro r wr ⟨rfl, hBr⟩; have hSz := Nat.le_trans (‹Below W6.heap.size W6 _ ∧ _›).1.size hBr.size; have hSr := (‹Below W6.heap.size W6 _ ∧ _›).1.trans (hBr.mono (‹Below W6.heap.size W6 _ ∧ _›).1.size); have hblk2 := BlkT.newAt wr #[.string ⟨#[]⟩, .string ⟨#[]⟩] 26 rfl; have u0 := hblk2.cell 0; have u1 := hblk2.cell 1; have v0 := hblk2.frozen 0; have v1 := hblk2.frozen 1; simp only [List.getElem?_toArray, List.getElem?_cons_succ, List.getElem?_cons_zero] at u0 u1))
            all_goals (
              refine NoPanic.normal ?_
              have hh := (‹Below W6.heap.size W6 _ ∧ _›).1
              first
                | (have hz : BlkT _ _ #[.string ⟨#[49]⟩, .string sb] 26 := (hblk2.set 0 (.string ⟨#[49]⟩)).set 1 (.string sb); generalize wr.heap.size = gx at *; exact ⟨rfl, gx, rfl, hh, hz⟩)
                | (have hz : BlkT _ _ #[.string ⟨#[49]⟩, .string sb] 26 := (hblk2.set 0 (.string ⟨#[49]⟩)).set 1 (.string sb); generalize wq.heap.size = gx at *; exact ⟨rfl, gx, rfl, hh, hz⟩)
                | (have hz : BlkT _ _ #[.string ⟨#[49]⟩, .string sb] 26 := (hblk2.set 0 (.string ⟨#[49]⟩)).set 1 (.string sb); obtain ⟨gx, hgx⟩ : ∃ g, wq.heap.size = g := ⟨_, rfl⟩; rw [hgx]; exact ⟨rfl, gx, rfl, hh, by rw [← hgx]; exact hz⟩)
                | (have hz : BlkT (wr.alloc (.cells #[.string ⟨#[49]⟩, .string sb] 26)) wr.heap.size #[.string ⟨#[49]⟩, .string sb] 26 := BlkT.newAt _ _ _ rfl; obtain ⟨gx, hgx⟩ : ∃ g, wr.heap.size = g := ⟨_, rfl⟩; rw [hgx] at hz; rw [hgx]; exact ⟨rfl, gx, rfl, hh, hz⟩)
                | (have hz : BlkT _ _ #[.string ⟨#[49]⟩, .string sb] 26 := (hblk2.set 0 (.string ⟨#[49]⟩)).set 1 (.string sb); exact ⟨rfl, _, rfl, hh, hz⟩)
                | (trace_state; fail))
          rintro g17 W17 ⟨hb17, k17⟩
          have hB17 := hBw6.trans (hb17.mono hBw6.size)
          clear HK6
          have kx := BlkT.keep kx hb17
          have ky := BlkT.keep ky hb17
          have kz := BlkT.keep kz hb17
          have kxc0 := kx.cell 0
          have kxc1 := kx.cell 1
          simp only [List.getElem?_toArray, List.getElem?_cons_succ, List.getElem?_cons_zero] at kxc0 kxc1
          have k17c0 := k17.cell 0
          have k17c1 := k17.cell 1
          simp only [List.getElem?_toArray, List.getElem?_cons_succ, List.getElem?_cons_zero] at k17c0 k17c1
          go_wp2_with fail
          refine (AD.out _ (HE.out.below hB17)).mono ?_
          rintro r V18 ⟨rfl, hb18⟩
          have hB18 := hB17.trans (hb18.mono hB17.size)
          have kx := BlkT.keep kx hb18
          have ky := BlkT.keep ky hb18
          have kz := BlkT.keep kz hb18
          have k17 := BlkT.keep k17 hb18
          clear kxc0 kxc1
          clear k17c0 k17c1
          have kzc0 := kz.cell 0
          have kzc1 := kz.cell 1
          simp only [List.getElem?_toArray, List.getElem?_cons_succ, List.getElem?_cons_zero] at kzc0 kzc1
          have hwmn : IntKind.i64.wrap ((n : Int) + (m : Int)) = (n : Int) + (m : Int) := by rw [IntKind.wrap_i64]; omega
          have hwmn1 : IntKind.i64.wrap ((n : Int) + (m : Int) + 1) = (n : Int) + (m : Int) + 1 := by rw [IntKind.wrap_i64]; omega
          have hf1 : (n : Int) + (m : Int) + 1 ≤ 200 := by omega
          have hf2 : decide ((n : Int) + (m : Int) + 1 ≤ 200) = true := decide_eq_true hf1
          have hlt : (n : Int) < (m : Int) := by have := H1.out; omega
          have hn0 : ((n : Int) == 0) = false := beq_eq_false_iff_ne.2 (by have := H1.out; have := H0.out; omega)
          clear kzc0 kzc1
          go_upto_region 20 with (fail)
          generalize hW18 : World.alloc V18 _ = W18
          have hw18 : Below V18.heap.size V18 W18 := hW18 ▸ (Below.refl _ _).alloc (Nat.le_refl _) _
          have hBw18 := hB18.trans (hw18.mono hB18.size)
          have kx := BlkT.keep kx hw18
          have ky := BlkT.keep ky hw18
          have kz := BlkT.keep kz hw18
          have k17 := BlkT.keep k17 hw18
          clear hW18
          have kxc0 := kx.cell 0
          have kxc1 := kx.cell 1
          simp only [List.getElem?_toArray, List.getElem?_cons_succ, List.getElem?_cons_zero] at kxc0 kxc1
          have kyc0 := ky.cell 0
          have kyc1 := ky.cell 1
          simp only [List.getElem?_toArray, List.getElem?_cons_succ, List.getElem?_cons_zero] at kyc0 kyc1
          have kzc0 := kz.cell 0
          have kzc1 := kz.cell 1
          simp only [List.getElem?_toArray, List.getElem?_cons_succ, List.getElem?_cons_zero] at kzc0 kzc1
          go_wp2_with fail
          refine (C1.out _ (HE.out.below hBw18)).mono ?_
          rintro r V19 ⟨rfl, hb19⟩
          have hB19 := hBw18.trans (hb19.mono hBw18.size)
          have kx := BlkT.keep kx hb19
          have ky := BlkT.keep ky hb19
          have kz := BlkT.keep kz hb19
          have k17 := BlkT.keep k17 hb19
          clear kxc0 kxc1
          clear kyc0 kyc1
          clear kzc0 kzc1
          have kxc0 := kx.cell 0
          have kxc1 := kx.cell 1
          simp only [List.getElem?_toArray, List.getElem?_cons_succ, List.getElem?_cons_zero] at kxc0 kxc1
          have k17c0 := k17.cell 0
          have k17c1 := k17.cell 1
          simp only [List.getElem?_toArray, List.getElem?_cons_succ, List.getElem?_cons_zero] at k17c0 k17c1
          go_wp2_with fail
          refine (C2.out _ (HE.out.below hB19)).mono ?_
          rintro r V20 ⟨rfl, hb20⟩
          have hB20 := hB19.trans (hb20.mono hB19.size)
          have kx := BlkT.keep kx hb20
          have ky := BlkT.keep ky hb20
          have kz := BlkT.keep kz hb20
          have k17 := BlkT.keep k17 hb20
          go_wp2_with fail
          go_ret
          exact ⟨rfl, hB20⟩
set_option maxRecDepth 100000 in
set_option maxHeartbeats 8000000 in
theorem lim16_lb (p q : Int) (n m : Nat) (w : World) (he : EnvR w) (hn : n < 200) (hm : m < 200) (h1 : n < m) (h2 : ¬ n + m < 200)
    (hp : ∀ V : World, Calls Tryz.prog 28 #[.int .i64 p, .int .i64 200] V fun e w' => e = .returned (.int .i64 (n : Int)) ∧ Below V.heap.size V w')
    (hq : ∀ V : World, Calls Tryz.prog 28 #[.int .i64 q, .int .i64 200] V fun e w' => e = .returned (.int .i64 (m : Int)) ∧ Below V.heap.size V w') :
    Calls Tryz.prog 16 #[.int .i64 p, .int .i64 q] w fun e w' => e = .returned (.bool true) ∧ Below w.heap.size w w' := by
  have HE := Lib.hid he
  have PP := Lib.hid hp
  have PQ := Lib.hid hq
  clear he hp hq
  have e1 := tb_mul hn hm
  have e2 := tb_div hm
  have e3 := tb_add hn hm
  have e4 := tb_cmp1 hn hm
  have e5 := tb_cmp2 hn hm
  rw [S_one] at e1 e2 e3 e4 e5
  rw [if_neg h2] at e1 e3
  rw [if_pos h1] at e4
  rw [if_neg (by omega)] at e5
  have H1 := Lib.hid h1
  clear h1
  have zn := tb_size n
  have zm := tb_size m
  have MU := Lib.hid (fun V (hV : EnvR V) => by have k := mul04 (tenB n) ⟨#[49]⟩ (tenB m) ⟨#[49]⟩ V (by omega) (by decide) (by omega) (by decide) hV.env; rw [e1] at k; exact k)
  have DV := Lib.hid (fun V (hV : EnvR V) => by have k := div04 ⟨#[49]⟩ ⟨#[49]⟩ (tenB m) ⟨#[49]⟩ V (by decide) (by decide) (by omega) (by decide) hV.env; rw [e2] at k; exact k)
  have AD := Lib.hid (fun V (hV : EnvR V) => by have k := add04 (tenB n) ⟨#[49]⟩ ⟨#[49]⟩ (tenB m) V (by omega) (by decide) (by decide) (by omega) hV.env; exact k)
  have C1 := Lib.hid (fun V (hV : EnvR V) => by have k := compare04 (tenB n) ⟨#[49]⟩ (tenB m) ⟨#[49]⟩ V (by omega) (by decide) (by omega) (by decide) hV.env; rw [e4] at k; exact k)
  have C2 := Lib.hid (fun V (hV : EnvR V) => by have k := compare04 (tenB n) ⟨#[49]⟩ ⟨#[49]⟩ (tenB m) V (by omega) (by decide) (by decide) (by omega) hV.env; rw [e5] at k; exact k)
  have hR : sumR N3.addO (tenB n) ⟨#[49]⟩ ⟨#[49]⟩ (tenB m) = none := by
    cases hs : sumR N3.addO (tenB n) ⟨#[49]⟩ ⟨#[49]⟩ (tenB m) with
    | none => rfl
    | some xy => rw [hs] at e3; cases e3
  rw [hR] at AD
  clear e1 e2 e3 e4 e5 hR zn zm
  dsimp only [valR, errR] at MU DV AD
  go_enter Tryz.func16, Tryz.ntmps16
  go_wp2_with fail
  refine (sane04 _ HE.out).mono ?_
  rintro r V1 ⟨rfl, hb1⟩
  have hB1 := hb1
  go_wp2_with fail
  refine (PP.out _).mono ?_
  rintro r V2 ⟨rfl, hb2⟩
  have hB2 := hB1.trans (hb2.mono hB1.size)
  go_wp2_with fail
  refine (PQ.out _).mono ?_
  rintro r V3 ⟨rfl, hb3⟩
  have hB3 := hB2.trans (hb3.mono hB2.size)
  go_wp2_with fail
  go_loopw [6, 7] (fun u v wr => ∃ k : Nat, k ≤ n ∧ u = .string (tenB k) ∧ v = .int .i64 (k : Nat) ∧ V3 = wr) (fun _ v _ => ((n : Int) - Go.RowKit.intOf v).toNat)
  case atStart => exact ⟨0, Nat.zero_le _, by rw [tb_zero], rfl, rfl⟩
  case round =>
    obtain ⟨k, hk, rfl, rfl, rfl⟩ := hrel
    by_cases hkn : k < n
    · have hki : (k : Int) < (n : Int) := by omega
      have hw1 : IntKind.i64.wrap ((k : Int) + 1) = ((k + 1 : Nat) : Int) := by rw [IntKind.wrap_i64]; omega
      have hz := tb_size k
      have q1 : ¬ 9223372036854775807 < (tenB k).size + 1 := by omega
      have q2 : ¬ 9223372036854775807 < (tenB k).size + (⟨#[48]⟩ : ByteArray).size := by show ¬ 9223372036854775807 < (tenB k).size + 1; omega
      have hs' := tb_succ k
      generalize tenB k = sk at *
      have HS := Lib.hid hs'
      clear hz hs'
      go_wp2_with fail
      go_roundw
      case rel => exact ⟨k + 1, by omega, by rw [← HS.out], by go_num, by first | rfl | trivial⟩
      case measure => simp [Go.RowKit.intOf]; omega
    · have hkn2 : k = n := by omega
      rw [hkn2]
      have hkk : ¬ (n : Int) < (n : Int) := by omega
      clear hkn2
      go_wp2_with fail
      go_loopw [8, 9] (fun u v wr => ∃ k : Nat, k ≤ m ∧ u = .string (tenB k) ∧ v = .int .i64 (k : Nat) ∧ V3 = wr) (fun _ v _ => ((m : Int) - Go.RowKit.intOf v).toNat)
      case atStart => exact ⟨0, Nat.zero_le _, by rw [tb_zero], rfl, rfl⟩
      case round =>
        obtain ⟨k, hk, rfl, rfl, rfl⟩ := hrel
        by_cases hkn : k < m
        · have hki : (k : Int) < (m : Int) := by omega
          have hw1 : IntKind.i64.wrap ((k : Int) + 1) = ((k + 1 : Nat) : Int) := by rw [IntKind.wrap_i64]; omega
          have hz := tb_size k
          have q1 : ¬ 9223372036854775807 < (tenB k).size + 1 := by omega
          have q2 : ¬ 9223372036854775807 < (tenB k).size + (⟨#[48]⟩ : ByteArray).size := by show ¬ 9223372036854775807 < (tenB k).size + 1; omega
          have hs' := tb_succ k
          generalize tenB k = sk at *
          have HS := Lib.hid hs'
          clear hz hs'
          go_wp2_with fail
          go_roundw
          case rel => exact ⟨k + 1, by omega, by rw [← HS.out], by go_num, by first | rfl | trivial⟩
          case measure => simp [Go.RowKit.intOf]; omega
        · have hkn2 : k = m := by omega
          rw [hkn2]
          have hkk : ¬ (m : Int) < (m : Int) := by omega
          clear hkn2
          go_wp2_with fail
          generalize tenB n = sa at *
          generalize tenB m = sb at *
          refine (is_any _ _ _).mono ?_
          rintro r V4 ⟨rfl, hb4⟩
          have hB4 := hB3.trans (hb4.mono hB3.size)
          go_wp2_with fail
          generalize hW4 : World.alloc V4 _ = W4
          have hw4 : Below V4.heap.size V4 W4 := hW4 ▸ (Below.refl _ _).alloc (Nat.le_refl _) _
          have hBw4 := hB4.trans (hw4.mono hB4.size)
          have kx : BlkT W4 V4.heap.size #[.string sa, .string ⟨#[49]⟩] 26 := hW4 ▸ BlkT.newAt _ _ _ rfl
          clear hW4
          refine (is_any _ _ _).mono ?_
          rintro r V5 ⟨rfl, hb5⟩
          have hB5 := hBw4.trans (hb5.mono hBw4.size)
          have kx := BlkT.keep kx hb5
          go_upto_region 16 with (fail)
          generalize hW5 : World.alloc V5 _ = W5
          have hw5 : Below V5.heap.size V5 W5 := hW5 ▸ (Below.refl _ _).alloc (Nat.le_refl _) _
          have hBw5 := hB5.trans (hw5.mono hB5.size)
          have kx := BlkT.keep kx hw5
          have ky : BlkT W5 V5.heap.size #[.string sb, .string ⟨#[49]⟩] 26 := hW5 ▸ BlkT.newAt _ _ _ rfl
          clear hW5
          have kxc0 := kx.cell 0
          have kxc1 := kx.cell 1
          simp only [List.getElem?_toArray, List.getElem?_cons_succ, List.getElem?_cons_zero] at kxc0 kxc1
          have kyc0 := ky.cell 0
          have kyc1 := ky.cell 1
          simp only [List.getElem?_toArray, List.getElem?_cons_succ, List.getElem?_cons_zero] at kyc0 kyc1
          go_wp2_with fail
          refine (MU.out _ (HE.out.below hBw5)).mono ?_
          rintro r V6 ⟨rfl, hb6⟩
          have hB6 := hBw5.trans (hb6.mono hBw5.size)
          have kx := BlkT.keep kx hb6
          have ky := BlkT.keep ky hb6
          clear kxc0 kxc1
          clear kyc0 kyc1
          go_wp2_with fail
          generalize hW6 : World.alloc V6 _ = W6
          have hw6 : Below V6.heap.size V6 W6 := hW6 ▸ (Below.refl _ _).alloc (Nat.le_refl _) _
          have hBw6 := hB6.trans (hw6.mono hB6.size)
          have kx := BlkT.keep kx hw6
          have ky := BlkT.keep ky hw6
          have kz : BlkT W6 V6.heap.size #[.string ⟨#[]⟩, .string ⟨#[]⟩] 26 := hW6 ▸ BlkT.newAt _ _ _ rfl
          clear hW6
          have HK6 := Lib.hid (fun V (hV : Below W6.heap.size W6 V) => And.intro ((BlkT.keep ky hV).cell 0) ((BlkT.keep ky hV).cell 1))
          simp only [List.getElem?_toArray, List.getElem?_cons_succ, List.getElem?_cons_zero] at HK6
          have HEV := Lib.hid (fun V (hV : Below W6.heap.size W6 V) => HE.out.below (hBw6.trans (hV.mono hBw6.size)))
          apply wp_suchB (w0 := W6) #[.string ⟨#[49]⟩, .string sb]
          · go_region_held3 (fun w' => Below W6.heap.size W6 w' ∧ (w'.cell? ⟨V5.heap.size, 0, none⟩ = some (.string sb) ∧ w'.cell? ⟨V5.heap.size, 1, none⟩ = some (.string ⟨#[49]⟩)))
              (first | exact ⟨(Below.refl _ _).drew, HK6.out _ (Below.refl _ _).drew⟩ | (have hh := (‹Below W6.heap.size W6 _ ∧ _›).1; have hb := hh.trans (hBq.mono hh.size); exact ⟨hb, HK6.out _ hb⟩) | (have hh := (‹Below W6.heap.size W6 _ ∧ _›).1; have hb := hh.trans (hBr.mono hh.size); exact ⟨hb, HK6.out _ hb⟩) | (have hh := (‹Below W6.heap.size W6 _ ∧ _›).1; exact ⟨hh.alloc hh.size _, HK6.out _ (hh.alloc hh.size _)⟩) | (have hh := (‹Below W6.heap.size W6 _ ∧ _›).1; exact ⟨(hh.setCell (by dsimp only; omega) _).setCell (by dsimp only; omega) _, HK6.out _ ((hh.setCell (by dsimp only; omega) _).setCell (by dsimp only; omega) _)⟩) | (exact ⟨hSr.alloc hSz _, HK6.out _ (hSr.alloc hSz _)⟩) | go_keep)
              (first
                | (go_at_call 25; (with_reducible refine (is_any _ _ _).mono ?_); rintro r wq ⟨rfl, hBq⟩; have hSq := Nat.le_trans (‹Below W6.heap.size W6 _ ∧ _›).1.size hBq.size; have hblk := BlkT.keep (BlkT.newAt (World.drew W6) #[.string ⟨#[]⟩, .string ⟨#[]⟩] 26 (n := W6.heap.size) rfl) hBq)
                | (go_at_call 25; (with_reducible refine (is_any _ _ _).mono ?_); rintro r wq ⟨rfl, hBq⟩; have hSq := Nat.le_trans (‹Below W6.heap.size W6 _ ∧ _›).1.size hBq.size)
                | (go_at_call 63; (with_reducible refine (DV.out _ (HEV.out _ (‹Below W6.heap.size W6 _ ∧ _›).1)).mono ?_); rintro r wr ⟨rfl, hBr⟩; have hSz := Nat.le_trans (‹Below W6.heap.size W6 _ ∧ _›).1.size hBr.size; have hSr := (‹Below W6.heap.size W6 _ ∧ _›).1.trans (hBr.mono (‹Below W6.heap.size W6 _ ∧ _›).1.size); have hblk2 := BlkT.keep hblk hBr; have u0 := hblk2.cell 0; have u1 := hblk2.cell 1; have v0 := hblk2.frozen 0; have v1 := hblk2.frozen 1; simp only [List.getElem?_toArray, List.getElem?_cons_succ, List.getElem?_cons_zero] at u0 u1)
                | (go_at_call 63; (with_reducible refine (DV.out _ (HEV.out _ (‹Below W6.heap.size W6 _ ∧ _›).1)).mono ?_); rintro r wr ⟨rfl, hBr⟩; have hSz := Nat.le_trans (‹Below W6.heap.size W6 _ ∧ _›).1.size hBr.size; have hSr := (‹Below W6.heap.size W6 _ ∧ _›).1.trans (hBr.mono (‹Below W6.heap.size W6 _ ∧ _›).1.size); have hblk2 := BlkT.keep (BlkT.newAt wq #[.string ⟨#[]⟩, .string ⟨#[]⟩] 26 rfl) hBr; have u0 := hblk2.cell 0; have u1 := hblk2.cell 1; have v0 := hblk2.frozen 0; have v1 := hblk2.frozen 1; simp only [List.getElem?_toArray, List.getElem?_cons_succ, List.getElem?_cons_zero] at u0 u1)
                | (go_at_call 63; (with_reducible refine (DV.out _ (HEV.out _ (‹Below W6.heap.size W6 _ ∧ _›).1)).mono ?_); rintro r wr ⟨rfl, hBr⟩; have hSz := Nat.le_trans (‹Below W6.heap.size W6 _ ∧ _›).1.size hBr.size; have hSr := (‹Below W6.heap.size W6 _ ∧ _›).1.trans (hBr.mono (‹Below W6.heap.size W6 _ ∧ _›).1.size); have hblk2 := BlkT.newAt wr #[.string ⟨#[]⟩, .string ⟨#[]⟩] 26 rfl; have u0 := hblk2.cell 0; have u1 := hblk2.cell 1; have v0 := hblk2.frozen 0; have v1 := hblk2.frozen 1; simp only [List.getElem?_toArray, List.getElem?_cons_succ, List.getElem?_cons_zero] at u0 u1))
            all_goals (
              refine NoPanic.normal ?_
              have hh := (‹Below W6.heap.size W6 _ ∧ _›).1
              first
                | (have hz : BlkT _ _ #[.string ⟨#[49]⟩, .string sb] 26 := (hblk2.set 0 (.string ⟨#[49]⟩)).set 1 (.string sb); generalize wr.heap.size = gx at *; exact ⟨rfl, gx, rfl, hh, hz⟩)
                | (have hz : BlkT _ _ #[.string ⟨#[49]⟩, .string sb] 26 := (hblk2.set 0 (.string ⟨#[49]⟩)).set 1 (.string sb); generalize wq.heap.size = gx at *; exact ⟨rfl, gx, rfl, hh, hz⟩)
                | (have hz : BlkT _ _ #[.string ⟨#[49]⟩, .string sb] 26 := (hblk2.set 0 (.string ⟨#[49]⟩)).set 1 (.string sb); obtain ⟨gx, hgx⟩ : ∃ g, wq.heap.size = g := ⟨_, rfl⟩; rw [hgx]; exact ⟨rfl, gx, rfl, hh, by rw [← hgx]; exact hz⟩)
                | (have hz : BlkT (wr.alloc (.cells #[.string ⟨#[49]⟩, .string sb] 26)) wr.heap.size #[.string ⟨#[49]⟩, .string sb] 26 := BlkT.newAt _ _ _ rfl; obtain ⟨gx, hgx⟩ : ∃ g, wr.heap.size = g := ⟨_, rfl⟩; rw [hgx] at hz; rw [hgx]; exact ⟨rfl, gx, rfl, hh, hz⟩)
                | (have hz : BlkT _ _ #[.string ⟨#[49]⟩, .string sb] 26 := (hblk2.set 0 (.string ⟨#[49]⟩)).set 1 (.string sb); exact ⟨rfl, _, rfl, hh, hz⟩)
                | (trace_state; fail))
          rintro g17 W17 ⟨hb17, k17⟩
          have hB17 := hBw6.trans (hb17.mono hBw6.size)
          clear HK6
          have kx := BlkT.keep kx hb17
          have ky := BlkT.keep ky hb17
          have kz := BlkT.keep kz hb17
          have kxc0 := kx.cell 0
          have kxc1 := kx.cell 1
          simp only [List.getElem?_toArray, List.getElem?_cons_succ, List.getElem?_cons_zero] at kxc0 kxc1
          have k17c0 := k17.cell 0
          have k17c1 := k17.cell 1
          simp only [List.getElem?_toArray, List.getElem?_cons_succ, List.getElem?_cons_zero] at k17c0 k17c1
          go_wp2_with fail
          refine (AD.out _ (HE.out.below hB17)).mono ?_
          rintro r V18 ⟨rfl, hb18⟩
          have hB18 := hB17.trans (hb18.mono hB17.size)
          have kx := BlkT.keep kx hb18
          have ky := BlkT.keep ky hb18
          have kz := BlkT.keep kz hb18
          have k17 := BlkT.keep k17 hb18
          clear kxc0 kxc1
          clear k17c0 k17c1
          have kzc0 := kz.cell 0
          have kzc1 := kz.cell 1
          simp only [List.getElem?_toArray, List.getElem?_cons_succ, List.getElem?_cons_zero] at kzc0 kzc1
          have hwmn : IntKind.i64.wrap ((n : Int) + (m : Int)) = (n : Int) + (m : Int) := by rw [IntKind.wrap_i64]; omega
          have hwmn1 : IntKind.i64.wrap ((n : Int) + (m : Int) + 1) = (n : Int) + (m : Int) + 1 := by rw [IntKind.wrap_i64]; omega
          have hf1 : ¬ (n : Int) + (m : Int) + 1 ≤ 200 := by omega
          have hf2 : decide ((n : Int) + (m : Int) + 1 ≤ 200) = false := decide_eq_false hf1
          have hf3 : 200 < (n : Int) + (m : Int) + 1 := by omega
          have hlt : (n : Int) < (m : Int) := by have := H1.out; omega
          have hn0 : ((n : Int) == 0) = false := beq_eq_false_iff_ne.2 (by have := H1.out; omega)
          clear kzc0 kzc1
          go_upto_region 20 with (fail)
          generalize hW18 : World.alloc V18 _ = W18
          have hw18 : Below V18.heap.size V18 W18 := hW18 ▸ (Below.refl _ _).alloc (Nat.le_refl _) _
          have hBw18 := hB18.trans (hw18.mono hB18.size)
          have kx := BlkT.keep kx hw18
          have ky := BlkT.keep ky hw18
          have kz := BlkT.keep kz hw18
          have k17 := BlkT.keep k17 hw18
          clear hW18
          have kxc0 := kx.cell 0
          have kxc1 := kx.cell 1
          simp only [List.getElem?_toArray, List.getElem?_cons_succ, List.getElem?_cons_zero] at kxc0 kxc1
          have kyc0 := ky.cell 0
          have kyc1 := ky.cell 1
          simp only [List.getElem?_toArray, List.getElem?_cons_succ, List.getElem?_cons_zero] at kyc0 kyc1
          have kzc0 := kz.cell 0
          have kzc1 := kz.cell 1
          simp only [List.getElem?_toArray, List.getElem?_cons_succ, List.getElem?_cons_zero] at kzc0 kzc1
          go_wp2_with fail
          refine (C1.out _ (HE.out.below hBw18)).mono ?_
          rintro r V19 ⟨rfl, hb19⟩
          have hB19 := hBw18.trans (hb19.mono hBw18.size)
          have kx := BlkT.keep kx hb19
          have ky := BlkT.keep ky hb19
          have kz := BlkT.keep kz hb19
          have k17 := BlkT.keep k17 hb19
          clear kxc0 kxc1
          clear kyc0 kyc1
          clear kzc0 kzc1
          have kxc0 := kx.cell 0
          have kxc1 := kx.cell 1
          simp only [List.getElem?_toArray, List.getElem?_cons_succ, List.getElem?_cons_zero] at kxc0 kxc1
          have k17c0 := k17.cell 0
          have k17c1 := k17.cell 1
          simp only [List.getElem?_toArray, List.getElem?_cons_succ, List.getElem?_cons_zero] at k17c0 k17c1
          go_wp2_with fail
          refine (C2.out _ (HE.out.below hB19)).mono ?_
          rintro r V20 ⟨rfl, hb20⟩
          have hB20 := hB19.trans (hb20.mono hB19.size)
          have kx := BlkT.keep kx hb20
          have ky := BlkT.keep ky hb20
          have kz := BlkT.keep kz hb20
          have k17 := BlkT.keep k17 hb20
          go_wp2_with fail
          go_ret
          exact ⟨rfl, hB20⟩
set_option maxRecDepth 100000 in
set_option maxHeartbeats 8000000 in
theorem lim16_gf (p q : Int) (n m : Nat) (w : World) (he : EnvR w) (hn : n < 200) (hm : m < 200) (h1 : m < n) (h2 : n + m < 200)
    (hp : ∀ V : World, Calls Tryz.prog 28 #[.int .i64 p, .int .i64 200] V fun e w' => e = .returned (.int .i64 (n : Int)) ∧ Below V.heap.size V w')
    (hq : ∀ V : World, Calls Tryz.prog 28 #[.int .i64 q, .int .i64 200] V fun e w' => e = .returned (.int .i64 (m : Int)) ∧ Below V.heap.size V w') :
    Calls Tryz.prog 16 #[.int .i64 p, .int .i64 q] w fun e w' => e = .returned (.bool true) ∧ Below w.heap.size w w' := by
  have HE := Lib.hid he
  have PP := Lib.hid hp
  have PQ := Lib.hid hq
  clear he hp hq
  have e1 := tb_mul hn hm
  have e2 := tb_div hm
  have e3 := tb_add hn hm
  have e4 := tb_cmp1 hn hm
  have e5 := tb_cmp2 hn hm
  rw [S_one] at e1 e2 e3 e4 e5
  rw [if_pos h2] at e1 e3
  rw [if_neg (by omega), if_pos h1] at e4
  rw [if_neg (by omega)] at e5
  have H1 := Lib.hid h1
  clear h1
  have zn := tb_size n
  have zm := tb_size m
  have MU := Lib.hid (fun V (hV : EnvR V) => by have k := mul04 (tenB n) ⟨#[49]⟩ (tenB m) ⟨#[49]⟩ V (by omega) (by decide) (by omega) (by decide) hV.env; rw [e1] at k; exact k)
  have DV := Lib.hid (fun V (hV : EnvR V) => by have k := div04 ⟨#[49]⟩ ⟨#[49]⟩ (tenB m) ⟨#[49]⟩ V (by decide) (by decide) (by omega) (by decide) hV.env; rw [e2] at k; exact k)
  have AD := Lib.hid (fun V (hV : EnvR V) => by have k := add04 (tenB n) ⟨#[49]⟩ ⟨#[49]⟩ (tenB m) V (by omega) (by decide) (by decide) (by omega) hV.env; exact k)
  have C1 := Lib.hid (fun V (hV : EnvR V) => by have k := compare04 (tenB n) ⟨#[49]⟩ (tenB m) ⟨#[49]⟩ V (by omega) (by decide) (by omega) (by decide) hV.env; rw [e4] at k; exact k)
  have C2 := Lib.hid (fun V (hV : EnvR V) => by have k := compare04 (tenB n) ⟨#[49]⟩ ⟨#[49]⟩ (tenB m) V (by omega) (by decide) (by decide) (by omega) hV.env; rw [e5] at k; exact k)
  generalize strR (N3.mulF (((10 ^ n : Nat) : Int), 1) (((10 ^ m : Nat) : Int), 1)) = sr at *
  obtain ⟨mx, my⟩ := sr
  obtain ⟨xy, hR⟩ : ∃ xy, sumR N3.addO (tenB n) ⟨#[49]⟩ ⟨#[49]⟩ (tenB m) = some xy := by
    cases hs : sumR N3.addO (tenB n) ⟨#[49]⟩ ⟨#[49]⟩ (tenB m) with
    | none => rw [hs] at e3; cases e3
    | some xy => exact ⟨xy, rfl⟩
  obtain ⟨ax, ay⟩ := xy
  rw [hR] at AD
  clear e1 e2 e3 e4 e5 hR zn zm
  dsimp only [valR, errR] at MU DV AD
  go_enter Tryz.func16, Tryz.ntmps16
  go_wp2_with fail
  refine (sane04 _ HE.out).mono ?_
  rintro r V1 ⟨rfl, hb1⟩
  have hB1 := hb1
  go_wp2_with fail
  refine (PP.out _).mono ?_
  rintro r V2 ⟨rfl, hb2⟩
  have hB2 := hB1.trans (hb2.mono hB1.size)
  go_wp2_with fail
  refine (PQ.out _).mono ?_
  rintro r V3 ⟨rfl, hb3⟩
  have hB3 := hB2.trans (hb3.mono hB2.size)
  go_wp2_with fail
  go_loopw [6, 7] (fun u v wr => ∃ k : Nat, k ≤ n ∧ u = .string (tenB k) ∧ v = .int .i64 (k : Nat) ∧ V3 = wr) (fun _ v _ => ((n : Int) - Go.RowKit.intOf v).toNat)
  case atStart => exact ⟨0, Nat.zero_le _, by rw [tb_zero], rfl, rfl⟩
  case round =>
    obtain ⟨k, hk, rfl, rfl, rfl⟩ := hrel
    by_cases hkn : k < n
    · have hki : (k : Int) < (n : Int) := by omega
      have hw1 : IntKind.i64.wrap ((k : Int) + 1) = ((k + 1 : Nat) : Int) := by rw [IntKind.wrap_i64]; omega
      have hz := tb_size k
      have q1 : ¬ 9223372036854775807 < (tenB k).size + 1 := by omega
      have q2 : ¬ 9223372036854775807 < (tenB k).size + (⟨#[48]⟩ : ByteArray).size := by show ¬ 9223372036854775807 < (tenB k).size + 1; omega
      have hs' := tb_succ k
      generalize tenB k = sk at *
      have HS := Lib.hid hs'
      clear hz hs'
      go_wp2_with fail
      go_roundw
      case rel => exact ⟨k + 1, by omega, by rw [← HS.out], by go_num, by first | rfl | trivial⟩
      case measure => simp [Go.RowKit.intOf]; omega
    · have hkn2 : k = n := by omega
      rw [hkn2]
      have hkk : ¬ (n : Int) < (n : Int) := by omega
      clear hkn2
      go_wp2_with fail
      go_loopw [8, 9] (fun u v wr => ∃ k : Nat, k ≤ m ∧ u = .string (tenB k) ∧ v = .int .i64 (k : Nat) ∧ V3 = wr) (fun _ v _ => ((m : Int) - Go.RowKit.intOf v).toNat)
      case atStart => exact ⟨0, Nat.zero_le _, by rw [tb_zero], rfl, rfl⟩
      case round =>
        obtain ⟨k, hk, rfl, rfl, rfl⟩ := hrel
        by_cases hkn : k < m
        · have hki : (k : Int) < (m : Int) := by omega
          have hw1 : IntKind.i64.wrap ((k : Int) + 1) = ((k + 1 : Nat) : Int) := by rw [IntKind.wrap_i64]; omega
          have hz := tb_size k
          have q1 : ¬ 9223372036854775807 < (tenB k).size + 1 := by omega
          have q2 : ¬ 9223372036854775807 < (tenB k).size + (⟨#[48]⟩ : ByteArray).size := by show ¬ 9223372036854775807 < (tenB k).size + 1; omega
          have hs' := tb_succ k
          generalize tenB k = sk at *
          have HS := Lib.hid hs'
          clear hz hs'
          go_wp2_with fail
          go_roundw
          case rel => exact ⟨k + 1, by omega, by rw [← HS.out], by go_num, by first | rfl | trivial⟩
          case measure => simp [Go.RowKit.intOf]; omega
        · have hkn2 : k = m := by omega
          rw [hkn2]
          have hkk : ¬ (m : Int) < (m : Int) := by omega
          clear hkn2
          go_wp2_with fail
          generalize tenB n = sa at *
          generalize tenB m = sb at *
          refine (is_any _ _ _).mono ?_
          rintro r V4 ⟨rfl, hb4⟩
          have hB4 := hB3.trans (hb4.mono hB3.size)
          go_wp2_with fail
          generalize hW4 : World.alloc V4 _ = W4
          have hw4 : Below V4.heap.size V4 W4 := hW4 ▸ (Below.refl _ _).alloc (Nat.le_refl _) _
          have hBw4 := hB4.trans (hw4.mono hB4.size)
          have kx : BlkT W4 V4.heap.size #[.string sa, .string ⟨#[49]⟩] 26 := hW4 ▸ BlkT.newAt _ _ _ rfl
          clear hW4
          refine (is_any _ _ _).mono ?_
          rintro r V5 ⟨rfl, hb5⟩
          have hB5 := hBw4.trans (hb5.mono hBw4.size)
          have kx := BlkT.keep kx hb5
          go_upto_region 16 with (fail)
          generalize hW5 : World.alloc V5 _ = W5
          have hw5 : Below V5.heap.size V5 W5 := hW5 ▸ (Below.refl _ _).alloc (Nat.le_refl _) _
          have hBw5 := hB5.trans (hw5.mono hB5.size)
          have kx := BlkT.keep kx hw5
          have ky : BlkT W5 V5.heap.size #[.string sb, .string ⟨#[49]⟩] 26 := hW5 ▸ BlkT.newAt _ _ _ rfl
          clear hW5
          have kxc0 := kx.cell 0
          have kxc1 := kx.cell 1
          simp only [List.getElem?_toArray, List.getElem?_cons_succ, List.getElem?_cons_zero] at kxc0 kxc1
          have kyc0 := ky.cell 0
          have kyc1 := ky.cell 1
          simp only [List.getElem?_toArray, List.getElem?_cons_succ, List.getElem?_cons_zero] at kyc0 kyc1
          go_wp2_with fail
          refine (MU.out _ (HE.out.below hBw5)).mono ?_
          rintro r V6 ⟨rfl, hb6⟩
          have hB6 := hBw5.trans (hb6.mono hBw5.size)
          have kx := BlkT.keep kx hb6
          have ky := BlkT.keep ky hb6
          clear kxc0 kxc1
          clear kyc0 kyc1
          go_wp2_with fail
          generalize hW6 : World.alloc V6 _ = W6
          have hw6 : Below V6.heap.size V6 W6 := hW6 ▸ (Below.refl _ _).alloc (Nat.le_refl _) _
          have hBw6 := hB6.trans (hw6.mono hB6.size)
          have kx := BlkT.keep kx hw6
          have ky := BlkT.keep ky hw6
          have kz : BlkT W6 V6.heap.size #[.string mx, .string my] 26 := hW6 ▸ BlkT.newAt _ _ _ rfl
          clear hW6
          have HK6 := Lib.hid (fun V (hV : Below W6.heap.size W6 V) => And.intro ((BlkT.keep ky hV).cell 0) ((BlkT.keep ky hV).cell 1))
          simp only [List.getElem?_toArray, List.getElem?_cons_succ, List.getElem?_cons_zero] at HK6
          have HEV := Lib.hid (fun V (hV : Below W6.heap.size W6 V) => HE.out.below (hBw6.trans (hV.mono hBw6.size)))
          apply wp_suchB (w0 := W6) #[.string ⟨#[49]⟩, .string sb]
          · go_region_held3 (fun w' => Below W6.heap.size W6 w' ∧ (w'.cell? ⟨V5.heap.size, 0, none⟩ = some (.string sb) ∧ w'.cell? ⟨V5.heap.size, 1, none⟩ = some (.string ⟨#[49]⟩)))
              (first | exact ⟨(Below.refl _ _).drew, HK6.out _ (Below.refl _ _).drew⟩ | (have hh := (‹Below W6.heap.size W6 _ ∧ _›).1; have hb := hh.trans (hBq.mono hh.size); exact ⟨hb, HK6.out _ hb⟩) | (have hh := (‹Below W6.heap.size W6 _ ∧ _›).1; have hb := hh.trans (hBr.mono hh.size); exact ⟨hb, HK6.out _ hb⟩) | (have hh := (‹Below W6.heap.size W6 _ ∧ _›).1; exact ⟨hh.alloc hh.size _, HK6.out _ (hh.alloc hh.size _)⟩) | (have hh := (‹Below W6.heap.size W6 _ ∧ _›).1; exact ⟨(hh.setCell (by dsimp only; omega) _).setCell (by dsimp only; omega) _, HK6.out _ ((hh.setCell (by dsimp only; omega) _).setCell (by dsimp only; omega) _)⟩) | (exact ⟨hSr.alloc hSz _, HK6.out _ (hSr.alloc hSz _)⟩) | go_keep)
              (first
                | (go_at_call 25; (with_reducible refine (is_any _ _ _).mono ?_); rintro r wq ⟨rfl, hBq⟩; have hSq := Nat.le_trans (‹Below W6.heap.size W6 _ ∧ _›).1.size hBq.size; have hblk := BlkT.keep (BlkT.newAt (World.drew W6) #[.string ⟨#[]⟩, .string ⟨#[]⟩] 26 (n := W6.heap.size) rfl) hBq)
                | (go_at_call 25; (with_reducible refine (is_any _ _ _).mono ?_); rintro r wq ⟨rfl, hBq⟩; have hSq := Nat.le_trans (‹Below W6.heap.size W6 _ ∧ _›).1.size hBq.size)
                | (go_at_call 63; (with_reducible refine (DV.out _ (HEV.out _ (‹Below W6.heap.size W6 _ ∧ _›).1)).mono ?_); rintro r wr ⟨rfl, hBr⟩; have hSz := Nat.le_trans (‹Below W6.heap.size W6 _ ∧ _›).1.size hBr.size; have hSr := (‹Below W6.heap.size W6 _ ∧ _›).1.trans (hBr.mono (‹Below W6.heap.size W6 _ ∧ _›).1.size); have hblk2 := BlkT.keep hblk hBr; have u0 := hblk2.cell 0; have u1 := hblk2.cell 1; have v0 := hblk2.frozen 0; have v1 := hblk2.frozen 1; simp only [List.getElem?_toArray, List.getElem?_cons_succ, List.getElem?_cons_zero] at u0 u1)
                | (go_at_call 63; (with_reducible refine (DV.out _ (HEV.out _ (‹Below W6.heap.size W6 _ ∧ _›).1)).mono ?_); rintro r wr ⟨rfl, hBr⟩; have hSz := Nat.le_trans (‹Below W6.heap.size W6 _ ∧ _›).1.size hBr.size; have hSr := (‹Below W6.heap.size W6 _ ∧ _›).1.trans (hBr.mono (‹Below W6.heap.size W6 _ ∧ _›).1.size); have hblk2 := BlkT.keep (BlkT.newAt wq #[.string ⟨#[]⟩, .string ⟨#[]⟩] 26 rfl) hBr; have u0 := hblk2.cell 0; have u1 := hblk2.cell 1; have v0 := hblk2.frozen 0; have v1 := hblk2.frozen 1; simp only [List.getElem?_toArray, List.getElem?_cons_succ, List.getElem?_cons_zero] at u0 u1)
                | (go_at_call 63; (with_reducible refine (DV.out _ (HEV.out _ (‹Below W6.heap.size W6 _ ∧ _›).1)).mono ?_); rintro r wr ⟨rfl, hBr⟩; have hSz := Nat.le_trans (‹Below W6.heap.size W6 _ ∧ _›).1.size hBr.size; have hSr := (‹Below W6.heap.size W6 _ ∧ _›).1.trans (hBr.mono (‹Below W6.heap.size W6 _ ∧ _›).1.size); have hblk2 := BlkT.newAt wr #[.string ⟨#[]⟩, .string ⟨#[]⟩] 26 rfl; have u0 := hblk2.cell 0; have u1 := hblk2.cell 1; have v0 := hblk2.frozen 0; have v1 := hblk2.frozen 1; simp only [List.getElem?_toArray, List.getElem?_cons_succ, List.getElem?_cons_zero] at u0 u1))
            all_goals (
              refine NoPanic.normal ?_
              have hh := (‹Below W6.heap.size W6 _ ∧ _›).1
              first
                | (have hz : BlkT _ _ #[.string ⟨#[49]⟩, .string sb] 26 := (hblk2.set 0 (.string ⟨#[49]⟩)).set 1 (.string sb); generalize wr.heap.size = gx at *; exact ⟨rfl, gx, rfl, hh, hz⟩)
                | (have hz : BlkT _ _ #[.string ⟨#[49]⟩, .string sb] 26 := (hblk2.set 0 (.string ⟨#[49]⟩)).set 1 (.string sb); generalize wq.heap.size = gx at *; exact ⟨rfl, gx, rfl, hh, hz⟩)
                | (have hz : BlkT _ _ #[.string ⟨#[49]⟩, .string sb] 26 := (hblk2.set 0 (.string ⟨#[49]⟩)).set 1 (.string sb); obtain ⟨gx, hgx⟩ : ∃ g, wq.heap.size = g := ⟨_, rfl⟩; rw [hgx]; exact ⟨rfl, gx, rfl, hh, by rw [← hgx]; exact hz⟩)
                | (have hz : BlkT (wr.alloc (.cells #[.string ⟨#[49]⟩, .string sb] 26)) wr.heap.size #[.string ⟨#[49]⟩, .string sb] 26 := BlkT.newAt _ _ _ rfl; obtain ⟨gx, hgx⟩ : ∃ g, wr.heap.size = g := ⟨_, rfl⟩; rw [hgx] at hz; rw [hgx]; exact ⟨rfl, gx, rfl, hh, hz⟩)
                | (have hz : BlkT _ _ #[.string ⟨#[49]⟩, .string sb] 26 := (hblk2.set 0 (.string ⟨#[49]⟩)).set 1 (.string sb); exact ⟨rfl, _, rfl, hh, hz⟩)
                | (trace_state; fail))
          rintro g17 W17 ⟨hb17, k17⟩
          have hB17 := hBw6.trans (hb17.mono hBw6.size)
          clear HK6
          have kx := BlkT.keep kx hb17
          have ky := BlkT.keep ky hb17
          have kz := BlkT.keep kz hb17
          have kxc0 := kx.cell 0
          have kxc1 := kx.cell 1
          simp only [List.getElem?_toArray, List.getElem?_cons_succ, List.getElem?_cons_zero] at kxc0 kxc1
          have k17c0 := k17.cell 0
          have k17c1 := k17.cell 1
          simp only [List.getElem?_toArray, List.getElem?_cons_succ, List.getElem?_cons_zero] at k17c0 k17c1
          go_wp2_with fail
          refine (AD.out _ (HE.out.below hB17)).mono ?_
          rintro r V18 ⟨rfl, hb18⟩
          have hB18 := hB17.trans (hb18.mono hB17.size)
          have kx := BlkT.keep kx hb18
          have ky := BlkT.keep ky hb18
          have kz := BlkT.keep kz hb18
          have k17 := BlkT.keep k17 hb18
          clear kxc0 kxc1
          clear k17c0 k17c1
          have kzc0 := kz.cell 0
          have kzc1 := kz.cell 1
          simp only [List.getElem?_toArray, List.getElem?_cons_succ, List.getElem?_cons_zero] at kzc0 kzc1
          have hwmn : IntKind.i64.wrap ((n : Int) + (m : Int)) = (n : Int) + (m : Int) := by rw [IntKind.wrap_i64]; omega
          have hwmn1 : IntKind.i64.wrap ((n : Int) + (m : Int) + 1) = (n : Int) + (m : Int) + 1 := by rw [IntKind.wrap_i64]; omega
          have hf1 : (n : Int) + (m : Int) + 1 ≤ 200 := by omega
          have hf2 : decide ((n : Int) + (m : Int) + 1 ≤ 200) = true := decide_eq_true hf1
          have hlt : ¬ (n : Int) < (m : Int) := by have := H1.out; omega
          have hlt2 : (m : Int) ≤ (n : Int) := by have := H1.out; omega
          have hgt : (m : Int) < (n : Int) := by have := H1.out; omega
          have hn0 : ((n : Int) == 0) = false := beq_eq_false_iff_ne.2 (by have := H1.out; omega)
          clear kzc0 kzc1
          go_upto_region 20 with (fail)
          generalize hW18 : World.alloc V18 _ = W18
          have hw18 : Below V18.heap.size V18 W18 := hW18 ▸ (Below.refl _ _).alloc (Nat.le_refl _) _
          have hBw18 := hB18.trans (hw18.mono hB18.size)
          have kx := BlkT.keep kx hw18
          have ky := BlkT.keep ky hw18
          have kz := BlkT.keep kz hw18
          have k17 := BlkT.keep k17 hw18
          clear hW18
          have kxc0 := kx.cell 0
          have kxc1 := kx.cell 1
          simp only [List.getElem?_toArray, List.getElem?_cons_succ, List.getElem?_cons_zero] at kxc0 kxc1
          have kyc0 := ky.cell 0
          have kyc1 := ky.cell 1
          simp only [List.getElem?_toArray, List.getElem?_cons_succ, List.getElem?_cons_zero] at kyc0 kyc1
          have kzc0 := kz.cell 0
          have kzc1 := kz.cell 1
          simp only [List.getElem?_toArray, List.getElem?_cons_succ, List.getElem?_cons_zero] at kzc0 kzc1
          go_wp2_with fail
          refine (C1.out _ (HE.out.below hBw18)).mono ?_
          rintro r V19 ⟨rfl, hb19⟩
          have hB19 := hBw18.trans (hb19.mono hBw18.size)
          have kx := BlkT.keep kx hb19
          have ky := BlkT.keep ky hb19
          have kz := BlkT.keep kz hb19
          have k17 := BlkT.keep k17 hb19
          clear kxc0 kxc1
          clear kyc0 kyc1
          clear kzc0 kzc1
          have kxc0 := kx.cell 0
          have kxc1 := kx.cell 1
          simp only [List.getElem?_toArray, List.getElem?_cons_succ, List.getElem?_cons_zero] at kxc0 kxc1
          have k17c0 := k17.cell 0
          have k17c1 := k17.cell 1
          simp only [List.getElem?_toArray, List.getElem?_cons_succ, List.getElem?_cons_zero] at k17c0 k17c1
          go_wp2_with fail
          refine (C2.out _ (HE.out.below hB19)).mono ?_
          rintro r V20 ⟨rfl, hb20⟩
          have hB20 := hB19.trans (hb20.mono hB19.size)
          have kx := BlkT.keep kx hb20
          have ky := BlkT.keep ky hb20
          have kz := BlkT.keep kz hb20
          have k17 := BlkT.keep k17 hb20
          go_wp2_with fail
          go_ret
          exact ⟨rfl, hB20⟩
set_option maxRecDepth 100000 in
set_option maxHeartbeats 8000000 in
theorem lim16_gb (p q : Int) (n m : Nat) (w : World) (he : EnvR w) (hn : n < 200) (hm : m < 200) (h1 : m < n) (h2 : ¬ n + m < 200)
    (hp : ∀ V : World, Calls Tryz.prog 28 #[.int .i64 p, .int .i64 200] V fun e w' => e = .returned (.int .i64 (n : Int)) ∧ Below V.heap.size V w')
    (hq : ∀ V : World, Calls Tryz.prog 28 #[.int .i64 q, .int .i64 200] V fun e w' => e = .returned (.int .i64 (m : Int)) ∧ Below V.heap.size V w') :
    Calls Tryz.prog 16 #[.int .i64 p, .int .i64 q] w fun e w' => e = .returned (.bool true) ∧ Below w.heap.size w w' := by
  have HE := Lib.hid he
  have PP := Lib.hid hp
  have PQ := Lib.hid hq
  clear he hp hq
  have e1 := tb_mul hn hm
  have e2 := tb_div hm
  have e3 := tb_add hn hm
  have e4 := tb_cmp1 hn hm
  have e5 := tb_cmp2 hn hm
  rw [S_one] at e1 e2 e3 e4 e5
  rw [if_neg h2] at e1 e3
  rw [if_neg (by omega), if_pos h1] at e4
  rw [if_neg (by omega)] at e5
  have H1 := Lib.hid h1
  clear h1
  have zn := tb_size n
  have zm := tb_size m
  have MU := Lib.hid (fun V (hV : EnvR V) => by have k := mul04 (tenB n) ⟨#[49]⟩ (tenB m) ⟨#[49]⟩ V (by omega) (by decide) (by omega) (by decide) hV.env; rw [e1] at k; exact k)
  have DV := Lib.hid (fun V (hV : EnvR V) => by have k := div04 ⟨#[49]⟩ ⟨#[49]⟩ (tenB m) ⟨#[49]⟩ V (by decide) (by decide) (by omega) (by decide) hV.env; rw [e2] at k; exact k)
  have AD := Lib.hid (fun V (hV : EnvR V) => by have k := add04 (tenB n) ⟨#[49]⟩ ⟨#[49]⟩ (tenB m) V (by omega) (by decide) (by decide) (by omega) hV.env; exact k)
  have C1 := Lib.hid (fun V (hV : EnvR V) => by have k := compare04 (tenB n) ⟨#[49]⟩ (tenB m) ⟨#[49]⟩ V (by omega) (by decide) (by omega) (by decide) hV.env; rw [e4] at k; exact k)
  have C2 := Lib.hid (fun V (hV : EnvR V) => by have k := compare04 (tenB n) ⟨#[49]⟩ ⟨#[49]⟩ (tenB m) V (by omega) (by decide) (by decide) (by omega) hV.env; rw [e5] at k; exact k)
  have hR : sumR N3.addO (tenB n) ⟨#[49]⟩ ⟨#[49]⟩ (tenB m) = none := by
    cases hs : sumR N3.addO (tenB n) ⟨#[49]⟩ ⟨#[49]⟩ (tenB m) with
    | none => rfl
    | some xy => rw [hs] at e3; cases e3
  rw [hR] at AD
  clear e1 e2 e3 e4 e5 hR zn zm
  dsimp only [valR, errR] at MU DV AD
  go_enter Tryz.func16, Tryz.ntmps16
  go_wp2_with fail
  refine (sane04 _ HE.out).mono ?_
  rintro r V1 ⟨rfl, hb1⟩
  have hB1 := hb1
  go_wp2_with fail
  refine (PP.out _).mono ?_
  rintro r V2 ⟨rfl, hb2⟩
  have hB2 := hB1.trans (hb2.mono hB1.size)
  go_wp2_with fail
  refine (PQ.out _).mono ?_
  rintro r V3 ⟨rfl, hb3⟩
  have hB3 := hB2.trans (hb3.mono hB2.size)
  go_wp2_with fail
  go_loopw [6, 7] (fun u v wr => ∃ k : Nat, k ≤ n ∧ u = .string (tenB k) ∧ v = .int .i64 (k : Nat) ∧ V3 = wr) (fun _ v _ => ((n : Int) - Go.RowKit.intOf v).toNat)
  case atStart => exact ⟨0, Nat.zero_le _, by rw [tb_zero], rfl, rfl⟩
  case round =>
    obtain ⟨k, hk, rfl, rfl, rfl⟩ := hrel
    by_cases hkn : k < n
    · have hki : (k : Int) < (n : Int) := by omega
      have hw1 : IntKind.i64.wrap ((k : Int) + 1) = ((k + 1 : Nat) : Int) := by rw [IntKind.wrap_i64]; omega
      have hz := tb_size k
      have q1 : ¬ 9223372036854775807 < (tenB k).size + 1 := by omega
      have q2 : ¬ 9223372036854775807 < (tenB k).size + (⟨#[48]⟩ : ByteArray).size := by show ¬ 9223372036854775807 < (tenB k).size + 1; omega
      have hs' := tb_succ k
      generalize tenB k = sk at *
      have HS := Lib.hid hs'
      clear hz hs'
      go_wp2_with fail
      go_roundw
      case rel => exact ⟨k + 1, by omega, by rw [← HS.out], by go_num, by first | rfl | trivial⟩
      case measure => simp [Go.RowKit.intOf]; omega
    · have hkn2 : k = n := by omega
      rw [hkn2]
      have hkk : ¬ (n : Int) < (n : Int) := by omega
      clear hkn2
      go_wp2_with fail
      go_loopw [8, 9] (fun u v wr => ∃ k : Nat, k ≤ m ∧ u = .string (tenB k) ∧ v = .int .i64 (k : Nat) ∧ V3 = wr) (fun _ v _ => ((m : Int) - Go.RowKit.intOf v).toNat)
      case atStart => exact ⟨0, Nat.zero_le _, by rw [tb_zero], rfl, rfl⟩
      case round =>
        obtain ⟨k, hk, rfl, rfl, rfl⟩ := hrel
        by_cases hkn : k < m
        · have hki : (k : Int) < (m : Int) := by omega
          have hw1 : IntKind.i64.wrap ((k : Int) + 1) = ((k + 1 : Nat) : Int) := by rw [IntKind.wrap_i64]; omega
          have hz := tb_size k
          have q1 : ¬ 9223372036854775807 < (tenB k).size + 1 := by omega
          have q2 : ¬ 9223372036854775807 < (tenB k).size + (⟨#[48]⟩ : ByteArray).size := by show ¬ 9223372036854775807 < (tenB k).size + 1; omega
          have hs' := tb_succ k
          generalize tenB k = sk at *
          have HS := Lib.hid hs'
          clear hz hs'
          go_wp2_with fail
          go_roundw
          case rel => exact ⟨k + 1, by omega, by rw [← HS.out], by go_num, by first | rfl | trivial⟩
          case measure => simp [Go.RowKit.intOf]; omega
        · have hkn2 : k = m := by omega
          rw [hkn2]
          have hkk : ¬ (m : Int) < (m : Int) := by omega
          clear hkn2
          go_wp2_with fail
          generalize tenB n = sa at *
          generalize tenB m = sb at *
          refine (is_any _ _ _).mono ?_
          rintro r V4 ⟨rfl, hb4⟩
          have hB4 := hB3.trans (hb4.mono hB3.size)
          go_wp2_with fail
          generalize hW4 : World.alloc V4 _ = W4
          have hw4 : Below V4.heap.size V4 W4 := hW4 ▸ (Below.refl _ _).alloc (Nat.le_refl _) _
          have hBw4 := hB4.trans (hw4.mono hB4.size)
          have kx : BlkT W4 V4.heap.size #[.string sa, .string ⟨#[49]⟩] 26 := hW4 ▸ BlkT.newAt _ _ _ rfl
          clear hW4
          refine (is_any _ _ _).mono ?_
          rintro r V5 ⟨rfl, hb5⟩
          have hB5 := hBw4.trans (hb5.mono hBw4.size)
          have kx := BlkT.keep kx hb5
          go_upto_region 16 with (fail)
          generalize hW5 : World.alloc V5 _ = W5
          have hw5 : Below V5.heap.size V5 W5 := hW5 ▸ (Below.refl _ _).alloc (Nat.le_refl _) _
          have hBw5 := hB5.trans (hw5.mono hB5.size)
          have kx := BlkT.keep kx hw5
          have ky : BlkT W5 V5.heap.size #[.string sb, .string ⟨#[49]⟩] 26 := hW5 ▸ BlkT.newAt _ _ _ rfl
          clear hW5
          have kxc0 := kx.cell 0
          have kxc1 := kx.cell 1
          simp only [List.getElem?_toArray, List.getElem?_cons_succ, List.getElem?_cons_zero] at kxc0 kxc1
          have kyc0 := ky.cell 0
          have kyc1 := ky.cell 1
          simp only [List.getElem?_toArray, List.getElem?_cons_succ, List.getElem?_cons_zero] at kyc0 kyc1
          go_wp2_with fail
          refine (MU.out _ (HE.out.below hBw5)).mono ?_
          rintro r V6 ⟨rfl, hb6⟩
          have hB6 := hBw5.trans (hb6.mono hBw5.size)
          have kx := BlkT.keep kx hb6
          have ky := BlkT.keep ky hb6
          clear kxc0 kxc1
          clear kyc0 kyc1
          go_wp2_with fail
          generalize hW6 : World.alloc V6 _ = W6
          have hw6 : Below V6.heap.size V6 W6 := hW6 ▸ (Below.refl _ _).alloc (Nat.le_refl _) _
          have hBw6 := hB6.trans (hw6.mono hB6.size)
          have kx := BlkT.keep kx hw6
          have ky := BlkT.keep ky hw6
          have kz : BlkT W6 V6.heap.size #[.string ⟨#[]⟩, .string ⟨#[]⟩] 26 := hW6 ▸ BlkT.newAt _ _ _ rfl
          clear hW6
          have HK6 := Lib.hid (fun V (hV : Below W6.heap.size W6 V) => And.intro ((BlkT.keep ky hV).cell 0) ((BlkT.keep ky hV).cell 1))
          simp only [List.getElem?_toArray, List.getElem?_cons_succ, List.getElem?_cons_zero] at HK6
          have HEV := Lib.hid (fun V (hV : Below W6.heap.size W6 V) => HE.out.below (hBw6.trans (hV.mono hBw6.size)))
          apply wp_suchB (w0 := W6) #[.string ⟨#[49]⟩, .string sb]
          · go_region_held3 (fun w' => Below W6.heap.size W6 w' ∧ (w'.cell? ⟨V5.heap.size, 0, none⟩ = some (.string sb) ∧ w'.cell? ⟨V5.heap.size, 1, none⟩ = some (.string ⟨#[49]⟩)))
              (first | exact ⟨(Below.refl _ _).drew, HK6.out _ (Below.refl _ _).drew⟩ | (have hh := (‹Below W6.heap.size W6 _ ∧ _›).1; have hb := hh.trans (hBq.mono hh.size); exact ⟨hb, HK6.out _ hb⟩) | (have hh := (‹Below W6.heap.size W6 _ ∧ _›).1; have hb := hh.trans (hBr.mono hh.size); exact ⟨hb, HK6.out _ hb⟩) | (have hh := (‹Below W6.heap.size W6 _ ∧ _›).1; exact ⟨hh.alloc hh.size _, HK6.out _ (hh.alloc hh.size _)⟩) | (have hh := (‹Below W6.heap.size W6 _ ∧ _›).1; exact ⟨(hh.setCell (by dsimp only; omega) _).setCell (by dsimp only; omega) _, HK6.out _ ((hh.setCell (by dsimp only; omega) _).setCell (by dsimp only; omega) _)⟩) | (exact ⟨hSr.alloc hSz _, HK6.out _ (hSr.alloc hSz _)⟩) | go_keep)
              (first
                | (go_at_call 25; (with_reducible refine (is_any _ _ _).mono ?_); rintro r wq ⟨rfl, hBq⟩; have hSq := Nat.le_trans (‹Below W6.heap.size W6 _ ∧ _›).1.size hBq.size; have hblk := BlkT.keep (BlkT.newAt (World.drew W6) #[.string ⟨#[]⟩, .string ⟨#[]⟩] 26 (n := W6.heap.size) rfl) hBq)
                | (go_at_call 25; (with_reducible refine (is_any _ _ _).mono ?_); rintro r wq ⟨rfl, hBq⟩; have hSq := Nat.le_trans (‹Below W6.heap.size W6 _ ∧ _›).1.size hBq.size)
                | (go_at_call 63; (with_reducible refine (DV.out _ (HEV.out _ (‹Below W6.heap.size W6 _ ∧ _›).1)).mono ?_); rintro r wr ⟨rfl, hBr⟩; have hSz := Nat.le_trans (‹Below W6.heap.size W6 _ ∧ _›).1.size hBr.size; have hSr := (‹Below W6.heap.size W6 _ ∧ _›).1.trans (hBr.mono (‹Below W6.heap.size W6 _ ∧ _›).1.size); have hblk2 := BlkT.keep hblk hBr; have u0 := hblk2.cell 0; have u1 := hblk2.cell 1; have v0 := hblk2.frozen 0; have v1 := hblk2.frozen 1; simp only [List.getElem?_toArray, List.getElem?_cons_succ, List.getElem?_cons_zero] at u0 u1)
                | (go_at_call 63; (with_reducible refine (DV.out _ (HEV.out _ (‹Below W6.heap.size W6 _ ∧ _›).1)).mono ?_); rintro r wr ⟨rfl, hBr⟩; have hSz := Nat.le_trans (‹Below W6.heap.size W6 _ ∧ _›).1.size hBr.size; have hSr := (‹Below W6.heap.size W6 _ ∧ _›).1.trans (hBr.mono (‹Below W6.heap.size W6 _ ∧ _›).1.size); have hblk2 := BlkT.keep (BlkT.newAt wq #[.string ⟨#[]⟩, .string ⟨#[]⟩] 26 rfl) hBr; have u0 := hblk2.cell 0; have u1 := hblk2.cell 1; have v0 := hblk2.frozen 0; have v1 := hblk2.frozen 1; simp only [List.getElem?_toArray, List.getElem?_cons_succ, List.getElem?_cons_zero] at u0 u1)
                | (go_at_call 63; (with_reducible refine (DV.out _ (HEV.out _ (‹Below W6.heap.size W6 _ ∧ _›).1)).mono ?_); rintro r wr ⟨rfl, hBr⟩; have hSz := Nat.le_trans (‹Below W6.heap.size W6 _ ∧ _›).1.size hBr.size; have hSr := (‹Below W6.heap.size W6 _ ∧ _›).1.trans (hBr.mono (‹Below W6.heap.size W6 _ ∧ _›).1.size); have hblk2 := BlkT.newAt wr #[.string ⟨#[]⟩, .string ⟨#[]⟩] 26 rfl; have u0 := hblk2.cell 0; have u1 := hblk2.cell 1; have v0 := hblk2.frozen 0; have v1 := hblk2.frozen 1; simp only [List.getElem?_toArray, List.getElem?_cons_succ, List.getElem?_cons_zero] at u0 u1))
            all_goals (
              refine NoPanic.normal ?_
              have hh := (‹Below W6.heap.size W6 _ ∧ _›).1
              first
                | (have hz : BlkT _ _ #[.string ⟨#[49]⟩, .string sb] 26 := (hblk2.set 0 (.string ⟨#[49]⟩)).set 1 (.string sb); generalize wr.heap.size = gx at *; exact ⟨rfl, gx, rfl, hh, hz⟩)
                | (have hz : BlkT _ _ #[.string ⟨#[49]⟩, .string sb] 26 := (hblk2.set 0 (.string ⟨#[49]⟩)).set 1 (.string sb); generalize wq.heap.size = gx at *; exact ⟨rfl, gx, rfl, hh, hz⟩)
                | (have hz : BlkT _ _ #[.string ⟨#[49]⟩, .string sb] 26 := (hblk2.set 0 (.string ⟨#[49]⟩)).set 1 (.string sb); obtain ⟨gx, hgx⟩ : ∃ g, wq.heap.size = g := ⟨_, rfl⟩; rw [hgx]; exact ⟨rfl, gx, rfl, hh, by rw [← hgx]; exact hz⟩)
                | (have hz : BlkT (wr.alloc (.cells #[.string ⟨#[49]⟩, .string sb] 26)) wr.heap.size #[.string ⟨#[49]⟩, .string sb] 26 := BlkT.newAt _ _ _ rfl; obtain ⟨gx, hgx⟩ : ∃ g, wr.heap.size = g := ⟨_, rfl⟩; rw [hgx] at hz; rw [hgx]; exact ⟨rfl, gx, rfl, hh, hz⟩)
                | (have hz : BlkT _ _ #[.string ⟨#[49]⟩, .string sb] 26 := (hblk2.set 0 (.string ⟨#[49]⟩)).set 1 (.string sb); exact ⟨rfl, _, rfl, hh, hz⟩)
                | (trace_state; fail))
          rintro g17 W17 ⟨hb17, k17⟩
          have hB17 := hBw6.trans (hb17.mono hBw6.size)
          clear HK6
          have kx := BlkT.keep kx hb17
          have ky := BlkT.keep ky hb17
          have kz := BlkT.keep kz hb17
          have kxc0 := kx.cell 0
          have kxc1 := kx.cell 1
          simp only [List.getElem?_toArray, List.getElem?_cons_succ, List.getElem?_cons_zero] at kxc0 kxc1
          have k17c0 := k17.cell 0
          have k17c1 := k17.cell 1
          simp only [List.getElem?_toArray, List.getElem?_cons_succ, List.getElem?_cons_zero] at k17c0 k17c1
          go_wp2_with fail
          refine (AD.out _ (HE.out.below hB17)).mono ?_
          rintro r V18 ⟨rfl, hb18⟩
          have hB18 := hB17.trans (hb18.mono hB17.size)
          have kx := BlkT.keep kx hb18
          have ky := BlkT.keep ky hb18
          have kz := BlkT.keep kz hb18
          have k17 := BlkT.keep k17 hb18
          clear kxc0 kxc1
          clear k17c0 k17c1
          have kzc0 := kz.cell 0
          have kzc1 := kz.cell 1
          simp only [List.getElem?_toArray, List.getElem?_cons_succ, List.getElem?_cons_zero] at kzc0 kzc1
          have hwmn : IntKind.i64.wrap ((n : Int) + (m : Int)) = (n : Int) + (m : Int) := by rw [IntKind.wrap_i64]; omega
          have hwmn1 : IntKind.i64.wrap ((n : Int) + (m : Int) + 1) = (n : Int) + (m : Int) + 1 := by rw [IntKind.wrap_i64]; omega
          have hf1 : ¬ (n : Int) + (m : Int) + 1 ≤ 200 := by omega
          have hf2 : decide ((n : Int) + (m : Int) + 1 ≤ 200) = false := decide_eq_false hf1
          have hf3 : 200 < (n : Int) + (m : Int) + 1 := by omega
          have hlt : ¬ (n : Int) < (m : Int) := by have := H1.out; omega
          have hlt2 : (m : Int) ≤ (n : Int) := by have := H1.out; omega
          have hgt : (m : Int) < (n : Int) := by have := H1.out; omega
          have hn0 : ((n : Int) == 0) = false := beq_eq_false_iff_ne.2 (by have := H1.out; omega)
          clear kzc0 kzc1
          go_upto_region 20 with (fail)
          generalize hW18 : World.alloc V18 _ = W18
          have hw18 : Below V18.heap.size V18 W18 := hW18 ▸ (Below.refl _ _).alloc (Nat.le_refl _) _
          have hBw18 := hB18.trans (hw18.mono hB18.size)
          have kx := BlkT.keep kx hw18
          have ky := BlkT.keep ky hw18
          have kz := BlkT.keep kz hw18
          have k17 := BlkT.keep k17 hw18
          clear hW18
          have kxc0 := kx.cell 0
          have kxc1 := kx.cell 1
          simp only [List.getElem?_toArray, List.getElem?_cons_succ, List.getElem?_cons_zero] at kxc0 kxc1
          have kyc0 := ky.cell 0
          have kyc1 := ky.cell 1
          simp only [List.getElem?_toArray, List.getElem?_cons_succ, List.getElem?_cons_zero] at kyc0 kyc1
          have kzc0 := kz.cell 0
          have kzc1 := kz.cell 1
          simp only [List.getElem?_toArray, List.getElem?_cons_succ, List.getElem?_cons_zero] at kzc0 kzc1
          go_wp2_with fail
          refine (C1.out _ (HE.out.below hBw18)).mono ?_
          rintro r V19 ⟨rfl, hb19⟩
          have hB19 := hBw18.trans (hb19.mono hBw18.size)
          have kx := BlkT.keep kx hb19
          have ky := BlkT.keep ky hb19
          have kz := BlkT.keep kz hb19
          have k17 := BlkT.keep k17 hb19
          clear kxc0 kxc1
          clear kyc0 kyc1
          clear kzc0 kzc1
          have kxc0 := kx.cell 0
          have kxc1 := kx.cell 1
          simp only [List.getElem?_toArray, List.getElem?_cons_succ, List.getElem?_cons_zero] at kxc0 kxc1
          have k17c0 := k17.cell 0
          have k17c1 := k17.cell 1
          simp only [List.getElem?_toArray, List.getElem?_cons_succ, List.getElem?_cons_zero] at k17c0 k17c1
          go_wp2_with fail
          refine (C2.out _ (HE.out.below hB19)).mono ?_
          rintro r V20 ⟨rfl, hb20⟩
          have hB20 := hB19.trans (hb20.mono hB19.size)
          have kx := BlkT.keep kx hb20
          have ky := BlkT.keep ky hb20
          have kz := BlkT.keep kz hb20
          have k17 := BlkT.keep k17 hb20
          go_wp2_with fail
          go_ret
          exact ⟨rfl, hB20⟩
set_option maxRecDepth 100000 in
set_option maxHeartbeats 8000000 in
theorem lim16_ef (p q : Int) (n m : Nat) (w : World) (he : EnvR w) (hn : n < 200) (hm : m < 200) (h1 : n = m) (h0 : n ≠ 0) (h2 : n + m < 200)
    (hp : ∀ V : World, Calls Tryz.prog 28 #[.int .i64 p, .int .i64 200] V fun e w' => e = .returned (.int .i64 (n : Int)) ∧ Below V.heap.size V w')
    (hq : ∀ V : World, Calls Tryz.prog 28 #[.int .i64 q, .int .i64 200] V fun e w' => e = .returned (.int .i64 (m : Int)) ∧ Below V.heap.size V w') :
    Calls Tryz.prog 16 #[.int .i64 p, .int .i64 q] w fun e w' => e = .returned (.bool true) ∧ Below w.heap.size w w' := by
  have HE := Lib.hid he
  have PP := Lib.hid hp
  have PQ := Lib.hid hq
  clear he hp hq
  have e1 := tb_mul hn hm
  have e2 := tb_div hm
  have e3 := tb_add hn hm
  have e4 := tb_cmp1 hn hm
  have e5 := tb_cmp2 hn hm
  rw [S_one] at e1 e2 e3 e4 e5
  rw [if_pos h2] at e1 e3
  rw [if_neg (by omega), if_neg (by omega)] at e4
  rw [if_neg (by omega)] at e5
  have H1 := Lib.hid h1
  have H0 := Lib.hid h0
  clear h1 h0
  have zn := tb_size n
  have zm := tb_size m
  have MU := Lib.hid (fun V (hV : EnvR V) => by have k := mul04 (tenB n) ⟨#[49]⟩ (tenB m) ⟨#[49]⟩ V (by omega) (by decide) (by omega) (by decide) hV.env; rw [e1] at k; exact k)
  have DV := Lib.hid (fun V (hV : EnvR V) => by have k := div04 ⟨#[49]⟩ ⟨#[49]⟩ (tenB m) ⟨#[49]⟩ V (by decide) (by decide) (by omega) (by decide) hV.env; rw [e2] at k; exact k)
  have AD := Lib.hid (fun V (hV : EnvR V) => by have k := add04 (tenB n) ⟨#[49]⟩ ⟨#[49]⟩ (tenB m) V (by omega) (by decide) (by decide) (by omega) hV.env; exact k)
  have C1 := Lib.hid (fun V (hV : EnvR V) => by have k := compare04 (tenB n) ⟨#[49]⟩ (tenB m) ⟨#[49]⟩ V (by omega) (by decide) (by omega) (by decide) hV.env; rw [e4] at k; exact k)
  have C2 := Lib.hid (fun V (hV : EnvR V) => by have k := compare04 (tenB n) ⟨#[49]⟩ ⟨#[49]⟩ (tenB m) V (by omega) (by decide) (by decide) (by omega) hV.env; rw [e5] at k; exact k)
  generalize strR (N3.mulF (((10 ^ n : Nat) : Int), 1) (((10 ^ m : Nat) : Int), 1)) = sr at *
  obtain ⟨mx, my⟩ := sr
  obtain ⟨xy, hR⟩ : ∃ xy, sumR N3.addO (tenB n) ⟨#[49]⟩ ⟨#[49]⟩ (tenB m) = some xy := by
    cases hs : sumR N3.addO (tenB n) ⟨#[49]⟩ ⟨#[49]⟩ (tenB m) with
    | none => rw [hs] at e3; cases e3
    | some xy => exact ⟨xy, rfl⟩
  obtain ⟨ax, ay⟩ := xy
  rw [hR] at AD
  clear e1 e2 e3 e4 e5 hR zn zm
  dsimp only [valR, errR] at MU DV AD
  go_enter Tryz.func16, Tryz.ntmps16
  go_wp2_with fail
  refine (sane04 _ HE.out).mono ?_
  rintro r V1 ⟨rfl, hb1⟩
  have hB1 := hb1
  go_wp2_with fail
  refine (PP.out _).mono ?_
  rintro r V2 ⟨rfl, hb2⟩
  have hB2 := hB1.trans (hb2.mono hB1.size)
  go_wp2_with fail
  refine (PQ.out _).mono ?_
  rintro r V3 ⟨rfl, hb3⟩
  have hB3 := hB2.trans (hb3.mono hB2.size)
  go_wp2_with fail
  go_loopw [6, 7] (fun u v wr => ∃ k : Nat, k ≤ n ∧ u = .string (tenB k) ∧ v = .int .i64 (k : Nat) ∧ V3 = wr) (fun _ v _ => ((n : Int) - Go.RowKit.intOf v).toNat)
  case atStart => exact ⟨0, Nat.zero_le _, by rw [tb_zero], rfl, rfl⟩
  case round =>
    obtain ⟨k, hk, rfl, rfl, rfl⟩ := hrel
    by_cases hkn : k < n
    · have hki : (k : Int) < (n : Int) := by omega
      have hw1 : IntKind.i64.wrap ((k : Int) + 1) = ((k + 1 : Nat) : Int) := by rw [IntKind.wrap_i64]; omega
      have hz := tb_size k
      have q1 : ¬ 9223372036854775807 < (tenB k).size + 1 := by omega
      have q2 : ¬ 9223372036854775807 < (tenB k).size + (⟨#[48]⟩ : ByteArray).size := by show ¬ 9223372036854775807 < (tenB k).size + 1; omega
      have hs' := tb_succ k
      generalize tenB k = sk at *
      have HS := Lib.hid hs'
      clear hz hs'
      go_wp2_with fail
      go_roundw
      case rel => exact ⟨k + 1, by omega, by rw [← HS.out], by go_num, by first | rfl | trivial⟩
      case measure => simp [Go.RowKit.intOf]; omega
    · have hkn2 : k = n := by omega
      rw [hkn2]
      have hkk : ¬ (n : Int) < (n : Int) := by omega
      clear hkn2
      go_wp2_with fail
      go_loopw [8, 9] (fun u v wr => ∃ k : Nat, k ≤ m ∧ u = .string (tenB k) ∧ v = .int .i64 (k : Nat) ∧ V3 = wr) (fun _ v _ => ((m : Int) - Go.RowKit.intOf v).toNat)
      case atStart => exact ⟨0, Nat.zero_le _, by rw [tb_zero], rfl, rfl⟩
      case round =>
        obtain ⟨k, hk, rfl, rfl, rfl⟩ := hrel
        by_cases hkn : k < m
        · have hki : (k : Int) < (m : Int) := by omega
          have hw1 : IntKind.i64.wrap ((k : Int) + 1) = ((k + 1 : Nat) : Int) := by rw [IntKind.wrap_i64]; omega
          have hz := tb_size k
          have q1 : ¬ 9223372036854775807 < (tenB k).size + 1 := by omega
          have q2 : ¬ 9223372036854775807 < (tenB k).size + (⟨#[48]⟩ : ByteArray).size := by show ¬ 9223372036854775807 < (tenB k).size + 1; omega
          have hs' := tb_succ k
          generalize tenB k = sk at *
          have HS := Lib.hid hs'
          clear hz hs'
          go_wp2_with fail
          go_roundw
          case rel => exact ⟨k + 1, by omega, by rw [← HS.out], by go_num, by first | rfl | trivial⟩
          case measure => simp [Go.RowKit.intOf]; omega
        · have hkn2 : k = m := by omega
          rw [hkn2]
          have hkk : ¬ (m : Int) < (m : Int) := by omega
          clear hkn2
          go_wp2_with fail
          generalize tenB n = sa at *
          generalize tenB m = sb at *
          refine (is_any _ _ _).mono ?_
          rintro r V4 ⟨rfl, hb4⟩
          have hB4 := hB3.trans (hb4.mono hB3.size)
          go_wp2_with fail
          generalize hW4 : World.alloc V4 _ = W4
          have hw4 : Below V4.heap.size V4 W4 := hW4 ▸ (Below.refl _ _).alloc (Nat.le_refl _) _
          have hBw4 := hB4.trans (hw4.mono hB4.size)
          have kx : BlkT W4 V4.heap.size #[.string sa, .string ⟨#[49]⟩] 26 := hW4 ▸ BlkT.newAt _ _ _ rfl
          clear hW4
          refine (is_any _ _ _).mono ?_
          rintro r V5 ⟨rfl, hb5⟩
          have hB5 := hBw4.trans (hb5.mono hBw4.size)
          have kx := BlkT.keep kx hb5
          go_upto_region 16 with (fail)
          generalize hW5 : World.alloc V5 _ = W5
          have hw5 : Below V5.heap.size V5 W5 := hW5 ▸ (Below.refl _ _).alloc (Nat.le_refl _) _
          have hBw5 := hB5.trans (hw5.mono hB5.size)
          have kx := BlkT.keep kx hw5
          have ky : BlkT W5 V5.heap.size #[.string sb, .string ⟨#[49]⟩] 26 := hW5 ▸ BlkT.newAt _ _ _ rfl
          clear hW5
          have kxc0 := kx.cell 0
          have kxc1 := kx.cell 1
          simp only [List.getElem?_toArray, List.getElem?_cons_succ, List.getElem?_cons_zero] at kxc0 kxc1
          have kyc0 := ky.cell 0
          have kyc1 := ky.cell 1
          simp only [List.getElem?_toArray, List.getElem?_cons_succ, List.getElem?_cons_zero] at kyc0 kyc1
          go_wp2_with fail
          refine (MU.out _ (HE.out.below hBw5)).mono ?_
          rintro r V6 ⟨rfl, hb6⟩
          have hB6 := hBw5.trans (hb6.mono hBw5.size)
          have kx := BlkT.keep kx hb6
          have ky := BlkT.keep ky hb6
          clear kxc0 kxc1
          clear kyc0 kyc1
          go_wp2_with fail
          generalize hW6 : World.alloc V6 _ = W6
          have hw6 : Below V6.heap.size V6 W6 := hW6 ▸ (Below.refl _ _).alloc (Nat.le_refl _) _
          have hBw6 := hB6.trans (hw6.mono hB6.size)
          have kx := BlkT.keep kx hw6
          have ky := BlkT.keep ky hw6
          have kz : BlkT W6 V6.heap.size #[.string mx, .string my] 26 := hW6 ▸ BlkT.newAt _ _ _ rfl
          clear hW6
          have HK6 := Lib.hid (fun V (hV : Below W6.heap.size W6 V) => And.intro ((BlkT.keep ky hV).cell 0) ((BlkT.keep ky hV).cell 1))
          simp only [List.getElem?_toArray, List.getElem?_cons_succ, List.getElem?_cons_zero] at HK6
          have HEV := Lib.hid (fun V (hV : Below W6.heap.size W6 V) => HE.out.below (hBw6.trans (hV.mono hBw6.size)))
          apply wp_suchB (w0 := W6) #[.string ⟨#[49]⟩, .string sb]
          · go_region_held3 (fun w' => Below W6.heap.size W6 w' ∧ (w'.cell? ⟨V5.heap.size, 0, none⟩ = some (.string sb) ∧ w'.cell? ⟨V5.heap.size, 1, none⟩ = some (.string ⟨#[49]⟩)))
              (first | exact ⟨(Below.refl _ _).drew, HK6.out _ (Below.refl _ _).drew⟩ | (have hh := (‹Below W6.heap.size W6 _ ∧ _›).1; have hb := hh.trans (hBq.mono hh.size); exact ⟨hb, HK6.out _ hb⟩) | (have hh := (‹Below W6.heap.size W6 _ ∧ _›).1; have hb := hh.trans (hBr.mono hh.size); exact ⟨hb, HK6.out _ hb⟩) | (have hh := (‹Below W6.heap.size W6 _ ∧ _›).1; exact ⟨hh.alloc hh.size _, HK6.out _ (hh.alloc hh.size _)⟩) | (have hh := (‹Below W6.heap.size W6 _ ∧ _›).1; exact ⟨(hh.setCell (by dsimp only; omega) _).setCell (by dsimp only; omega) _, HK6.out _ ((hh.setCell (by dsimp only; omega) _).setCell (by dsimp only; omega) _)⟩) | (exact ⟨hSr.alloc hSz _, HK6.out _ (hSr.alloc hSz _)⟩) | go_keep)
              (first
                | (go_at_call 25; (with_reducible refine (is_any _ _ _).mono ?_); rintro r wq ⟨rfl, hBq⟩; have hSq := Nat.le_trans (‹Below W6.heap.size W6 _ ∧ _›).1.size hBq.size; have hblk := BlkT.keep (BlkT.newAt (World.drew W6) #[.string ⟨#[]⟩, .string ⟨#[]⟩] 26 (n := W6.heap.size) rfl) hBq)
                | (go_at_call 25; (with_reducible refine (is_any _ _ _).mono ?_); rintro r wq ⟨rfl, hBq⟩; have hSq := Nat.le_trans (‹Below W6.heap.size W6 _ ∧ _›).1.size hBq.size)
                | (go_at_call 63; (with_reducible refine (DV.out _ (HEV.out _ (‹Below W6.heap.size W6 _ ∧ _›).1)).mono ?_); rintro r wr ⟨rfl, hBr⟩; have hSz := Nat.le_trans (‹Below W6.heap.size W6 _ ∧ _›).1.size hBr.size; have hSr := (‹Below W6.heap.size W6 _ ∧ _›).1.trans (hBr.mono (‹Below W6.heap.size W6 _ ∧ _›).1.size); have hblk2 := BlkT.keep hblk hBr; have u0 := hblk2.cell 0; have u1 := hblk2.cell 1; have v0 := hblk2.frozen 0; have v1 := hblk2.frozen 1; simp only [List.getElem?_toArray, List.getElem?_cons_succ, List.getElem?_cons_zero] at u0 u1)
                | (go_at_call 63; (with_reducible refine (DV.out _ (HEV.out _ (‹Below W6.heap.size W6 _ ∧ _›).1)).mono ?_); rintro r wr ⟨rfl, hBr⟩; have hSz := Nat.le_trans (‹Below W6.heap.size W6 _ ∧ _›).1.size hBr.size; have hSr := (‹Below W6.heap.size W6 _ ∧ _›).1.trans (hBr.mono (‹Below W6.heap.size W6 _ ∧ _›).1.size); have hblk2 := BlkT.keep (BlkT.newAt wq #[.string ⟨#[]⟩, .string ⟨#[]⟩] 26 rfl) hBr; have u0 := hblk2.cell 0; have u1 := hblk2.cell 1; have v0 := hblk2.frozen 0; have v1 := hblk2.frozen 1; simp only [List.getElem?_toArray, List.getElem?_cons_succ, List.getElem?_cons_zero] at u0 u1)
                | (go_at_call 63; (with_reducible refine (DV.out _ (HEV.out _ (‹Below W6.heap.size W6 _ ∧ _›).1)).mono ?_); rintro r wr ⟨rfl, hBr⟩; have hSz := Nat.le_trans (‹Below W6.heap.size W6 _ ∧ _›).1.size hBr.size; have hSr := (‹Below W6.heap.size W6 _ ∧ _›).1.trans (hBr.mono (‹Below W6.heap.size W6 _ ∧ _›).1.size); have hblk2 := BlkT.newAt wr #[.string ⟨#[]⟩, .string ⟨#[]⟩] 26 rfl; have u0 := hblk2.cell 0; have u1 := hblk2.cell 1; have v0 := hblk2.frozen 0; have v1 := hblk2.frozen 1; simp only [List.getElem?_toArray, List.getElem?_cons_succ, List.getElem?_cons_zero] at u0 u1))
            all_goals (
              refine NoPanic.normal ?_
              have hh := (‹Below W6.heap.size W6 _ ∧ _›).1
              first
                | (have hz : BlkT _ _ #[.string ⟨#[49]⟩, .string sb] 26 := (hblk2.set 0 (.string ⟨#[49]⟩)).set 1 (.string sb); generalize wr.heap.size = gx at *; exact ⟨rfl, gx, rfl, hh, hz⟩)
                | (have hz : BlkT _ _ #[.string ⟨#[49]⟩, .string sb] 26 := (hblk2.set 0 (.string ⟨#[49]⟩)).set 1 (.string sb); generalize wq.heap.size = gx at *; exact ⟨rfl, gx, rfl, hh, hz⟩)
                | (have hz : BlkT _ _ #[.string ⟨#[49]⟩, .string sb] 26 := (hblk2.set 0 (.string ⟨#[49]⟩)).set 1 (.string sb); obtain ⟨gx, hgx⟩ : ∃ g, wq.heap.size = g := ⟨_, rfl⟩; rw [hgx]; exact ⟨rfl, gx, rfl, hh, by rw [← hgx]; exact hz⟩)
                | (have hz : BlkT (wr.alloc (.cells #[.string ⟨#[49]⟩, .string sb] 26)) wr.heap.size #[.string ⟨#[49]⟩, .string sb] 26 := BlkT.newAt _ _ _ rfl; obtain ⟨gx, hgx⟩ : ∃ g, wr.heap.size = g := ⟨_, rfl⟩; rw [hgx] at hz; rw [hgx]; exact ⟨rfl, gx, rfl, hh, hz⟩)
                | (have hz : BlkT _ _ #[.string ⟨#[49]⟩, .string sb] 26 := (hblk2.set 0 (.string ⟨#[49]⟩)).set 1 (.string sb); exact ⟨rfl, _, rfl, hh, hz⟩)
                | (trace_state; fail))
          rintro g17 W17 ⟨hb17, k17⟩
          have hB17 := hBw6.trans (hb17.mono hBw6.size)
          clear HK6
          have kx := BlkT.keep kx hb17
          have ky := BlkT.keep ky hb17
          have kz := BlkT.keep kz hb17
          have kxc0 := kx.cell 0
          have kxc1 := kx.cell 1
          simp only [List.getElem?_toArray, List.getElem?_cons_succ, List.getElem?_cons_zero] at kxc0 kxc1
          have k17c0 := k17.cell 0
          have k17c1 := k17.cell 1
          simp only [List.getElem?_toArray, List.getElem?_cons_succ, List.getElem?_cons_zero] at k17c0 k17c1
          go_wp2_with fail
          refine (AD.out _ (HE.out.below hB17)).mono ?_
          rintro r V18 ⟨rfl, hb18⟩
          have hB18 := hB17.trans (hb18.mono hB17.size)
          have kx := BlkT.keep kx hb18
          have ky := BlkT.keep ky hb18
          have kz := BlkT.keep kz hb18
          have k17 := BlkT.keep k17 hb18
          clear kxc0 kxc1
          clear k17c0 k17c1
          have kzc0 := kz.cell 0
          have kzc1 := kz.cell 1
          simp only [List.getElem?_toArray, List.getElem?_cons_succ, List.getElem?_cons_zero] at kzc0 kzc1
          have hwmn : IntKind.i64.wrap ((n : Int) + (m : Int)) = (n : Int) + (m : Int) := by rw [IntKind.wrap_i64]; omega
          have hwmn1 : IntKind.i64.wrap ((n : Int) + (m : Int) + 1) = (n : Int) + (m : Int) + 1 := by rw [IntKind.wrap_i64]; omega
          have hf1 : (n : Int) + (m : Int) + 1 ≤ 200 := by omega
          have hf2 : decide ((n : Int) + (m : Int) + 1 ≤ 200) = true := decide_eq_true hf1
          have hlt : ¬ (n : Int) < (m : Int) := by have := H1.out; omega
          have hlt2 : (m : Int) ≤ (n : Int) := by have := H1.out; omega
          have hgt : ¬ (m : Int) < (n : Int) := by have := H1.out; omega
          have hgt2 : (n : Int) ≤ (m : Int) := by have := H1.out; omega
          have hn0 : ((n : Int) == 0) = false := beq_eq_false_iff_ne.2 (by have := H1.out; have := H0.out; omega)
          clear kzc0 kzc1
          go_upto_region 20 with (fail)
          generalize hW18 : World.alloc V18 _ = W18
          have hw18 : Below V18.heap.size V18 W18 := hW18 ▸ (Below.refl _ _).alloc (Nat.le_refl _) _
          have hBw18 := hB18.trans (hw18.mono hB18.size)
          have kx := BlkT.keep kx hw18
          have ky := BlkT.keep ky hw18
          have kz := BlkT.keep kz hw18
          have k17 := BlkT.keep k17 hw18
          clear hW18
          have kxc0 := kx.cell 0
          have kxc1 := kx.cell 1
          simp only [List.getElem?_toArray, List.getElem?_cons_succ, List.getElem?_cons_zero] at kxc0 kxc1
          have kyc0 := ky.cell 0
          have kyc1 := ky.cell 1
          simp only [List.getElem?_toArray, List.getElem?_cons_succ, List.getElem?_cons_zero] at kyc0 kyc1
          have kzc0 := kz.cell 0
          have kzc1 := kz.cell 1
          simp only [List.getElem?_toArray, List.getElem?_cons_succ, List.getElem?_cons_zero] at kzc0 kzc1
          go_wp2_with fail
          refine (C1.out _ (HE.out.below hBw18)).mono ?_
          rintro r V19 ⟨rfl, hb19⟩
          have hB19 := hBw18.trans (hb19.mono hBw18.size)
          have kx := BlkT.keep kx hb19
          have ky := BlkT.keep ky hb19
          have kz := BlkT.keep kz hb19
          have k17 := BlkT.keep k17 hb19
          clear kxc0 kxc1
          clear kyc0 kyc1
          clear kzc0 kzc1
          have kxc0 := kx.cell 0
          have kxc1 := kx.cell 1
          simp only [List.getElem?_toArray, List.getElem?_cons_succ, List.getElem?_cons_zero] at kxc0 kxc1
          have k17c0 := k17.cell 0
          have k17c1 := k17.cell 1
          simp only [List.getElem?_toArray, List.getElem?_cons_succ, List.getElem?_cons_zero] at k17c0 k17c1
          go_wp2_with fail
          refine (C2.out _ (HE.out.below hB19)).mono ?_
          rintro r V20 ⟨rfl, hb20⟩
          have hB20 := hB19.trans (hb20.mono hB19.size)
          have kx := BlkT.keep kx hb20
          have ky := BlkT.keep ky hb20
          have kz := BlkT.keep kz hb20
          have k17 := BlkT.keep k17 hb20
          go_wp2_with fail
          go_ret
          exact ⟨rfl, hB20⟩
set_option maxRecDepth 100000 in
set_option maxHeartbeats 8000000 in
theorem lim16_eb (p q : Int) (n m : Nat) (w : World) (he : EnvR w) (hn : n < 200) (hm : m < 200) (h1 : n = m) (h2 : ¬ n + m < 200)
    (hp : ∀ V : World, Calls Tryz.prog 28 #[.int .i64 p, .int .i64 200] V fun e w' => e = .returned (.int .i64 (n : Int)) ∧ Below V.heap.size V w')
    (hq : ∀ V : World, Calls Tryz.prog 28 #[.int .i64 q, .int .i64 200] V fun e w' => e = .returned (.int .i64 (m : Int)) ∧ Below V.heap.size V w') :
    Calls Tryz.prog 16 #[.int .i64 p, .int .i64 q] w fun e w' => e = .returned (.bool true) ∧ Below w.heap.size w w' := by
  have HE := Lib.hid he
  have PP := Lib.hid hp
  have PQ := Lib.hid hq
  clear he hp hq
  have e1 := tb_mul hn hm
  have e2 := tb_div hm
  have e3 := tb_add hn hm
  have e4 := tb_cmp1 hn hm
  have e5 := tb_cmp2 hn hm
  rw [S_one] at e1 e2 e3 e4 e5
  rw [if_neg h2] at e1 e3
  rw [if_neg (by omega), if_neg (by omega)] at e4
  rw [if_neg (by omega)] at e5
  have H1 := Lib.hid h1
  clear h1
  have zn := tb_size n
  have zm := tb_size m
  have MU := Lib.hid (fun V (hV : EnvR V) => by have k := mul04 (tenB n) ⟨#[49]⟩ (tenB m) ⟨#[49]⟩ V (by omega) (by decide) (by omega) (by decide) hV.env; rw [e1] at k; exact k)
  have DV := Lib.hid (fun V (hV : EnvR V) => by have k := div04 ⟨#[49]⟩ ⟨#[49]⟩ (tenB m) ⟨#[49]⟩ V (by decide) (by decide) (by omega) (by decide) hV.env; rw [e2] at k; exact k)
  have AD := Lib.hid (fun V (hV : EnvR V) => by have k := add04 (tenB n) ⟨#[49]⟩ ⟨#[49]⟩ (tenB m) V (by omega) (by decide) (by decide) (by omega) hV.env; exact k)
  have C1 := Lib.hid (fun V (hV : EnvR V) => by have k := compare04 (tenB n) ⟨#[49]⟩ (tenB m) ⟨#[49]⟩ V (by omega) (by decide) (by omega) (by decide) hV.env; rw [e4] at k; exact k)
  have C2 := Lib.hid (fun V (hV : EnvR V) => by have k := compare04 (tenB n) ⟨#[49]⟩ ⟨#[49]⟩ (tenB m) V (by omega) (by decide) (by decide) (by omega) hV.env; rw [e5] at k; exact k)
  have hR : sumR N3.addO (tenB n) ⟨#[49]⟩ ⟨#[49]⟩ (tenB m) = none := by
    cases hs : sumR N3.addO (tenB n) ⟨#[49]⟩ ⟨#[49]⟩ (tenB m) with
    | none => rfl
    | some xy => rw [hs] at e3; cases e3
  rw [hR] at AD
  clear e1 e2 e3 e4 e5 hR zn zm
  dsimp only [valR, errR] at MU DV AD
  go_enter Tryz.func16, Tryz.ntmps16
  go_wp2_with fail
  refine (sane04 _ HE.out).mono ?_
  rintro r V1 ⟨rfl, hb1⟩
  have hB1 := hb1
  go_wp2_with fail
  refine (PP.out _).mono ?_
  rintro r V2 ⟨rfl, hb2⟩
  have hB2 := hB1.trans (hb2.mono hB1.size)
  go_wp2_with fail
  refine (PQ.out _).mono ?_
  rintro r V3 ⟨rfl, hb3⟩
  have hB3 := hB2.trans (hb3.mono hB2.size)
  go_wp2_with fail
  go_loopw [6, 7] (fun u v wr => ∃ k : Nat, k ≤ n ∧ u = .string (tenB k) ∧ v = .int .i64 (k : Nat) ∧ V3 = wr) (fun _ v _ => ((n : Int) - Go.RowKit.intOf v).toNat)
  case atStart => exact ⟨0, Nat.zero_le _, by rw [tb_zero], rfl, rfl⟩
  case round =>
    obtain ⟨k, hk, rfl, rfl, rfl⟩ := hrel
    by_cases hkn : k < n
    · have hki : (k : Int) < (n : Int) := by omega
      have hw1 : IntKind.i64.wrap ((k : Int) + 1) = ((k + 1 : Nat) : Int) := by rw [IntKind.wrap_i64]; omega
      have hz := tb_size k
      have q1 : ¬ 9223372036854775807 < (tenB k).size + 1 := by omega
      have q2 : ¬ 9223372036854775807 < (tenB k).size + (⟨#[48]⟩ : ByteArray).size := by show ¬ 9223372036854775807 < (tenB k).size + 1; omega
      have hs' := tb_succ k
      generalize tenB k = sk at *
      have HS := Lib.hid hs'
      clear hz hs'
      go_wp2_with fail
      go_roundw
      case rel => exact ⟨k + 1, by omega, by rw [← HS.out], by go_num, by first | rfl | trivial⟩
      case measure => simp [Go.RowKit.intOf]; omega
    · have hkn2 : k = n := by omega
      rw [hkn2]
      have hkk : ¬ (n : Int) < (n : Int) := by omega
      clear hkn2
      go_wp2_with fail
      go_loopw [8, 9] (fun u v wr => ∃ k : Nat, k ≤ m ∧ u = .string (tenB k) ∧ v = .int .i64 (k : Nat) ∧ V3 = wr) (fun _ v _ => ((m : Int) - Go.RowKit.intOf v).toNat)
      case atStart => exact ⟨0, Nat.zero_le _, by rw [tb_zero], rfl, rfl⟩
      case round =>
        obtain ⟨k, hk, rfl, rfl, rfl⟩ := hrel
        by_cases hkn : k < m
        · have hki : (k : Int) < (m : Int) := by omega
          have hw1 : IntKind.i64.wrap ((k : Int) + 1) = ((k + 1 : Nat) : Int) := by rw [IntKind.wrap_i64]; omega
          have hz := tb_size k
          have q1 : ¬ 9223372036854775807 < (tenB k).size + 1 := by omega
          have q2 : ¬ 9223372036854775807 < (tenB k).size + (⟨#[48]⟩ : ByteArray).size := by show ¬ 9223372036854775807 < (tenB k).size + 1; omega
          have hs' := tb_succ k
          generalize tenB k = sk at *
          have HS := Lib.hid hs'
          clear hz hs'
          go_wp2_with fail
          go_roundw
          case rel => exact ⟨k + 1, by omega, by rw [← HS.out], by go_num, by first | rfl | trivial⟩
          case measure => simp [Go.RowKit.intOf]; omega
        · have hkn2 : k = m := by omega
          rw [hkn2]
          have hkk : ¬ (m : Int) < (m : Int) := by omega
          clear hkn2
          go_wp2_with fail
          generalize tenB n = sa at *
          generalize tenB m = sb at *
          refine (is_any _ _ _).mono ?_
          rintro r V4 ⟨rfl, hb4⟩
          have hB4 := hB3.trans (hb4.mono hB3.size)
          go_wp2_with fail
          generalize hW4 : World.alloc V4 _ = W4
          have hw4 : Below V4.heap.size V4 W4 := hW4 ▸ (Below.refl _ _).alloc (Nat.le_refl _) _
          have hBw4 := hB4.trans (hw4.mono hB4.size)
          have kx : BlkT W4 V4.heap.size #[.string sa, .string ⟨#[49]⟩] 26 := hW4 ▸ BlkT.newAt _ _ _ rfl
          clear hW4
          refine (is_any _ _ _).mono ?_
          rintro r V5 ⟨rfl, hb5⟩
          have hB5 := hBw4.trans (hb5.mono hBw4.size)
          have kx := BlkT.keep kx hb5
          go_upto_region 16 with (fail)
          generalize hW5 : World.alloc V5 _ = W5
          have hw5 : Below V5.heap.size V5 W5 := hW5 ▸ (Below.refl _ _).alloc (Nat.le_refl _) _
          have hBw5 := hB5.trans (hw5.mono hB5.size)
          have kx := BlkT.keep kx hw5
          have ky : BlkT W5 V5.heap.size #[.string sb, .string ⟨#[49]⟩] 26 := hW5 ▸ BlkT.newAt _ _ _ rfl
          clear hW5
          have kxc0 := kx.cell 0
          have kxc1 := kx.cell 1
          simp only [List.getElem?_toArray, List.getElem?_cons_succ, List.getElem?_cons_zero] at kxc0 kxc1
          have kyc0 := ky.cell 0
          have kyc1 := ky.cell 1
          simp only [List.getElem?_toArray, List.getElem?_cons_succ, List.getElem?_cons_zero] at kyc0 kyc1
          go_wp2_with fail
          refine (MU.out _ (HE.out.below hBw5)).mono ?_
          rintro r V6 ⟨rfl, hb6⟩
          have hB6 := hBw5.trans (hb6.mono hBw5.size)
          have kx := BlkT.keep kx hb6
          have ky := BlkT.keep ky hb6
          clear kxc0 kxc1
          clear kyc0 kyc1
          go_wp2_with fail
          generalize hW6 : World.alloc V6 _ = W6
          have hw6 : Below V6.heap.size V6 W6 := hW6 ▸ (Below.refl _ _).alloc (Nat.le_refl _) _
          have hBw6 := hB6.trans (hw6.mono hB6.size)
          have kx := BlkT.keep kx hw6
          have ky := BlkT.keep ky hw6
          have kz : BlkT W6 V6.heap.size #[.string ⟨#[]⟩, .string ⟨#[]⟩] 26 := hW6 ▸ BlkT.newAt _ _ _ rfl
          clear hW6
          have HK6 := Lib.hid (fun V (hV : Below W6.heap.size W6 V) => And.intro ((BlkT.keep ky hV).cell 0) ((BlkT.keep ky hV).cell 1))
          simp only [List.getElem?_toArray, List.getElem?_cons_succ, List.getElem?_cons_zero] at HK6
          have HEV := Lib.hid (fun V (hV : Below W6.heap.size W6 V) => HE.out.below (hBw6.trans (hV.mono hBw6.size)))
          apply wp_suchB (w0 := W6) #[.string ⟨#[49]⟩, .string sb]
          · go_region_held3 (fun w' => Below W6.heap.size W6 w' ∧ (w'.cell? ⟨V5.heap.size, 0, none⟩ = some (.string sb) ∧ w'.cell? ⟨V5.heap.size, 1, none⟩ = some (.string ⟨#[49]⟩)))
              (first | exact ⟨(Below.refl _ _).drew, HK6.out _ (Below.refl _ _).drew⟩ | (have hh := (‹Below W6.heap.size W6 _ ∧ _›).1; have hb := hh.trans (hBq.mono hh.size); exact ⟨hb, HK6.out _ hb⟩) | (have hh := (‹Below W6.heap.size W6 _ ∧ _›).1; have hb := hh.trans (hBr.mono hh.size); exact ⟨hb, HK6.out _ hb⟩) | (have hh := (‹Below W6.heap.size W6 _ ∧ _›).1; exact ⟨hh.alloc hh.size _, HK6.out _ (hh.alloc hh.size _)⟩) | (have hh := (‹Below W6.heap.size W6 _ ∧ _›).1; exact ⟨(hh.setCell (by dsimp only; omega) _).setCell (by dsimp only; omega) _, HK6.out _ ((hh.setCell (by dsimp only; omega) _).setCell (by dsimp only; omega) _)⟩) | (exact ⟨hSr.alloc hSz _, HK6.out _ (hSr.alloc hSz _)⟩) | go_keep)
              (first
                | (go_at_call 25; (with_reducible refine (is_any _ _ _).mono ?_); rintro r wq ⟨rfl, hBq⟩; have hSq := Nat.le_trans (‹Below W6.heap.size W6 _ ∧ _›).1.size hBq.size; have hblk := BlkT.keep (BlkT.newAt (World.drew W6) #[.string ⟨#[]⟩, .string ⟨#[]⟩] 26 (n := W6.heap.size) rfl) hBq)
                | (go_at_call 25; (with_reducible refine (is_any _ _ _).mono ?_); rintro r wq ⟨rfl, hBq⟩; have hSq := Nat.le_trans (‹Below W6.heap.size W6 _ ∧ _›).1.size hBq.size)
                | (go_at_call 63; (with_reducible refine (DV.out _ (HEV.out _ (‹Below W6.heap.size W6 _ ∧ _›).1)).mono ?_); rintro r wr ⟨rfl, hBr⟩; have hSz := Nat.le_trans (‹Below W6.heap.size W6 _ ∧ _›).1.size hBr.size; have hSr := (‹Below W6.heap.size W6 _ ∧ _›).1.trans (hBr.mono (‹Below W6.heap.size W6 _ ∧ _›).1.size); have hblk2 := BlkT.keep hblk hBr; have u0 := hblk2.cell 0; have u1 := hblk2.cell 1; have v0 := hblk2.frozen 0; have v1 := hblk2.frozen 1; simp only [List.getElem?_toArray, List.getElem?_cons_succ, List.getElem?_cons_zero] at u0 u1)
                | (go_at_call 63; (with_reducible refine (DV.out _ (HEV.out _ (‹Below W6.heap.size W6 _ ∧ _›).1)).mono ?_); rintro r wr ⟨rfl, hBr⟩; have hSz := Nat.le_trans (‹Below W6.heap.size W6 _ ∧ _›).1.size hBr.size; have hSr := (‹Below W6.heap.size W6 _ ∧ _›).1.trans (hBr.mono (‹Below W6.heap.size W6 _ ∧ _›).1.size); have hblk2 := BlkT.keep (BlkT.newAt wq #[.string ⟨#[]⟩, .string ⟨#[]⟩] 26 rfl) hBr; have u0 := hblk2.cell 0; have u1 := hblk2.cell 1; have v0 := hblk2.frozen 0; have v1 := hblk2.frozen 1; simp only [List.getElem?_toArray, List.getElem?_cons_succ, List.getElem?_cons_zero] at u0 u1)
                | (go_at_call 63; (with_reducible refine (DV.out _ (HEV.out _ (‹Below W6.heap.size W6 _ ∧ _›).1)).mono ?_); rintro r wr ⟨rfl, hBr⟩; have hSz := Nat.le_trans (‹Below W6.heap.size W6 _ ∧ _›).1.size hBr.size; have hSr := (‹Below W6.heap.size W6 _ ∧ _›).1.trans (hBr.mono (‹Below W6.heap.size W6 _ ∧ _›).1.size); have hblk2 := BlkT.newAt wr #[.string ⟨#[]⟩, .string ⟨#[]⟩] 26 rfl; have u0 := hblk2.cell 0; have u1 := hblk2.cell 1; have v0 := hblk2.frozen 0; have v1 := hblk2.frozen 1; simp only [List.getElem?_toArray, List.getElem?_cons_succ, List.getElem?_cons_zero] at u0 u1))
            all_goals (
              refine NoPanic.normal ?_
              have hh := (‹Below W6.heap.size W6 _ ∧ _›).1
              first
                | (have hz : BlkT _ _ #[.string ⟨#[49]⟩, .string sb] 26 := (hblk2.set 0 (.string ⟨#[49]⟩)).set 1 (.string sb); generalize wr.heap.size = gx at *; exact ⟨rfl, gx, rfl, hh, hz⟩)
                | (have hz : BlkT _ _ #[.string ⟨#[49]⟩, .string sb] 26 := (hblk2.set 0 (.string ⟨#[49]⟩)).set 1 (.string sb); generalize wq.heap.size = gx at *; exact ⟨rfl, gx, rfl, hh, hz⟩)
                | (have hz : BlkT _ _ #[.string ⟨#[49]⟩, .string sb] 26 := (hblk2.set 0 (.string ⟨#[49]⟩)).set 1 (.string sb); obtain ⟨gx, hgx⟩ : ∃ g, wq.heap.size = g := ⟨_, rfl⟩; rw [hgx]; exact ⟨rfl, gx, rfl, hh, by rw [← hgx]; exact hz⟩)
                | (have hz : BlkT (wr.alloc (.cells #[.string ⟨#[49]⟩, .string sb] 26)) wr.heap.size #[.string ⟨#[49]⟩, .string sb] 26 := BlkT.newAt _ _ _ rfl; obtain ⟨gx, hgx⟩ : ∃ g, wr.heap.size = g := ⟨_, rfl⟩; rw [hgx] at hz; rw [hgx]; exact ⟨rfl, gx, rfl, hh, hz⟩)
                | (have hz : BlkT _ _ #[.string ⟨#[49]⟩, .string sb] 26 := (hblk2.set 0 (.string ⟨#[49]⟩)).set 1 (.string sb); exact ⟨rfl, _, rfl, hh, hz⟩)
                | (trace_state; fail))
          rintro g17 W17 ⟨hb17, k17⟩
          have hB17 := hBw6.trans (hb17.mono hBw6.size)
          clear HK6
          have kx := BlkT.keep kx hb17
          have ky := BlkT.keep ky hb17
          have kz := BlkT.keep kz hb17
          have kxc0 := kx.cell 0
          have kxc1 := kx.cell 1
          simp only [List.getElem?_toArray, List.getElem?_cons_succ, List.getElem?_cons_zero] at kxc0 kxc1
          have k17c0 := k17.cell 0
          have k17c1 := k17.cell 1
          simp only [List.getElem?_toArray, List.getElem?_cons_succ, List.getElem?_cons_zero] at k17c0 k17c1
          go_wp2_with fail
          refine (AD.out _ (HE.out.below hB17)).mono ?_
          rintro r V18 ⟨rfl, hb18⟩
          have hB18 := hB17.trans (hb18.mono hB17.size)
          have kx := BlkT.keep kx hb18
          have ky := BlkT.keep ky hb18
          have kz := BlkT.keep kz hb18
          have k17 := BlkT.keep k17 hb18
          clear kxc0 kxc1
          clear k17c0 k17c1
          have kzc0 := kz.cell 0
          have kzc1 := kz.cell 1
          simp only [List.getElem?_toArray, List.getElem?_cons_succ, List.getElem?_cons_zero] at kzc0 kzc1
          have hwmn : IntKind.i64.wrap ((n : Int) + (m : Int)) = (n : Int) + (m : Int) := by rw [IntKind.wrap_i64]; omega
          have hwmn1 : IntKind.i64.wrap ((n : Int) + (m : Int) + 1) = (n : Int) + (m : Int) + 1 := by rw [IntKind.wrap_i64]; omega
          have hf1 : ¬ (n : Int) + (m : Int) + 1 ≤ 200 := by omega
          have hf2 : decide ((n : Int) + (m : Int) + 1 ≤ 200) = false := decide_eq_false hf1
          have hf3 : 200 < (n : Int) + (m : Int) + 1 := by omega
          have hlt : ¬ (n : Int) < (m : Int) := by have := H1.out; omega
          have hlt2 : (m : Int) ≤ (n : Int) := by have := H1.out; omega
          have hgt : ¬ (m : Int) < (n : Int) := by have := H1.out; omega
          have hgt2 : (n : Int) ≤ (m : Int) := by have := H1.out; omega
          have hn0 : ((n : Int) == 0) = false := beq_eq_false_iff_ne.2 (by have := H1.out; omega)
          clear kzc0 kzc1
          go_upto_region 20 with (fail)
          generalize hW18 : World.alloc V18 _ = W18
          have hw18 : Below V18.heap.size V18 W18 := hW18 ▸ (Below.refl _ _).alloc (Nat.le_refl _) _
          have hBw18 := hB18.trans (hw18.mono hB18.size)
          have kx := BlkT.keep kx hw18
          have ky := BlkT.keep ky hw18
          have kz := BlkT.keep kz hw18
          have k17 := BlkT.keep k17 hw18
          clear hW18
          have kxc0 := kx.cell 0
          have kxc1 := kx.cell 1
          simp only [List.getElem?_toArray, List.getElem?_cons_succ, List.getElem?_cons_zero] at kxc0 kxc1
          have kyc0 := ky.cell 0
          have kyc1 := ky.cell 1
          simp only [List.getElem?_toArray, List.getElem?_cons_succ, List.getElem?_cons_zero] at kyc0 kyc1
          have kzc0 := kz.cell 0
          have kzc1 := kz.cell 1
          simp only [List.getElem?_toArray, List.getElem?_cons_succ, List.getElem?_cons_zero] at kzc0 kzc1
          go_wp2_with fail
          refine (C1.out _ (HE.out.below hBw18)).mono ?_
          rintro r V19 ⟨rfl, hb19⟩
          have hB19 := hBw18.trans (hb19.mono hBw18.size)
          have kx := BlkT.keep kx hb19
          have ky := BlkT.keep ky hb19
          have kz := BlkT.keep kz hb19
          have k17 := BlkT.keep k17 hb19
          clear kxc0 kxc1
          clear kyc0 kyc1
          clear kzc0 kzc1
          have kxc0 := kx.cell 0
          have kxc1 := kx.cell 1
          simp only [List.getElem?_toArray, List.getElem?_cons_succ, List.getElem?_cons_zero] at kxc0 kxc1
          have k17c0 := k17.cell 0
          have k17c1 := k17.cell 1
          simp only [List.getElem?_toArray, List.getElem?_cons_succ, List.getElem?_cons_zero] at k17c0 k17c1
          go_wp2_with fail
          refine (C2.out _ (HE.out.below hB19)).mono ?_
          rintro r V20 ⟨rfl, hb20⟩
          have hB20 := hB19.trans (hb20.mono hB19.size)
          have kx := BlkT.keep kx hb20
          have ky := BlkT.keep ky hb20
          have kz := BlkT.keep kz hb20
          have k17 := BlkT.keep k17 hb20
          go_wp2_with fail
          go_ret
          exact ⟨rfl, hB20⟩
set_option maxRecDepth 100000 in
set_option maxHeartbeats 8000000 in
theorem lim16_zz (p q : Int) (n m : Nat) (w : World) (he : EnvR w) (hn : n < 200) (hm : m < 200) (h1 : n = m) (h0 : n = 0) (h2 : n + m < 200)
    (hp : ∀ V : World, Calls Tryz.prog 28 #[.int .i64 p, .int .i64 200] V fun e w' => e = .returned (.int .i64 (n : Int)) ∧ Below V.heap.size V w')
    (hq : ∀ V : World, Calls Tryz.prog 28 #[.int .i64 q, .int .i64 200] V fun e w' => e = .returned (.int .i64 (m : Int)) ∧ Below V.heap.size V w') :
    Calls Tryz.prog 16 #[.int .i64 p, .int .i64 q] w fun e w' => e = .returned (.bool true) ∧ Below w.heap.size w w' := by
  have HE := Lib.hid he
  have PP := Lib.hid hp
  have PQ := Lib.hid hq
  clear he hp hq
  have e1 := tb_mul hn hm
  have e2 := tb_div hm
  have e3 := tb_add hn hm
  have e4 := tb_cmp1 hn hm
  have e5 := tb_cmp2 hn hm
  rw [S_one] at e1 e2 e3 e4 e5
  rw [if_pos h2] at e1 e3
  rw [if_neg (by omega), if_neg (by omega)] at e4
  rw [if_pos (by omega)] at e5
  have H1 := Lib.hid h1
  have H0 := Lib.hid h0
  clear h1 h0
  have zn := tb_size n
  have zm := tb_size m
  have MU := Lib.hid (fun V (hV : EnvR V) => by have k := mul04 (tenB n) ⟨#[49]⟩ (tenB m) ⟨#[49]⟩ V (by omega) (by decide) (by omega) (by decide) hV.env; rw [e1] at k; exact k)
  have DV := Lib.hid (fun V (hV : EnvR V) => by have k := div04 ⟨#[49]⟩ ⟨#[49]⟩ (tenB m) ⟨#[49]⟩ V (by decide) (by decide) (by omega) (by decide) hV.env; rw [e2] at k; exact k)
  have AD := Lib.hid (fun V (hV : EnvR V) => by have k := add04 (tenB n) ⟨#[49]⟩ ⟨#[49]⟩ (tenB m) V (by omega) (by decide) (by decide) (by omega) hV.env; exact k)
  have C1 := Lib.hid (fun V (hV : EnvR V) => by have k := compare04 (tenB n) ⟨#[49]⟩ (tenB m) ⟨#[49]⟩ V (by omega) (by decide) (by omega) (by decide) hV.env; rw [e4] at k; exact k)
  have C2 := Lib.hid (fun V (hV : EnvR V) => by have k := compare04 (tenB n) ⟨#[49]⟩ ⟨#[49]⟩ (tenB m) V (by omega) (by decide) (by decide) (by omega) hV.env; rw [e5] at k; exact k)
  generalize strR (N3.mulF (((10 ^ n : Nat) : Int), 1) (((10 ^ m : Nat) : Int), 1)) = sr at *
  obtain ⟨mx, my⟩ := sr
  obtain ⟨xy, hR⟩ : ∃ xy, sumR N3.addO (tenB n) ⟨#[49]⟩ ⟨#[49]⟩ (tenB m) = some xy := by
    cases hs : sumR N3.addO (tenB n) ⟨#[49]⟩ ⟨#[49]⟩ (tenB m) with
    | none => rw [hs] at e3; cases e3
    | some xy => exact ⟨xy, rfl⟩
  obtain ⟨ax, ay⟩ := xy
  rw [hR] at AD
  clear e1 e2 e3 e4 e5 hR zn zm
  dsimp only [valR, errR] at MU DV AD
  go_enter Tryz.func16, Tryz.ntmps16
  go_wp2_with fail
  refine (sane04 _ HE.out).mono ?_
  rintro r V1 ⟨rfl, hb1⟩
  have hB1 := hb1
  go_wp2_with fail
  refine (PP.out _).mono ?_
  rintro r V2 ⟨rfl, hb2⟩
  have hB2 := hB1.trans (hb2.mono hB1.size)
  go_wp2_with fail
  refine (PQ.out _).mono ?_
  rintro r V3 ⟨rfl, hb3⟩
  have hB3 := hB2.trans (hb3.mono hB2.size)
  go_wp2_with fail
  go_loopw [6, 7] (fun u v wr => ∃ k : Nat, k ≤ n ∧ u = .string (tenB k) ∧ v = .int .i64 (k : Nat) ∧ V3 = wr) (fun _ v _ => ((n : Int) - Go.RowKit.intOf v).toNat)
  case atStart => exact ⟨0, Nat.zero_le _, by rw [tb_zero], rfl, rfl⟩
  case round =>
    obtain ⟨k, hk, rfl, rfl, rfl⟩ := hrel
    by_cases hkn : k < n
    · have hki : (k : Int) < (n : Int) := by omega
      have hw1 : IntKind.i64.wrap ((k : Int) + 1) = ((k + 1 : Nat) : Int) := by rw [IntKind.wrap_i64]; omega
      have hz := tb_size k
      have q1 : ¬ 9223372036854775807 < (tenB k).size + 1 := by omega
      have q2 : ¬ 9223372036854775807 < (tenB k).size + (⟨#[48]⟩ : ByteArray).size := by show ¬ 9223372036854775807 < (tenB k).size + 1; omega
      have hs' := tb_succ k
      generalize tenB k = sk at *
      have HS := Lib.hid hs'
      clear hz hs'
      go_wp2_with fail
      go_roundw
      case rel => exact ⟨k + 1, by omega, by rw [← HS.out], by go_num, by first | rfl | trivial⟩
      case measure => simp [Go.RowKit.intOf]; omega
    · have hkn2 : k = n := by omega
      rw [hkn2]
      have hkk : ¬ (n : Int) < (n : Int) := by omega
      clear hkn2
      go_wp2_with fail
      go_loopw [8, 9] (fun u v wr => ∃ k : Nat, k ≤ m ∧ u = .string (tenB k) ∧ v = .int .i64 (k : Nat) ∧ V3 = wr) (fun _ v _ => ((m : Int) - Go.RowKit.intOf v).toNat)
      case atStart => exact ⟨0, Nat.zero_le _, by rw [tb_zero], rfl, rfl⟩
      case round =>
        obtain ⟨k, hk, rfl, rfl, rfl⟩ := hrel
        by_cases hkn : k < m
        · have hki : (k : Int) < (m : Int) := by omega
          have hw1 : IntKind.i64.wrap ((k : Int) + 1) = ((k + 1 : Nat) : Int) := by rw [IntKind.wrap_i64]; omega
          have hz := tb_size k
          have q1 : ¬ 9223372036854775807 < (tenB k).size + 1 := by omega
          have q2 : ¬ 9223372036854775807 < (tenB k).size + (⟨#[48]⟩ : ByteArray).size := by show ¬ 9223372036854775807 < (tenB k).size + 1; omega
          have hs' := tb_succ k
          generalize tenB k = sk at *
          have HS := Lib.hid hs'
          clear hz hs'
          go_wp2_with fail
          go_roundw
          case rel => exact ⟨k + 1, by omega, by rw [← HS.out], by go_num, by first | rfl | trivial⟩
          case measure => simp [Go.RowKit.intOf]; omega
        · have hkn2 : k = m := by omega
          rw [hkn2]
          have hkk : ¬ (m : Int) < (m : Int) := by omega
          clear hkn2
          go_wp2_with fail
          generalize tenB n = sa at *
          generalize tenB m = sb at *
          refine (is_any _ _ _).mono ?_
          rintro r V4 ⟨rfl, hb4⟩
          have hB4 := hB3.trans (hb4.mono hB3.size)
          go_wp2_with fail
          generalize hW4 : World.alloc V4 _ = W4
          have hw4 : Below V4.heap.size V4 W4 := hW4 ▸ (Below.refl _ _).alloc (Nat.le_refl _) _
          have hBw4 := hB4.trans (hw4.mono hB4.size)
          have kx : BlkT W4 V4.heap.size #[.string sa, .string ⟨#[49]⟩] 26 := hW4 ▸ BlkT.newAt _ _ _ rfl
          clear hW4
          refine (is_any _ _ _).mono ?_
          rintro r V5 ⟨rfl, hb5⟩
          have hB5 := hBw4.trans (hb5.mono hBw4.size)
          have kx := BlkT.keep kx hb5
          go_upto_region 16 with (fail)
          generalize hW5 : World.alloc V5 _ = W5
          have hw5 : Below V5.heap.size V5 W5 := hW5 ▸ (Below.refl _ _).alloc (Nat.le_refl _) _
          have hBw5 := hB5.trans (hw5.mono hB5.size)
          have kx := BlkT.keep kx hw5
          have ky : BlkT W5 V5.heap.size #[.string sb, .string ⟨#[49]⟩] 26 := hW5 ▸ BlkT.newAt _ _ _ rfl
          clear hW5
          have kxc0 := kx.cell 0
          have kxc1 := kx.cell 1
          simp only [List.getElem?_toArray, List.getElem?_cons_succ, List.getElem?_cons_zero] at kxc0 kxc1
          have kyc0 := ky.cell 0
          have kyc1 := ky.cell 1
          simp only [List.getElem?_toArray, List.getElem?_cons_succ, List.getElem?_cons_zero] at kyc0 kyc1
          go_wp2_with fail
          refine (MU.out _ (HE.out.below hBw5)).mono ?_
          rintro r V6 ⟨rfl, hb6⟩
          have hB6 := hBw5.trans (hb6.mono hBw5.size)
          have kx := BlkT.keep kx hb6
          have ky := BlkT.keep ky hb6
          clear kxc0 kxc1
          clear kyc0 kyc1
          go_wp2_with fail
          generalize hW6 : World.alloc V6 _ = W6
          have hw6 : Below V6.heap.size V6 W6 := hW6 ▸ (Below.refl _ _).alloc (Nat.le_refl _) _
          have hBw6 := hB6.trans (hw6.mono hB6.size)
          have kx := BlkT.keep kx hw6
          have ky := BlkT.keep ky hw6
          have kz : BlkT W6 V6.heap.size #[.string mx, .string my] 26 := hW6 ▸ BlkT.newAt _ _ _ rfl
          clear hW6
          have HK6 := Lib.hid (fun V (hV : Below W6.heap.size W6 V) => And.intro ((BlkT.keep ky hV).cell 0) ((BlkT.keep ky hV).cell 1))
          simp only [List.getElem?_toArray, List.getElem?_cons_succ, List.getElem?_cons_zero] at HK6
          have HEV := Lib.hid (fun V (hV : Below W6.heap.size W6 V) => HE.out.below (hBw6.trans (hV.mono hBw6.size)))
          apply wp_suchB (w0 := W6) #[.string ⟨#[49]⟩, .string sb]
          · go_region_held3 (fun w' => Below W6.heap.size W6 w' ∧ (w'.cell? ⟨V5.heap.size, 0, none⟩ = some (.string sb) ∧ w'.cell? ⟨V5.heap.size, 1, none⟩ = some (.string ⟨#[49]⟩)))
              (first | exact ⟨(Below.refl _ _).drew, HK6.out _ (Below.refl _ _).drew⟩ | (have hh := (‹Below W6.heap.size W6 _ ∧ _›).1; have hb := hh.trans (hBq.mono hh.size); exact ⟨hb, HK6.out _ hb⟩) | (have hh := (‹Below W6.heap.size W6 _ ∧ _›).1; have hb := hh.trans (hBr.mono hh.size); exact ⟨hb, HK6.out _ hb⟩) | (have hh := (‹Below W6.heap.size W6 _ ∧ _›).1; exact ⟨hh.alloc hh.size _, HK6.out _ (hh.alloc hh.size _)⟩) | (have hh := (‹Below W6.heap.size W6 _ ∧ _›).1; exact ⟨(hh.setCell (by dsimp only; omega) _).setCell (by dsimp only; omega) _, HK6.out _ ((hh.setCell (by dsimp only; omega) _).setCell (by dsimp only; omega) _)⟩) | (exact ⟨hSr.alloc hSz _, HK6.out _ (hSr.alloc hSz _)⟩) | go_keep)
              (first
                | (go_at_call 25; (with_reducible refine (is_any _ _ _).mono ?_); rintro r wq ⟨rfl, hBq⟩; have hSq := Nat.le_trans (‹Below W6.heap.size W6 _ ∧ _›).1.size hBq.size; have hblk := BlkT.keep (BlkT.newAt (World.drew W6) #[.string ⟨#[]⟩, .string ⟨#[]⟩] 26 (n := W6.heap.size) rfl) hBq)
                | (go_at_call 25; (with_reducible refine (is_any _ _ _).mono ?_); rintro r wq ⟨rfl, hBq⟩; have hSq := Nat.le_trans (‹Below W6.heap.size W6 _ ∧ _›).1.size hBq.size)
                | (go_at_call 63; (with_reducible refine (DV.out _ (HEV.out _ (‹Below W6.heap.size W6 _ ∧ _›).1)).mono ?_); rintro r wr ⟨rfl, hBr⟩; have hSz := Nat.le_trans (‹Below W6.heap.size W6 _ ∧ _›).1.size hBr.size; have hSr := (‹Below W6.heap.size W6 _ ∧ _›).1.trans (hBr.mono (‹Below W6.heap.size W6 _ ∧ _›).1.size); have hblk2 := BlkT.keep hblk hBr; have u0 := hblk2.cell 0; have u1 := hblk2.cell 1; have v0 := hblk2.frozen 0; have v1 := hblk2.frozen 1; simp only [List.getElem?_toArray, List.getElem?_cons_succ, List.getElem?_cons_zero] at u0 u1)
                | (go_at_call 63; (with_reducible refine (DV.out _ (HEV.out _ (‹Below W6.heap.size W6 _ ∧ _›).1)).mono ?_); rintro r wr ⟨rfl, hBr⟩; have hSz := Nat.le_trans (‹Below W6.heap.size W6 _ ∧ _›).1.size hBr.size; have hSr := (‹Below W6.heap.size W6 _ ∧ _›).1.trans (hBr.mono (‹Below W6.heap.size W6 _ ∧ _›).1.size); have hblk2 := BlkT.keep (BlkT.newAt wq #[.string ⟨#[]⟩, .string ⟨#[]⟩] 26 rfl) hBr; have u0 := hblk2.cell 0; have u1 := hblk2.cell 1; have v0 := hblk2.frozen 0; have v1 := hblk2.frozen 1; simp only [List.getElem?_toArray, List.getElem?_cons_succ, List.getElem?_cons_zero] at u0 u1)
                | (go_at_call 63; (with_reducible refine (DV.out _ (HEV.out _ (‹Below W6.heap.size W6 _ ∧ _›).1)).mono ?_); rintro r wr ⟨rfl, hBr⟩; have hSz := Nat.le_trans (‹Below W6.heap.size W6 _ ∧ _›).1.size hBr.size; have hSr := (‹Below W6.heap.size W6 _ ∧ _›).1.trans (hBr.mono (‹Below W6.heap.size W6 _ ∧ _›).1.size); have hblk2 := BlkT.newAt wr #[.string ⟨#[]⟩, .string ⟨#[]⟩] 26 rfl; have u0 := hblk2.cell 0; have u1 := hblk2.cell 1; have v0 := hblk2.frozen 0; have v1 := hblk2.frozen 1; simp only [List.getElem?_toArray, List.getElem?_cons_succ, List.getElem?_cons_zero] at u0 u1))
            all_goals (
              refine NoPanic.normal ?_
              have hh := (‹Below W6.heap.size W6 _ ∧ _›).1
              first
                | (have hz : BlkT _ _ #[.string ⟨#[49]⟩, .string sb] 26 := (hblk2.set 0 (.string ⟨#[49]⟩)).set 1 (.string sb); generalize wr.heap.size = gx at *; exact ⟨rfl, gx, rfl, hh, hz⟩)
                | (have hz : BlkT _ _ #[.string ⟨#[49]⟩, .string sb] 26 := (hblk2.set 0 (.string ⟨#[49]⟩)).set 1 (.string sb); generalize wq.heap.size = gx at *; exact ⟨rfl, gx, rfl, hh, hz⟩)
                | (have hz : BlkT _ _ #[.string ⟨#[49]⟩, .string sb] 26 := (hblk2.set 0 (.string ⟨#[49]⟩)).set 1 (.string sb); obtain ⟨gx, hgx⟩ : ∃ g, wq.heap.size = g := ⟨_, rfl⟩; rw [hgx]; exact ⟨rfl, gx, rfl, hh, by rw [← hgx]; exact hz⟩)
                | (have hz : BlkT (wr.alloc (.cells #[.string ⟨#[49]⟩, .string sb] 26)) wr.heap.size #[.string ⟨#[49]⟩, .string sb] 26 := BlkT.newAt _ _ _ rfl; obtain ⟨gx, hgx⟩ : ∃ g, wr.heap.size = g := ⟨_, rfl⟩; rw [hgx] at hz; rw [hgx]; exact ⟨rfl, gx, rfl, hh, hz⟩)
                | (have hz : BlkT _ _ #[.string ⟨#[49]⟩, .string sb] 26 := (hblk2.set 0 (.string ⟨#[49]⟩)).set 1 (.string sb); exact ⟨rfl, _, rfl, hh, hz⟩)
                | (trace_state; fail))
          rintro g17 W17 ⟨hb17, k17⟩
          have hB17 := hBw6.trans (hb17.mono hBw6.size)
          clear HK6
          have kx := BlkT.keep kx hb17
          have ky := BlkT.keep ky hb17
          have kz := BlkT.keep kz hb17
          have kxc0 := kx.cell 0
          have kxc1 := kx.cell 1
          simp only [List.getElem?_toArray, List.getElem?_cons_succ, List.getElem?_cons_zero] at kxc0 kxc1
          have k17c0 := k17.cell 0
          have k17c1 := k17.cell 1
          simp only [List.getElem?_toArray, List.getElem?_cons_succ, List.getElem?_cons_zero] at k17c0 k17c1
          go_wp2_with fail
          refine (AD.out _ (HE.out.below hB17)).mono ?_
          rintro r V18 ⟨rfl, hb18⟩
          have hB18 := hB17.trans (hb18.mono hB17.size)
          have kx := BlkT.keep kx hb18
          have ky := BlkT.keep ky hb18
          have kz := BlkT.keep kz hb18
          have k17 := BlkT.keep k17 hb18
          clear kxc0 kxc1
          clear k17c0 k17c1
          have kzc0 := kz.cell 0
          have kzc1 := kz.cell 1
          simp only [List.getElem?_toArray, List.getElem?_cons_succ, List.getElem?_cons_zero] at kzc0 kzc1
          have hwmn : IntKind.i64.wrap ((n : Int) + (m : Int)) = (n : Int) + (m : Int) := by rw [IntKind.wrap_i64]; omega
          have hwmn1 : IntKind.i64.wrap ((n : Int) + (m : Int) + 1) = (n : Int) + (m : Int) + 1 := by rw [IntKind.wrap_i64]; omega
          have hf1 : (n : Int) + (m : Int) + 1 ≤ 200 := by omega
          have hf2 : decide ((n : Int) + (m : Int) + 1 ≤ 200) = true := decide_eq_true hf1
          have hlt : ¬ (n : Int) < (m : Int) := by have := H1.out; omega
          have hlt2 : (m : Int) ≤ (n : Int) := by have := H1.out; omega
          have hgt : ¬ (m : Int) < (n : Int) := by have := H1.out; omega
          have hgt2 : (n : Int) ≤ (m : Int) := by have := H1.out; omega
          have hn0 : ((n : Int) == 0) = true := beq_iff_eq.2 (by have := H1.out; have := H0.out; omega)
          have hm0 : ((m : Int) == 0) = true := beq_iff_eq.2 (by have := H1.out; have := H0.out; omega)
          clear kzc0 kzc1
          go_upto_region 20 with (fail)
          generalize hW18 : World.alloc V18 _ = W18
          have hw18 : Below V18.heap.size V18 W18 := hW18 ▸ (Below.refl _ _).alloc (Nat.le_refl _) _
          have hBw18 := hB18.trans (hw18.mono hB18.size)
          have kx := BlkT.keep kx hw18
          have ky := BlkT.keep ky hw18
          have kz := BlkT.keep kz hw18
          have k17 := BlkT.keep k17 hw18
          clear hW18
          have kxc0 := kx.cell 0
          have kxc1 := kx.cell 1
          simp only [List.getElem?_toArray, List.getElem?_cons_succ, List.getElem?_cons_zero] at kxc0 kxc1
          have kyc0 := ky.cell 0
          have kyc1 := ky.cell 1
          simp only [List.getElem?_toArray, List.getElem?_cons_succ, List.getElem?_cons_zero] at kyc0 kyc1
          have kzc0 := kz.cell 0
          have kzc1 := kz.cell 1
          simp only [List.getElem?_toArray, List.getElem?_cons_succ, List.getElem?_cons_zero] at kzc0 kzc1
          go_wp2_with fail
          refine (C1.out _ (HE.out.below hBw18)).mono ?_
          rintro r V19 ⟨rfl, hb19⟩
          have hB19 := hBw18.trans (hb19.mono hBw18.size)
          have kx := BlkT.keep kx hb19
          have ky := BlkT.keep ky hb19
          have kz := BlkT.keep kz hb19
          have k17 := BlkT.keep k17 hb19
          clear kxc0 kxc1
          clear kyc0 kyc1
          clear kzc0 kzc1
          have kxc0 := kx.cell 0
          have kxc1 := kx.cell 1
          simp only [List.getElem?_toArray, List.getElem?_cons_succ, List.getElem?_cons_zero] at kxc0 kxc1
          have k17c0 := k17.cell 0
          have k17c1 := k17.cell 1
          simp only [List.getElem?_toArray, List.getElem?_cons_succ, List.getElem?_cons_zero] at k17c0 k17c1
          go_wp2_with fail
          refine (C2.out _ (HE.out.below hB19)).mono ?_
          rintro r V20 ⟨rfl, hb20⟩
          have hB20 := hB19.trans (hb20.mono hB19.size)
          have kx := BlkT.keep kx hb20
          have ky := BlkT.keep ky hb20
          have kz := BlkT.keep kz hb20
          have k17 := BlkT.keep k17 hb20
          go_wp2_with fail
          go_ret
          exact ⟨rfl, hB20⟩
theorem law_limits16 (p q : Int) (w : World) (l0 : -9223372036854775808 ≤ p) (u0 : p ≤ 9223372036854775807) (l1 : -9223372036854775808 ≤ q) (u1 : q ≤ 9223372036854775807) (he : EnvR w) :
    Calls Tryz.prog 16 #[.int .i64 p, .int .i64 q] w fun e w' => e = .returned (.bool true) ∧ Below w.heap.size w w' := by
  have b1 := pickN_bd p (show (0 : Int) < 200 by decide)
  have b2 := pickN_bd q (show (0 : Int) < 200 by decide)
  have hP : ∀ V : World, Calls Tryz.prog 28 #[.int .i64 p, .int .i64 200] V fun e w' => e = .returned (.int .i64 (pickN p 200)) ∧ Below V.heap.size V w' := fun V => (pick28 p 200 V l0 u0 (by decide) (by decide)).mono (fun e W h => ⟨h.1, h.2 ▸ Below.refl _ _⟩)
  have hQ : ∀ V : World, Calls Tryz.prog 28 #[.int .i64 q, .int .i64 200] V fun e w' => e = .returned (.int .i64 (pickN q 200)) ∧ Below V.heap.size V w' := fun V => (pick28 q 200 V l1 u1 (by decide) (by decide)).mono (fun e W h => ⟨h.1, h.2 ▸ Below.refl _ _⟩)
  obtain ⟨n, hn⟩ : ∃ n : Nat, pickN p 200 = (n : Int) := ⟨(pickN p 200).toNat, by omega⟩
  obtain ⟨m, hm⟩ : ∃ m : Nat, pickN q 200 = (m : Int) := ⟨(pickN q 200).toNat, by omega⟩
  rw [hn] at hP b1
  rw [hm] at hQ b2
  have n2 : n < 200 := by omega
  have m2 : m < 200 := by omega
  by_cases hf : n + m < 200
  · rcases Nat.lt_trichotomy n m with h | h | h
    · by_cases h0 : n = 0
      · exact lim16_l0 p q n m w he n2 m2 h h0 hf hP hQ
      · exact lim16_l1 p q n m w he n2 m2 h h0 hf hP hQ
    · by_cases h0 : n = 0
      · exact lim16_zz p q n m w he n2 m2 h h0 hf hP hQ
      · exact lim16_ef p q n m w he n2 m2 h h0 hf hP hQ
    · exact lim16_gf p q n m w he n2 m2 h hf hP hQ
  · rcases Nat.lt_trichotomy n m with h | h | h
    · exact lim16_lb p q n m w he n2 m2 h hf hP hQ
    · exact lim16_eb p q n m w he n2 m2 h hf hP hQ
    · exact lim16_gb p q n m w he n2 m2 h hf hP hQ

end Go.Proofs.YtjnpenljgfdaiaaGreatDoor
