/- nadirlaw03: IntegerRing. -/
import Derived.Test.YtjnpenljgfdaiaaGreatDoorLK
namespace Go.Proofs.YtjnpenljgfdaiaaGreatDoor
open Go.RowKit Go.Shelf Lib

set_option maxRecDepth 100000 in
set_option maxHeartbeats 4000000 in
theorem law_ring (a b c : ByteArray) (w : World) (ha : a.size ≤ 9223372036854775807) (hb : b.size ≤ 9223372036854775807) (hc : c.size ≤ 9223372036854775807) (he : EnvW w) :
    Calls Tryz.prog 5 #[.string a, .string b, .string c] w fun e w' => e = .returned (.bool true) ∧ Below w.heap.size w w' := by
  have HE := Lib.hid he
  have F0 := Lib.hid (fun V (_ : EnvW V) => sane_true V ‹EnvW V›)
  have M1 := Lib.hid (fun V (_ : EnvW V) => made_any a 60 V (by decide) ha)
  have M2 := Lib.hid (fun V (_ : EnvW V) => made_any b 60 V (by decide) hb)
  have M3 := Lib.hid (fun V (_ : EnvW V) => made_any c 60 V (by decide) hc)
  have bx := madeV_lt a 60
  have by' := madeV_lt b 60
  have bz := madeV_lt c 60
  generalize madeV a 60 = x at M1 bx
  generalize madeV b 60 = y at M2 by'
  generalize madeV c 60 = z at M3 bz
  have lx := N3.lim_of bx (by decide)
  have ly := N3.lim_of by' (by decide)
  have lz := N3.lim_of bz (by decide)
  have bxy := N3.natAbs_add_lt (k := 61) bx by' (by decide) (by decide)
  have byz := N3.natAbs_add_lt (k := 61) by' bz (by decide) (by decide)
  have bxyz := N3.natAbs_add_lt (k := 62) bxy bz (by decide) (by decide)
  have mxy := N3.natAbs_lt (k := 120) bx by' (by decide)
  have myz := N3.natAbs_lt (k := 120) by' bz (by decide)
  have mxz := N3.natAbs_lt (k := 120) bx bz (by decide)
  have mxyz := N3.natAbs_lt (k := 180) mxy bz (by decide)
  have mxyz2 := N3.natAbs_lt (k := 180) bx myz (by decide)
  have msz := N3.natAbs_lt (k := 121) bxy bz (by decide)
  have bd : (x - y).natAbs < 10 ^ 61 := by
    have e : 10 ^ 61 = 10 ^ 60 * 10 := by decide
    omega
  have lxy := N3.lim_of bxy (by decide)
  have lyz := N3.lim_of byz (by decide)
  have lxyz := N3.lim_of bxyz (by decide)
  have nxy := N3.lim_of mxy (by decide)
  have nyz := N3.lim_of myz (by decide)
  have nxz := N3.lim_of mxz (by decide)
  have nxyz := N3.lim_of mxyz (by decide)
  have nxyz2 := N3.lim_of mxyz2 (by decide)
  have nsz := N3.lim_of msz (by decide)
  have ld := N3.lim_of bd (by decide)
  have A1 := Lib.hid (fun V (hV : EnvW V) => add_s lx ly lxy V hV)
  have A2 := Lib.hid (fun V (hV : EnvW V) => by have h := add_s ly lx (by rw [Int.add_comm]; exact lxy) V hV; rw [Int.add_comm y x] at h; exact h)
  have A3 := Lib.hid (fun V (hV : EnvW V) => add_s lxy lz lxyz V hV)
  have A4 := Lib.hid (fun V (hV : EnvW V) => add_s ly lz lyz V hV)
  have A5 := Lib.hid (fun V (hV : EnvW V) => by have h := add_s lx lyz (by rw [← Int.add_assoc]; exact lxyz) V hV; rw [← Int.add_assoc] at h; exact h)
  have P1 := Lib.hid (fun V (hV : EnvW V) => mul_s lx ly nxy V hV)
  have P2 := Lib.hid (fun V (hV : EnvW V) => by have h := mul_s ly lx (by rw [Int.mul_comm]; exact nxy) V hV; rw [Int.mul_comm y x] at h; exact h)
  have P3 := Lib.hid (fun V (hV : EnvW V) => mul_s nxy lz nxyz V hV)
  have P4 := Lib.hid (fun V (hV : EnvW V) => mul_s ly lz nyz V hV)
  have P5 := Lib.hid (fun V (hV : EnvW V) => by have h := mul_s lx nyz nxyz2 V hV; rw [← Int.mul_assoc] at h; exact h)
  have G1 := Lib.hid (fun V (hV : EnvW V) => mul_s lxy lz nsz V hV)
  have G2 := Lib.hid (fun V (hV : EnvW V) => mul_s lx lz nxz V hV)
  have G3 := Lib.hid (fun V (hV : EnvW V) => by have h := add_s nxz nyz (by rw [← Int.add_mul]; exact nsz) V hV; rw [← Int.add_mul] at h; exact h)
  have D1 := Lib.hid (fun V (hV : EnvW V) => sub_s lx ly ld V hV)
  have D2 := Lib.hid (fun V (hV : EnvW V) => by have h := add_s ld ly (by rw [Int.sub_add_cancel]; exact lx) V hV; rw [Int.sub_add_cancel] at h; exact h)
  have U1 := Lib.hid (fun V (hV : EnvW V) => by have h := mul_s lx lim1 (by rw [Int.mul_one]; exact lx) V hV; rw [Int.mul_one, S_one] at h; exact h)
  have U0 := Lib.hid (fun V (hV : EnvW V) => by have h := mul_s lx lim0 (by rw [Int.mul_zero]; exact lim0) V hV; rw [Int.mul_zero, S_zero] at h; exact h)
  clear he bx by' bz lx ly lz bxy byz bxyz mxy myz mxz mxyz mxyz2 msz bd lxy lyz lxyz nxy nyz nxz nxyz nxyz2 nsz ld ha hb hc
  go_enter Tryz.func5, Tryz.ntmps5
  go_wp2_with fail
  refine (F0.out _ HE.out).mono ?_
  rintro e W1 ⟨rfl, hb1⟩
  have hB1 := hb1
  go_wp2_with fail
  refine (M1.out _ (HE.out.below hB1)).mono ?_
  rintro e W2 ⟨rfl, hb2⟩
  have hB2 := hB1.trans (hb2.mono hB1.size)
  go_wp2_with fail
  refine (M2.out _ (HE.out.below hB2)).mono ?_
  rintro e W3 ⟨rfl, hb3⟩
  have hB3 := hB2.trans (hb3.mono hB2.size)
  go_wp2_with fail
  refine (M3.out _ (HE.out.below hB3)).mono ?_
  rintro e W4 ⟨rfl, hb4⟩
  have hB4 := hB3.trans (hb4.mono hB3.size)
  go_wp2_with fail
  refine (A1.out _ (HE.out.below hB4)).mono ?_
  rintro e W5 ⟨rfl, hb5⟩
  have hB5 := hB4.trans (hb5.mono hB4.size)
  go_wp2_with fail
  refine (A2.out _ (HE.out.below hB5)).mono ?_
  rintro e W6 ⟨rfl, hb6⟩
  have hB6 := hB5.trans (hb6.mono hB5.size)
  go_wp2_with fail
  refine (A3.out _ (HE.out.below hB6)).mono ?_
  rintro e W7 ⟨rfl, hb7⟩
  have hB7 := hB6.trans (hb7.mono hB6.size)
  go_wp2_with fail
  refine (A4.out _ (HE.out.below hB7)).mono ?_
  rintro e W8 ⟨rfl, hb8⟩
  have hB8 := hB7.trans (hb8.mono hB7.size)
  go_wp2_with fail
  refine (A5.out _ (HE.out.below hB8)).mono ?_
  rintro e W9 ⟨rfl, hb9⟩
  have hB9 := hB8.trans (hb9.mono hB8.size)
  go_wp2_with fail
  refine (P1.out _ (HE.out.below hB9)).mono ?_
  rintro e W10 ⟨rfl, hb10⟩
  have hB10 := hB9.trans (hb10.mono hB9.size)
  go_wp2_with fail
  refine (P2.out _ (HE.out.below hB10)).mono ?_
  rintro e W11 ⟨rfl, hb11⟩
  have hB11 := hB10.trans (hb11.mono hB10.size)
  go_wp2_with fail
  refine (P3.out _ (HE.out.below hB11)).mono ?_
  rintro e W12 ⟨rfl, hb12⟩
  have hB12 := hB11.trans (hb12.mono hB11.size)
  go_wp2_with fail
  refine (P4.out _ (HE.out.below hB12)).mono ?_
  rintro e W13 ⟨rfl, hb13⟩
  have hB13 := hB12.trans (hb13.mono hB12.size)
  go_wp2_with fail
  refine (P5.out _ (HE.out.below hB13)).mono ?_
  rintro e W14 ⟨rfl, hb14⟩
  have hB14 := hB13.trans (hb14.mono hB13.size)
  go_wp2_with fail
  refine (G1.out _ (HE.out.below hB14)).mono ?_
  rintro e W15 ⟨rfl, hb15⟩
  have hB15 := hB14.trans (hb15.mono hB14.size)
  go_wp2_with fail
  refine (G2.out _ (HE.out.below hB15)).mono ?_
  rintro e W16 ⟨rfl, hb16⟩
  have hB16 := hB15.trans (hb16.mono hB15.size)
  go_wp2_with fail
  refine (G3.out _ (HE.out.below hB16)).mono ?_
  rintro e W17 ⟨rfl, hb17⟩
  have hB17 := hB16.trans (hb17.mono hB16.size)
  go_wp2_with fail
  refine (D1.out _ (HE.out.below hB17)).mono ?_
  rintro e W18 ⟨rfl, hb18⟩
  have hB18 := hB17.trans (hb18.mono hB17.size)
  go_wp2_with fail
  refine (D2.out _ (HE.out.below hB18)).mono ?_
  rintro e W19 ⟨rfl, hb19⟩
  have hB19 := hB18.trans (hb19.mono hB18.size)
  go_wp2_with fail
  refine (U1.out _ (HE.out.below hB19)).mono ?_
  rintro e W20 ⟨rfl, hb20⟩
  have hB20 := hB19.trans (hb20.mono hB19.size)
  go_wp2_with fail
  refine (U0.out _ (HE.out.below hB20)).mono ?_
  rintro e W21 ⟨rfl, hb21⟩
  have hB21 := hB20.trans (hb21.mono hB20.size)
  go_wp2_with fail
  go_ret
  exact ⟨rfl, hB21⟩
end Go.Proofs.YtjnpenljgfdaiaaGreatDoor
