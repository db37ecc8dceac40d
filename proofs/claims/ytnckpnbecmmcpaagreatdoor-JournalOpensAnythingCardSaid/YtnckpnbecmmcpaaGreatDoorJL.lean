/- nadirlaw34.sane. -/
import Derived.Test.YtnckpnbecmmcpaaGreatDoorJK
namespace Go.Proofs.YtnckpnbecmmcpaaGreatDoor
open Go.RowKit
def sAb : ByteArray := ⟨#[97, 98]⟩
def sE : ByteArray := ⟨#[]⟩
theorem tape_two : tapeN [sAb, sE] = 70 := by
  have h := tapeN_append [sAb] [sE]
  rw [List.singleton_append, tapeN_one, tapeN_one, putsT_len1 (by decide), putsT_len1 (by decide)] at h
  exact h
theorem tape_z (k : Nat) (h : 64 ≤ k) (h2 : k < 8192) : tapeN [zeroS k] = 35 + k := by
  rw [tapeN_one, putsT_len2 (by rw [zeroS_size]; exact h) (by rw [zeroS_size]; exact h2), zeroS_size]; omega
theorem strs_blk1 {W : World} {B : Nat} {s : ByteArray} (hb : Blk W B #[.string s] 9) : StrsAt W (.slice (some ⟨B, 0, none⟩) 1 1) [s] :=
  ⟨_, 1, rfl, Nat.le_refl _, by unfold maxLen; decide, fun _ => ⟨B, 0, rfl, fun j z hj => by
    match j, hj with
    | 0, hj => cases hj; exact hb.cell 0⟩⟩
theorem strs_blk2 {W : World} {B : Nat} {s t : ByteArray} (hb : Blk W B #[.string s, .string t] 9) : StrsAt W (.slice (some ⟨B, 0, none⟩) 2 2) [s, t] :=
  ⟨_, 2, rfl, Nat.le_refl _, by unfold maxLen; decide, fun _ => ⟨B, 0, rfl, fun j z hj => by
    match j, hj with
    | 0, hj => cases hj; exact hb.cell 0
    | 1, hj => cases hj; exact hb.cell 1⟩⟩
set_option maxRecDepth 100000 in
set_option maxHeartbeats 4000000 in
theorem sane8 (w : World) (hE : EnvJ w) : Calls Tryz.prog 8 #[] w fun e w' => e = .returned (.bool true) ∧ Below w.heap.size w w' := by
  have h3 : 3 < w.heap.size := hE.1.1
  have HE := Lib.hid (fun W (hb : Below w.heap.size w W) => hE.below h3 hb)
  obtain ⟨oe1, ol1, g1, l1⟩ := open_good (Good.new (n := 200) (by decide) (by decide)) rfl
  have hn := new_own 200 w (by decide) (by decide)
  obtain ⟨D1, hD1⟩ : ∃ D1, openD 200 (newD 200) = D1 := ⟨_, rfl⟩
  rw [hD1] at g1 l1
  have hA : ∀ t ∈ [sAb, sE], t.size ≤ 65536 := fun t ht => by
    simp only [List.mem_cons, List.mem_nil_iff, or_false] at ht
    rcases ht with rfl | rfl <;> decide
  obtain ⟨-, ae2, aj2, g2, l2⟩ | ⟨hcon, -⟩ := app_on g1 l1 hA
  rotate_left
  · rw [tape_two] at hcon
    have : tapeN [] = 0 := rfl
    omega
  rw [List.nil_append] at aj2 g2
  obtain ⟨D2, hD2⟩ : ∃ D2, appD 200 ⟨[], false⟩ D1 [sAb, sE] = D2 := ⟨_, rfl⟩
  rw [hD2] at g2 l2
  have hz : ∀ k, k ≤ 65536 → ∀ t ∈ [zeroS k], t.size ≤ 65536 := fun k hk t ht => by
    simp only [List.mem_cons, List.mem_nil_iff, or_false] at ht
    rw [ht, zeroS_size]; exact hk
  obtain ⟨hcon, -⟩ | ⟨-, ae3, aj3, ad3⟩ := app_on g2 l2 (hz 96 (by decide))
  · rw [tape_two, tape_z 96 (by decide) (by decide)] at hcon
    omega
  obtain ⟨-, ae4, aj4, g4, l4⟩ | ⟨hcon, -⟩ := app_on g2 l2 (hz 95 (by decide))
  rotate_left
  · rw [tape_two, tape_z 95 (by decide) (by decide)] at hcon
    omega
  obtain ⟨D4, hD4⟩ : ∃ D4, appD 200 ⟨[sAb, sE], false⟩ D2 [zeroS 95] = D4 := ⟨_, rfl⟩
  rw [hD4] at g4 l4
  have hL4 : [sAb, sE] ++ [zeroS 95] = [sAb, sE, zeroS 95] := rfl
  rw [hL4] at aj4 g4
  have ht4 : tapeN [sAb, sE, zeroS 95] = 200 := by rw [← hL4, tapeN_append, tape_two, tape_z 95 (by decide) (by decide)]
  obtain ⟨oe5, ol5, g5, l5⟩ := open_good g4 l4
  obtain ⟨D5, hD5⟩ : ∃ D5, openD 200 D4 = D5 := ⟨_, rfl⟩
  rw [hD5] at g5 l5
  obtain ⟨we6, o6, v6, -, p6⟩ := on_write (n := 200) ⟨g5.inv, g5.on, l5⟩ 0 ⟨#[2]⟩ (by decide)
  obtain ⟨D6, hD6⟩ : ∃ D6, writeD D5 ((0 : Nat) : Int) ⟨#[2]⟩ = D6 := ⟨_, rfl⟩
  rw [hD6] at o6 v6 p6
  have hv6 : D6.vis = 2 :: D5.vis.drop 1 := by
    rw [v6]; unfold putB; rfl
  obtain ⟨oe7, od7⟩ := open_bad o6 hv6 (by decide) (by decide)
  have hp6 : D6.pend.length ≤ 90000 := by rw [p6, g5.pend]; decide
  have P1 := Lib.hid (And.intro oe1 (And.intro ol1 hD1))
  have P2 := Lib.hid (And.intro ae2 (And.intro aj2 hD2))
  have P3 := Lib.hid (And.intro ae3 (And.intro aj3 ad3))
  have P4 := Lib.hid (And.intro ae4 (And.intro aj4 hD4))
  have P5 := Lib.hid (And.intro oe5 (And.intro ol5 hD5))
  have P6 := Lib.hid (And.intro we6 hD6)
  have P7 := Lib.hid (And.intro oe7 od7)
  have HP := Lib.hid (And.intro g1.pend (And.intro g2.pend (And.intro g4.pend (And.intro g5.pend hp6))))
  have HA := Lib.hid hA
  have HZ := Lib.hid hz
  clear oe1 ol1 hD1 ae2 aj2 hD2 ae3 aj3 ad3 ae4 aj4 hD4 oe5 ol5 hD5 we6 o6 v6 p6 hD6 hv6 oe7 od7 hp6 g1 l1 g2 l2 g4 l4 g5 l5 hA hz hL4
  have ht2 := tape_two
  have HT := Lib.hid (And.intro ht2 ht4)
  clear ht2 ht4 hE
  have hmk96 : ∀ V : World, (Instr.makeSlice 39 (.int .i64 96) (.int .i64 96)).run Tryz.prog V = .ok (.slice (some ⟨V.heap.size, 0, none⟩) 96 96) (V.alloc (.cells (bcs (List.replicate 96 0)).toArray 5)) := fun V => mk40 96 (by decide) V
  have hmk95 : ∀ V : World, (Instr.makeSlice 39 (.int .i64 95) (.int .i64 95)).run Tryz.prog V = .ok (.slice (some ⟨V.heap.size, 0, none⟩) 95 95) (V.alloc (.cells (bcs (List.replicate 95 0)).toArray 5)) := fun V => mk40 95 (by decide) V
  have hcv96 : ∀ V : World, (convert 39 9 (.slice (some ⟨V.heap.size, 0, none⟩) 96 96)).run Tryz.prog (V.alloc (.cells (bcs (List.replicate 96 0)).toArray 5)) = .ok (.string (zeroS 96)) (V.alloc (.cells (bcs (List.replicate 96 0)).toArray 5)) := fun V => by
    rw [show zeroS 96 = strOf (List.replicate 96 0) from (zero_made 96).symm]
    exact conv_all (n := 96) (Blk.new V _ 5) (by rw [List.length_replicate])
  have hcv95 : ∀ V : World, (convert 39 9 (.slice (some ⟨V.heap.size, 0, none⟩) 95 95)).run Tryz.prog (V.alloc (.cells (bcs (List.replicate 95 0)).toArray 5)) = .ok (.string (zeroS 95)) (V.alloc (.cells (bcs (List.replicate 95 0)).toArray 5)) := fun V => by
    rw [show zeroS 95 = strOf (List.replicate 95 0) from (zero_made 95).symm]
    exact conv_all (n := 95) (Blk.new V _ 5) (by rw [List.length_replicate])
  generalize (bcs (List.replicate 96 0)).toArray = z96c at hmk96 hcv96
  generalize (bcs (List.replicate 95 0)).toArray = z95c at hmk95 hcv95
  go_enter Tryz.func8, Tryz.ntmps8
  go_wp2_with fail
  refine hn.mono ?_
  rintro e w1 ⟨B, rfl, h1, b1⟩
  have s1 := b1.size
  clear hn
  go_wp2_with fail
  refine (sys_open h1 s1 (HE.out w1 b1) (by decide) (by decide)).mono ?_
  rw [P1.out.1, P1.out.2.1, P1.out.2.2]
  rintro e w2 ⟨⟨hcon, -⟩ | ⟨-, Jb, rfl, h2⟩, -, b2⟩
  · exact absurd rfl hcon
  have b2' := b1.trans b2
  have s2 := b2'.size
  go_wp2_with fail
  refine (sys_records h2 (by decide)).mono ?_
  rintro e w3 ⟨v3, rfl, hv3, h3', b3⟩
  obtain ⟨a3, c3, rfl, -⟩ := strs_len hv3
  have b3' := b2'.trans (b3.mono s2)
  have s3 := b3'.size
  clear hv3
  go_wp2_with fail
  refine (sys_room h3' (by decide)).mono ?_
  rw [show (((200 : Nat) : Int) - ((tapeN (JouD.mk [] false).L : Nat) : Int)) = 200 from rfl]
  rintro e w4 ⟨rfl, h4, b4⟩
  have b4' := b3'.trans (b4.mono s3)
  have s4 := b4'.size
  go_wp2_with fail
  have bA : Below w4.heap.size w4 (w4.alloc (.cells #[.string sAb, .string sE] 9)) := (Below.refl _ _).alloc (Nat.le_refl _) _
  have vA : StrsAt (w4.alloc (.cells #[.string sAb, .string sE] 9)) (.slice (some ⟨w4.heap.size, 0, none⟩) 2 2) [sAb, sE] := strs_blk2 (Blk.new _ _ _)
  have b5' := b4'.trans (bA.mono s4)
  refine (sys_append (h4.below bA) b5'.size (HE.out _ b5') (by rw [HP.out.1]; decide) (by decide) (by decide) (fun t ht => by cases ht) _ [sAb, sE] vA (by decide)).mono ?_
  rw [P2.out.1, P2.out.2.1, P2.out.2.2]
  clear vA bA
  rintro e w5 ⟨rfl, h5, b5⟩
  have b5'' := b5'.trans b5
  have s5 := b5''.size
  clear b5' b5 h4
  go_wp2_with fail
  have bB : Below w5.heap.size w5 ((w5.alloc (.cells z96c 5)).alloc (.cells #[.string (zeroS 96)] 9)) := ((Below.refl _ _).alloc (Nat.le_refl _) _).alloc (by simp) _
  have vB : StrsAt ((w5.alloc (.cells z96c 5)).alloc (.cells #[.string (zeroS 96)] 9)) (.slice (some ⟨w5.heap.size + 1, 0, none⟩) 1 1) [zeroS 96] := strs_blk1 (Blk.newAt _ _ _ (by simp))
  have b6' := b5''.trans (bB.mono s5)
  refine (sys_append (h5.below bB) b6'.size (HE.out _ b6') (by rw [HP.out.2.1]; decide) (by decide) (by show tapeN [sAb, sE] ≤ 200; rw [HT.out.1]; decide) HA.out _ [zeroS 96] vB (by decide)).mono ?_
  rw [P3.out.1, P3.out.2.1, P3.out.2.2]
  clear vB bB
  rintro e w6 ⟨rfl, h6, b6⟩
  have b6'' := b6'.trans b6
  have s6 := b6''.size
  clear b6' b6 h5
  go_wp2_with fail
  refine (sys_room h6 (by show tapeN [sAb, sE] ≤ 1000000000; rw [HT.out.1]; decide)).mono ?_
  rw [show (((200 : Nat) : Int) - ((tapeN (JouD.mk [sAb, sE] false).L : Nat) : Int)) = 130 by show (((200 : Nat) : Int) - ((tapeN [sAb, sE] : Nat) : Int)) = 130; rw [HT.out.1]; rfl]
  rintro e w7 ⟨rfl, h7, b7⟩
  have b7' := b6''.trans (b7.mono s6)
  have s7 := b7'.size
  clear b7 h6
  go_wp2_with fail
  have bC : Below w7.heap.size w7 ((w7.alloc (.cells z95c 5)).alloc (.cells #[.string (zeroS 95)] 9)) := ((Below.refl _ _).alloc (Nat.le_refl _) _).alloc (by simp) _
  have vC : StrsAt ((w7.alloc (.cells z95c 5)).alloc (.cells #[.string (zeroS 95)] 9)) (.slice (some ⟨w7.heap.size + 1, 0, none⟩) 1 1) [zeroS 95] := strs_blk1 (Blk.newAt _ _ _ (by simp))
  have b8' := b7'.trans (bC.mono s7)
  refine (sys_append (h7.below bC) b8'.size (HE.out _ b8') (by rw [HP.out.2.1]; decide) (by decide) (by show tapeN [sAb, sE] ≤ 200; rw [HT.out.1]; decide) HA.out _ [zeroS 95] vC (by decide)).mono ?_
  rw [P4.out.1, P4.out.2.1, P4.out.2.2]
  clear vC bC
  rintro e w8 ⟨rfl, h8, b8⟩
  have b8'' := b8'.trans b8
  have s8 := b8''.size
  clear b8' b8 h7
  go_wp2_with fail
  refine (sys_reopen h8 h8.jou s8 (HE.out _ b8'') (by rw [HP.out.2.2.1]; decide) (by decide)).mono ?_
  unfold Opened
  rw [P5.out.1, P5.out.2.1, P5.out.2.2]
  rintro e w9 ⟨⟨hcon, -⟩ | ⟨-, K, rfl, hKb, k9⟩, h9, -, b9⟩
  · exact absurd rfl hcon
  have k9' := k9.mono (base' := 0) (Nat.zero_le _)
  have b9' := b8''.trans b9
  have s9 := b9'.size
  clear b9 h8 k9
  have hm2 : (⟨#[2]⟩ : ByteArray) = (⟨#[2]⟩ : ByteArray) := rfl
  go_wp2_with fail
  refine (sys_write h9 k9' s9 (by rw [HP.out.2.2.2.1]; decide) ((0 : Nat) : Int) ⟨#[2]⟩).mono ?_
  rw [P6.out.1, P6.out.2]
  rintro e w10 ⟨rfl, h10, k10, b10⟩
  have b10' := b9'.trans b10
  have s10 := b10'.size
  clear b10 h9 k9'
  go_wp2_with fail
  refine (sys_reopen h10 k10 s10 (HE.out _ b10') HP.out.2.2.2.2 (by decide)).mono ?_
  unfold Opened
  rw [P7.out.1, P7.out.2]
  rintro e w11 ⟨⟨-, rfl⟩ | ⟨hcon, -⟩, h11, k11, b11⟩
  rotate_left
  · exact absurd hcon (by decide)
  have b11' := b10'.trans b11
  have s11 := b11'.size
  clear b11 h10 k10
  go_wp2_with fail
  refine (open_nil w11).mono ?_
  rintro e w12 ⟨rfl, rfl⟩
  go_wp2_with fail
  refine (sys_room h11 (by show tapeN [sAb, sE, zeroS 95] ≤ 1000000000; rw [HT.out.2]; decide)).mono ?_
  rw [show (((200 : Nat) : Int) - ((tapeN (JouD.mk [sAb, sE, zeroS 95] false).L : Nat) : Int)) = 0 by show (((200 : Nat) : Int) - ((tapeN [sAb, sE, zeroS 95] : Nat) : Int)) = 0; rw [HT.out.2]; rfl]
  rintro e w13 ⟨rfl, h13, b13⟩
  have b13' := b11'.trans (b13.mono s11)
  have s13 := b13'.size
  have hK13 : SysB w.heap.size w13 K B 200 ⟨[sAb, sE, zeroS 95], false⟩ D6 := ⟨h13.own, k11.below b13, by omega⟩
  clear b13 h11 k11
  go_wp2_with fail
  refine (sys_records hK13 (by decide)).mono ?_
  rintro e w14 ⟨v14, rfl, hv14, h14, b14⟩
  obtain ⟨a14, c14, rfl, -⟩ := strs_len hv14
  have b14' := b13'.trans (b14.mono s13)
  have s14 := b14'.size
  clear b14 hv14 h13 hK13
  go_wp2_with fail
  refine (sys_records h14 (by decide)).mono ?_
  rintro e w15 ⟨v15, rfl, hv15, -, b15⟩
  obtain ⟨b15a, o15, c15, hc15⟩ : ∃ b o, ∃ c, v15 = .slice (some ⟨b, o, none⟩) 3 c ∧ w15.cell? ⟨b, o, none⟩ = some (.string sAb) := by
    obtain ⟨a, c, rfl, -⟩ := strs_len hv15
    obtain ⟨b, o, rfl, h⟩ := strs_get hv15 (i := 0) (by decide)
    exact ⟨b, o, c, rfl, h⟩
  obtain ⟨rfl, hc15⟩ := hc15
  have b15' := b14'.trans (b15.mono s14)
  have hab : sAb.toList = [97, 98] := by first | (rw [W01.toList_eq]; rfl) | (simp [sAb, ByteArray.toList, ByteArray.toList.loop, ByteArray.size, ByteArray.get!]) | decide
  clear b15 hv15 h14
  go_wp2
  go_ret
  exact ⟨rfl, b15'⟩
end Go.Proofs.YtnckpnbecmmcpaaGreatDoor
