/- nadirlaw04: RationalTextMatchesReference, and its arguments, opened. -/
import Derived.Test.YtjnpenljgfdaiaaGreatDoorRead
import Derived.Test.YtjnpenljgfdaiaaGreatDoorChecked
import Derived.Deep.RegionHeld3
import Derived.Deep.CutRange
import Derived.Test.YtjnpenljgfdaiaaGreatDoorJA
import Derived.Test.YtjnpenljgfdaiaaGreatDoorHA
/- Arrays of two and of four integers as arguments, opened. -/
namespace Go.Proofs.YtjnpenljgfdaiaaGreatDoor
open Go.ChangeShapes Go.WideShapes Go.ChangeAt Go.RowKit
section
variable {H : Type} {enc : TypeId × Value → H} {P : Program}
theorem i64_bd4 {x : Int} (h : (Lit.int .i64 x).wf = true) : -9223372036854775808 ≤ x ∧ x ≤ 9223372036854775807 := by
  simp [Lit.wf, IntKind.min, IntKind.max, IntKind.signed, IntKind.bits] at h
  exact ⟨by omega, by omega⟩
theorem arr4 {w : World} {r : Reach} {b0 base : Nat} {spare : Nat → Bool} {held : Bool} {t e : TypeId} {v : Value} {d : DataW H} {p : List MemPlace}
    (ht : P.underlying t = some (.array 4 e)) (he : P.underlying e = some (.int .i64)) (hce : P.cellsOf e = 1) (hct : P.cellsOf t = 4)
    (hv : Value.okWide P w r b0 t v) (h : DataW.Trod enc P w base spare held t v d p) :
    ∃ a b c d : Int, v = .agg #[.int .i64 a, .int .i64 b, .int .i64 c, .int .i64 d] ∧ (-9223372036854775808 ≤ a ∧ a ≤ 9223372036854775807) ∧ (-9223372036854775808 ≤ b ∧ b ≤ 9223372036854775807) ∧ (-9223372036854775808 ≤ c ∧ c ≤ 9223372036854775807) ∧ (-9223372036854775808 ≤ d ∧ d ≤ 9223372036854775807) := by
  obtain ⟨l, rfl, hl, hr⟩ := arr_cells (Value.int .i64) (fun y => -9223372036854775808 ≤ y ∧ y ≤ 9223372036854775807) ht hce hct (fun m c x hx => by obtain ⟨y, e1, e2⟩ := inv_int he m c x hx; exact ⟨y, e1, i64_bd4 e2⟩) hv h
  match l, hl with
  | [a, b, c, d], _ => exact ⟨a, b, c, d, rfl, hr a (by simp), hr b (by simp), hr c (by simp), hr d (by simp)⟩
theorem arr2 {w : World} {r : Reach} {b0 base : Nat} {spare : Nat → Bool} {held : Bool} {t e : TypeId} {v : Value} {d : DataW H} {p : List MemPlace}
    (ht : P.underlying t = some (.array 2 e)) (he : P.underlying e = some (.int .i64)) (hce : P.cellsOf e = 1) (hct : P.cellsOf t = 2)
    (hv : Value.okWide P w r b0 t v) (h : DataW.Trod enc P w base spare held t v d p) :
    ∃ a b : Int, v = .agg #[.int .i64 a, .int .i64 b] ∧ (-9223372036854775808 ≤ a ∧ a ≤ 9223372036854775807) ∧ (-9223372036854775808 ≤ b ∧ b ≤ 9223372036854775807) := by
  obtain ⟨l, rfl, hl, hr⟩ := arr_cells (Value.int .i64) (fun y => -9223372036854775808 ≤ y ∧ y ≤ 9223372036854775807) ht hce hct (fun m c x hx => by obtain ⟨y, e1, e2⟩ := inv_int he m c x hx; exact ⟨y, e1, i64_bd4 e2⟩) hv h
  match l, hl with
  | [a, b], _ => exact ⟨a, b, rfl, hr a (by simp), hr b (by simp)⟩
end
end Go.Proofs.YtjnpenljgfdaiaaGreatDoor

/- A fraction (a struct of two strings) and a byte as arguments, opened. -/
namespace Go.Proofs.YtjnpenljgfdaiaaGreatDoor
open Go.ChangeShapes Go.WideShapes Go.ChangeAt Go.RowKit
section
variable {H : Type} {enc : TypeId × Value → H}
theorem u8_bd5 {x : Int} (h : (Lit.int .u8 x).wf = true) : ∃ k : Nat, x = (k : Int) ∧ k < 256 := by
  simp [Lit.wf, IntKind.min, IntKind.max, IntKind.signed, IntKind.bits] at h
  exact ⟨x.toNat, by omega, by omega⟩
set_option maxRecDepth 100000 in
theorem rat_val {w : World} {r : Reach} {b0 base : Nat} {spare : Nat → Bool} {held : Bool} {v : Value} {d : DataW H} {p : List MemPlace}
    (hv : Value.okWide Tryz.prog w r b0 26 v) (h : DataW.Trod enc Tryz.prog w base spare held 26 v d p) : ∃ n m : ByteArray, v = .agg #[.string n, .string m] ∧ n.size ≤ maxLen ∧ m.size ≤ maxLen := by
  obtain ⟨cs, rfl, hsz⟩ := okWide_struct Tryz.underlying26 hv
  obtain ⟨fuel, h⟩ := h
  have hsz' : cs.size = 2 := hsz.trans (by kernel_rfl)
  obtain ⟨xs, n, -, -, -, hlen, hf⟩ := DataW.trod_struct Tryz.underlying26 h
  obtain ⟨l⟩ := cs
  match l, hsz' with
  | [q0, q1], _ =>
    have c9 : Tryz.prog.cellsOf 9 = 1 := by kernel_rfl
    have hl : xs.length = 2 := hlen
    have h0 : DataW.trod enc Tryz.prog w base spare held n 9 (([q0, q1].drop 0).take (Tryz.prog.cellsOf 9)) = xs[0]? := hf 0 _ rfl
    have h1 : DataW.trod enc Tryz.prog w base spare held n 9 (([q0, q1].drop 1).take (Tryz.prog.cellsOf 9)) = xs[1]? := hf 1 _ rfl
    rw [c9, List.getElem?_eq_getElem (by omega)] at h0 h1
    obtain ⟨s0, e0, w0⟩ := inv_string Tryz.underlying9 _ _ _ h0
    obtain ⟨s1, e1, w1⟩ := inv_string Tryz.underlying9 _ _ _ h1
    subst e0 e1
    exact ⟨s0, s1, rfl, w0, w1⟩
end
end Go.Proofs.YtjnpenljgfdaiaaGreatDoor

/- nadirlaw04: RationalTextMatchesReference. -/
namespace Go.Proofs.YtjnpenljgfdaiaaGreatDoor
open Go.RowKit Go.Shelf Lib

theorem isD_ne {x : UInt8} (h : N3.isD x = true) : x ≠ 47 := by
  rintro rfl; revert h; decide
theorem no_slash {n : ByteArray} (h : N3.okS n = true) : ∀ x ∈ n.data.toList, x ≠ 47 := by
  have hb := (okS_bare h).2.2
  unfold N3.bare at hb
  rw [List.all_eq_true] at hb
  intro x hx
  by_cases h45 : n.data.toList.head? = some 45
  · rw [if_pos h45] at hb
    cases hl : n.data.toList with
    | nil => rw [hl] at hx; cases hx
    | cons y r =>
      rw [hl] at hb hx h45
      rcases List.mem_cons.1 hx with rfl | hx
      · have : x = 45 := by simpa using h45
        rw [this]; decide
      · exact isD_ne (hb x hx)
  · rw [if_neg h45] at hb
    exact isD_ne (hb x hx)
theorem join_list (n d : ByteArray) : (joinR n d).data.toList = n.data.toList ++ 47 :: d.data.toList := by
  unfold joinR; simp [Lib.join]
theorem cut_join {n d : ByteArray} (h : ∀ x ∈ n.data.toList, x ≠ 47) : cutR (joinR n d) = (n, d) := by
  have hi := index_split n.data.toList d.data.toList h
  have e : Lib.cut (joinR n d).data.toList [47] = (n.data.toList, d.data.toList, true) := by
    unfold Lib.cut
    rw [join_list, hi, if_pos (by omega), Int.toNat_natCast]
    rw [List.take_left' rfl, show n.data.toList ++ 47 :: d.data.toList = (n.data.toList ++ [47]) ++ d.data.toList by simp, List.drop_left' (by simp)]
  unfold cutR
  rw [e, if_pos rfl]
theorem valid_ne {n d : ByteArray} (h : validR n d = true) : n.data.toList ≠ [] := by
  intro e
  have := (okS_bare (valid_parts h).1).1
  rw [e] at this
  exact this rfl
theorem print_parse {n d : ByteArray} (h : validR n d = true) : parseR (printR n d) = some (n, d) ∧ (printR n d).data.toList ≠ [] := by
  have hs := no_slash (valid_parts h).1
  have hne := valid_ne h
  have hc : cutR (printR n d) = (n, d) ∧ (printR n d).data.toList ≠ [] := by
    unfold printR
    rw [if_pos h]
    by_cases h1 : d.data.toList = [49]
    · rw [if_pos h1, cut_no hs]
      exact ⟨by rw [show d = ⟨#[49]⟩ from bytes_ext (by rw [h1])], hne⟩
    · rw [if_neg h1, cut_join hs, join_list]
      exact ⟨rfl, by simp⟩
  rw [parse_eq, hc.1]
  exact ⟨if_pos ⟨h, rfl⟩, hc.2⟩
theorem parse_print {t : ByteArray} {r : ByteArray × ByteArray} (h : parseR t = some r) : printR r.1 r.2 = t := by
  rw [parse_eq] at h
  split at h
  · rename_i hc
    cases h
    exact hc.2
  · cases h
theorem print_size (n d : ByteArray) : (printR n d).size ≤ n.size + 1 + d.size := by
  unfold printR
  split
  · split
    · omega
    · rw [join_size]; omega
  · exact Nat.zero_le _
theorem print_bad {n d : ByteArray} (h : validR n d = false) : printR n d = ⟨#[]⟩ := by unfold printR; rw [h]; rfl
theorem parse_none : parseR ⟨#[]⟩ = none := by unfold parseR; exact if_pos (.inr rfl)
theorem wp_suchT {P : Program} {c : Code} {Q : Exit → Act → World → Prop} {a : Act} {fr : Nat → Act} {w0 w : World} (cs : Array Value) (h : c.wp P (NoPanic fun e a' w' => e = .normal ∧ ∃ g, a' = fr g ∧ (Below w0.heap.size w0 w' ∧ BlkT w' g cs 9)) a w) (k : ∀ g w', (Below w0.heap.size w0 w' ∧ BlkT w' g cs 9) → Q .normal (fr g) w') : c.wp P Q a w :=
  Code.wp_mono (fun e a' w' hh => by obtain ⟨rfl, g, rfl, hb⟩ := NoPanic.imp e a' w' hh; exact k g w' hb) h
structure TextF (n d ps tn td : ByteArray) (e : Int) (v : Bool) : Prop where
  P57 : ∀ V, EnvR V → Calls Tryz.prog 57 #[ratV n d] V fun r w' => r = .returned (.string ps) ∧ Below V.heap.size V w'
  P59 : ∀ V, EnvR V → Calls Tryz.prog 59 #[ratV n d] V fun r w' => r = .returned (.string ps) ∧ Below V.heap.size V w'
  P58 : ∀ V, EnvR V → Calls Tryz.prog 58 #[.string ps] V fun r w' => r = .returned (.tuple #[ratV tn td, .int .i64 e]) ∧ Below V.heap.size V w'
  P60 : ∀ V, EnvR V → Calls Tryz.prog 60 #[ratV n d] V fun r w' => r = .returned (.bool v) ∧ Below V.heap.size V w'
  or : (v = true ∧ e = 0 ∧ tn = n ∧ td = d ∧ (ps.toList == []) = false) ∨ (v = false ∧ e = 40 ∧ (ps.toList == []) = true)
theorem text_facts (n d : ByteArray) (s1 : n.size ≤ 300) (s2 : d.size ≤ 300) : ∃ tn td e, TextF n d (printR n d) tn td e (validR n d) := by
  have hp := print_size n d
  cases hv : validR n d with
  | true =>
    obtain ⟨h1, h2⟩ := print_parse hv
    refine ⟨n, d, 0, ?_, ?_, ?_, ?_, .inl ⟨rfl, rfl, rfl, rfl, str_neE h2⟩⟩
    · exact fun V hV => print04 n d V (by omega) (by omega) hV.env
    · exact fun V hV => print59 n d V (by omega) (by omega)
    · intro V hV
      have q := parse04 (printR n d) V (by omega) hV
      rw [h1] at q; exact q
    · intro V hV
      have q := valid04 n d V (by omega) (by omega) hV.env
      rw [hv] at q; exact q
  | false =>
    have hb := print_bad hv
    rw [hb]
    refine ⟨⟨#[]⟩, ⟨#[]⟩, 40, ?_, ?_, ?_, ?_, .inr ⟨rfl, rfl, str_eqE rfl⟩⟩
    · intro V hV
      have q := print04 n d V (by omega) (by omega) hV.env
      rw [hb] at q; exact q
    · intro V hV
      have q := print59 n d V (by omega) (by omega)
      rw [hb] at q; exact q
    · intro V hV
      have q := parse04 ⟨#[]⟩ V (by decide) hV
      rw [parse_none] at q; exact q
    · intro V hV
      have q := valid04 n d V (by omega) (by omega) hV.env
      rw [hv] at q; exact q
structure ReadF (t un ud : ByteArray) (f : Int) : Prop where
  P58 : ∀ V, EnvR V → Calls Tryz.prog 58 #[.string t] V fun r w' => r = .returned (.tuple #[ratV un ud, .int .i64 f]) ∧ Below V.heap.size V w'
  P61 : ∀ V, EnvR V → Calls Tryz.prog 61 #[.string t] V fun r w' => r = .returned (.tuple #[ratV un ud, .int .i64 f]) ∧ Below V.heap.size V w'
  or : f = 40 ∨ (f = 0 ∧ ∀ V, EnvR V → Calls Tryz.prog 57 #[ratV un ud] V fun r w' => r = .returned (.string t) ∧ Below V.heap.size V w')
theorem read_facts (t : ByteArray) (s1 : t.size ≤ 2000) : ∃ un ud f, ReadF t un ud f := by
  have hcs := cut_size t
  cases hp : parseR t with
  | none =>
    refine ⟨⟨#[]⟩, ⟨#[]⟩, 40, ?_, ?_, .inl rfl⟩
    · intro V hV
      have q := parse04 t V (by omega) hV
      rw [hp] at q; exact q
    · intro V hV
      have q := parse61 t V (by omega)
      rw [hp] at q; exact q
  | some r =>
    have hr : r = cutR t := by
      rw [parse_eq] at hp
      split at hp
      · exact (Option.some.inj hp).symm
      · cases hp
    refine ⟨r.1, r.2, 0, ?_, ?_, .inr ⟨rfl, ?_⟩⟩
    · intro V hV
      have q := parse04 t V (by omega) hV
      rw [hp] at q; exact q
    · intro V hV
      have q := parse61 t V (by omega)
      rw [hp] at q; exact q
    · intro V hV
      have q := print04 r.1 r.2 V (by rw [hr]; omega) (by rw [hr]; omega) hV.env
      rw [parse_print hp] at q; exact q
theorem byte_str (k : Nat) : strOfNums [(k : Int)] = ⟨#[UInt8.ofNat k]⟩ := bytes_ext (by
  rw [strOfNums_data]
  show [UInt8.ofNat ((k : Int)).toNat] = [UInt8.ofNat k]
  rw [Int.toNat_natCast])
theorem bytes_same14 (s : ByteArray) : (s.toList == s.toList) = true := beq_self_eq_true _

set_option maxRecDepth 100000 in
set_option maxHeartbeats 16000000 in
theorem law_text4 (xn xd raw : ByteArray) (x0 x1 x2 x3 x4 : Int) (cb : Nat) (w : World) (he : EnvR w) (s1 : xn.size ≤ 9223372036854775807) (s2 : xd.size ≤ 9223372036854775807) (s3 : raw.size ≤ 9223372036854775807) (m0 : -9223372036854775808 ≤ x0 ∧ x0 ≤ 9223372036854775807) (m1 : -9223372036854775808 ≤ x1 ∧ x1 ≤ 9223372036854775807) (m2 : -9223372036854775808 ≤ x2 ∧ x2 ≤ 9223372036854775807) (m3 : -9223372036854775808 ≤ x3 ∧ x3 ≤ 9223372036854775807) (m4 : -9223372036854775808 ≤ x4 ∧ x4 ≤ 9223372036854775807) (mc : cb < 256) :
    Calls Tryz.prog 14 #[ratV xn xd, .agg #[.int .i64 x0, .int .i64 x1, .int .i64 x2, .int .i64 x3], .int .i64 x4, .int .u8 (cb : Int), .string raw] w fun e w' => e = .returned (.bool true) ∧ Below w.heap.size w w' := by
  have HE := Lib.hid he
  have LG := Lib.hid (fun V => long21 x0 x1 x2 x3 V m0.1 m0.2 m1.1 m1.2 m2.1 m2.2 m3.1 m3.2)
  have CU := Lib.hid (fun V => cut56 xn xd V s1 s2)
  clear he m0 m1 m2 m3 s1 s2
  obtain ⟨tn, td, e0, G0⟩ := text_facts (cutB 210 xn) (cutB 210 xd) (by have := cutB_size 210 xn; omega) (by have := cutB_size 210 xd; omega)
  generalize printR (cutB 210 xn) (cutB 210 xd) = ps at *
  generalize validR (cutB 210 xn) (cutB 210 xd) = v0 at *
  generalize cutB 210 xn = cn at *
  generalize cutB 210 xd = cd at *
  have A57 := Lib.hid G0.P57; have A58 := Lib.hid G0.P58; have A59 := Lib.hid G0.P59; have A60 := Lib.hid G0.P60; have A0 := Lib.hid G0.or
  clear G0
  obtain ⟨W0, hW0⟩ : ∃ W, (w.alloc (.cells #[.string xn, .string xd] 26)).alloc (.cells #[.int .i64 x0, .int .i64 x1, .int .i64 x2, .int .i64 x3] 22) = W := ⟨_, rfl⟩
  have b0 : BlkT W0 w.heap.size #[.string xn, .string xd] 26 := hW0 ▸ (BlkT.newAt w _ _ rfl).alloc _
  have b1 : BlkT W0 (w.heap.size + 1) #[.int .i64 x0, .int .i64 x1, .int .i64 x2, .int .i64 x3] 22 := hW0 ▸ BlkT.newAt _ _ _ (by simp)
  have hBw0 : Below w.heap.size w W0 := hW0 ▸ (((Below.refl _ _).alloc (Nat.le_refl _) _).alloc (by simp) _)
  have same := bytes_same14
  go_enter Tryz.func14, Tryz.ntmps14
  go_wp2_with (simp only [hW0])
  refine (sane04 _ (HE.out.below hBw0)).mono ?_
  rintro r V1 ⟨rfl, hb1⟩
  have hB1 := hBw0.trans (hb1.mono hBw0.size)
  have b0 := BlkT.keep b0 hb1
  have b1 := BlkT.keep b1 hb1
  have b1c0 := b1.cell 0
  have b1c1 := b1.cell 1
  have b1c2 := b1.cell 2
  have b1c3 := b1.cell 3
  simp only [List.getElem?_toArray, List.getElem?_cons_succ, List.getElem?_cons_zero] at b1c0 b1c1 b1c2 b1c3
  go_wp2_with fail
  refine (LG.out _).mono ?_
  rintro r V2 ⟨rm, rfl, hf, hna, hda, hb2⟩
  have hB2 := hB1.trans (hb2.mono hB1.size)
  clear b1c0 b1c1 b1c2 b1c3
  have b0 := BlkT.keep b0 hb2
  have b1 := BlkT.keep b1 hb2
  have zm1 := S_size hf.num; have zm2 := S_size hf.den
  have hvm := valid_S hf
  dsimp only [strR]
  clear hf hna hda
  generalize N3.S rm.1 = mn at *
  generalize N3.S rm.2 = md at *
  obtain ⟨un, ud, e1, G1⟩ := text_facts mn md (by omega) (by omega)
  have hq1 := (print_parse hvm).2
  have hq2 := print_size mn md
  rw [hvm] at G1
  generalize printR mn md = qs at *
  have zq : qs.size ≤ 601 := by omega
  have zq0 : 0 < qs.size := by
    rcases Nat.eq_zero_or_pos qs.size with h | h
    · exact absurd (List.eq_nil_of_length_eq_zero (by rw [← Lib.size_eq]; exact h)) hq1
    · exact h
  clear hvm hq1 hq2 zm1 zm2
  have B57 := Lib.hid G1.P57; have B58 := Lib.hid G1.P58; have B59 := Lib.hid G1.P59; have B60 := Lib.hid G1.P60; have B0 := Lib.hid G1.or
  clear G1
  go_upto_region 3 with (fail)
  have lb0k12 := Lib.hid b0.lt
  generalize hW2 : World.alloc V2 _ = W2
  have hw2 : Below V2.heap.size V2 W2 := hW2 ▸ (Below.refl _ _).alloc (Nat.le_refl _) _
  have hBw2 := hB2.trans (hw2.mono hB2.size)
  have b0 := BlkT.keep b0 hw2
  have k12 : BlkT W2 V2.heap.size #[(.string mn), (.string md)] 26 := hW2 ▸ BlkT.newAt _ _ _ rfl
  clear hW2
  have HKS : Hid (∀ w', Below W2.heap.size W2 w' → w'.cell? ⟨w.heap.size, 0, none⟩ = some (.string xn) ∧ w'.cell? ⟨w.heap.size, 1, none⟩ = some (.string xd) ∧ w'.cell? ⟨V2.heap.size, 0, none⟩ = some (.string mn) ∧ w'.cell? ⟨V2.heap.size, 1, none⟩ = some (.string md)) := Lib.hid (fun V hV => (And.intro ((BlkT.keep b0 hV).cell 0) (And.intro ((BlkT.keep b0 hV).cell 1) (And.intro ((BlkT.keep k12 hV).cell 0) ((BlkT.keep k12 hV).cell 1)))))
  apply wp_suchC (w0 := W2) #[.string cn, .string cd, .string mn, .string md]
  · refine wp_region_noPanic ?_
    refine wp_region_held_drew (S := (fun w' => Below W2.heap.size W2 w' ∧ w'.cell? ⟨w.heap.size, 0, none⟩ = some (.string xn) ∧ w'.cell? ⟨w.heap.size, 1, none⟩ = some (.string xd) ∧ w'.cell? ⟨V2.heap.size, 0, none⟩ = some (.string mn) ∧ w'.cell? ⟨V2.heap.size, 1, none⟩ = some (.string md))) (by kernel_rfl) ⟨(Below.refl _ _).drew, HKS.out _ (Below.refl _ _).drew⟩ (fun hHeld => ?_)
    refine wpAnyH_take (i := 0) (oi := { dst := some 29, op := Op.load 26 (Operand.tmp 5), type := 26, pos := "law.go:105", after := #[], guard := none }) (v := ?_) rfl (by kernel_rfl) (by kernel_rfl) (by kernel_rfl) (fun _ _ _ h => h) (Or.inl ⟨by kernel_rfl, ?_⟩) (by assumption) ?_
    rotate_left
    · intro w hSw
      (try dsimp only at hSw)
      go_simp
      all_goals (with_reducible rfl)
    (try simp only [Act.put, List.setIfInBounds_toArray, List.set_cons_zero, List.set_cons_succ])
    refine wpAnyH_take (i := 2) (oi := { dst := some 31, op := Op.load 26 (Operand.tmp 12), type := 26, pos := "law.go:105", after := #[], guard := none }) (v := ?_) rfl (by kernel_rfl) (by kernel_rfl) (by kernel_rfl) (fun _ _ _ h => h) (Or.inl ⟨by kernel_rfl, ?_⟩) (by assumption) ?_
    rotate_left
    · intro w hSw
      (try dsimp only at hSw)
      go_simp
      all_goals (with_reducible rfl)
    (try simp only [Act.put, List.setIfInBounds_toArray, List.set_cons_zero, List.set_cons_succ])
    refine wpAnyH_take (i := 5) (oi := { dst := some 34, op := Op.move (Operand.const (Value.int IntKind.i64 0)), type := 3, pos := "law.go:105", after := #[], guard := none }) (v := ?_) rfl (by kernel_rfl) (by kernel_rfl) (by kernel_rfl) (fun _ _ _ h => h) (Or.inl ⟨by kernel_rfl, ?_⟩) (by assumption) ?_
    rotate_left
    · intro w hSw
      (try dsimp only at hSw)
      go_simp
      all_goals (with_reducible rfl)
    (try simp only [Act.put, List.setIfInBounds_toArray, List.set_cons_zero, List.set_cons_succ])
    refine wpAnyH_one1 (i := 1) (o := { dst := some 30, op := Op.call { callee := Callee.value (Operand.func 56), args := #[Operand.tmp 29], argTypes := #[26] }, type := 26, pos := "law.go:105", after := #[{ on := 0, ground := Ground.data }], guard := none }) (by kernel_rfl) rfl (fun K hK => ?_)
    go_simp
    go_at_call 56
    refine (CU.out _).mono ?_
    rintro r wq ⟨rfl, hBq⟩
    have hbq := hHeld.1.trans (hBq.mono hHeld.1.size)
    refine hK.out _ _ ?_ (fun hHeld2 => ?_)
    · exact ⟨hbq, HKS.out _ hbq⟩
    clear hHeld
    have hHeld := hHeld2
    clear hHeld2
    clear hK K
    (try simp only [Act.put, List.setIfInBounds_toArray, List.set_cons_zero, List.set_cons_succ])
    refine wpAnyH_one1 (i := 3) (o := { dst := some 32, op := Op.buildSlice 58 2 #[(0, Operand.tmp 30), (1, Operand.tmp 31)], type := 58, pos := "law.go:105", after := #[{ on := 1, ground := Ground.data }, { on := 2, ground := Ground.data }], guard := none }) (by kernel_rfl) rfl (fun K hK => ?_)
    go_simp
    refine hK.out _ _ ?_ (fun hHeld2 => ?_)
    · exact ⟨hHeld.1.alloc hHeld.1.size _, HKS.out _ (hHeld.1.alloc hHeld.1.size _)⟩
    clear hHeld
    have hHeld := hHeld2
    clear hHeld2
    clear hK K
    (try simp only [Act.put, List.setIfInBounds_toArray, List.set_cons_zero, List.set_cons_succ])
    refine wpAnyH_take (i := 4) (oi := { dst := some 33, op := Op.call { callee := Callee.builtin Builtin.len, args := #[Operand.tmp 32], argTypes := #[58] }, type := 3, pos := "law.go:105", after := #[{ on := 3, ground := Ground.data }], guard := none }) (v := ?_) rfl (by kernel_rfl) (by kernel_rfl) (by kernel_rfl) (fun _ _ _ h => h) (Or.inl ⟨by kernel_rfl, ?_⟩) (by assumption) ?_
    rotate_left
    · intro w hSw
      (try dsimp only at hSw)
      go_simp
      all_goals (with_reducible rfl)
    (try simp only [Act.put, List.setIfInBounds_toArray, List.set_cons_zero, List.set_cons_succ])
    refine wpAnyH_done (by kernel_rfl) ?_ _
    refine NoPanic.normal ?_
    refine NoPanic.normal ?_
    have hz : BlkT (wq.alloc (.cells #[.string cn, .string cd, .string mn, .string md] 26)) wq.heap.size #[.string cn, .string cd, .string mn, .string md] 26 := BlkT.newAt _ _ _ rfl
    have hh := hHeld.1
    obtain ⟨gx, hgx⟩ : ∃ g, wq.heap.size = g := ⟨_, rfl⟩
    rw [hgx] at hz
    rw [hgx]
    exact ⟨rfl, gx, rfl, hh, hz⟩
  rintro g3 W3 ⟨hbw3, ks⟩
  clear HKS
  have hBw3 := hBw2.trans (hbw3.mono hBw2.size)
  have b0 := BlkT.keep b0 hbw3
  have k12 := BlkT.keep k12 hbw3
  have KS := Lib.hid ks; have K12 := Lib.hid k12
  clear ks k12 b0
  have HE' := Lib.hid (HE.out.below hBw3)
  clear HE
  have HE := HE'
  clear HE'
  go_wp2_with fail
  go_loopw [14, 15, 16, 17, 34] (fun u14 u15 u16 u17 u34 wr => (u34 = .int .i64 0 ∨ u34 = .int .i64 1 ∨ u34 = .int .i64 2) ∧ Below W3.heap.size W3 wr) (fun _ _ _ _ u34 _ => (2 - Go.RowKit.intOf u34).toNat)
  case atStart => exact ⟨.inl rfl, Below.refl _ _⟩
  case round =>
    rename World => V4
    obtain ⟨hu, hb4⟩ := hrel
    have hB4 := hb4
    have ks := BlkT.keep KS.out hb4
    have k12 := BlkT.keep K12.out hb4
    clear KS K12
    rcases hu with rfl | rfl | rfl
    · have hi : (0 : Int) ≤ 0 ∧ (0 : Int) < 2 := by omega
      have ksc0 := ks.cell 0
      have ksc1 := ks.cell 1
      simp only [List.getElem?_toArray, List.getElem?_cons_succ, List.getElem?_cons_zero] at ksc0 ksc1
      go_upto_region 6 with (fail)
      clear ksc0 ksc1
      have lksk14 := Lib.hid ks.lt
      generalize hW4 : World.alloc V4 _ = W4
      have hw4 : Below V4.heap.size V4 W4 := hW4 ▸ (Below.refl _ _).alloc (Nat.le_refl _) _
      have hBw4 := hB4.trans (hw4.mono hB4.size)
      have ks := BlkT.keep ks hw4
      have k14 : BlkT W4 V4.heap.size #[(.string cn), (.string cd)] 26 := hW4 ▸ BlkT.newAt _ _ _ rfl
      clear hW4
      have k14c0 := k14.cell 0
      have k14c1 := k14.cell 1
      simp only [List.getElem?_toArray, List.getElem?_cons_succ, List.getElem?_cons_zero] at k14c0 k14c1
      go_wp2_with fail
      refine (A57.out _ (HE.out.below hBw4)).mono ?_
      rintro r V5 ⟨rfl, hb5⟩
      have hB5 := hBw4.trans (hb5.mono hBw4.size)
      clear k14c0 k14c1
      have ks := BlkT.keep ks hb5
      have k14 := BlkT.keep k14 hb5
      go_wp2_with fail
      refine (A58.out _ (HE.out.below hB5)).mono ?_
      rintro r V6 ⟨rfl, hb6⟩
      have hB6 := hB5.trans (hb6.mono hB5.size)
      have ks := BlkT.keep ks hb6
      have k14 := BlkT.keep k14 hb6
      go_upto_region 8 with (fail)
      have lksk16 := Lib.hid ks.lt
      have lk14k16 := Lib.hid k14.lt
      generalize hW6 : World.alloc V6 _ = W6
      have hw6 : Below V6.heap.size V6 W6 := hW6 ▸ (Below.refl _ _).alloc (Nat.le_refl _) _
      have hBw6 := hB6.trans (hw6.mono hB6.size)
      have ks := BlkT.keep ks hw6
      have k14 := BlkT.keep k14 hw6
      have k16 : BlkT W6 V6.heap.size #[(.string tn), (.string td)] 26 := hW6 ▸ BlkT.newAt _ _ _ rfl
      clear hW6
      rcases A0.out with ⟨hv, rfl, rfl, rfl, hz⟩ | ⟨hv, rfl, hz⟩
      · skip
        subst hv
        have k14c0 := k14.cell 0
        have k14c1 := k14.cell 1
        simp only [List.getElem?_toArray, List.getElem?_cons_succ, List.getElem?_cons_zero] at k14c0 k14c1
        go_wp2_with fail
        refine (A59.out _ (HE.out.below hBw6)).mono ?_
        rintro r V7 ⟨rfl, hb7⟩
        have hB7 := hBw6.trans (hb7.mono hBw6.size)
        clear k14c0 k14c1
        have ks := BlkT.keep ks hb7
        have k14 := BlkT.keep k14 hb7
        have k16 := BlkT.keep k16 hb7
        have k14c0 := k14.cell 0
        have k14c1 := k14.cell 1
        simp only [List.getElem?_toArray, List.getElem?_cons_succ, List.getElem?_cons_zero] at k14c0 k14c1
        go_wp2_with fail
        refine (A60.out _ (HE.out.below hB7)).mono ?_
        rintro r V8 ⟨rfl, hb8⟩
        have hB8 := hB7.trans (hb8.mono hB7.size)
        clear k14c0 k14c1
        have ks := BlkT.keep ks hb8
        have k14 := BlkT.keep k14 hb8
        have k16 := BlkT.keep k16 hb8
        have k14c0 := k14.cell 0
        have k14c1 := k14.cell 1
        have k16c0 := k16.cell 0
        have k16c1 := k16.cell 1
        simp only [List.getElem?_toArray, List.getElem?_cons_succ, List.getElem?_cons_zero] at k14c0 k14c1 k16c0 k16c1
        go_wp2_with fail
        refine (A60.out _ (HE.out.below hB8)).mono ?_
        rintro r V9 ⟨rfl, hb9⟩
        have hB9 := hB8.trans (hb9.mono hB8.size)
        clear k14c0 k14c1 k16c0 k16c1
        have ks := BlkT.keep ks hb9
        have k14 := BlkT.keep k14 hb9
        have k16 := BlkT.keep k16 hb9
        go_wp2_with fail
        go_roundw
        case rel => exact ⟨.inr (.inl rfl), hB9⟩
        case measure => simp only [Go.RowKit.intOf]; omega
      · skip
        subst hv
        have k14c0 := k14.cell 0
        have k14c1 := k14.cell 1
        simp only [List.getElem?_toArray, List.getElem?_cons_succ, List.getElem?_cons_zero] at k14c0 k14c1
        go_wp2_with fail
        refine (A59.out _ (HE.out.below hBw6)).mono ?_
        rintro r V7 ⟨rfl, hb7⟩
        have hB7 := hBw6.trans (hb7.mono hBw6.size)
        clear k14c0 k14c1
        have ks := BlkT.keep ks hb7
        have k14 := BlkT.keep k14 hb7
        have k16 := BlkT.keep k16 hb7
        have k14c0 := k14.cell 0
        have k14c1 := k14.cell 1
        simp only [List.getElem?_toArray, List.getElem?_cons_succ, List.getElem?_cons_zero] at k14c0 k14c1
        go_wp2_with fail
        refine (A60.out _ (HE.out.below hB7)).mono ?_
        rintro r V8 ⟨rfl, hb8⟩
        have hB8 := hB7.trans (hb8.mono hB7.size)
        clear k14c0 k14c1
        have ks := BlkT.keep ks hb8
        have k14 := BlkT.keep k14 hb8
        have k16 := BlkT.keep k16 hb8
        have k14c0 := k14.cell 0
        have k14c1 := k14.cell 1
        have k16c0 := k16.cell 0
        have k16c1 := k16.cell 1
        simp only [List.getElem?_toArray, List.getElem?_cons_succ, List.getElem?_cons_zero] at k14c0 k14c1 k16c0 k16c1
        go_wp2_with fail
        refine (A60.out _ (HE.out.below hB8)).mono ?_
        rintro r V9 ⟨rfl, hb9⟩
        have hB9 := hB8.trans (hb9.mono hB8.size)
        clear k14c0 k14c1 k16c0 k16c1
        have ks := BlkT.keep ks hb9
        have k14 := BlkT.keep k14 hb9
        have k16 := BlkT.keep k16 hb9
        go_wp2_with fail
        go_roundw
        case rel => exact ⟨.inr (.inl rfl), hB9⟩
        case measure => simp only [Go.RowKit.intOf]; omega
    · have hi : (0 : Int) ≤ 1 ∧ (1 : Int) < 2 := by omega
      have ksc2 := ks.cell 2
      have ksc3 := ks.cell 3
      simp only [List.getElem?_toArray, List.getElem?_cons_succ, List.getElem?_cons_zero] at ksc2 ksc3
      go_upto_region 6 with (fail)
      clear ksc2 ksc3
      have lksk14 := Lib.hid ks.lt
      generalize hW4 : World.alloc V4 _ = W4
      have hw4 : Below V4.heap.size V4 W4 := hW4 ▸ (Below.refl _ _).alloc (Nat.le_refl _) _
      have hBw4 := hB4.trans (hw4.mono hB4.size)
      have ks := BlkT.keep ks hw4
      have k14 : BlkT W4 V4.heap.size #[(.string mn), (.string md)] 26 := hW4 ▸ BlkT.newAt _ _ _ rfl
      clear hW4
      have k14c0 := k14.cell 0
      have k14c1 := k14.cell 1
      simp only [List.getElem?_toArray, List.getElem?_cons_succ, List.getElem?_cons_zero] at k14c0 k14c1
      go_wp2_with fail
      refine (B57.out _ (HE.out.below hBw4)).mono ?_
      rintro r V5 ⟨rfl, hb5⟩
      have hB5 := hBw4.trans (hb5.mono hBw4.size)
      clear k14c0 k14c1
      have ks := BlkT.keep ks hb5
      have k14 := BlkT.keep k14 hb5
      go_wp2_with fail
      refine (B58.out _ (HE.out.below hB5)).mono ?_
      rintro r V6 ⟨rfl, hb6⟩
      have hB6 := hB5.trans (hb6.mono hB5.size)
      have ks := BlkT.keep ks hb6
      have k14 := BlkT.keep k14 hb6
      go_upto_region 8 with (fail)
      have lksk16 := Lib.hid ks.lt
      have lk14k16 := Lib.hid k14.lt
      generalize hW6 : World.alloc V6 _ = W6
      have hw6 : Below V6.heap.size V6 W6 := hW6 ▸ (Below.refl _ _).alloc (Nat.le_refl _) _
      have hBw6 := hB6.trans (hw6.mono hB6.size)
      have ks := BlkT.keep ks hw6
      have k14 := BlkT.keep k14 hw6
      have k16 : BlkT W6 V6.heap.size #[(.string un), (.string ud)] 26 := hW6 ▸ BlkT.newAt _ _ _ rfl
      clear hW6
      rcases B0.out with ⟨hv, rfl, rfl, rfl, hz⟩ | ⟨hv, -⟩
      · skip
        have k14c0 := k14.cell 0
        have k14c1 := k14.cell 1
        simp only [List.getElem?_toArray, List.getElem?_cons_succ, List.getElem?_cons_zero] at k14c0 k14c1
        go_wp2_with fail
        refine (B59.out _ (HE.out.below hBw6)).mono ?_
        rintro r V7 ⟨rfl, hb7⟩
        have hB7 := hBw6.trans (hb7.mono hBw6.size)
        clear k14c0 k14c1
        have ks := BlkT.keep ks hb7
        have k14 := BlkT.keep k14 hb7
        have k16 := BlkT.keep k16 hb7
        have k14c0 := k14.cell 0
        have k14c1 := k14.cell 1
        simp only [List.getElem?_toArray, List.getElem?_cons_succ, List.getElem?_cons_zero] at k14c0 k14c1
        go_wp2_with fail
        refine (B60.out _ (HE.out.below hB7)).mono ?_
        rintro r V8 ⟨rfl, hb8⟩
        have hB8 := hB7.trans (hb8.mono hB7.size)
        clear k14c0 k14c1
        have ks := BlkT.keep ks hb8
        have k14 := BlkT.keep k14 hb8
        have k16 := BlkT.keep k16 hb8
        have k14c0 := k14.cell 0
        have k14c1 := k14.cell 1
        have k16c0 := k16.cell 0
        have k16c1 := k16.cell 1
        simp only [List.getElem?_toArray, List.getElem?_cons_succ, List.getElem?_cons_zero] at k14c0 k14c1 k16c0 k16c1
        go_wp2_with fail
        refine (B60.out _ (HE.out.below hB8)).mono ?_
        rintro r V9 ⟨rfl, hb9⟩
        have hB9 := hB8.trans (hb9.mono hB8.size)
        clear k14c0 k14c1 k16c0 k16c1
        have ks := BlkT.keep ks hb9
        have k14 := BlkT.keep k14 hb9
        have k16 := BlkT.keep k16 hb9
        go_wp2_with fail
        go_roundw
        case rel => exact ⟨.inr (.inr rfl), hB9⟩
        case measure => simp only [Go.RowKit.intOf]; omega
      · exact absurd hv (by decide)
    · clear ks A57 A58 A59 A60 A0 CU LG
      have hz : (qs.toList == []) = false := by
        rcases B0.out with ⟨-, -, -, -, hz⟩ | ⟨hv, -⟩
        · exact hz
        · cases hv
      clear B0 B57 B58 B60
      have hpk := pick28 x4 (qs.size : Int)
      have hpb := pickN_bd x4 (show (0 : Int) < (qs.size : Int) by omega)
      have PK := Lib.hid (fun V => hpk V m4.1 m4.2 (by omega) (by omega))
      clear hpk m4
      obtain ⟨kk, hkk⟩ : ∃ k : Nat, pickN x4 (qs.size : Int) = (k : Int) := ⟨(pickN x4 (qs.size : Int)).toNat, by omega⟩
      rw [hkk] at PK hpb
      obtain ⟨c1, hc1⟩ : ∃ c, min raw.size 420 = c := ⟨_, rfl⟩
      obtain ⟨t1, ht1⟩ : ∃ x, cutB 420 raw = x := ⟨_, rfl⟩
      have zt1 : t1.size ≤ 420 := by rw [← ht1]; exact cutB_size 420 raw
      have mm := run_min210 (k := raw.size) 420 (c := c1) (by omega)
      have ll := run_head (s := raw) (t := t1) (c := c1) s3 (by omega) (by rw [← ht1]; unfold cutB; rw [hc1])
      obtain ⟨p1, hp1⟩ : ∃ x, qs.extract 0 kk = x := ⟨_, rfl⟩
      obtain ⟨p2, hp2⟩ : ∃ x, qs.extract (kk + 1) qs.size = x := ⟨_, rfl⟩
      have zp1 : p1.size ≤ 601 := by rw [← hp1, ByteArray.size_extract]; omega
      have zp2 : p2.size ≤ 601 := by rw [← hp2, ByteArray.size_extract]; omega
      have b1 : (0 : Int) ≤ (kk : Int) ∧ (kk : Int) ≤ (qs.size : Int) := by omega
      have b2 : (0 : Int) ≤ ((kk + 1 : Nat) : Int) ∧ ((kk + 1 : Nat) : Int) ≤ (qs.size : Int) := by omega
      have b3 : (0 : Int) ≤ (kk : Int) + 1 ∧ (kk : Int) + 1 ≤ (qs.size : Int) := by omega
      have hwk : IntKind.i64.wrap ((kk : Int) + 1) = ((kk + 1 : Nat) : Int) := by rw [IntKind.wrap_i64]; omega
      obtain ⟨ch, hch⟩ : ∃ x, UInt8.ofNat cb = x := ⟨_, rfl⟩
      have r1 : ¬ 9223372036854775807 < p1.size + 1 := by omega
      have r2 : ¬ 9223372036854775807 < p1.size + (⟨#[ch]⟩ : ByteArray).size := by show ¬ 9223372036854775807 < p1.size + 1; omega
      obtain ⟨p3, hp3⟩ : ∃ x, p1 ++ ⟨#[ch]⟩ = x := ⟨_, rfl⟩
      have zp3 : p3.size ≤ 602 := by rw [← hp3, ByteArray.size_append]; show p1.size + 1 ≤ 602; omega
      have r3 : ¬ 9223372036854775807 < p3.size + p2.size := by omega
      obtain ⟨t2, ht2⟩ : ∃ x, p3 ++ p2 = x := ⟨_, rfl⟩
      have zt2 : t2.size ≤ 1203 := by rw [← ht2, ByteArray.size_append]; omega
      clear hc1 ht1 s3 hkk
      obtain ⟨an, ad, e3, R1⟩ := read_facts t1 (by omega)
      obtain ⟨bn, bd, e4, R2⟩ := read_facts t2 (by omega)
      have C58 := Lib.hid R1.P58; have C61 := Lib.hid R1.P61; have C0 := Lib.hid R1.or
      have D58 := Lib.hid R2.P58; have D61 := Lib.hid R2.P61; have D0 := Lib.hid R2.or
      clear R1 R2
      have k12c0 := k12.cell 0
      have k12c1 := k12.cell 1
      simp only [List.getElem?_toArray, List.getElem?_cons_succ, List.getElem?_cons_zero] at k12c0 k12c1
      go_wp2_with fail
      refine (B59.out _ (HE.out.below hB4)).mono ?_
      rintro r V5 ⟨rfl, hb5⟩
      have hB5 := hB4.trans (hb5.mono hB4.size)
      clear k12c0 k12c1
      have k12 := BlkT.keep k12 hb5
      go_wp2_with fail
      refine (PK.out _).mono ?_
      rintro r V ⟨rfl, rfl⟩
      have hcv := run_convert_owned 62 9 Tryz.underlying62 Tryz.underlying5 Tryz.underlying9 (show ((V5.alloc (.cells #[.int .u8 (cb : Int)] 5)).drew).ownsRow V5.heap.size 5 1 (.slice (some ⟨V5.heap.size, 0, none⟩) 1 1) 1 ([(cb : Int)].map (Value.int .u8)) from ⟨rfl, .inr ⟨V5.heap.size, 1, #[.int .u8 (cb : Int)], rfl, Nat.le_refl _, heap_alloc_new V5 _, Nat.le_refl _, by decide, rfl, rfl⟩⟩)
      rw [byte_str cb, hch] at hcv
      go_wp2_with fail
      apply wp_suchT (w0 := V5) #[.string t1, .string t2]
      · refine wp_region_noPanic ?_
        refine wp_region_held_drew (S := (fun w' => Below V5.heap.size V5 w')) (by kernel_rfl) (Below.refl _ _).drew (fun hHeld => ?_)
        refine wpAnyH_take (i := 0) (oi := { dst := some 77, op := Op.move (Operand.tmp 4), type := 9, pos := "law.go:117", after := #[], guard := none }) (v := ?_) rfl (by kernel_rfl) (by kernel_rfl) (by kernel_rfl) (fun _ _ _ h => h) (Or.inl ⟨by kernel_rfl, ?_⟩) (by assumption) ?_
        rotate_left
        · intro w hSw
          (try dsimp only at hSw)
          go_simp
          all_goals (with_reducible rfl)
        (try simp only [Act.put, List.setIfInBounds_toArray, List.set_cons_zero, List.set_cons_succ])
        refine wpAnyH_take (i := 1) (oi := { dst := some 78, op := Op.move (Operand.tmp 4), type := 9, pos := "law.go:117", after := #[], guard := none }) (v := ?_) rfl (by kernel_rfl) (by kernel_rfl) (by kernel_rfl) (fun _ _ _ h => h) (Or.inl ⟨by kernel_rfl, ?_⟩) (by assumption) ?_
        rotate_left
        · intro w hSw
          (try dsimp only at hSw)
          go_simp
          all_goals (with_reducible rfl)
        (try simp only [Act.put, List.setIfInBounds_toArray, List.set_cons_zero, List.set_cons_succ])
        refine wpAnyH_take (i := 2) (oi := { dst := some 79, op := Op.call { callee := Callee.builtin Builtin.len, args := #[Operand.tmp 78], argTypes := #[9] }, type := 3, pos := "law.go:117", after := #[{ on := 1, ground := Ground.data }], guard := none }) (v := ?_) rfl (by kernel_rfl) (by kernel_rfl) (by kernel_rfl) (fun _ _ _ h => h) (Or.inl ⟨by kernel_rfl, ?_⟩) (by assumption) ?_
        rotate_left
        · intro w hSw
          (try dsimp only at hSw)
          go_simp
          all_goals (with_reducible rfl)
        (try simp only [Act.put, List.setIfInBounds_toArray, List.set_cons_zero, List.set_cons_succ])
        refine wpAnyH_take (i := 3) (oi := { dst := some 80, op := Op.call { callee := Callee.builtin Builtin.min, args := #[Operand.tmp 79, Operand.const (Value.int IntKind.i64 420)], argTypes := #[3, 3] }, type := 3, pos := "law.go:117", after := #[{ on := 2, ground := Ground.data }], guard := none }) (v := ?_) rfl (by kernel_rfl) (by kernel_rfl) (by kernel_rfl) (fun _ _ _ h => h) (Or.inl ⟨by kernel_rfl, ?_⟩) (by assumption) ?_
        rotate_left
        · intro w hSw
          (try dsimp only at hSw)
          go_simp
          all_goals (with_reducible rfl)
        (try simp only [Act.put, List.setIfInBounds_toArray, List.set_cons_zero, List.set_cons_succ])
        refine wpAnyH_take (i := 4) (oi := { dst := some 81, op := Op.slice 9 (Operand.tmp 77) none (some (Operand.tmp 80)) none, type := 9, pos := "law.go:117", after := #[{ on := 0, ground := Ground.data }, { on := 3, ground := Ground.data }], guard := none }) (v := ?_) rfl (by kernel_rfl) (by kernel_rfl) (by kernel_rfl) (fun _ _ _ h => h) (Or.inl ⟨by kernel_rfl, ?_⟩) (by assumption) ?_
        rotate_left
        · intro w hSw
          (try dsimp only at hSw)
          go_simp
          all_goals (with_reducible rfl)
        (try simp only [Act.put, List.setIfInBounds_toArray, List.set_cons_zero, List.set_cons_succ])
        refine wpAnyH_take (i := 5) (oi := { dst := some 82, op := Op.move (Operand.tmp 18), type := 9, pos := "law.go:117", after := #[], guard := none }) (v := ?_) rfl (by kernel_rfl) (by kernel_rfl) (by kernel_rfl) (fun _ _ _ h => h) (Or.inl ⟨by kernel_rfl, ?_⟩) (by assumption) ?_
        rotate_left
        · intro w hSw
          (try dsimp only at hSw)
          go_simp
          all_goals (with_reducible rfl)
        (try simp only [Act.put, List.setIfInBounds_toArray, List.set_cons_zero, List.set_cons_succ])
        refine wpAnyH_take (i := 6) (oi := { dst := some 83, op := Op.move (Operand.tmp 19), type := 3, pos := "law.go:117", after := #[], guard := none }) (v := ?_) rfl (by kernel_rfl) (by kernel_rfl) (by kernel_rfl) (fun _ _ _ h => h) (Or.inl ⟨by kernel_rfl, ?_⟩) (by assumption) ?_
        rotate_left
        · intro w hSw
          (try dsimp only at hSw)
          go_simp
          all_goals (with_reducible rfl)
        (try simp only [Act.put, List.setIfInBounds_toArray, List.set_cons_zero, List.set_cons_succ])
        refine wpAnyH_take (i := 7) (oi := { dst := some 84, op := Op.slice 9 (Operand.tmp 82) none (some (Operand.tmp 83)) none, type := 9, pos := "law.go:117", after := #[{ on := 5, ground := Ground.data }, { on := 6, ground := Ground.data }], guard := none }) (v := ?_) rfl (by kernel_rfl) (by kernel_rfl) (by kernel_rfl) (fun _ _ _ h => h) (Or.inl ⟨by kernel_rfl, ?_⟩) (by assumption) ?_
        rotate_left
        · intro w hSw
          (try dsimp only at hSw)
          go_simp
          all_goals (with_reducible rfl)
        (try simp only [Act.put, List.setIfInBounds_toArray, List.set_cons_zero, List.set_cons_succ])
        refine wpAnyH_take (i := 8) (oi := { dst := some 85, op := Op.move (Operand.tmp 3), type := 5, pos := "law.go:117", after := #[], guard := none }) (v := ?_) rfl (by kernel_rfl) (by kernel_rfl) (by kernel_rfl) (fun _ _ _ h => h) (Or.inl ⟨by kernel_rfl, ?_⟩) (by assumption) ?_
        rotate_left
        · intro w hSw
          (try dsimp only at hSw)
          go_simp
          all_goals (with_reducible rfl)
        (try simp only [Act.put, List.setIfInBounds_toArray, List.set_cons_zero, List.set_cons_succ])
        refine wpAnyH_take (i := 12) (oi := { dst := some 89, op := Op.move (Operand.tmp 18), type := 9, pos := "law.go:117", after := #[], guard := none }) (v := ?_) rfl (by kernel_rfl) (by kernel_rfl) (by kernel_rfl) (fun _ _ _ h => h) (Or.inl ⟨by kernel_rfl, ?_⟩) (by assumption) ?_
        rotate_left
        · intro w hSw
          (try dsimp only at hSw)
          go_simp
          all_goals (with_reducible rfl)
        (try simp only [Act.put, List.setIfInBounds_toArray, List.set_cons_zero, List.set_cons_succ])
        refine wpAnyH_take (i := 13) (oi := { dst := some 90, op := Op.move (Operand.tmp 19), type := 3, pos := "law.go:117", after := #[], guard := none }) (v := ?_) rfl (by kernel_rfl) (by kernel_rfl) (by kernel_rfl) (fun _ _ _ h => h) (Or.inl ⟨by kernel_rfl, ?_⟩) (by assumption) ?_
        rotate_left
        · intro w hSw
          (try dsimp only at hSw)
          go_simp
          all_goals (with_reducible rfl)
        (try simp only [Act.put, List.setIfInBounds_toArray, List.set_cons_zero, List.set_cons_succ])
        refine wpAnyH_take (i := 14) (oi := { dst := some 91, op := Op.binOp BinOp.add 3 (Operand.tmp 90) (Operand.const (Value.int IntKind.i64 1)) 3, type := 3, pos := "law.go:117", after := #[{ on := 13, ground := Ground.data }], guard := none }) (v := ?_) rfl (by kernel_rfl) (by kernel_rfl) (by kernel_rfl) (fun _ _ _ h => h) (Or.inl ⟨by kernel_rfl, ?_⟩) (by assumption) ?_
        rotate_left
        · intro w hSw
          (try dsimp only at hSw)
          go_simp
          all_goals (with_reducible rfl)
        (try simp only [Act.put, List.setIfInBounds_toArray, List.set_cons_zero, List.set_cons_succ])
        refine wpAnyH_take (i := 15) (oi := { dst := some 92, op := Op.slice 9 (Operand.tmp 89) (some (Operand.tmp 91)) none none, type := 9, pos := "law.go:117", after := #[{ on := 12, ground := Ground.data }, { on := 14, ground := Ground.data }], guard := none }) (v := ?_) rfl (by kernel_rfl) (by kernel_rfl) (by kernel_rfl) (fun _ _ _ h => h) (Or.inl ⟨by kernel_rfl, ?_⟩) (by assumption) ?_
        rotate_left
        · intro w hSw
          (try dsimp only at hSw)
          go_simp
          all_goals (with_reducible rfl)
        (try simp only [Act.put, List.setIfInBounds_toArray, List.set_cons_zero, List.set_cons_succ])
        refine wpAnyH_take (i := 19) (oi := { dst := some 96, op := Op.move (Operand.const (Value.int IntKind.i64 0)), type := 3, pos := "law.go:117", after := #[], guard := none }) (v := ?_) rfl (by kernel_rfl) (by kernel_rfl) (by kernel_rfl) (fun _ _ _ h => h) (Or.inl ⟨by kernel_rfl, ?_⟩) (by assumption) ?_
        rotate_left
        · intro w hSw
          (try dsimp only at hSw)
          go_simp
          all_goals (with_reducible rfl)
        (try simp only [Act.put, List.setIfInBounds_toArray, List.set_cons_zero, List.set_cons_succ])
        refine wpAnyH_one1 (i := 9) (o := { dst := some 86, op := Op.buildSlice 62 1 #[(0, Operand.tmp 85)], type := 62, pos := "law.go:117", after := #[{ on := 8, ground := Ground.data }], guard := none }) (by kernel_rfl) rfl (fun K hK => ?_)
        go_simp
        refine hK.out _ _ ?_ (fun hHeld2 => ?_)
        · exact hHeld.alloc hHeld.size _
        clear hHeld
        have hHeld := hHeld2
        clear hHeld2
        clear hK K
        (try simp only [Act.put, List.setIfInBounds_toArray, List.set_cons_zero, List.set_cons_succ])
        refine wpAnyH_one1 (i := 10) (o := { dst := some 87, op := Op.convert 62 9 (Operand.tmp 86), type := 9, pos := "law.go:117", after := #[{ on := 9, ground := Ground.data }], guard := none }) (by kernel_rfl) rfl (fun K hK => ?_)
        go_simp
        refine hK.out _ _ ?_ (fun hHeld2 => ?_)
        · exact hHeld
        clear hHeld
        have hHeld := hHeld2
        clear hHeld2
        clear hK K
        (try simp only [Act.put, List.setIfInBounds_toArray, List.set_cons_zero, List.set_cons_succ])
        refine wpAnyH_take (i := 11) (oi := { dst := some 88, op := Op.binOp BinOp.add 9 (Operand.tmp 84) (Operand.tmp 87) 9, type := 9, pos := "law.go:117", after := #[{ on := 7, ground := Ground.data }, { on := 10, ground := Ground.data }], guard := none }) (v := ?_) rfl (by kernel_rfl) (by kernel_rfl) (by kernel_rfl) (fun _ _ _ h => h) (Or.inl ⟨by kernel_rfl, ?_⟩) (by assumption) ?_
        rotate_left
        · intro w hSw
          (try dsimp only at hSw)
          go_simp
          all_goals (with_reducible rfl)
        (try simp only [Act.put, List.setIfInBounds_toArray, List.set_cons_zero, List.set_cons_succ])
        refine wpAnyH_take (i := 16) (oi := { dst := some 93, op := Op.binOp BinOp.add 9 (Operand.tmp 88) (Operand.tmp 92) 9, type := 9, pos := "law.go:117", after := #[{ on := 11, ground := Ground.data }, { on := 15, ground := Ground.data }], guard := none }) (v := ?_) rfl (by kernel_rfl) (by kernel_rfl) (by kernel_rfl) (fun _ _ _ h => h) (Or.inl ⟨by kernel_rfl, ?_⟩) (by assumption) ?_
        rotate_left
        · intro w hSw
          (try dsimp only at hSw)
          go_simp
          all_goals (with_reducible rfl)
        (try simp only [Act.put, List.setIfInBounds_toArray, List.set_cons_zero, List.set_cons_succ])
        refine wpAnyH_one1 (i := 17) (o := { dst := some 94, op := Op.buildSlice 63 2 #[(0, Operand.tmp 81), (1, Operand.tmp 93)], type := 63, pos := "law.go:117", after := #[{ on := 4, ground := Ground.data }, { on := 16, ground := Ground.data }], guard := none }) (by kernel_rfl) rfl (fun K hK => ?_)
        go_simp
        refine hK.out _ _ ?_ (fun hHeld2 => ?_)
        · exact hHeld.alloc hHeld.size _
        clear hHeld
        have hHeld := hHeld2
        clear hHeld2
        clear hK K
        (try simp only [Act.put, List.setIfInBounds_toArray, List.set_cons_zero, List.set_cons_succ])
        refine wpAnyH_take (i := 18) (oi := { dst := some 95, op := Op.call { callee := Callee.builtin Builtin.len, args := #[Operand.tmp 94], argTypes := #[63] }, type := 3, pos := "law.go:117", after := #[{ on := 17, ground := Ground.data }], guard := none }) (v := ?_) rfl (by kernel_rfl) (by kernel_rfl) (by kernel_rfl) (fun _ _ _ h => h) (Or.inl ⟨by kernel_rfl, ?_⟩) (by assumption) ?_
        rotate_left
        · intro w hSw
          (try dsimp only at hSw)
          go_simp
          all_goals (with_reducible rfl)
        (try simp only [Act.put, List.setIfInBounds_toArray, List.set_cons_zero, List.set_cons_succ])
        refine wpAnyH_done (by kernel_rfl) ?_ _
        refine NoPanic.normal ?_
        refine NoPanic.normal ?_
        have hz : BlkT (((V5.alloc (.cells #[.int .u8 (cb : Int)] 5)).alloc (.cells #[.string t1, .string t2] 9)).drew) (V5.heap.size + 1) #[.string t1, .string t2] 9 := (BlkT.newAt (V5.alloc (.cells #[.int .u8 (cb : Int)] 5)) #[.string t1, .string t2] 9 (by simp))
        obtain ⟨gx, hgx⟩ : ∃ g, V5.heap.size + 1 = g := ⟨_, rfl⟩
        rw [hgx] at hz
        rw [hgx]
        exact ⟨rfl, gx, rfl, hHeld, hz⟩
      rintro g6 W6 ⟨hbw6, kt⟩
      have hBw6 := hB5.trans (hbw6.mono hB5.size)
      have HW6 := hBw3.trans (hBw6.mono hBw3.size)
      have HE' := Lib.hid (HE.out.below hBw6)
      clear HE
      have HE := HE'
      clear HE' hb4 hB4 hb5 hB5 hbw6 mm ll hcv b1 b2 b3 hwk r1 r2 r3 hp1 hp2 hp3 ht2 hch PK B59
      have KT := Lib.hid kt
      clear kt
      go_wp2_with fail
      go_loopw [21, 22, 23, 24, 25, 96] (fun u21 u22 u23 u24 u25 u96 wr => (u96 = .int .i64 0 ∨ u96 = .int .i64 1 ∨ u96 = .int .i64 2) ∧ Below W6.heap.size W6 wr) (fun _ _ _ _ _ u96 _ => (2 - Go.RowKit.intOf u96).toNat)
      case atStart => exact ⟨.inl rfl, Below.refl _ _⟩
      case round =>
        rename World => V7
        obtain ⟨hu, hb7⟩ := hrel
        have hB7 := hb7
        have kt := BlkT.keep KT.out hb7
        clear KT
        rcases hu with rfl | rfl | rfl
        · have hi : (0 : Int) ≤ 0 ∧ (0 : Int) < 2 := by omega
          have ktc0 := kt.cell 0
          simp only [List.getElem?_toArray, List.getElem?_cons_succ, List.getElem?_cons_zero] at ktc0
          go_wp2_with fail
          refine (C58.out _ (HE.out.below hB7)).mono ?_
          rintro r V8 ⟨rfl, hb8⟩
          have hB8 := hB7.trans (hb8.mono hB7.size)
          clear ktc0
          have kt := BlkT.keep kt hb8
          go_upto_region 19 with (fail)
          generalize hW8 : World.alloc V8 _ = W8
          have hw8 : Below V8.heap.size V8 W8 := hW8 ▸ (Below.refl _ _).alloc (Nat.le_refl _) _
          have hBw8 := hB8.trans (hw8.mono hB8.size)
          have k22 : BlkT W8 V8.heap.size #[(.string an), (.string ad)] 26 := hW8 ▸ BlkT.newAt _ _ _ rfl
          clear hW8
          go_wp2_with fail
          refine (C61.out _ (HE.out.below hBw8)).mono ?_
          rintro r V9 ⟨rfl, hb9⟩
          have hB9 := hBw8.trans (hb9.mono hBw8.size)
          have k22 := BlkT.keep k22 hb9
          go_upto_region 20 with (fail)
          have lk22k24 := Lib.hid k22.lt
          generalize hW9 : World.alloc V9 _ = W9
          have hw9 : Below V9.heap.size V9 W9 := hW9 ▸ (Below.refl _ _).alloc (Nat.le_refl _) _
          have hBw9 := hB9.trans (hw9.mono hB9.size)
          have k22 := BlkT.keep k22 hw9
          have k24 : BlkT W9 V9.heap.size #[(.string an), (.string ad)] 26 := hW9 ▸ BlkT.newAt _ _ _ rfl
          clear hW9
          rcases C0.out with rfl | ⟨rfl, PP⟩
          · skip
            have k22c0 := k22.cell 0
            have k22c1 := k22.cell 1
            have k24c0 := k24.cell 0
            have k24c1 := k24.cell 1
            simp only [List.getElem?_toArray, List.getElem?_cons_succ, List.getElem?_cons_zero] at k22c0 k22c1 k24c0 k24c1
            go_wp2_with fail
            go_roundw
            case rel => exact ⟨.inr (.inl rfl), hBw9⟩
            case measure => simp only [Go.RowKit.intOf]; omega
          · have PP := Lib.hid PP
            have k22c0 := k22.cell 0
            have k22c1 := k22.cell 1
            have k24c0 := k24.cell 0
            have k24c1 := k24.cell 1
            simp only [List.getElem?_toArray, List.getElem?_cons_succ, List.getElem?_cons_zero] at k22c0 k22c1 k24c0 k24c1
            go_wp2_with fail
            refine (PP.out _ (HE.out.below hBw9)).mono ?_
            rintro r V10 ⟨rfl, hb10⟩
            have hB10 := hBw9.trans (hb10.mono hBw9.size)
            clear k22c0 k22c1 k24c0 k24c1
            have k22 := BlkT.keep k22 hb10
            have k24 := BlkT.keep k24 hb10
            go_wp2_with fail
            go_roundw
            case rel => exact ⟨.inr (.inl rfl), hB10⟩
            case measure => simp only [Go.RowKit.intOf]; omega
        · have hi : (0 : Int) ≤ 1 ∧ (1 : Int) < 2 := by omega
          have ktc1 := kt.cell 1
          simp only [List.getElem?_toArray, List.getElem?_cons_succ, List.getElem?_cons_zero] at ktc1
          go_wp2_with fail
          refine (D58.out _ (HE.out.below hB7)).mono ?_
          rintro r V8 ⟨rfl, hb8⟩
          have hB8 := hB7.trans (hb8.mono hB7.size)
          clear ktc1
          have kt := BlkT.keep kt hb8
          go_upto_region 19 with (fail)
          generalize hW8 : World.alloc V8 _ = W8
          have hw8 : Below V8.heap.size V8 W8 := hW8 ▸ (Below.refl _ _).alloc (Nat.le_refl _) _
          have hBw8 := hB8.trans (hw8.mono hB8.size)
          have k22 : BlkT W8 V8.heap.size #[(.string bn), (.string bd)] 26 := hW8 ▸ BlkT.newAt _ _ _ rfl
          clear hW8
          go_wp2_with fail
          refine (D61.out _ (HE.out.below hBw8)).mono ?_
          rintro r V9 ⟨rfl, hb9⟩
          have hB9 := hBw8.trans (hb9.mono hBw8.size)
          have k22 := BlkT.keep k22 hb9
          go_upto_region 20 with (fail)
          have lk22k24 := Lib.hid k22.lt
          generalize hW9 : World.alloc V9 _ = W9
          have hw9 : Below V9.heap.size V9 W9 := hW9 ▸ (Below.refl _ _).alloc (Nat.le_refl _) _
          have hBw9 := hB9.trans (hw9.mono hB9.size)
          have k22 := BlkT.keep k22 hw9
          have k24 : BlkT W9 V9.heap.size #[(.string bn), (.string bd)] 26 := hW9 ▸ BlkT.newAt _ _ _ rfl
          clear hW9
          rcases D0.out with rfl | ⟨rfl, PP⟩
          · skip
            have k22c0 := k22.cell 0
            have k22c1 := k22.cell 1
            have k24c0 := k24.cell 0
            have k24c1 := k24.cell 1
            simp only [List.getElem?_toArray, List.getElem?_cons_succ, List.getElem?_cons_zero] at k22c0 k22c1 k24c0 k24c1
            go_wp2_with fail
            go_roundw
            case rel => exact ⟨.inr (.inr rfl), hBw9⟩
            case measure => simp only [Go.RowKit.intOf]; omega
          · have PP := Lib.hid PP
            have k22c0 := k22.cell 0
            have k22c1 := k22.cell 1
            have k24c0 := k24.cell 0
            have k24c1 := k24.cell 1
            simp only [List.getElem?_toArray, List.getElem?_cons_succ, List.getElem?_cons_zero] at k22c0 k22c1 k24c0 k24c1
            go_wp2_with fail
            refine (PP.out _ (HE.out.below hBw9)).mono ?_
            rintro r V10 ⟨rfl, hb10⟩
            have hB10 := hBw9.trans (hb10.mono hBw9.size)
            clear k22c0 k22c1 k24c0 k24c1
            have k22 := BlkT.keep k22 hb10
            have k24 := BlkT.keep k24 hb10
            go_wp2_with fail
            go_roundw
            case rel => exact ⟨.inr (.inr rfl), hB10⟩
            case measure => simp only [Go.RowKit.intOf]; omega
        · go_wp2_with fail
          go_ret
          exact ⟨rfl, HW6.trans (hB7.mono HW6.size)⟩
end Go.Proofs.YtjnpenljgfdaiaaGreatDoor
