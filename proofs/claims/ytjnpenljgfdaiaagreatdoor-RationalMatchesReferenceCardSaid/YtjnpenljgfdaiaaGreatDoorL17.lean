/- nadirlaw04: RationalMatchesReference, and its arguments, opened. -/
import Derived.Test.YtjnpenljgfdaiaaGreatDoorRead
import Derived.Test.YtjnpenljgfdaiaaGreatDoorChecked
import Derived.Deep.RegionHeld3
import Derived.Deep.CutRange
import Derived.ChangeKeysEq
import Derived.Test.YtjnpenljgfdaiaaGreatDoorJA
import Derived.Test.YtjnpenljgfdaiaaGreatDoorNB
import Derived.Test.YtjnpenljgfdaiaaGreatDoorHA
/- Arrays of two and of four integers as arguments, opened. -/
namespace Go.Proofs.YtjnpenljgfdaiaaGreatDoor
open Go.ChangeShapes Go.WideShapes Go.ChangeAt Go.RowKit
section
variable {H : Type} {enc : TypeId × Value → H} {P : Program}
theorem i64_bd4 {x : Int} (h : (Lit.int .i64 x).wf = true) : -9223372036854775808 ≤ x ∧ x ≤ 9223372036854775807 := by
  simp [Lit.wf, IntKind.min, IntKind.max, IntKind.signed, IntKind.bits] at h
  exact ⟨by omega, by omega⟩
theorem arr4 {w : World} {r : Reach} {b0 base : Nat} {spare : Nat → Bool} {held : Bool} {t e : TypeId} {v : Value} {d : DataW H} {p : List MemPlace}
    (ht : P.underlying t = some (.array 4 e)) (he : P.underlying e = some (.int .i64)) (hce : P.cellsOf e = 1) (hct : P.cellsOf t = 4)
    (hv : Value.okWide P w r b0 t v) (h : DataW.Trod enc P w base spare held t v d p) :
    ∃ a b c d : Int, v = .agg #[.int .i64 a, .int .i64 b, .int .i64 c, .int .i64 d] ∧ (-9223372036854775808 ≤ a ∧ a ≤ 9223372036854775807) ∧ (-9223372036854775808 ≤ b ∧ b ≤ 9223372036854775807) ∧ (-9223372036854775808 ≤ c ∧ c ≤ 9223372036854775807) ∧ (-9223372036854775808 ≤ d ∧ d ≤ 9223372036854775807) := by
  obtain ⟨l, rfl, hl, hr⟩ := arr_cells (Value.int .i64) (fun y => -9223372036854775808 ≤ y ∧ y ≤ 9223372036854775807) ht hce hct (fun m c x hx => by obtain ⟨y, e1, e2⟩ := inv_int he m c x hx; exact ⟨y, e1, i64_bd4 e2⟩) hv h
  match l, hl with
  | [a, b, c, d], _ => exact ⟨a, b, c, d, rfl, hr a (by simp), hr b (by simp), hr c (by simp), hr d (by simp)⟩
theorem arr2 {w : World} {r : Reach} {b0 base : Nat} {spare : Nat → Bool} {held : Bool} {t e : TypeId} {v : Value} {d : DataW H} {p : List MemPlace}
    (ht : P.underlying t = some (.array 2 e)) (he : P.underlying e = some (.int .i64)) (hce : P.cellsOf e = 1) (hct : P.cellsOf t = 2)
    (hv : Value.okWide P w r b0 t v) (h : DataW.Trod enc P w base spare held t v d p) :
    ∃ a b : Int, v = .agg #[.int .i64 a, .int .i64 b] ∧ (-9223372036854775808 ≤ a ∧ a ≤ 9223372036854775807) ∧ (-9223372036854775808 ≤ b ∧ b ≤ 9223372036854775807) := by
  obtain ⟨l, rfl, hl, hr⟩ := arr_cells (Value.int .i64) (fun y => -9223372036854775808 ≤ y ∧ y ≤ 9223372036854775807) ht hce hct (fun m c x hx => by obtain ⟨y, e1, e2⟩ := inv_int he m c x hx; exact ⟨y, e1, i64_bd4 e2⟩) hv h
  match l, hl with
  | [a, b], _ => exact ⟨a, b, rfl, hr a (by simp), hr b (by simp)⟩
end
end Go.Proofs.YtjnpenljgfdaiaaGreatDoor

/- A fraction (a struct of two strings) and a byte as arguments, opened. -/
namespace Go.Proofs.YtjnpenljgfdaiaaGreatDoor
open Go.ChangeShapes Go.WideShapes Go.ChangeAt Go.RowKit
section
variable {H : Type} {enc : TypeId × Value → H}
theorem u8_bd5 {x : Int} (h : (Lit.int .u8 x).wf = true) : ∃ k : Nat, x = (k : Int) ∧ k < 256 := by
  simp [Lit.wf, IntKind.min, IntKind.max, IntKind.signed, IntKind.bits] at h
  exact ⟨x.toNat, by omega, by omega⟩
set_option maxRecDepth 100000 in
theorem rat_val {w : World} {r : Reach} {b0 base : Nat} {spare : Nat → Bool} {held : Bool} {v : Value} {d : DataW H} {p : List MemPlace}
    (hv : Value.okWide Tryz.prog w r b0 26 v) (h : DataW.Trod enc Tryz.prog w base spare held 26 v d p) : ∃ n m : ByteArray, v = .agg #[.string n, .string m] ∧ n.size ≤ maxLen ∧ m.size ≤ maxLen := by
  obtain ⟨cs, rfl, hsz⟩ := okWide_struct Tryz.underlying26 hv
  obtain ⟨fuel, h⟩ := h
  have hsz' : cs.size = 2 := hsz.trans (by kernel_rfl)
  obtain ⟨xs, n, -, -, -, hlen, hf⟩ := DataW.trod_struct Tryz.underlying26 h
  obtain ⟨l⟩ := cs
  match l, hsz' with
  | [q0, q1], _ =>
    have c9 : Tryz.prog.cellsOf 9 = 1 := by kernel_rfl
    have hl : xs.length = 2 := hlen
    have h0 : DataW.trod enc Tryz.prog w base spare held n 9 (([q0, q1].drop 0).take (Tryz.prog.cellsOf 9)) = xs[0]? := hf 0 _ rfl
    have h1 : DataW.trod enc Tryz.prog w base spare held n 9 (([q0, q1].drop 1).take (Tryz.prog.cellsOf 9)) = xs[1]? := hf 1 _ rfl
    rw [c9, List.getElem?_eq_getElem (by omega)] at h0 h1
    obtain ⟨s0, e0, w0⟩ := inv_string Tryz.underlying9 _ _ _ h0
    obtain ⟨s1, e1, w1⟩ := inv_string Tryz.underlying9 _ _ _ h1
    subst e0 e1
    exact ⟨s0, s1, rfl, w0, w1⟩
end
end Go.Proofs.YtjnpenljgfdaiaaGreatDoor

/- nadirlaw04: RationalMatchesReference. -/
namespace Go.Proofs.YtjnpenljgfdaiaaGreatDoor
open Go.RowKit Go.Shelf Lib

theorem wp_suchL {P : Program} {c : Code} {Q : Exit → Act → World → Prop} {a : Act} {fr : Nat → Int × Int → Int × Int → Act} {w0 w : World} (cs : Int × Int → Int × Int → Array Value)
    (h : c.wp P (NoPanic fun e a' w' => e = .normal ∧ ∃ g r1 r2, a' = fr g r1 r2 ∧ (Below w0.heap.size w0 w' ∧ BlkT w' g (cs r1 r2) 26 ∧ Fit r1 ∧ Fit r2)) a w)
    (k : ∀ g r1 r2 w', (Below w0.heap.size w0 w' ∧ BlkT w' g (cs r1 r2) 26 ∧ Fit r1 ∧ Fit r2) → Q .normal (fr g r1 r2) w') : c.wp P Q a w :=
  Code.wp_mono (fun e a' w' hh => by obtain ⟨rfl, g, r1, r2, rfl, hb⟩ := NoPanic.imp e a' w' hh; exact k g r1 r2 w' hb) h
theorem bytes_same17 (s : ByteArray) : (s.toList == s.toList) = true := beq_self_eq_true _
theorem flat_at {l : List (ByteArray × ByteArray)} {w : World} {g i : Nat} (h : i < l.length) (hb : BlkT w g (flatR l).toArray 26) : w.cell? ⟨g, i * 2, none⟩ = some (.string (l[i]).1) ∧ w.cell? ⟨g, i * 2 + 1, none⟩ = some (.string (l[i]).2) := by
  obtain ⟨f0, f1⟩ := flat_get h
  have x0 := hb.cell (i * 2)
  have x1 := hb.cell (i * 2 + 1)
  rw [List.getElem?_toArray] at x0 x1
  exact ⟨x0.trans f0, x1.trans f1⟩
theorem row_at (L : List (ByteArray × ByteArray)) (g m : Nat) (hs : ∀ r ∈ L, r.1.size ≤ m ∧ r.2.size ≤ m) {i : Nat} (h : i < L.length) : ∃ n d : ByteArray, n.size ≤ m ∧ d.size ≤ m ∧ ∀ V, BlkT V g (flatR L).toArray 26 → V.cell? ⟨g, i * 2, none⟩ = some (.string n) ∧ V.cell? ⟨g, i * 2 + 1, none⟩ = some (.string d) :=
  ⟨(L[i]).1, (L[i]).2, (hs _ (List.getElem_mem h)).1, (hs _ (List.getElem_mem h)).2, fun _ hk => flat_at h hk⟩
set_option maxRecDepth 100000 in
theorem eq69 (a b c d : Int) (w : World) : (Op.equalIn 10000 69 (.agg #[.int .i64 a, .int .i64 b, .int .i64 c, .int .i64 d]) (.agg #[.int .i64 a, .int .i64 b, .int .i64 c, .int .i64 d])).run Tryz.prog w = .ok true w := by
  obtain ⟨i, hi⟩ : ∃ i, Tryz.prog.info? 30 = some i := Option.isSome_iff_exists.1 (by kernel_rfl)
  have hc : Tryz.prog.cellsOf 30 = 1 := by kernel_rfl
  have hk : Tryz.prog.plainKey 30 = true := by kernel_rfl
  have h := run_equalIn_array (P := Tryz.prog) (w := w) 9999 #[.int .i64 a, .int .i64 b, .int .i64 c, .int .i64 d] #[.int .i64 a, .int .i64 b, .int .i64 c, .int .i64 d] Tryz.underlying69 hi
  rw [hc, show List.range 4 = [0, 1, 2, 3] from rfl] at h
  rw [show (10000 : Nat) = 9999 + 1 from rfl, h]
  have p0 := run_part_plain (P := Tryz.prog) (w := w) hk (xs := #[.int .i64 a, .int .i64 b, .int .i64 c, .int .i64 d]) (off := 0) (v := .int .i64 a) rfl
  have p1 := run_part_plain (P := Tryz.prog) (w := w) hk (xs := #[.int .i64 a, .int .i64 b, .int .i64 c, .int .i64 d]) (off := 1) (v := .int .i64 b) rfl
  have p2 := run_part_plain (P := Tryz.prog) (w := w) hk (xs := #[.int .i64 a, .int .i64 b, .int .i64 c, .int .i64 d]) (off := 2) (v := .int .i64 c) rfl
  have p3 := run_part_plain (P := Tryz.prog) (w := w) hk (xs := #[.int .i64 a, .int .i64 b, .int .i64 c, .int .i64 d]) (off := 3) (v := .int .i64 d) rfl
  have e (x : Int) : (Op.equalIn 9999 30 (.int .i64 x) (.int .i64 x)).run Tryz.prog w = .ok true w := by
    have q := run_equalIn_int (P := Tryz.prog) (w := w) 9998 30 .i64 .i64 x x Tryz.underlying30
    rw [beq_self_eq_true] at q; exact q
  simp [Op.eqItems, p0, p1, p2, p3, e]
theorem eq26 (d : Nat) (a b : ByteArray) (w : World) : (Op.equalIn (d + 2) 26 (.agg #[.string a, .string b]) (.agg #[.string a, .string b])).run Tryz.prog w = .ok true w := by
  have h := run_equalIn_struct (P := Tryz.prog) (w := w) (d + 1) 26 #[.string a, .string b] #[.string a, .string b] (by kernel_rfl) (by kernel_rfl)
  rw [show d + 2 = d + 1 + 1 from rfl, h]
  simp [go_sem, Program.fieldsOf, Tryz.underlying26, Op.eqFields]
set_option maxRecDepth 100000 in
theorem eq68 (a b c d e f g h : ByteArray) (w : World) : (Op.equalIn 10000 68 (.agg #[.string a, .string b, .string c, .string d, .string e, .string f, .string g, .string h]) (.agg #[.string a, .string b, .string c, .string d, .string e, .string f, .string g, .string h])).run Tryz.prog w = .ok true w := by
  obtain ⟨i, hi⟩ : ∃ i, Tryz.prog.info? 26 = some i := Option.isSome_iff_exists.1 (by kernel_rfl)
  have hc : Tryz.prog.cellsOf 26 = 2 := by kernel_rfl
  have hq := run_equalIn_array (P := Tryz.prog) (w := w) 9999 #[.string a, .string b, .string c, .string d, .string e, .string f, .string g, .string h] #[.string a, .string b, .string c, .string d, .string e, .string f, .string g, .string h] Tryz.underlying68 hi
  rw [hc, show List.range 4 = [0, 1, 2, 3] from rfl] at hq
  rw [show (10000 : Nat) = 9999 + 1 from rfl, hq]
  have p0 : (part 26 #[.string a, .string b, .string c, .string d, .string e, .string f, .string g, .string h] 0).run Tryz.prog w = .ok (.agg #[.string a, .string b]) w := by kernel_rfl
  have p1 : (part 26 #[.string a, .string b, .string c, .string d, .string e, .string f, .string g, .string h] 2).run Tryz.prog w = .ok (.agg #[.string c, .string d]) w := by kernel_rfl
  have p2 : (part 26 #[.string a, .string b, .string c, .string d, .string e, .string f, .string g, .string h] 4).run Tryz.prog w = .ok (.agg #[.string e, .string f]) w := by kernel_rfl
  have p3 : (part 26 #[.string a, .string b, .string c, .string d, .string e, .string f, .string g, .string h] 6).run Tryz.prog w = .ok (.agg #[.string g, .string h]) w := by kernel_rfl
  have e (x y : ByteArray) : (Op.equalIn 9999 26 (.agg #[.string x, .string y]) (.agg #[.string x, .string y])).run Tryz.prog w = .ok true w := eq26 9997 x y w
  simp [Op.eqItems, p0, p1, p2, p3, e]
theorem below_from {a b c d : World} (h1 : Below a.heap.size a b) (h2 : Below b.heap.size b c) (h3 : Below c.heap.size c d) : Below a.heap.size a d := by
  have h := h1.trans (h2.mono h1.size)
  exact h.trans (h3.mono h.size)

set_option maxRecDepth 100000 in
set_option maxHeartbeats 16000000 in
theorem law_ref4 (xn xd yn yd : ByteArray) (x0 x1 x2 x3 x4 x5 x6 x7 x8 x9 x10 x11 x12 : Int) (w : World) (he : EnvR w) (s1 : xn.size ≤ 9223372036854775807) (s2 : xd.size ≤ 9223372036854775807) (s3 : yn.size ≤ 9223372036854775807) (s4 : yd.size ≤ 9223372036854775807) (m0 : -9223372036854775808 ≤ x0 ∧ x0 ≤ 9223372036854775807) (m1 : -9223372036854775808 ≤ x1 ∧ x1 ≤ 9223372036854775807) (m2 : -9223372036854775808 ≤ x2 ∧ x2 ≤ 9223372036854775807) (m3 : -9223372036854775808 ≤ x3 ∧ x3 ≤ 9223372036854775807) (m4 : -9223372036854775808 ≤ x4 ∧ x4 ≤ 9223372036854775807) (m5 : -9223372036854775808 ≤ x5 ∧ x5 ≤ 9223372036854775807) (m6 : -9223372036854775808 ≤ x6 ∧ x6 ≤ 9223372036854775807) (m7 : -9223372036854775808 ≤ x7 ∧ x7 ≤ 9223372036854775807) (m8 : -9223372036854775808 ≤ x8 ∧ x8 ≤ 9223372036854775807) (m9 : -9223372036854775808 ≤ x9 ∧ x9 ≤ 9223372036854775807) (m10 : -9223372036854775808 ≤ x10 ∧ x10 ≤ 9223372036854775807) (m11 : -9223372036854775808 ≤ x11 ∧ x11 ≤ 9223372036854775807) (m12 : -9223372036854775808 ≤ x12 ∧ x12 ≤ 9223372036854775807) :
    Calls Tryz.prog 17 #[ratV xn xd, ratV yn yd, .agg #[.int .i64 x0, .int .i64 x1, .int .i64 x2, .int .i64 x3], .agg #[.int .i64 x4, .int .i64 x5, .int .i64 x6, .int .i64 x7], .agg #[.int .i64 x8, .int .i64 x9], .int .i64 x10, .int .i64 x11, .int .i64 x12] w fun e w' => e = .returned (.bool true) ∧ Below w.heap.size w w' := by
  have HE := Lib.hid he
  clear he
  have CX := Lib.hid (fun V => cut56 xn xd V s1 s2)
  have CY := Lib.hid (fun V => cut56 yn yd V s3 s4)
  clear s1 s2 s3 s4
  have zxn := cutB_size 210 xn
  generalize cutB 210 xn = cxn at *
  have zxd := cutB_size 210 xd
  generalize cutB 210 xd = cxd at *
  have zyn := cutB_size 210 yn
  generalize cutB 210 yn = cyn at *
  have zyd := cutB_size 210 yd
  generalize cutB 210 yd = cyd at *
  have LG0 := Lib.hid (fun V => long21 x0 x1 x2 x3 V m0.1 m0.2 m1.1 m1.2 m2.1 m2.2 m3.1 m3.2)
  have LG1 := Lib.hid (fun V => long21 x4 x5 x6 x7 V m4.1 m4.2 m5.1 m5.2 m6.1 m6.2 m7.1 m7.2)
  have SM := Lib.hid (fun V => small22 x8 x9 V m8.1 m8.2 m9.1 m9.2)
  have fs := small_fitF x8 x9
  generalize smallF x8 x9 = rs at *
  have M10 := Lib.hid m10; have M11 := Lib.hid m11; have M12 := Lib.hid m12
  clear m0 m1 m2 m3 m4 m5 m6 m7 m8 m9 m10 m11 m12
  obtain ⟨W0, hW0⟩ : ∃ W, ((((w.alloc (.cells #[.string xn, .string xd] 26)).alloc (.cells #[.string yn, .string yd] 26)).alloc (.cells #[.int .i64 x0, .int .i64 x1, .int .i64 x2, .int .i64 x3] 22)).alloc (.cells #[.int .i64 x4, .int .i64 x5, .int .i64 x6, .int .i64 x7] 22)).alloc (.cells #[.int .i64 x8, .int .i64 x9] 23) = W := ⟨_, rfl⟩
  have b0 : BlkT W0 (w.heap.size) #[(.string xn), (.string xd)] 26 := hW0 ▸ (((((BlkT.newAt w _ _ rfl).alloc _).alloc _).alloc _).alloc _)
  have b1 : BlkT W0 (w.heap.size + 1) #[(.string yn), (.string yd)] 26 := hW0 ▸ ((((BlkT.newAt _ _ _ (by simp)).alloc _).alloc _).alloc _)
  have b2 : BlkT W0 (w.heap.size + 1 + 1) #[(.int .i64 x0), (.int .i64 x1), (.int .i64 x2), (.int .i64 x3)] 22 := hW0 ▸ (((BlkT.newAt _ _ _ (by simp)).alloc _).alloc _)
  have b3 : BlkT W0 (w.heap.size + 1 + 1 + 1) #[(.int .i64 x4), (.int .i64 x5), (.int .i64 x6), (.int .i64 x7)] 22 := hW0 ▸ ((BlkT.newAt _ _ _ (by simp)).alloc _)
  have b4 : BlkT W0 (w.heap.size + 1 + 1 + 1 + 1) #[(.int .i64 x8), (.int .i64 x9)] 23 := hW0 ▸ (BlkT.newAt _ _ _ (by simp))
  have hBw0 : Below w.heap.size w W0 := hW0 ▸ (((((Below.refl _ _).alloc (Nat.le_refl _) _).alloc (by simp) _).alloc (by simp; omega) _).alloc (by simp; omega) _).alloc (by simp; omega) _
  have same := bytes_same17
  go_enter Tryz.func17, Tryz.ntmps17
  go_wp2_with (simp only [hW0])
  refine (sane04 _ (HE.out.below hBw0)).mono ?_
  rintro r V1 ⟨rfl, hb1⟩
  have hB1 := hBw0.trans (hb1.mono hBw0.size)
  have b0 := BlkT.keep b0 hb1
  have b1 := BlkT.keep b1 hb1
  have b2 := BlkT.keep b2 hb1
  have b3 := BlkT.keep b3 hb1
  have b4 := BlkT.keep b4 hb1
  have b0c0 := b0.cell 0
  have b0c1 := b0.cell 1
  simp only [List.getElem?_toArray, List.getElem?_cons_succ, List.getElem?_cons_zero] at b0c0 b0c1
  go_wp2_with fail
  refine (CX.out _).mono ?_
  rintro r V2 ⟨rfl, hb2⟩
  have hB2 := hB1.trans (hb2.mono hB1.size)
  clear b0c0 b0c1
  have b0 := BlkT.keep b0 hb2
  have b1 := BlkT.keep b1 hb2
  have b2 := BlkT.keep b2 hb2
  have b3 := BlkT.keep b3 hb2
  have b4 := BlkT.keep b4 hb2
  have b0c0 := b0.cell 0
  have b0c1 := b0.cell 1
  simp only [List.getElem?_toArray, List.getElem?_cons_succ, List.getElem?_cons_zero] at b0c0 b0c1
  have b0f0 := b0.frozen 0
  have b0f1 := b0.frozen 1
  go_upto_region 3 with (fail)
  clear b0c0 b0c1 b0f0 b0f1
  have b0 : BlkT ((V2.setCell ⟨w.heap.size, 0, none⟩ (.string cxn)).setCell ⟨w.heap.size, 1, none⟩ (.string cxd)) (w.heap.size) #[(.string cxn), (.string cxd)] 26 := ((b0.set 0 (.string cxn)).set 1 (.string cxd))
  have b1 : BlkT ((V2.setCell ⟨w.heap.size, 0, none⟩ (.string cxn)).setCell ⟨w.heap.size, 1, none⟩ (.string cxd)) (w.heap.size + 1) #[(.string yn), (.string yd)] 26 := ((b1.other (a := ⟨w.heap.size, 0, none⟩) (.string cxn) (by dsimp only; omega)).other (a := ⟨w.heap.size, 1, none⟩) (.string cxd) (by dsimp only; omega))
  have b2 : BlkT ((V2.setCell ⟨w.heap.size, 0, none⟩ (.string cxn)).setCell ⟨w.heap.size, 1, none⟩ (.string cxd)) (w.heap.size + 1 + 1) #[(.int .i64 x0), (.int .i64 x1), (.int .i64 x2), (.int .i64 x3)] 22 := ((b2.other (a := ⟨w.heap.size, 0, none⟩) (.string cxn) (by dsimp only; omega)).other (a := ⟨w.heap.size, 1, none⟩) (.string cxd) (by dsimp only; omega))
  have b3 : BlkT ((V2.setCell ⟨w.heap.size, 0, none⟩ (.string cxn)).setCell ⟨w.heap.size, 1, none⟩ (.string cxd)) (w.heap.size + 1 + 1 + 1) #[(.int .i64 x4), (.int .i64 x5), (.int .i64 x6), (.int .i64 x7)] 22 := ((b3.other (a := ⟨w.heap.size, 0, none⟩) (.string cxn) (by dsimp only; omega)).other (a := ⟨w.heap.size, 1, none⟩) (.string cxd) (by dsimp only; omega))
  have b4 : BlkT ((V2.setCell ⟨w.heap.size, 0, none⟩ (.string cxn)).setCell ⟨w.heap.size, 1, none⟩ (.string cxd)) (w.heap.size + 1 + 1 + 1 + 1) #[(.int .i64 x8), (.int .i64 x9)] 23 := ((b4.other (a := ⟨w.heap.size, 0, none⟩) (.string cxn) (by dsimp only; omega)).other (a := ⟨w.heap.size, 1, none⟩) (.string cxd) (by dsimp only; omega))
  have hBu2 : Below w.heap.size w ((V2.setCell ⟨w.heap.size, 0, none⟩ (.string cxn)).setCell ⟨w.heap.size, 1, none⟩ (.string cxd)) := ((hB2.setCell (by dsimp only; omega) _).setCell (by dsimp only; omega) _)
  generalize ((V2.setCell ⟨w.heap.size, 0, none⟩ (.string cxn)).setCell ⟨w.heap.size, 1, none⟩ (.string cxd)) = U2 at *
  have b1c0 := b1.cell 0
  have b1c1 := b1.cell 1
  simp only [List.getElem?_toArray, List.getElem?_cons_succ, List.getElem?_cons_zero] at b1c0 b1c1
  go_wp2_with fail
  refine (CY.out _).mono ?_
  rintro r V3 ⟨rfl, hb3⟩
  have hB3 := hBu2.trans (hb3.mono hBu2.size)
  clear b1c0 b1c1
  have b0 := BlkT.keep b0 hb3
  have b1 := BlkT.keep b1 hb3
  have b2 := BlkT.keep b2 hb3
  have b3 := BlkT.keep b3 hb3
  have b4 := BlkT.keep b4 hb3
  have b1c0 := b1.cell 0
  have b1c1 := b1.cell 1
  simp only [List.getElem?_toArray, List.getElem?_cons_succ, List.getElem?_cons_zero] at b1c0 b1c1
  have b1f0 := b1.frozen 0
  have b1f1 := b1.frozen 1
  go_upto_region 4 with (fail)
  clear b1c0 b1c1 b1f0 b1f1
  have b0 : BlkT ((V3.setCell ⟨w.heap.size + 1, 0, none⟩ (.string cyn)).setCell ⟨w.heap.size + 1, 1, none⟩ (.string cyd)) (w.heap.size) #[(.string cxn), (.string cxd)] 26 := ((b0.other (a := ⟨w.heap.size + 1, 0, none⟩) (.string cyn) (by dsimp only; omega)).other (a := ⟨w.heap.size + 1, 1, none⟩) (.string cyd) (by dsimp only; omega))
  have b1 : BlkT ((V3.setCell ⟨w.heap.size + 1, 0, none⟩ (.string cyn)).setCell ⟨w.heap.size + 1, 1, none⟩ (.string cyd)) (w.heap.size + 1) #[(.string cyn), (.string cyd)] 26 := ((b1.set 0 (.string cyn)).set 1 (.string cyd))
  have b2 : BlkT ((V3.setCell ⟨w.heap.size + 1, 0, none⟩ (.string cyn)).setCell ⟨w.heap.size + 1, 1, none⟩ (.string cyd)) (w.heap.size + 1 + 1) #[(.int .i64 x0), (.int .i64 x1), (.int .i64 x2), (.int .i64 x3)] 22 := ((b2.other (a := ⟨w.heap.size + 1, 0, none⟩) (.string cyn) (by dsimp only; omega)).other (a := ⟨w.heap.size + 1, 1, none⟩) (.string cyd) (by dsimp only; omega))
  have b3 : BlkT ((V3.setCell ⟨w.heap.size + 1, 0, none⟩ (.string cyn)).setCell ⟨w.heap.size + 1, 1, none⟩ (.string cyd)) (w.heap.size + 1 + 1 + 1) #[(.int .i64 x4), (.int .i64 x5), (.int .i64 x6), (.int .i64 x7)] 22 := ((b3.other (a := ⟨w.heap.size + 1, 0, none⟩) (.string cyn) (by dsimp only; omega)).other (a := ⟨w.heap.size + 1, 1, none⟩) (.string cyd) (by dsimp only; omega))
  have b4 : BlkT ((V3.setCell ⟨w.heap.size + 1, 0, none⟩ (.string cyn)).setCell ⟨w.heap.size + 1, 1, none⟩ (.string cyd)) (w.heap.size + 1 + 1 + 1 + 1) #[(.int .i64 x8), (.int .i64 x9)] 23 := ((b4.other (a := ⟨w.heap.size + 1, 0, none⟩) (.string cyn) (by dsimp only; omega)).other (a := ⟨w.heap.size + 1, 1, none⟩) (.string cyd) (by dsimp only; omega))
  have hBu3 : Below w.heap.size w ((V3.setCell ⟨w.heap.size + 1, 0, none⟩ (.string cyn)).setCell ⟨w.heap.size + 1, 1, none⟩ (.string cyd)) := ((hB3.setCell (by dsimp only; omega) _).setCell (by dsimp only; omega) _)
  generalize ((V3.setCell ⟨w.heap.size + 1, 0, none⟩ (.string cyn)).setCell ⟨w.heap.size + 1, 1, none⟩ (.string cyd)) = U3 at *
  have HKS : Hid (∀ w', Below U3.heap.size U3 w' → w'.cell? ⟨w.heap.size, 0, none⟩ = some (.string cxn) ∧ w'.cell? ⟨w.heap.size, 1, none⟩ = some (.string cxd) ∧ w'.cell? ⟨w.heap.size + 1, 0, none⟩ = some (.string cyn) ∧ w'.cell? ⟨w.heap.size + 1, 1, none⟩ = some (.string cyd) ∧ w'.cell? ⟨w.heap.size + 1 + 1, 0, none⟩ = some (.int .i64 x0) ∧ w'.cell? ⟨w.heap.size + 1 + 1, 1, none⟩ = some (.int .i64 x1) ∧ w'.cell? ⟨w.heap.size + 1 + 1, 2, none⟩ = some (.int .i64 x2) ∧ w'.cell? ⟨w.heap.size + 1 + 1, 3, none⟩ = some (.int .i64 x3) ∧ w'.cell? ⟨w.heap.size + 1 + 1 + 1, 0, none⟩ = some (.int .i64 x4) ∧ w'.cell? ⟨w.heap.size + 1 + 1 + 1, 1, none⟩ = some (.int .i64 x5) ∧ w'.cell? ⟨w.heap.size + 1 + 1 + 1, 2, none⟩ = some (.int .i64 x6) ∧ w'.cell? ⟨w.heap.size + 1 + 1 + 1, 3, none⟩ = some (.int .i64 x7) ∧ w'.cell? ⟨w.heap.size + 1 + 1 + 1 + 1, 0, none⟩ = some (.int .i64 x8) ∧ w'.cell? ⟨w.heap.size + 1 + 1 + 1 + 1, 1, none⟩ = some (.int .i64 x9)) := Lib.hid (fun V hV => (And.intro ((BlkT.keep b0 hV).cell 0) (And.intro ((BlkT.keep b0 hV).cell 1) (And.intro ((BlkT.keep b1 hV).cell 0) (And.intro ((BlkT.keep b1 hV).cell 1) (And.intro ((BlkT.keep b2 hV).cell 0) (And.intro ((BlkT.keep b2 hV).cell 1) (And.intro ((BlkT.keep b2 hV).cell 2) (And.intro ((BlkT.keep b2 hV).cell 3) (And.intro ((BlkT.keep b3 hV).cell 0) (And.intro ((BlkT.keep b3 hV).cell 1) (And.intro ((BlkT.keep b3 hV).cell 2) (And.intro ((BlkT.keep b3 hV).cell 3) (And.intro ((BlkT.keep b4 hV).cell 0) ((BlkT.keep b4 hV).cell 1)))))))))))))))
  apply wp_suchL (w0 := U3) (fun r1 r2 => #[.string cxn, .string cxd, .string cyn, .string cyd, .string (strR r1).1, .string (strR r1).2, .string (strR r2).1, .string (strR r2).2, .string (strR rs).1, .string (strR rs).2])
  · refine wp_region_noPanic ?_
    refine wp_region_held_drew (S := (fun w' => Below U3.heap.size U3 w' ∧ w'.cell? ⟨w.heap.size, 0, none⟩ = some (.string cxn) ∧ w'.cell? ⟨w.heap.size, 1, none⟩ = some (.string cxd) ∧ w'.cell? ⟨w.heap.size + 1, 0, none⟩ = some (.string cyn) ∧ w'.cell? ⟨w.heap.size + 1, 1, none⟩ = some (.string cyd) ∧ w'.cell? ⟨w.heap.size + 1 + 1, 0, none⟩ = some (.int .i64 x0) ∧ w'.cell? ⟨w.heap.size + 1 + 1, 1, none⟩ = some (.int .i64 x1) ∧ w'.cell? ⟨w.heap.size + 1 + 1, 2, none⟩ = some (.int .i64 x2) ∧ w'.cell? ⟨w.heap.size + 1 + 1, 3, none⟩ = some (.int .i64 x3) ∧ w'.cell? ⟨w.heap.size + 1 + 1 + 1, 0, none⟩ = some (.int .i64 x4) ∧ w'.cell? ⟨w.heap.size + 1 + 1 + 1, 1, none⟩ = some (.int .i64 x5) ∧ w'.cell? ⟨w.heap.size + 1 + 1 + 1, 2, none⟩ = some (.int .i64 x6) ∧ w'.cell? ⟨w.heap.size + 1 + 1 + 1, 3, none⟩ = some (.int .i64 x7) ∧ w'.cell? ⟨w.heap.size + 1 + 1 + 1 + 1, 0, none⟩ = some (.int .i64 x8) ∧ w'.cell? ⟨w.heap.size + 1 + 1 + 1 + 1, 1, none⟩ = some (.int .i64 x9))) (by kernel_rfl) ⟨(Below.refl _ _).drew, HKS.out _ (Below.refl _ _).drew⟩ (fun hHeld => ?_)
    refine wpAnyH_take (i := 0) (oi := { dst := some 50, op := Op.load 26 (Operand.tmp 8), type := 26, pos := "law.go:65", after := #[], guard := none }) (v := ?_) rfl (by kernel_rfl) (by kernel_rfl) (by kernel_rfl) (fun _ _ _ h => h) (Or.inl ⟨by kernel_rfl, ?_⟩) (by assumption) ?_
    rotate_left
    · intro w hSw
      (try dsimp only at hSw)
      go_simp
      all_goals (with_reducible rfl)
    (try simp only [Act.put, List.setIfInBounds_toArray, List.set_cons_zero, List.set_cons_succ])
    refine wpAnyH_take (i := 1) (oi := { dst := some 51, op := Op.load 26 (Operand.tmp 9), type := 26, pos := "law.go:65", after := #[], guard := none }) (v := ?_) rfl (by kernel_rfl) (by kernel_rfl) (by kernel_rfl) (fun _ _ _ h => h) (Or.inl ⟨by kernel_rfl, ?_⟩) (by assumption) ?_
    rotate_left
    · intro w hSw
      (try dsimp only at hSw)
      go_simp
      all_goals (with_reducible rfl)
    (try simp only [Act.put, List.setIfInBounds_toArray, List.set_cons_zero, List.set_cons_succ])
    refine wpAnyH_take (i := 2) (oi := { dst := some 52, op := Op.load 22 (Operand.tmp 10), type := 22, pos := "law.go:65", after := #[], guard := none }) (v := ?_) rfl (by kernel_rfl) (by kernel_rfl) (by kernel_rfl) (fun _ _ _ h => h) (Or.inl ⟨by kernel_rfl, ?_⟩) (by assumption) ?_
    rotate_left
    · intro w hSw
      (try dsimp only at hSw)
      go_simp
      all_goals (with_reducible rfl)
    (try simp only [Act.put, List.setIfInBounds_toArray, List.set_cons_zero, List.set_cons_succ])
    refine wpAnyH_take (i := 4) (oi := { dst := some 54, op := Op.load 22 (Operand.tmp 11), type := 22, pos := "law.go:65", after := #[], guard := none }) (v := ?_) rfl (by kernel_rfl) (by kernel_rfl) (by kernel_rfl) (fun _ _ _ h => h) (Or.inl ⟨by kernel_rfl, ?_⟩) (by assumption) ?_
    rotate_left
    · intro w hSw
      (try dsimp only at hSw)
      go_simp
      all_goals (with_reducible rfl)
    (try simp only [Act.put, List.setIfInBounds_toArray, List.set_cons_zero, List.set_cons_succ])
    refine wpAnyH_take (i := 6) (oi := { dst := some 56, op := Op.load 23 (Operand.tmp 12), type := 23, pos := "law.go:65", after := #[], guard := none }) (v := ?_) rfl (by kernel_rfl) (by kernel_rfl) (by kernel_rfl) (fun _ _ _ h => h) (Or.inl ⟨by kernel_rfl, ?_⟩) (by assumption) ?_
    rotate_left
    · intro w hSw
      (try dsimp only at hSw)
      go_simp
      all_goals (with_reducible rfl)
    (try simp only [Act.put, List.setIfInBounds_toArray, List.set_cons_zero, List.set_cons_succ])
    refine wpAnyH_one1 (i := 3) (o := { dst := some 53, op := Op.call { callee := Callee.value (Operand.func 21), args := #[Operand.tmp 52], argTypes := #[22] }, type := 26, pos := "law.go:65", after := #[{ on := 2, ground := Ground.data }], guard := none }) (by kernel_rfl) rfl (fun K hK => ?_)
    go_simp
    go_at_call 21
    refine (LG0.out _).mono ?_
    rintro r wq1 ⟨ra, rfl, raf, ran, rad, hBq⟩
    have hbq := hHeld.1.trans (hBq.mono hHeld.1.size)
    refine hK.out _ _ ?_ (fun hHeld2 => ?_)
    · exact ⟨hbq, HKS.out _ hbq⟩
    clear hHeld hbq hBq
    have hHeld := hHeld2
    clear hHeld2
    clear hK K
    (try simp only [Act.put, List.setIfInBounds_toArray, List.set_cons_zero, List.set_cons_succ])
    refine wpAnyH_one1 (i := 5) (o := { dst := some 55, op := Op.call { callee := Callee.value (Operand.func 21), args := #[Operand.tmp 54], argTypes := #[22] }, type := 26, pos := "law.go:65", after := #[{ on := 4, ground := Ground.data }, { on := 3, ground := Ground.chain }], guard := none }) (by kernel_rfl) rfl (fun K hK => ?_)
    go_simp
    go_at_call 21
    refine (LG1.out _).mono ?_
    rintro r wq2 ⟨rb, rfl, rbf, rbn, rbd, hBq⟩
    have hbq := hHeld.1.trans (hBq.mono hHeld.1.size)
    refine hK.out _ _ ?_ (fun hHeld2 => ?_)
    · exact ⟨hbq, HKS.out _ hbq⟩
    clear hHeld hbq hBq
    have hHeld := hHeld2
    clear hHeld2
    clear hK K
    (try simp only [Act.put, List.setIfInBounds_toArray, List.set_cons_zero, List.set_cons_succ])
    refine wpAnyH_one1 (i := 7) (o := { dst := some 57, op := Op.call { callee := Callee.value (Operand.func 22), args := #[Operand.tmp 56], argTypes := #[23] }, type := 26, pos := "law.go:65", after := #[{ on := 6, ground := Ground.data }, { on := 5, ground := Ground.chain }], guard := none }) (by kernel_rfl) rfl (fun K hK => ?_)
    go_simp
    go_at_call 22
    refine (SM.out _).mono ?_
    rintro r wq3 ⟨rfl, hBq⟩
    have hbq := hHeld.1.trans (hBq.mono hHeld.1.size)
    refine hK.out _ _ ?_ (fun hHeld2 => ?_)
    · exact ⟨hbq, HKS.out _ hbq⟩
    clear hHeld hbq hBq
    have hHeld := hHeld2
    clear hHeld2
    clear hK K
    (try simp only [Act.put, List.setIfInBounds_toArray, List.set_cons_zero, List.set_cons_succ])
    refine wpAnyH_one1 (i := 8) (o := { dst := some 58, op := Op.buildSlice 58 5 #[(0, Operand.tmp 50), (1, Operand.tmp 51), (2, Operand.tmp 53), (3, Operand.tmp 55), (4, Operand.tmp 57)], type := 58, pos := "law.go:65", after := #[{ on := 0, ground := Ground.data }, { on := 1, ground := Ground.data }, { on := 3, ground := Ground.data }, { on := 5, ground := Ground.data }, { on := 7, ground := Ground.data }], guard := none }) (by kernel_rfl) rfl (fun K hK => ?_)
    go_simp
    refine hK.out _ _ ?_ (fun hHeld2 => ?_)
    · exact ⟨hHeld.1.alloc hHeld.1.size _, HKS.out _ (hHeld.1.alloc hHeld.1.size _)⟩
    clear hHeld
    have hHeld := hHeld2
    clear hHeld2
    clear hK K
    (try simp only [Act.put, List.setIfInBounds_toArray, List.set_cons_zero, List.set_cons_succ])
    refine wpAnyH_take (i := 9) (oi := { dst := some 18, op := Op.assign (Operand.tmp 58), type := 58, pos := "law.go:65", after := #[{ on := 8, ground := Ground.data }, { on := 7, ground := Ground.chain }, { on := 0, ground := Ground.phase }, { on := 1, ground := Ground.phase }, { on := 2, ground := Ground.phase }, { on := 3, ground := Ground.phase }, { on := 4, ground := Ground.phase }, { on := 5, ground := Ground.phase }, { on := 6, ground := Ground.phase }, { on := 7, ground := Ground.phase }, { on := 8, ground := Ground.phase }], guard := none }) (v := ?_) rfl (by kernel_rfl) (by kernel_rfl) (by kernel_rfl) (fun _ _ _ h => h) (Or.inl ⟨by kernel_rfl, ?_⟩) (by assumption) ?_
    rotate_left
    · intro w hSw
      (try dsimp only at hSw)
      go_simp
      all_goals (with_reducible rfl)
    (try simp only [Act.put, List.setIfInBounds_toArray, List.set_cons_zero, List.set_cons_succ])
    refine wpAnyH_done (by kernel_rfl) ?_ _
    refine NoPanic.normal ?_
    refine NoPanic.normal ?_
    have hz : BlkT (wq3.alloc (.cells #[.string cxn, .string cxd, .string cyn, .string cyd, .string (strR ra).1, .string (strR ra).2, .string (strR rb).1, .string (strR rb).2, .string (strR rs).1, .string (strR rs).2] 26)) wq3.heap.size #[.string cxn, .string cxd, .string cyn, .string cyd, .string (strR ra).1, .string (strR ra).2, .string (strR rb).1, .string (strR rb).2, .string (strR rs).1, .string (strR rs).2] 26 := BlkT.newAt _ _ _ rfl
    have hh := hHeld.1
    obtain ⟨gx, hgx⟩ : ∃ g, wq3.heap.size = g := ⟨_, rfl⟩
    rw [hgx] at hz
    rw [hgx]
    exact ⟨rfl, gx, ra, rb, rfl, hh, hz, raf, rbf⟩
  rintro g4 ra rb W4 ⟨hbw4, kl, raf, rbf⟩
  clear HKS
  have hBw4 := hBu3.trans (hbw4.mono hBu3.size)
  dsimp only [strR] at kl ⊢
  have zr1 := S_size raf.num; have zr2 := S_size raf.den; have zr3 := S_size rbf.num; have zr4 := S_size rbf.den; have zr5 := S_size fs.num; have zr6 := S_size fs.den
  clear raf rbf fs b0 b1 b2 b3 b4 CX CY LG0 LG1 SM
  generalize N3.S ra.1 = lan at *
  generalize N3.S ra.2 = lad at *
  generalize N3.S rb.1 = lbn at *
  generalize N3.S rb.2 = lbd at *
  generalize N3.S rs.1 = lsn at *
  generalize N3.S rs.2 = lsd at *
  obtain ⟨L, hL⟩ : ∃ L : List (ByteArray × ByteArray), L = [(cxn, cxd), (cyn, cyd), (lan, lad), (lbn, lbd), (lsn, lsd)] := ⟨_, rfl⟩
  have hlen : L.length = 5 := by rw [hL]; rfl
  have hsz : ∀ r ∈ L, r.1.size ≤ 300 ∧ r.2.size ≤ 300 := by
    rw [hL]
    intro r hr
    simp only [List.mem_cons, List.not_mem_nil, or_false] at hr
    rcases hr with rfl | rfl | rfl | rfl | rfl
    · exact ⟨by show cxn.size ≤ 300; omega, by show cxd.size ≤ 300; omega⟩
    · exact ⟨by show cyn.size ≤ 300; omega, by show cyd.size ≤ 300; omega⟩
    · exact ⟨zr1, zr2⟩
    · exact ⟨zr3, zr4⟩
    · exact ⟨zr5, zr6⟩
  have KL : Hid (BlkT W4 g4 (flatR L).toArray 26) := Lib.hid (by rw [hL]; exact kl)
  clear kl hL zr1 zr2 zr3 zr4 zr5 zr6 zxn zxd zyn zyd
  have HL := Lib.hid hlen; have HS := Lib.hid hsz
  clear hlen hsz
  have HE' := Lib.hid (HE.out.below hBw4)
  clear HE
  have HE := HE'
  clear HE'
  have M := M10; have hki0 : (0 : Int) ≤ 0 ∧ (0 : Int) < 5 := by omega
  clear M
  obtain ⟨n0, d0, zn0, zd0, F0'⟩ := row_at L g4 300 HS.out (i := 0) (by have := HL.out; omega)
  have F0 : Hid (∀ V, BlkT V g4 (flatR L).toArray 26 → V.cell? ⟨g4, 1, none⟩ = some (.string d0)) := Lib.hid (fun V hk => (F0' V hk).2)
  clear F0' zn0
  go_wp2_with fail
  go_loopw [19, 20, 21, 22, 23, 24, 25, 26, 28, 29, 30, 31, 32, 33, 34, 35, 36, 37, 38, 39, 40, 139] (fun u19 _ _ _ _ _ _ _ _ _ _ _ _ _ _ _ _ _ _ _ _ _ wr => ∃ i : Nat, i ≤ 5 ∧ u19 = .int .i64 (i : Int) ∧ Below W4.heap.size W4 wr) (fun u19 _ _ _ _ _ _ _ _ _ _ _ _ _ _ _ _ _ _ _ _ _ _ => (5 - Go.RowKit.intOf u19).toNat)
  case atStart => exact ⟨0, Nat.zero_le _, rfl, Below.refl _ _⟩
  case round =>
    rename World => V5
    obtain ⟨i, hi, rfl, hb5⟩ := hrel
    have hB5 := hb5
    have kl := BlkT.keep KL.out hb5
    clear KL
    by_cases hlt : i < 5
    · have hki : (0 : Int) ≤ (i : Int) ∧ (i : Int) < 5 := by omega
      have hki2 : decide ((i : Int) < 5) = true := decide_eq_true hki.2
      have hwi : IntKind.i64.wrap ((i : Int) + 1) = ((i + 1 : Nat) : Int) := by rw [IntKind.wrap_i64]; omega
      have hiL : i < L.length := by have := HL.out; omega
      obtain ⟨an, ad, za1, za2, FI'⟩ := row_at L g4 300 HS.out hiL
      have FI := Lib.hid FI'
      clear FI' hiL
      have HE5 := Lib.hid (HE.out.below hB5)
      go_wp2_with fail
      go_loopw [20, 21, 22, 23, 24, 25, 26] (fun u20 _ _ _ _ _ _ wr => ∃ k : Nat, k ≤ 5 ∧ u20 = .int .i64 (k : Int) ∧ Below V5.heap.size V5 wr) (fun u20 _ _ _ _ _ _ _ => (5 - Go.RowKit.intOf u20).toNat)
      case atStart => exact ⟨0, Nat.zero_le _, rfl, Below.refl _ _⟩
      case round =>
        rename World => V6
        obtain ⟨k, hk, rfl, hb6⟩ := hrel
        have hB6 := hb6
        have kl := BlkT.keep kl hb6
        by_cases hlk : k < 5
        · have hkk : (0 : Int) ≤ (k : Int) ∧ (k : Int) < 5 := by omega
          have hkk2 : decide ((k : Int) < 5) = true := decide_eq_true hkk.2
          have hwk : IntKind.i64.wrap ((k : Int) + 1) = ((k + 1 : Nat) : Int) := by rw [IntKind.wrap_i64]; omega
          have hkL : k < L.length := by have := HL.out; omega
          obtain ⟨bn, bd, zb1, zb2, FK'⟩ := row_at L g4 300 HS.out hkL
          have FK := Lib.hid FK'
          clear FK' hkL
          have A4 := Lib.hid (fun V (hV : EnvR V) => four64 an ad bn bd V (by omega) (by omega) (by omega) (by omega) hV.env)
          have R0 := Lib.hid (fun V => add65 an ad bn bd V (by omega) (by omega) (by omega) (by omega))
          have R1 := Lib.hid (fun V => sub66 an ad bn bd V (by omega) (by omega) (by omega) (by omega))
          have R2 := Lib.hid (fun V => mul67 an ad bn bd V (by omega) (by omega) (by omega) (by omega))
          have R3 := Lib.hid (fun V => div68 an ad bn bd V (by omega) (by omega) (by omega) (by omega))
          have C1 := Lib.hid (fun V (hV : EnvR V) => compare04 an ad bn bd V (by omega) (by omega) (by omega) (by omega) hV.env)
          have C2 := Lib.hid (fun V => compare69 an ad bn bd V (by omega) (by omega) (by omega) (by omega))
          simp only [valR_parts] at R0 R1 R2 R3
          clear zb1 zb2
          generalize fstR (sumR N3.addO an ad bn bd) = p0 at *
          generalize sndR (sumR N3.addO an ad bn bd) = q0 at *
          generalize errR (sumR N3.addO an ad bn bd) = e0 at *
          generalize fstR (sumR N3.subO an ad bn bd) = p1 at *
          generalize sndR (sumR N3.subO an ad bn bd) = q1 at *
          generalize errR (sumR N3.subO an ad bn bd) = e1 at *
          generalize fstR (mulR an ad bn bd) = p2 at *
          generalize sndR (mulR an ad bn bd) = q2 at *
          generalize errR (mulR an ad bn bd) = e2 at *
          generalize fstR (divR an ad bn bd) = p3 at *
          generalize sndR (divR an ad bn bd) = q3 at *
          generalize errR (divR an ad bn bd) = e3 at *
          generalize cmpR an ad bn bd = cv at *
          obtain ⟨x0, x1⟩ := FI.out _ kl
          go_upto_region 12 with (fail)
          have lklk21 := Lib.hid kl.lt
          generalize hW6 : World.alloc V6 _ = W6
          have hw6 : Below V6.heap.size V6 W6 := hW6 ▸ (Below.refl _ _).alloc (Nat.le_refl _) _
          have hBw6 := hB6.trans (hw6.mono hB6.size)
          have kl := BlkT.keep kl hw6
          have k21 : BlkT W6 V6.heap.size #[(.string an), (.string ad)] 26 := hW6 ▸ BlkT.newAt _ _ _ rfl
          clear hW6
          clear x0 x1
          obtain ⟨x0, x1⟩ := FK.out _ kl
          go_upto_region 13 with (fail)
          have lklk22 := Lib.hid kl.lt
          have lk21k22 := Lib.hid k21.lt
          generalize hW7 : World.alloc W6 _ = W7
          have hw7 : Below W6.heap.size W6 W7 := hW7 ▸ (Below.refl _ _).alloc (Nat.le_refl _) _
          have hBw7 := hBw6.trans (hw7.mono hBw6.size)
          have kl := BlkT.keep kl hw7
          have k21 := BlkT.keep k21 hw7
          have k22 : BlkT W7 W6.heap.size #[(.string bn), (.string bd)] 26 := hW7 ▸ BlkT.newAt _ _ _ rfl
          clear hW7
          clear x0 x1
          have k21c0 := k21.cell 0
          have k21c1 := k21.cell 1
          have k22c0 := k22.cell 0
          have k22c1 := k22.cell 1
          simp only [List.getElem?_toArray, List.getElem?_cons_succ, List.getElem?_cons_zero] at k21c0 k21c1 k22c0 k22c1
          go_wp2_with fail
          refine (A4.out _ (HE5.out.below hBw7)).mono ?_
          rintro r V9 ⟨rfl, hb9⟩
          have hB9 := hBw7.trans (hb9.mono hBw7.size)
          clear k21c0 k21c1 k22c0 k22c1
          have kl := BlkT.keep kl hb9
          have k21 := BlkT.keep k21 hb9
          have k22 := BlkT.keep k22 hb9
          go_upto_region 14 with (fail)
          generalize hW9 : World.alloc (World.alloc V9 _) _ = W9
          have hw9 : Below V9.heap.size V9 W9 := hW9 ▸ ((Below.refl _ _).alloc (Nat.le_refl _) _).alloc (by simp) _
          have hBw9 := hB9.trans (hw9.mono hB9.size)
          have kl := BlkT.keep kl hw9
          have k21 := BlkT.keep k21 hw9
          have k22 := BlkT.keep k22 hw9
          have r23 : BlkT W9 (V9.heap.size) #[(.string p0), (.string q0), (.string p1), (.string q1), (.string p2), (.string q2), (.string p3), (.string q3)] 68 := hW9 ▸ (BlkT.newAt _ _ _ rfl).alloc _
          have r24 : BlkT W9 (V9.heap.size + 1) #[(.int .i64 e0), (.int .i64 e1), (.int .i64 e2), (.int .i64 e3)] 69 := hW9 ▸ BlkT.newAt _ _ _ (by simp)
          clear hW9
          go_upto_region 15 with (fail)
          have lklr25 := Lib.hid kl.lt
          have lk21r25 := Lib.hid k21.lt
          have lk22r25 := Lib.hid k22.lt
          have lr23r25 := Lib.hid r23.lt
          have lr24r25 := Lib.hid r24.lt
          generalize hW10 : World.alloc W9 _ = W10
          have hw10 : Below W9.heap.size W9 W10 := hW10 ▸ (Below.refl _ _).alloc (Nat.le_refl _) _
          have hBw10 := hBw9.trans (hw10.mono hBw9.size)
          have kl := BlkT.keep kl hw10
          have k21 := BlkT.keep k21 hw10
          have k22 := BlkT.keep k22 hw10
          have r23 := BlkT.keep r23 hw10
          have r24 := BlkT.keep r24 hw10
          have r25 : BlkT W10 W9.heap.size #[(.string ⟨#[]⟩), (.string ⟨#[]⟩), (.string ⟨#[]⟩), (.string ⟨#[]⟩), (.string ⟨#[]⟩), (.string ⟨#[]⟩), (.string ⟨#[]⟩), (.string ⟨#[]⟩)] 68 := hW10 ▸ BlkT.newAt _ _ _ rfl
          clear hW10
          go_upto_region 16 with (fail)
          have lklr26 := Lib.hid kl.lt
          have lk21r26 := Lib.hid k21.lt
          have lk22r26 := Lib.hid k22.lt
          have lr23r26 := Lib.hid r23.lt
          have lr24r26 := Lib.hid r24.lt
          have lr25r26 := Lib.hid r25.lt
          generalize hW11 : World.alloc W10 _ = W11
          have hw11 : Below W10.heap.size W10 W11 := hW11 ▸ (Below.refl _ _).alloc (Nat.le_refl _) _
          have hBw11 := hBw10.trans (hw11.mono hBw10.size)
          have kl := BlkT.keep kl hw11
          have k21 := BlkT.keep k21 hw11
          have k22 := BlkT.keep k22 hw11
          have r23 := BlkT.keep r23 hw11
          have r24 := BlkT.keep r24 hw11
          have r25 := BlkT.keep r25 hw11
          have r26 : BlkT W11 W10.heap.size #[(.int .i64 0), (.int .i64 0), (.int .i64 0), (.int .i64 0)] 69 := hW11 ▸ BlkT.newAt _ _ _ rfl
          clear hW11
          have nn1 : W9.heap.size ≠ W10.heap.size := Nat.ne_of_lt lr25r26.out
          have nn2 : W10.heap.size ≠ W9.heap.size := Nat.ne_of_gt lr25r26.out
          have k21c0 := k21.cell 0
          have k21c1 := k21.cell 1
          have k22c0 := k22.cell 0
          have k22c1 := k22.cell 1
          simp only [List.getElem?_toArray, List.getElem?_cons_succ, List.getElem?_cons_zero] at k21c0 k21c1 k22c0 k22c1
          go_wp2_with fail
          refine (R0.out _).mono ?_
          rintro r V13 ⟨rfl, hb13⟩
          have hB13 := hBw11.trans (hb13.mono hBw11.size)
          clear k21c0 k21c1 k22c0 k22c1
          have kl := BlkT.keep kl hb13
          have k21 := BlkT.keep k21 hb13
          have k22 := BlkT.keep k22 hb13
          have r23 := BlkT.keep r23 hb13
          have r24 := BlkT.keep r24 hb13
          have r25 := BlkT.keep r25 hb13
          have r26 := BlkT.keep r26 hb13
          have r25c0 := r25.cell 0
          have r25c1 := r25.cell 1
          have r26c0 := r26.cell 0
          simp only [List.getElem?_toArray, List.getElem?_cons_succ, List.getElem?_cons_zero] at r25c0 r25c1 r26c0
          have r25f0 := r25.frozen 0
          have r25f1 := r25.frozen 1
          have r26f0 := r26.frozen 0
          go_upto_region 17 with (fail)
          clear r25c0 r25c1 r26c0 r25f0 r25f1 r26f0
          have kl : BlkT (((V13.setCell ⟨W9.heap.size, 0, none⟩ (.string p0)).setCell ⟨W9.heap.size, 1, none⟩ (.string q0)).setCell ⟨W10.heap.size, 0, none⟩ (.int .i64 e0)) (g4) (flatR L).toArray 26 := (((kl.other (a := ⟨W9.heap.size, 0, none⟩) (.string p0) (Nat.ne_of_lt lklr25.out)).other (a := ⟨W9.heap.size, 1, none⟩) (.string q0) (Nat.ne_of_lt lklr25.out)).other (a := ⟨W10.heap.size, 0, none⟩) (.int .i64 e0) (Nat.ne_of_lt lklr26.out))
          have k21 : BlkT (((V13.setCell ⟨W9.heap.size, 0, none⟩ (.string p0)).setCell ⟨W9.heap.size, 1, none⟩ (.string q0)).setCell ⟨W10.heap.size, 0, none⟩ (.int .i64 e0)) (V6.heap.size) #[(.string an), (.string ad)] 26 := (((k21.other (a := ⟨W9.heap.size, 0, none⟩) (.string p0) (Nat.ne_of_lt lk21r25.out)).other (a := ⟨W9.heap.size, 1, none⟩) (.string q0) (Nat.ne_of_lt lk21r25.out)).other (a := ⟨W10.heap.size, 0, none⟩) (.int .i64 e0) (Nat.ne_of_lt lk21r26.out))
          have k22 : BlkT (((V13.setCell ⟨W9.heap.size, 0, none⟩ (.string p0)).setCell ⟨W9.heap.size, 1, none⟩ (.string q0)).setCell ⟨W10.heap.size, 0, none⟩ (.int .i64 e0)) (W6.heap.size) #[(.string bn), (.string bd)] 26 := (((k22.other (a := ⟨W9.heap.size, 0, none⟩) (.string p0) (Nat.ne_of_lt lk22r25.out)).other (a := ⟨W9.heap.size, 1, none⟩) (.string q0) (Nat.ne_of_lt lk22r25.out)).other (a := ⟨W10.heap.size, 0, none⟩) (.int .i64 e0) (Nat.ne_of_lt lk22r26.out))
          have r23 : BlkT (((V13.setCell ⟨W9.heap.size, 0, none⟩ (.string p0)).setCell ⟨W9.heap.size, 1, none⟩ (.string q0)).setCell ⟨W10.heap.size, 0, none⟩ (.int .i64 e0)) (V9.heap.size) #[(.string p0), (.string q0), (.string p1), (.string q1), (.string p2), (.string q2), (.string p3), (.string q3)] 68 := (((r23.other (a := ⟨W9.heap.size, 0, none⟩) (.string p0) (Nat.ne_of_lt lr23r25.out)).other (a := ⟨W9.heap.size, 1, none⟩) (.string q0) (Nat.ne_of_lt lr23r25.out)).other (a := ⟨W10.heap.size, 0, none⟩) (.int .i64 e0) (Nat.ne_of_lt lr23r26.out))
          have r24 : BlkT (((V13.setCell ⟨W9.heap.size, 0, none⟩ (.string p0)).setCell ⟨W9.heap.size, 1, none⟩ (.string q0)).setCell ⟨W10.heap.size, 0, none⟩ (.int .i64 e0)) (V9.heap.size + 1) #[(.int .i64 e0), (.int .i64 e1), (.int .i64 e2), (.int .i64 e3)] 69 := (((r24.other (a := ⟨W9.heap.size, 0, none⟩) (.string p0) (Nat.ne_of_lt lr24r25.out)).other (a := ⟨W9.heap.size, 1, none⟩) (.string q0) (Nat.ne_of_lt lr24r25.out)).other (a := ⟨W10.heap.size, 0, none⟩) (.int .i64 e0) (Nat.ne_of_lt lr24r26.out))
          have r25 : BlkT (((V13.setCell ⟨W9.heap.size, 0, none⟩ (.string p0)).setCell ⟨W9.heap.size, 1, none⟩ (.string q0)).setCell ⟨W10.heap.size, 0, none⟩ (.int .i64 e0)) (W9.heap.size) #[(.string p0), (.string q0), (.string ⟨#[]⟩), (.string ⟨#[]⟩), (.string ⟨#[]⟩), (.string ⟨#[]⟩), (.string ⟨#[]⟩), (.string ⟨#[]⟩)] 68 := (((r25.set 0 (.string p0)).set 1 (.string q0)).other (a := ⟨W10.heap.size, 0, none⟩) (.int .i64 e0) (Nat.ne_of_lt lr25r26.out))
          have r26 : BlkT (((V13.setCell ⟨W9.heap.size, 0, none⟩ (.string p0)).setCell ⟨W9.heap.size, 1, none⟩ (.string q0)).setCell ⟨W10.heap.size, 0, none⟩ (.int .i64 e0)) (W10.heap.size) #[(.int .i64 e0), (.int .i64 0), (.int .i64 0), (.int .i64 0)] 69 := (((r26.other (a := ⟨W9.heap.size, 0, none⟩) (.string p0) (Nat.ne_of_gt lr25r26.out)).other (a := ⟨W9.heap.size, 1, none⟩) (.string q0) (Nat.ne_of_gt lr25r26.out)).set 0 (.int .i64 e0))
          have hBu13 : Below V5.heap.size V5 (((V13.setCell ⟨W9.heap.size, 0, none⟩ (.string p0)).setCell ⟨W9.heap.size, 1, none⟩ (.string q0)).setCell ⟨W10.heap.size, 0, none⟩ (.int .i64 e0)) := (((hB13.setCell hBw9.size _).setCell hBw9.size _).setCell hBw10.size _)
          generalize (((V13.setCell ⟨W9.heap.size, 0, none⟩ (.string p0)).setCell ⟨W9.heap.size, 1, none⟩ (.string q0)).setCell ⟨W10.heap.size, 0, none⟩ (.int .i64 e0)) = U13 at *
          have k21c0 := k21.cell 0
          have k21c1 := k21.cell 1
          have k22c0 := k22.cell 0
          have k22c1 := k22.cell 1
          simp only [List.getElem?_toArray, List.getElem?_cons_succ, List.getElem?_cons_zero] at k21c0 k21c1 k22c0 k22c1
          go_wp2_with fail
          refine (R1.out _).mono ?_
          rintro r V14 ⟨rfl, hb14⟩
          have hB14 := hBu13.trans (hb14.mono hBu13.size)
          clear k21c0 k21c1 k22c0 k22c1
          have kl := BlkT.keep kl hb14
          have k21 := BlkT.keep k21 hb14
          have k22 := BlkT.keep k22 hb14
          have r23 := BlkT.keep r23 hb14
          have r24 := BlkT.keep r24 hb14
          have r25 := BlkT.keep r25 hb14
          have r26 := BlkT.keep r26 hb14
          have r25c2 := r25.cell 2
          have r25c3 := r25.cell 3
          have r26c1 := r26.cell 1
          simp only [List.getElem?_toArray, List.getElem?_cons_succ, List.getElem?_cons_zero] at r25c2 r25c3 r26c1
          have r25f2 := r25.frozen 2
          have r25f3 := r25.frozen 3
          have r26f1 := r26.frozen 1
          go_upto_region 18 with (fail)
          clear r25c2 r25c3 r26c1 r25f2 r25f3 r26f1
          have kl : BlkT (((V14.setCell ⟨W9.heap.size, 2, none⟩ (.string p1)).setCell ⟨W9.heap.size, 3, none⟩ (.string q1)).setCell ⟨W10.heap.size, 1, none⟩ (.int .i64 e1)) (g4) (flatR L).toArray 26 := (((kl.other (a := ⟨W9.heap.size, 2, none⟩) (.string p1) (Nat.ne_of_lt lklr25.out)).other (a := ⟨W9.heap.size, 3, none⟩) (.string q1) (Nat.ne_of_lt lklr25.out)).other (a := ⟨W10.heap.size, 1, none⟩) (.int .i64 e1) (Nat.ne_of_lt lklr26.out))
          have k21 : BlkT (((V14.setCell ⟨W9.heap.size, 2, none⟩ (.string p1)).setCell ⟨W9.heap.size, 3, none⟩ (.string q1)).setCell ⟨W10.heap.size, 1, none⟩ (.int .i64 e1)) (V6.heap.size) #[(.string an), (.string ad)] 26 := (((k21.other (a := ⟨W9.heap.size, 2, none⟩) (.string p1) (Nat.ne_of_lt lk21r25.out)).other (a := ⟨W9.heap.size, 3, none⟩) (.string q1) (Nat.ne_of_lt lk21r25.out)).other (a := ⟨W10.heap.size, 1, none⟩) (.int .i64 e1) (Nat.ne_of_lt lk21r26.out))
          have k22 : BlkT (((V14.setCell ⟨W9.heap.size, 2, none⟩ (.string p1)).setCell ⟨W9.heap.size, 3, none⟩ (.string q1)).setCell ⟨W10.heap.size, 1, none⟩ (.int .i64 e1)) (W6.heap.size) #[(.string bn), (.string bd)] 26 := (((k22.other (a := ⟨W9.heap.size, 2, none⟩) (.string p1) (Nat.ne_of_lt lk22r25.out)).other (a := ⟨W9.heap.size, 3, none⟩) (.string q1) (Nat.ne_of_lt lk22r25.out)).other (a := ⟨W10.heap.size, 1, none⟩) (.int .i64 e1) (Nat.ne_of_lt lk22r26.out))
          have r23 : BlkT (((V14.setCell ⟨W9.heap.size, 2, none⟩ (.string p1)).setCell ⟨W9.heap.size, 3, none⟩ (.string q1)).setCell ⟨W10.heap.size, 1, none⟩ (.int .i64 e1)) (V9.heap.size) #[(.string p0), (.string q0), (.string p1), (.string q1), (.string p2), (.string q2), (.string p3), (.string q3)] 68 := (((r23.other (a := ⟨W9.heap.size, 2, none⟩) (.string p1) (Nat.ne_of_lt lr23r25.out)).other (a := ⟨W9.heap.size, 3, none⟩) (.string q1) (Nat.ne_of_lt lr23r25.out)).other (a := ⟨W10.heap.size, 1, none⟩) (.int .i64 e1) (Nat.ne_of_lt lr23r26.out))
          have r24 : BlkT (((V14.setCell ⟨W9.heap.size, 2, none⟩ (.string p1)).setCell ⟨W9.heap.size, 3, none⟩ (.string q1)).setCell ⟨W10.heap.size, 1, none⟩ (.int .i64 e1)) (V9.heap.size + 1) #[(.int .i64 e0), (.int .i64 e1), (.int .i64 e2), (.int .i64 e3)] 69 := (((r24.other (a := ⟨W9.heap.size, 2, none⟩) (.string p1) (Nat.ne_of_lt lr24r25.out)).other (a := ⟨W9.heap.size, 3, none⟩) (.string q1) (Nat.ne_of_lt lr24r25.out)).other (a := ⟨W10.heap.size, 1, none⟩) (.int .i64 e1) (Nat.ne_of_lt lr24r26.out))
          have r25 : BlkT (((V14.setCell ⟨W9.heap.size, 2, none⟩ (.string p1)).setCell ⟨W9.heap.size, 3, none⟩ (.string q1)).setCell ⟨W10.heap.size, 1, none⟩ (.int .i64 e1)) (W9.heap.size) #[(.string p0), (.string q0), (.string p1), (.string q1), (.string ⟨#[]⟩), (.string ⟨#[]⟩), (.string ⟨#[]⟩), (.string ⟨#[]⟩)] 68 := (((r25.set 2 (.string p1)).set 3 (.string q1)).other (a := ⟨W10.heap.size, 1, none⟩) (.int .i64 e1) (Nat.ne_of_lt lr25r26.out))
          have r26 : BlkT (((V14.setCell ⟨W9.heap.size, 2, none⟩ (.string p1)).setCell ⟨W9.heap.size, 3, none⟩ (.string q1)).setCell ⟨W10.heap.size, 1, none⟩ (.int .i64 e1)) (W10.heap.size) #[(.int .i64 e0), (.int .i64 e1), (.int .i64 0), (.int .i64 0)] 69 := (((r26.other (a := ⟨W9.heap.size, 2, none⟩) (.string p1) (Nat.ne_of_gt lr25r26.out)).other (a := ⟨W9.heap.size, 3, none⟩) (.string q1) (Nat.ne_of_gt lr25r26.out)).set 1 (.int .i64 e1))
          have hBu14 : Below V5.heap.size V5 (((V14.setCell ⟨W9.heap.size, 2, none⟩ (.string p1)).setCell ⟨W9.heap.size, 3, none⟩ (.string q1)).setCell ⟨W10.heap.size, 1, none⟩ (.int .i64 e1)) := (((hB14.setCell hBw9.size _).setCell hBw9.size _).setCell hBw10.size _)
          generalize (((V14.setCell ⟨W9.heap.size, 2, none⟩ (.string p1)).setCell ⟨W9.heap.size, 3, none⟩ (.string q1)).setCell ⟨W10.heap.size, 1, none⟩ (.int .i64 e1)) = U14 at *
          have k21c0 := k21.cell 0
          have k21c1 := k21.cell 1
          have k22c0 := k22.cell 0
          have k22c1 := k22.cell 1
          simp only [List.getElem?_toArray, List.getElem?_cons_succ, List.getElem?_cons_zero] at k21c0 k21c1 k22c0 k22c1
          go_wp2_with fail
          refine (R2.out _).mono ?_
          rintro r V15 ⟨rfl, hb15⟩
          have hB15 := hBu14.trans (hb15.mono hBu14.size)
          clear k21c0 k21c1 k22c0 k22c1
          have kl := BlkT.keep kl hb15
          have k21 := BlkT.keep k21 hb15
          have k22 := BlkT.keep k22 hb15
          have r23 := BlkT.keep r23 hb15
          have r24 := BlkT.keep r24 hb15
          have r25 := BlkT.keep r25 hb15
          have r26 := BlkT.keep r26 hb15
          have r25c4 := r25.cell 4
          have r25c5 := r25.cell 5
          have r26c2 := r26.cell 2
          simp only [List.getElem?_toArray, List.getElem?_cons_succ, List.getElem?_cons_zero] at r25c4 r25c5 r26c2
          have r25f4 := r25.frozen 4
          have r25f5 := r25.frozen 5
          have r26f2 := r26.frozen 2
          go_upto_region 19 with (fail)
          clear r25c4 r25c5 r26c2 r25f4 r25f5 r26f2
          have kl : BlkT (((V15.setCell ⟨W9.heap.size, 4, none⟩ (.string p2)).setCell ⟨W9.heap.size, 5, none⟩ (.string q2)).setCell ⟨W10.heap.size, 2, none⟩ (.int .i64 e2)) (g4) (flatR L).toArray 26 := (((kl.other (a := ⟨W9.heap.size, 4, none⟩) (.string p2) (Nat.ne_of_lt lklr25.out)).other (a := ⟨W9.heap.size, 5, none⟩) (.string q2) (Nat.ne_of_lt lklr25.out)).other (a := ⟨W10.heap.size, 2, none⟩) (.int .i64 e2) (Nat.ne_of_lt lklr26.out))
          have k21 : BlkT (((V15.setCell ⟨W9.heap.size, 4, none⟩ (.string p2)).setCell ⟨W9.heap.size, 5, none⟩ (.string q2)).setCell ⟨W10.heap.size, 2, none⟩ (.int .i64 e2)) (V6.heap.size) #[(.string an), (.string ad)] 26 := (((k21.other (a := ⟨W9.heap.size, 4, none⟩) (.string p2) (Nat.ne_of_lt lk21r25.out)).other (a := ⟨W9.heap.size, 5, none⟩) (.string q2) (Nat.ne_of_lt lk21r25.out)).other (a := ⟨W10.heap.size, 2, none⟩) (.int .i64 e2) (Nat.ne_of_lt lk21r26.out))
          have k22 : BlkT (((V15.setCell ⟨W9.heap.size, 4, none⟩ (.string p2)).setCell ⟨W9.heap.size, 5, none⟩ (.string q2)).setCell ⟨W10.heap.size, 2, none⟩ (.int .i64 e2)) (W6.heap.size) #[(.string bn), (.string bd)] 26 := (((k22.other (a := ⟨W9.heap.size, 4, none⟩) (.string p2) (Nat.ne_of_lt lk22r25.out)).other (a := ⟨W9.heap.size, 5, none⟩) (.string q2) (Nat.ne_of_lt lk22r25.out)).other (a := ⟨W10.heap.size, 2, none⟩) (.int .i64 e2) (Nat.ne_of_lt lk22r26.out))
          have r23 : BlkT (((V15.setCell ⟨W9.heap.size, 4, none⟩ (.string p2)).setCell ⟨W9.heap.size, 5, none⟩ (.string q2)).setCell ⟨W10.heap.size, 2, none⟩ (.int .i64 e2)) (V9.heap.size) #[(.string p0), (.string q0), (.string p1), (.string q1), (.string p2), (.string q2), (.string p3), (.string q3)] 68 := (((r23.other (a := ⟨W9.heap.size, 4, none⟩) (.string p2) (Nat.ne_of_lt lr23r25.out)).other (a := ⟨W9.heap.size, 5, none⟩) (.string q2) (Nat.ne_of_lt lr23r25.out)).other (a := ⟨W10.heap.size, 2, none⟩) (.int .i64 e2) (Nat.ne_of_lt lr23r26.out))
          have r24 : BlkT (((V15.setCell ⟨W9.heap.size, 4, none⟩ (.string p2)).setCell ⟨W9.heap.size, 5, none⟩ (.string q2)).setCell ⟨W10.heap.size, 2, none⟩ (.int .i64 e2)) (V9.heap.size + 1) #[(.int .i64 e0), (.int .i64 e1), (.int .i64 e2), (.int .i64 e3)] 69 := (((r24.other (a := ⟨W9.heap.size, 4, none⟩) (.string p2) (Nat.ne_of_lt lr24r25.out)).other (a := ⟨W9.heap.size, 5, none⟩) (.string q2) (Nat.ne_of_lt lr24r25.out)).other (a := ⟨W10.heap.size, 2, none⟩) (.int .i64 e2) (Nat.ne_of_lt lr24r26.out))
          have r25 : BlkT (((V15.setCell ⟨W9.heap.size, 4, none⟩ (.string p2)).setCell ⟨W9.heap.size, 5, none⟩ (.string q2)).setCell ⟨W10.heap.size, 2, none⟩ (.int .i64 e2)) (W9.heap.size) #[(.string p0), (.string q0), (.string p1), (.string q1), (.string p2), (.string q2), (.string ⟨#[]⟩), (.string ⟨#[]⟩)] 68 := (((r25.set 4 (.string p2)).set 5 (.string q2)).other (a := ⟨W10.heap.size, 2, none⟩) (.int .i64 e2) (Nat.ne_of_lt lr25r26.out))
          have r26 : BlkT (((V15.setCell ⟨W9.heap.size, 4, none⟩ (.string p2)).setCell ⟨W9.heap.size, 5, none⟩ (.string q2)).setCell ⟨W10.heap.size, 2, none⟩ (.int .i64 e2)) (W10.heap.size) #[(.int .i64 e0), (.int .i64 e1), (.int .i64 e2), (.int .i64 0)] 69 := (((r26.other (a := ⟨W9.heap.size, 4, none⟩) (.string p2) (Nat.ne_of_gt lr25r26.out)).other (a := ⟨W9.heap.size, 5, none⟩) (.string q2) (Nat.ne_of_gt lr25r26.out)).set 2 (.int .i64 e2))
          have hBu15 : Below V5.heap.size V5 (((V15.setCell ⟨W9.heap.size, 4, none⟩ (.string p2)).setCell ⟨W9.heap.size, 5, none⟩ (.string q2)).setCell ⟨W10.heap.size, 2, none⟩ (.int .i64 e2)) := (((hB15.setCell hBw9.size _).setCell hBw9.size _).setCell hBw10.size _)
          generalize (((V15.setCell ⟨W9.heap.size, 4, none⟩ (.string p2)).setCell ⟨W9.heap.size, 5, none⟩ (.string q2)).setCell ⟨W10.heap.size, 2, none⟩ (.int .i64 e2)) = U15 at *
          have k21c0 := k21.cell 0
          have k21c1 := k21.cell 1
          have k22c0 := k22.cell 0
          have k22c1 := k22.cell 1
          simp only [List.getElem?_toArray, List.getElem?_cons_succ, List.getElem?_cons_zero] at k21c0 k21c1 k22c0 k22c1
          go_wp2_with fail
          refine (R3.out _).mono ?_
          rintro r V16 ⟨rfl, hb16⟩
          have hB16 := hBu15.trans (hb16.mono hBu15.size)
          clear k21c0 k21c1 k22c0 k22c1
          have kl := BlkT.keep kl hb16
          have k21 := BlkT.keep k21 hb16
          have k22 := BlkT.keep k22 hb16
          have r23 := BlkT.keep r23 hb16
          have r24 := BlkT.keep r24 hb16
          have r25 := BlkT.keep r25 hb16
          have r26 := BlkT.keep r26 hb16
          have r25c6 := r25.cell 6
          have r25c7 := r25.cell 7
          have r26c3 := r26.cell 3
          simp only [List.getElem?_toArray, List.getElem?_cons_succ, List.getElem?_cons_zero] at r25c6 r25c7 r26c3
          have r25f6 := r25.frozen 6
          have r25f7 := r25.frozen 7
          have r26f3 := r26.frozen 3
          go_upto_region 20 with (fail)
          clear r25c6 r25c7 r26c3 r25f6 r25f7 r26f3
          have kl : BlkT (((V16.setCell ⟨W9.heap.size, 6, none⟩ (.string p3)).setCell ⟨W9.heap.size, 7, none⟩ (.string q3)).setCell ⟨W10.heap.size, 3, none⟩ (.int .i64 e3)) (g4) (flatR L).toArray 26 := (((kl.other (a := ⟨W9.heap.size, 6, none⟩) (.string p3) (Nat.ne_of_lt lklr25.out)).other (a := ⟨W9.heap.size, 7, none⟩) (.string q3) (Nat.ne_of_lt lklr25.out)).other (a := ⟨W10.heap.size, 3, none⟩) (.int .i64 e3) (Nat.ne_of_lt lklr26.out))
          have k21 : BlkT (((V16.setCell ⟨W9.heap.size, 6, none⟩ (.string p3)).setCell ⟨W9.heap.size, 7, none⟩ (.string q3)).setCell ⟨W10.heap.size, 3, none⟩ (.int .i64 e3)) (V6.heap.size) #[(.string an), (.string ad)] 26 := (((k21.other (a := ⟨W9.heap.size, 6, none⟩) (.string p3) (Nat.ne_of_lt lk21r25.out)).other (a := ⟨W9.heap.size, 7, none⟩) (.string q3) (Nat.ne_of_lt lk21r25.out)).other (a := ⟨W10.heap.size, 3, none⟩) (.int .i64 e3) (Nat.ne_of_lt lk21r26.out))
          have k22 : BlkT (((V16.setCell ⟨W9.heap.size, 6, none⟩ (.string p3)).setCell ⟨W9.heap.size, 7, none⟩ (.string q3)).setCell ⟨W10.heap.size, 3, none⟩ (.int .i64 e3)) (W6.heap.size) #[(.string bn), (.string bd)] 26 := (((k22.other (a := ⟨W9.heap.size, 6, none⟩) (.string p3) (Nat.ne_of_lt lk22r25.out)).other (a := ⟨W9.heap.size, 7, none⟩) (.string q3) (Nat.ne_of_lt lk22r25.out)).other (a := ⟨W10.heap.size, 3, none⟩) (.int .i64 e3) (Nat.ne_of_lt lk22r26.out))
          have r23 : BlkT (((V16.setCell ⟨W9.heap.size, 6, none⟩ (.string p3)).setCell ⟨W9.heap.size, 7, none⟩ (.string q3)).setCell ⟨W10.heap.size, 3, none⟩ (.int .i64 e3)) (V9.heap.size) #[(.string p0), (.string q0), (.string p1), (.string q1), (.string p2), (.string q2), (.string p3), (.string q3)] 68 := (((r23.other (a := ⟨W9.heap.size, 6, none⟩) (.string p3) (Nat.ne_of_lt lr23r25.out)).other (a := ⟨W9.heap.size, 7, none⟩) (.string q3) (Nat.ne_of_lt lr23r25.out)).other (a := ⟨W10.heap.size, 3, none⟩) (.int .i64 e3) (Nat.ne_of_lt lr23r26.out))
          have r24 : BlkT (((V16.setCell ⟨W9.heap.size, 6, none⟩ (.string p3)).setCell ⟨W9.heap.size, 7, none⟩ (.string q3)).setCell ⟨W10.heap.size, 3, none⟩ (.int .i64 e3)) (V9.heap.size + 1) #[(.int .i64 e0), (.int .i64 e1), (.int .i64 e2), (.int .i64 e3)] 69 := (((r24.other (a := ⟨W9.heap.size, 6, none⟩) (.string p3) (Nat.ne_of_lt lr24r25.out)).other (a := ⟨W9.heap.size, 7, none⟩) (.string q3) (Nat.ne_of_lt lr24r25.out)).other (a := ⟨W10.heap.size, 3, none⟩) (.int .i64 e3) (Nat.ne_of_lt lr24r26.out))
          have r25 : BlkT (((V16.setCell ⟨W9.heap.size, 6, none⟩ (.string p3)).setCell ⟨W9.heap.size, 7, none⟩ (.string q3)).setCell ⟨W10.heap.size, 3, none⟩ (.int .i64 e3)) (W9.heap.size) #[(.string p0), (.string q0), (.string p1), (.string q1), (.string p2), (.string q2), (.string p3), (.string q3)] 68 := (((r25.set 6 (.string p3)).set 7 (.string q3)).other (a := ⟨W10.heap.size, 3, none⟩) (.int .i64 e3) (Nat.ne_of_lt lr25r26.out))
          have r26 : BlkT (((V16.setCell ⟨W9.heap.size, 6, none⟩ (.string p3)).setCell ⟨W9.heap.size, 7, none⟩ (.string q3)).setCell ⟨W10.heap.size, 3, none⟩ (.int .i64 e3)) (W10.heap.size) #[(.int .i64 e0), (.int .i64 e1), (.int .i64 e2), (.int .i64 e3)] 69 := (((r26.other (a := ⟨W9.heap.size, 6, none⟩) (.string p3) (Nat.ne_of_gt lr25r26.out)).other (a := ⟨W9.heap.size, 7, none⟩) (.string q3) (Nat.ne_of_gt lr25r26.out)).set 3 (.int .i64 e3))
          have hBu16 : Below V5.heap.size V5 (((V16.setCell ⟨W9.heap.size, 6, none⟩ (.string p3)).setCell ⟨W9.heap.size, 7, none⟩ (.string q3)).setCell ⟨W10.heap.size, 3, none⟩ (.int .i64 e3)) := (((hB16.setCell hBw9.size _).setCell hBw9.size _).setCell hBw10.size _)
          generalize (((V16.setCell ⟨W9.heap.size, 6, none⟩ (.string p3)).setCell ⟨W9.heap.size, 7, none⟩ (.string q3)).setCell ⟨W10.heap.size, 3, none⟩ (.int .i64 e3)) = U16 at *
          have HKS : Hid (∀ w', Below U16.heap.size U16 w' → w'.cell? ⟨V6.heap.size, 0, none⟩ = some (.string an) ∧ w'.cell? ⟨V6.heap.size, 1, none⟩ = some (.string ad) ∧ w'.cell? ⟨W6.heap.size, 0, none⟩ = some (.string bn) ∧ w'.cell? ⟨W6.heap.size, 1, none⟩ = some (.string bd) ∧ w'.cell? ⟨V9.heap.size, 0, none⟩ = some (.string p0) ∧ w'.cell? ⟨V9.heap.size, 1, none⟩ = some (.string q0) ∧ w'.cell? ⟨V9.heap.size, 2, none⟩ = some (.string p1) ∧ w'.cell? ⟨V9.heap.size, 3, none⟩ = some (.string q1) ∧ w'.cell? ⟨V9.heap.size, 4, none⟩ = some (.string p2) ∧ w'.cell? ⟨V9.heap.size, 5, none⟩ = some (.string q2) ∧ w'.cell? ⟨V9.heap.size, 6, none⟩ = some (.string p3) ∧ w'.cell? ⟨V9.heap.size, 7, none⟩ = some (.string q3) ∧ w'.cell? ⟨V9.heap.size + 1, 0, none⟩ = some (.int .i64 e0) ∧ w'.cell? ⟨V9.heap.size + 1, 1, none⟩ = some (.int .i64 e1) ∧ w'.cell? ⟨V9.heap.size + 1, 2, none⟩ = some (.int .i64 e2) ∧ w'.cell? ⟨V9.heap.size + 1, 3, none⟩ = some (.int .i64 e3) ∧ w'.cell? ⟨W9.heap.size, 0, none⟩ = some (.string p0) ∧ w'.cell? ⟨W9.heap.size, 1, none⟩ = some (.string q0) ∧ w'.cell? ⟨W9.heap.size, 2, none⟩ = some (.string p1) ∧ w'.cell? ⟨W9.heap.size, 3, none⟩ = some (.string q1) ∧ w'.cell? ⟨W9.heap.size, 4, none⟩ = some (.string p2) ∧ w'.cell? ⟨W9.heap.size, 5, none⟩ = some (.string q2) ∧ w'.cell? ⟨W9.heap.size, 6, none⟩ = some (.string p3) ∧ w'.cell? ⟨W9.heap.size, 7, none⟩ = some (.string q3) ∧ w'.cell? ⟨W10.heap.size, 0, none⟩ = some (.int .i64 e0) ∧ w'.cell? ⟨W10.heap.size, 1, none⟩ = some (.int .i64 e1) ∧ w'.cell? ⟨W10.heap.size, 2, none⟩ = some (.int .i64 e2) ∧ w'.cell? ⟨W10.heap.size, 3, none⟩ = some (.int .i64 e3)) := Lib.hid (fun V hV => (And.intro ((BlkT.keep k21 hV).cell 0) (And.intro ((BlkT.keep k21 hV).cell 1) (And.intro ((BlkT.keep k22 hV).cell 0) (And.intro ((BlkT.keep k22 hV).cell 1) (And.intro ((BlkT.keep r23 hV).cell 0) (And.intro ((BlkT.keep r23 hV).cell 1) (And.intro ((BlkT.keep r23 hV).cell 2) (And.intro ((BlkT.keep r23 hV).cell 3) (And.intro ((BlkT.keep r23 hV).cell 4) (And.intro ((BlkT.keep r23 hV).cell 5) (And.intro ((BlkT.keep r23 hV).cell 6) (And.intro ((BlkT.keep r23 hV).cell 7) (And.intro ((BlkT.keep r24 hV).cell 0) (And.intro ((BlkT.keep r24 hV).cell 1) (And.intro ((BlkT.keep r24 hV).cell 2) (And.intro ((BlkT.keep r24 hV).cell 3) (And.intro ((BlkT.keep r25 hV).cell 0) (And.intro ((BlkT.keep r25 hV).cell 1) (And.intro ((BlkT.keep r25 hV).cell 2) (And.intro ((BlkT.keep r25 hV).cell 3) (And.intro ((BlkT.keep r25 hV).cell 4) (And.intro ((BlkT.keep r25 hV).cell 5) (And.intro ((BlkT.keep r25 hV).cell 6) (And.intro ((BlkT.keep r25 hV).cell 7) (And.intro ((BlkT.keep r26 hV).cell 0) (And.intro ((BlkT.keep r26 hV).cell 1) (And.intro ((BlkT.keep r26 hV).cell 2) ((BlkT.keep r26 hV).cell 3)))))))))))))))))))))))))))))
          have h68 := fun W : World => eq68 p0 q0 p1 q1 p2 q2 p3 q3 W
          have h69 := fun W : World => eq69 e0 e1 e2 e3 W
          clear k21 k22 r23 r24 r25 r26
          go_wp2_with fail
          refine wp_region_noPanic ?_
          refine wp_region_held_drew (S := (fun w' => Below U16.heap.size U16 w' ∧ w'.cell? ⟨V6.heap.size, 0, none⟩ = some (.string an) ∧ w'.cell? ⟨V6.heap.size, 1, none⟩ = some (.string ad) ∧ w'.cell? ⟨W6.heap.size, 0, none⟩ = some (.string bn) ∧ w'.cell? ⟨W6.heap.size, 1, none⟩ = some (.string bd) ∧ w'.cell? ⟨V9.heap.size, 0, none⟩ = some (.string p0) ∧ w'.cell? ⟨V9.heap.size, 1, none⟩ = some (.string q0) ∧ w'.cell? ⟨V9.heap.size, 2, none⟩ = some (.string p1) ∧ w'.cell? ⟨V9.heap.size, 3, none⟩ = some (.string q1) ∧ w'.cell? ⟨V9.heap.size, 4, none⟩ = some (.string p2) ∧ w'.cell? ⟨V9.heap.size, 5, none⟩ = some (.string q2) ∧ w'.cell? ⟨V9.heap.size, 6, none⟩ = some (.string p3) ∧ w'.cell? ⟨V9.heap.size, 7, none⟩ = some (.string q3) ∧ w'.cell? ⟨V9.heap.size + 1, 0, none⟩ = some (.int .i64 e0) ∧ w'.cell? ⟨V9.heap.size + 1, 1, none⟩ = some (.int .i64 e1) ∧ w'.cell? ⟨V9.heap.size + 1, 2, none⟩ = some (.int .i64 e2) ∧ w'.cell? ⟨V9.heap.size + 1, 3, none⟩ = some (.int .i64 e3) ∧ w'.cell? ⟨W9.heap.size, 0, none⟩ = some (.string p0) ∧ w'.cell? ⟨W9.heap.size, 1, none⟩ = some (.string q0) ∧ w'.cell? ⟨W9.heap.size, 2, none⟩ = some (.string p1) ∧ w'.cell? ⟨W9.heap.size, 3, none⟩ = some (.string q1) ∧ w'.cell? ⟨W9.heap.size, 4, none⟩ = some (.string p2) ∧ w'.cell? ⟨W9.heap.size, 5, none⟩ = some (.string q2) ∧ w'.cell? ⟨W9.heap.size, 6, none⟩ = some (.string p3) ∧ w'.cell? ⟨W9.heap.size, 7, none⟩ = some (.string q3) ∧ w'.cell? ⟨W10.heap.size, 0, none⟩ = some (.int .i64 e0) ∧ w'.cell? ⟨W10.heap.size, 1, none⟩ = some (.int .i64 e1) ∧ w'.cell? ⟨W10.heap.size, 2, none⟩ = some (.int .i64 e2) ∧ w'.cell? ⟨W10.heap.size, 3, none⟩ = some (.int .i64 e3))) (by kernel_rfl) ⟨(Below.refl _ _).drew, HKS.out _ (Below.refl _ _).drew⟩ (fun hHeld => ?_)
          refine wpAnyH_take (i := 0) (oi := { dst := some 117, op := Op.load 68 (Operand.tmp 23), type := 68, pos := "law.go:77", after := #[], guard := none }) (v := ?_) rfl (by kernel_rfl) (by kernel_rfl) (by kernel_rfl) (fun _ _ _ h => h) (Or.inl ⟨by kernel_rfl, ?_⟩) (by assumption) ?_
          rotate_left
          · intro w hSw
            (try dsimp only at hSw)
            go_simp
            all_goals (with_reducible rfl)
          (try simp only [Act.put, List.setIfInBounds_toArray, List.set_cons_zero, List.set_cons_succ])
          refine wpAnyH_take (i := 1) (oi := { dst := some 118, op := Op.load 68 (Operand.tmp 25), type := 68, pos := "law.go:77", after := #[], guard := none }) (v := ?_) rfl (by kernel_rfl) (by kernel_rfl) (by kernel_rfl) (fun _ _ _ h => h) (Or.inl ⟨by kernel_rfl, ?_⟩) (by assumption) ?_
          rotate_left
          · intro w hSw
            (try dsimp only at hSw)
            go_simp
            all_goals (with_reducible rfl)
          (try simp only [Act.put, List.setIfInBounds_toArray, List.set_cons_zero, List.set_cons_succ])
          refine wpAnyH_take (i := 2) (oi := { dst := some 119, op := Op.binOp BinOp.neq 68 (Operand.tmp 117) (Operand.tmp 118) 68, type := 4, pos := "law.go:77", after := #[{ on := 0, ground := Ground.data }, { on := 1, ground := Ground.data }], guard := none }) (v := ?_) rfl (by kernel_rfl) (by kernel_rfl) (by kernel_rfl) (fun _ _ _ h => h) (Or.inl ⟨by kernel_rfl, ?_⟩) (by assumption) ?_
          rotate_left
          · intro w hSw
            (try dsimp only at hSw)
            go_simp
            all_goals (with_reducible rfl)
          (try simp only [Act.put, List.setIfInBounds_toArray, List.set_cons_zero, List.set_cons_succ])
          refine wpAnyH_take (i := 3) (oi := { dst := some 120, op := Op.move (Operand.tmp 119), type := 4, pos := "law.go:77", after := #[{ on := 2, ground := Ground.data }], guard := none }) (v := ?_) rfl (by kernel_rfl) (by kernel_rfl) (by kernel_rfl) (fun _ _ _ h => h) (Or.inl ⟨by kernel_rfl, ?_⟩) (by assumption) ?_
          rotate_left
          · intro w hSw
            (try dsimp only at hSw)
            go_simp
            all_goals (with_reducible rfl)
          (try simp only [Act.put, List.setIfInBounds_toArray, List.set_cons_zero, List.set_cons_succ])
          refine wpAnyH_take (i := 4) (oi := { dst := some 121, op := Op.load 69 (Operand.tmp 24), type := 69, pos := "law.go:77", after := #[{ on := 3, ground := Ground.guard }], guard := some (3, false) }) (v := ?_) rfl (by kernel_rfl) (by kernel_rfl) (by kernel_rfl) (fun _ _ _ h => h) (Or.inl ⟨by kernel_rfl, ?_⟩) (by assumption) ?_
          rotate_left
          · intro w hSw
            (try dsimp only at hSw)
            go_simp
            all_goals (with_reducible rfl)
          (try simp only [Act.put, List.setIfInBounds_toArray, List.set_cons_zero, List.set_cons_succ])
          refine wpAnyH_take (i := 5) (oi := { dst := some 122, op := Op.load 69 (Operand.tmp 26), type := 69, pos := "law.go:77", after := #[{ on := 3, ground := Ground.guard }], guard := some (3, false) }) (v := ?_) rfl (by kernel_rfl) (by kernel_rfl) (by kernel_rfl) (fun _ _ _ h => h) (Or.inl ⟨by kernel_rfl, ?_⟩) (by assumption) ?_
          rotate_left
          · intro w hSw
            (try dsimp only at hSw)
            go_simp
            all_goals (with_reducible rfl)
          (try simp only [Act.put, List.setIfInBounds_toArray, List.set_cons_zero, List.set_cons_succ])
          refine wpAnyH_take (i := 6) (oi := { dst := some 123, op := Op.binOp BinOp.neq 69 (Operand.tmp 121) (Operand.tmp 122) 69, type := 4, pos := "law.go:77", after := #[{ on := 4, ground := Ground.data }, { on := 5, ground := Ground.data }, { on := 3, ground := Ground.guard }], guard := some (3, false) }) (v := ?_) rfl (by kernel_rfl) (by kernel_rfl) (by kernel_rfl) (fun _ _ _ h => h) (Or.inl ⟨by kernel_rfl, ?_⟩) (by assumption) ?_
          rotate_left
          · intro w hSw
            (try dsimp only at hSw)
            go_simp
            all_goals (with_reducible rfl)
          (try simp only [Act.put, List.setIfInBounds_toArray, List.set_cons_zero, List.set_cons_succ])
          refine wpAnyH_take (i := 7) (oi := { dst := some 124, op := Op.pick (Operand.tmp 120) (Operand.const (Value.bool true)) (Operand.tmp 123), type := 4, pos := "law.go:77", after := #[{ on := 3, ground := Ground.data }, { on := 6, ground := Ground.data }], guard := none }) (v := ?_) rfl (by kernel_rfl) (by kernel_rfl) (by kernel_rfl) (fun _ _ _ h => h) (Or.inl ⟨by kernel_rfl, ?_⟩) (by assumption) ?_
          rotate_left
          · intro w hSw
            (try dsimp only at hSw)
            go_simp
            all_goals (with_reducible rfl)
          (try simp only [Act.put, List.setIfInBounds_toArray, List.set_cons_zero, List.set_cons_succ])
          refine wpAnyH_take (i := 8) (oi := { dst := some 125, op := Op.move (Operand.tmp 124), type := 4, pos := "law.go:77", after := #[{ on := 7, ground := Ground.data }, { on := 3, ground := Ground.chain }], guard := none }) (v := ?_) rfl (by kernel_rfl) (by kernel_rfl) (by kernel_rfl) (fun _ _ _ h => h) (Or.inl ⟨by kernel_rfl, ?_⟩) (by assumption) ?_
          rotate_left
          · intro w hSw
            (try dsimp only at hSw)
            go_simp
            all_goals (with_reducible rfl)
          (try simp only [Act.put, List.setIfInBounds_toArray, List.set_cons_zero, List.set_cons_succ])
          refine wpAnyH_take (i := 9) (oi := { dst := some 126, op := Op.load 26 (Operand.tmp 21), type := 26, pos := "law.go:77", after := #[{ on := 8, ground := Ground.guard }], guard := some (8, false) }) (v := ?_) rfl (by kernel_rfl) (by kernel_rfl) (by kernel_rfl) (fun _ _ _ h => h) (Or.inl ⟨by kernel_rfl, ?_⟩) (by assumption) ?_
          rotate_left
          · intro w hSw
            (try dsimp only at hSw)
            go_simp
            all_goals (with_reducible rfl)
          (try simp only [Act.put, List.setIfInBounds_toArray, List.set_cons_zero, List.set_cons_succ])
          refine wpAnyH_take (i := 10) (oi := { dst := some 127, op := Op.load 26 (Operand.tmp 22), type := 26, pos := "law.go:77", after := #[{ on := 8, ground := Ground.guard }], guard := some (8, false) }) (v := ?_) rfl (by kernel_rfl) (by kernel_rfl) (by kernel_rfl) (fun _ _ _ h => h) (Or.inl ⟨by kernel_rfl, ?_⟩) (by assumption) ?_
          rotate_left
          · intro w hSw
            (try dsimp only at hSw)
            go_simp
            all_goals (with_reducible rfl)
          (try simp only [Act.put, List.setIfInBounds_toArray, List.set_cons_zero, List.set_cons_succ])
          refine wpAnyH_take (i := 12) (oi := { dst := some 129, op := Op.load 26 (Operand.tmp 21), type := 26, pos := "law.go:77", after := #[{ on := 8, ground := Ground.guard }], guard := some (8, false) }) (v := ?_) rfl (by kernel_rfl) (by kernel_rfl) (by kernel_rfl) (fun _ _ _ h => h) (Or.inl ⟨by kernel_rfl, ?_⟩) (by assumption) ?_
          rotate_left
          · intro w hSw
            (try dsimp only at hSw)
            go_simp
            all_goals (with_reducible rfl)
          (try simp only [Act.put, List.setIfInBounds_toArray, List.set_cons_zero, List.set_cons_succ])
          refine wpAnyH_take (i := 13) (oi := { dst := some 130, op := Op.load 26 (Operand.tmp 22), type := 26, pos := "law.go:77", after := #[{ on := 8, ground := Ground.guard }], guard := some (8, false) }) (v := ?_) rfl (by kernel_rfl) (by kernel_rfl) (by kernel_rfl) (fun _ _ _ h => h) (Or.inl ⟨by kernel_rfl, ?_⟩) (by assumption) ?_
          rotate_left
          · intro w hSw
            (try dsimp only at hSw)
            go_simp
            all_goals (with_reducible rfl)
          (try simp only [Act.put, List.setIfInBounds_toArray, List.set_cons_zero, List.set_cons_succ])
          refine wpAnyH_one1 (i := 11) (o := { dst := some 128, op := Op.call { callee := Callee.value (Operand.func 23), args := #[Operand.tmp 126, Operand.tmp 127], argTypes := #[26, 26] }, type := 3, pos := "law.go:77", after := #[{ on := 9, ground := Ground.data }, { on := 10, ground := Ground.data }, { on := 8, ground := Ground.chain }, { on := 8, ground := Ground.guard }], guard := some (8, false) }) (by kernel_rfl) rfl (fun K hK => ?_)
          go_simp
          go_at_call 23
          refine (C1.out _ (HE5.out.below (hBu16.trans (hHeld.1.mono hBu16.size)))).mono ?_
          rintro r wq ⟨rfl, hBq⟩
          have hbq := hHeld.1.trans (hBq.mono hHeld.1.size)
          refine hK.out _ _ ?_ (fun hHeld2 => ?_)
          · exact ⟨hbq, HKS.out _ hbq⟩
          clear hHeld
          have hHeld := hHeld2
          clear hHeld2
          clear hK K
          (try simp only [Act.put, List.setIfInBounds_toArray, List.set_cons_zero, List.set_cons_succ])
          refine wpAnyH_one1 (i := 14) (o := { dst := some 131, op := Op.call { callee := Callee.value (Operand.func 69), args := #[Operand.tmp 129, Operand.tmp 130], argTypes := #[26, 26] }, type := 3, pos := "law.go:77", after := #[{ on := 12, ground := Ground.data }, { on := 13, ground := Ground.data }, { on := 11, ground := Ground.chain }, { on := 8, ground := Ground.guard }], guard := some (8, false) }) (by kernel_rfl) rfl (fun K hK => ?_)
          go_simp
          go_at_call 69
          refine (C2.out _).mono ?_
          rintro r wq ⟨rfl, hBq⟩
          have hbq := hHeld.1.trans (hBq.mono hHeld.1.size)
          refine hK.out _ _ ?_ (fun hHeld2 => ?_)
          · exact ⟨hbq, HKS.out _ hbq⟩
          clear hHeld
          have hHeld := hHeld2
          clear hHeld2
          clear hK K
          (try simp only [Act.put, List.setIfInBounds_toArray, List.set_cons_zero, List.set_cons_succ])
          refine wpAnyH_take (i := 15) (oi := { dst := some 132, op := Op.binOp BinOp.neq 3 (Operand.tmp 128) (Operand.tmp 131) 3, type := 4, pos := "law.go:77", after := #[{ on := 11, ground := Ground.data }, { on := 14, ground := Ground.data }, { on := 8, ground := Ground.guard }], guard := some (8, false) }) (v := ?_) rfl (by kernel_rfl) (by kernel_rfl) (by kernel_rfl) (fun _ _ _ h => h) (Or.inl ⟨by kernel_rfl, ?_⟩) (by assumption) ?_
          rotate_left
          · intro w hSw
            (try dsimp only at hSw)
            go_simp
            all_goals (with_reducible rfl)
          (try simp only [Act.put, List.setIfInBounds_toArray, List.set_cons_zero, List.set_cons_succ])
          refine wpAnyH_take (i := 16) (oi := { dst := some 133, op := Op.pick (Operand.tmp 125) (Operand.const (Value.bool true)) (Operand.tmp 132), type := 4, pos := "law.go:77", after := #[{ on := 8, ground := Ground.data }, { on := 15, ground := Ground.data }], guard := none }) (v := ?_) rfl (by kernel_rfl) (by kernel_rfl) (by kernel_rfl) (fun _ _ _ h => h) (Or.inl ⟨by kernel_rfl, ?_⟩) (by assumption) ?_
          rotate_left
          · intro w hSw
            (try dsimp only at hSw)
            go_simp
            all_goals (with_reducible rfl)
          (try simp only [Act.put, List.setIfInBounds_toArray, List.set_cons_zero, List.set_cons_succ])
          refine wpAnyH_done (by kernel_rfl) ?_ _
          refine NoPanic.normal ?_
          have hh := hHeld.1
          clear hHeld
          go_wp2_with fail
          go_roundw
          case rel => exact ⟨k + 1, by omega, by go_num, hBu16.trans (hh.mono hBu16.size)⟩
          case measure => simp only [Go.RowKit.intOf]; omega
        · have hkk2 : decide ((k : Int) < 5) = false := decide_eq_false (by omega)
          have hkk3 : ¬ (k : Int) < 5 := by omega
          have m12 := M12.out
          have PK := Lib.hid (fun V => pick28 x12 32 V m12.1 m12.2 (by decide) (by decide))
          generalize pickN x12 32 = pk at *
          clear m12
          have Da := Lib.hid (fun V (hV : EnvR V) => down04 an ad x12 V (by omega) (by omega) hV.env)
          have Ea := Lib.hid (fun V => down70 an ad x12 V (by omega) (by omega))
          have Ua := Lib.hid (fun V (hV : EnvR V) => up04 an ad x12 V (by omega) (by omega) hV.env)
          have Ya := Lib.hid (fun V => up71 an ad x12 V (by omega) (by omega))
          have Db := Lib.hid (fun V (hV : EnvR V) => down04 an ad pk V (by omega) (by omega) hV.env)
          have Eb := Lib.hid (fun V => down70 an ad pk V (by omega) (by omega))
          have Ub := Lib.hid (fun V (hV : EnvR V) => up04 an ad pk V (by omega) (by omega) hV.env)
          have Yb := Lib.hid (fun V => up71 an ad pk V (by omega) (by omega))
          have MA := Lib.hid (fun V (hV : EnvR V) => make_u an d0 V (by omega) (by omega) hV.env)
          have MB := Lib.hid (fun V => make72 an d0 V (by omega) (by omega))
          have VA := Lib.hid (fun V (hV : EnvR V) => valid04 an ad V (by omega) (by omega) hV.env)
          have VB := Lib.hid (fun V => valid73 an ad V (by omega) (by omega))
          simp only [valR_parts] at Da Ea Ua Ya Db Eb Ub Yb MA MB
          clear za1 za2
          generalize fstR (roundR an ad x12 false) = nda at *
          generalize sndR (roundR an ad x12 false) = mda at *
          generalize errR (roundR an ad x12 false) = eda at *
          generalize fstR (roundR an ad x12 true) = nua at *
          generalize sndR (roundR an ad x12 true) = mua at *
          generalize errR (roundR an ad x12 true) = eua at *
          generalize fstR (roundR an ad pk false) = ndb at *
          generalize sndR (roundR an ad pk false) = mdb at *
          generalize errR (roundR an ad pk false) = edb at *
          generalize fstR (roundR an ad pk true) = nub at *
          generalize sndR (roundR an ad pk true) = mub at *
          generalize errR (roundR an ad pk true) = eub at *
          generalize redU (!(N3.okS an && N3.okS d0)) an d0 = RM at *
          generalize fstR RM = nm at *
          generalize sndR RM = mm at *
          generalize errR RM = em at *
          generalize validR an ad = va at *
          go_wp2_with fail
          refine (PK.out _).mono ?_
          rintro r V ⟨rfl, rfl⟩
          go_wp2_with fail
          generalize hW6 : World.alloc V6 _ = W6
          have hw6 : Below V6.heap.size V6 W6 := hW6 ▸ (Below.refl _ _).alloc (Nat.le_refl _) _
          have hBw6 := hB6.trans (hw6.mono hB6.size)
          have kl := BlkT.keep kl hw6
          have kp : BlkT W6 V6.heap.size #[(.int .i64 x12), (.int .i64 pk)] 3 := hW6 ▸ BlkT.newAt _ _ _ rfl
          clear hW6
          have KP := Lib.hid kp; have KL6 := Lib.hid kl
          clear kp kl
          go_loopw [28, 29, 30, 31, 32, 33, 34, 35, 36, 139] (fun _ _ _ _ _ _ _ _ _ u139 wr => (u139 = .int .i64 0 ∨ u139 = .int .i64 1 ∨ u139 = .int .i64 2) ∧ Below W6.heap.size W6 wr) (fun _ _ _ _ _ _ _ _ _ u139 _ => (2 - Go.RowKit.intOf u139).toNat)
          case atStart => exact ⟨.inl rfl, Below.refl _ _⟩
          case round =>
            rename World => V7
            obtain ⟨hu, hb7⟩ := hrel
            have hB7 := hb7
            have HE6 := Lib.hid (HE5.out.below hBw6)
            have kp := BlkT.keep KP.out hb7
            have kl := BlkT.keep KL6.out hb7
            clear KP KL6
            rcases hu with rfl | rfl | rfl
            · have hij : (0 : Int) ≤ 0 ∧ (0 : Int) < 2 := by omega
              obtain ⟨x0, x1⟩ := FI.out _ kl
              have kpc0 := kp.cell 0
              simp only [List.getElem?_toArray, List.getElem?_cons_succ, List.getElem?_cons_zero] at kpc0
              go_wp2_with fail
              refine (Da.out _ (HE6.out.below hB7)).mono ?_
              rintro r V8 ⟨rfl, hb8⟩
              have hB8 := hB7.trans (hb8.mono hB7.size)
              have kl := BlkT.keep kl hb8
              have kp := BlkT.keep kp hb8
              clear kpc0
              clear x0 x1
              go_upto_region 26 with (fail)
              have lklk29 := Lib.hid kl.lt
              generalize hW8 : World.alloc V8 _ = W8
              have hw8 : Below V8.heap.size V8 W8 := hW8 ▸ (Below.refl _ _).alloc (Nat.le_refl _) _
              have hBw8 := hB8.trans (hw8.mono hB8.size)
              have kl := BlkT.keep kl hw8
              have k29 : BlkT W8 V8.heap.size #[(.string nda), (.string mda)] 26 := hW8 ▸ BlkT.newAt _ _ _ rfl
              clear hW8
              obtain ⟨x0, x1⟩ := FI.out _ kl
              go_wp2_with fail
              refine (Ea.out _).mono ?_
              rintro r V9 ⟨rfl, hb9⟩
              have hB9 := hBw8.trans (hb9.mono hBw8.size)
              have kl := BlkT.keep kl hb9
              have k29 := BlkT.keep k29 hb9
              clear x0 x1
              go_upto_region 27 with (fail)
              have lklk31 := Lib.hid kl.lt
              have lk29k31 := Lib.hid k29.lt
              generalize hW9 : World.alloc V9 _ = W9
              have hw9 : Below V9.heap.size V9 W9 := hW9 ▸ (Below.refl _ _).alloc (Nat.le_refl _) _
              have hBw9 := hB9.trans (hw9.mono hB9.size)
              have kl := BlkT.keep kl hw9
              have k29 := BlkT.keep k29 hw9
              have k31 : BlkT W9 V9.heap.size #[(.string nda), (.string mda)] 26 := hW9 ▸ BlkT.newAt _ _ _ rfl
              clear hW9
              obtain ⟨x0, x1⟩ := FI.out _ kl
              go_wp2_with fail
              refine (Ua.out _ (HE6.out.below hBw9)).mono ?_
              rintro r V10 ⟨rfl, hb10⟩
              have hB10 := hBw9.trans (hb10.mono hBw9.size)
              have kl := BlkT.keep kl hb10
              have k29 := BlkT.keep k29 hb10
              have k31 := BlkT.keep k31 hb10
              clear x0 x1
              go_upto_region 28 with (fail)
              have lklk33 := Lib.hid kl.lt
              have lk29k33 := Lib.hid k29.lt
              have lk31k33 := Lib.hid k31.lt
              generalize hW10 : World.alloc V10 _ = W10
              have hw10 : Below V10.heap.size V10 W10 := hW10 ▸ (Below.refl _ _).alloc (Nat.le_refl _) _
              have hBw10 := hB10.trans (hw10.mono hB10.size)
              have kl := BlkT.keep kl hw10
              have k29 := BlkT.keep k29 hw10
              have k31 := BlkT.keep k31 hw10
              have k33 : BlkT W10 V10.heap.size #[(.string nua), (.string mua)] 26 := hW10 ▸ BlkT.newAt _ _ _ rfl
              clear hW10
              obtain ⟨x0, x1⟩ := FI.out _ kl
              go_wp2_with fail
              refine (Ya.out _).mono ?_
              rintro r V11 ⟨rfl, hb11⟩
              have hB11 := hBw10.trans (hb11.mono hBw10.size)
              have kl := BlkT.keep kl hb11
              have k29 := BlkT.keep k29 hb11
              have k31 := BlkT.keep k31 hb11
              have k33 := BlkT.keep k33 hb11
              clear x0 x1
              go_upto_region 29 with (fail)
              have lklk35 := Lib.hid kl.lt
              have lk29k35 := Lib.hid k29.lt
              have lk31k35 := Lib.hid k31.lt
              have lk33k35 := Lib.hid k33.lt
              generalize hW11 : World.alloc V11 _ = W11
              have hw11 : Below V11.heap.size V11 W11 := hW11 ▸ (Below.refl _ _).alloc (Nat.le_refl _) _
              have hBw11 := hB11.trans (hw11.mono hB11.size)
              have kl := BlkT.keep kl hw11
              have k29 := BlkT.keep k29 hw11
              have k31 := BlkT.keep k31 hw11
              have k33 := BlkT.keep k33 hw11
              have k35 : BlkT W11 V11.heap.size #[(.string nua), (.string mua)] 26 := hW11 ▸ BlkT.newAt _ _ _ rfl
              clear hW11
              have k29c0 := k29.cell 0
              have k29c1 := k29.cell 1
              have k31c0 := k31.cell 0
              have k31c1 := k31.cell 1
              have k33c0 := k33.cell 0
              have k33c1 := k33.cell 1
              have k35c0 := k35.cell 0
              have k35c1 := k35.cell 1
              simp only [List.getElem?_toArray, List.getElem?_cons_succ, List.getElem?_cons_zero] at k29c0 k29c1 k31c0 k31c1 k33c0 k33c1 k35c0 k35c1
              go_wp2_with fail
              go_roundw
              case rel => exact ⟨.inr (.inl rfl), hBw11⟩
              case measure => simp only [Go.RowKit.intOf]; omega
            · have hij : (0 : Int) ≤ 1 ∧ (1 : Int) < 2 := by omega
              obtain ⟨x0, x1⟩ := FI.out _ kl
              have kpc1 := kp.cell 1
              simp only [List.getElem?_toArray, List.getElem?_cons_succ, List.getElem?_cons_zero] at kpc1
              go_wp2_with fail
              refine (Db.out _ (HE6.out.below hB7)).mono ?_
              rintro r V8 ⟨rfl, hb8⟩
              have hB8 := hB7.trans (hb8.mono hB7.size)
              have kl := BlkT.keep kl hb8
              have kp := BlkT.keep kp hb8
              clear kpc1
              clear x0 x1
              go_upto_region 26 with (fail)
              have lklk29 := Lib.hid kl.lt
              generalize hW8 : World.alloc V8 _ = W8
              have hw8 : Below V8.heap.size V8 W8 := hW8 ▸ (Below.refl _ _).alloc (Nat.le_refl _) _
              have hBw8 := hB8.trans (hw8.mono hB8.size)
              have kl := BlkT.keep kl hw8
              have k29 : BlkT W8 V8.heap.size #[(.string ndb), (.string mdb)] 26 := hW8 ▸ BlkT.newAt _ _ _ rfl
              clear hW8
              obtain ⟨x0, x1⟩ := FI.out _ kl
              go_wp2_with fail
              refine (Eb.out _).mono ?_
              rintro r V9 ⟨rfl, hb9⟩
              have hB9 := hBw8.trans (hb9.mono hBw8.size)
              have kl := BlkT.keep kl hb9
              have k29 := BlkT.keep k29 hb9
              clear x0 x1
              go_upto_region 27 with (fail)
              have lklk31 := Lib.hid kl.lt
              have lk29k31 := Lib.hid k29.lt
              generalize hW9 : World.alloc V9 _ = W9
              have hw9 : Below V9.heap.size V9 W9 := hW9 ▸ (Below.refl _ _).alloc (Nat.le_refl _) _
              have hBw9 := hB9.trans (hw9.mono hB9.size)
              have kl := BlkT.keep kl hw9
              have k29 := BlkT.keep k29 hw9
              have k31 : BlkT W9 V9.heap.size #[(.string ndb), (.string mdb)] 26 := hW9 ▸ BlkT.newAt _ _ _ rfl
              clear hW9
              obtain ⟨x0, x1⟩ := FI.out _ kl
              go_wp2_with fail
              refine (Ub.out _ (HE6.out.below hBw9)).mono ?_
              rintro r V10 ⟨rfl, hb10⟩
              have hB10 := hBw9.trans (hb10.mono hBw9.size)
              have kl := BlkT.keep kl hb10
              have k29 := BlkT.keep k29 hb10
              have k31 := BlkT.keep k31 hb10
              clear x0 x1
              go_upto_region 28 with (fail)
              have lklk33 := Lib.hid kl.lt
              have lk29k33 := Lib.hid k29.lt
              have lk31k33 := Lib.hid k31.lt
              generalize hW10 : World.alloc V10 _ = W10
              have hw10 : Below V10.heap.size V10 W10 := hW10 ▸ (Below.refl _ _).alloc (Nat.le_refl _) _
              have hBw10 := hB10.trans (hw10.mono hB10.size)
              have kl := BlkT.keep kl hw10
              have k29 := BlkT.keep k29 hw10
              have k31 := BlkT.keep k31 hw10
              have k33 : BlkT W10 V10.heap.size #[(.string nub), (.string mub)] 26 := hW10 ▸ BlkT.newAt _ _ _ rfl
              clear hW10
              obtain ⟨x0, x1⟩ := FI.out _ kl
              go_wp2_with fail
              refine (Yb.out _).mono ?_
              rintro r V11 ⟨rfl, hb11⟩
              have hB11 := hBw10.trans (hb11.mono hBw10.size)
              have kl := BlkT.keep kl hb11
              have k29 := BlkT.keep k29 hb11
              have k31 := BlkT.keep k31 hb11
              have k33 := BlkT.keep k33 hb11
              clear x0 x1
              go_upto_region 29 with (fail)
              have lklk35 := Lib.hid kl.lt
              have lk29k35 := Lib.hid k29.lt
              have lk31k35 := Lib.hid k31.lt
              have lk33k35 := Lib.hid k33.lt
              generalize hW11 : World.alloc V11 _ = W11
              have hw11 : Below V11.heap.size V11 W11 := hW11 ▸ (Below.refl _ _).alloc (Nat.le_refl _) _
              have hBw11 := hB11.trans (hw11.mono hB11.size)
              have kl := BlkT.keep kl hw11
              have k29 := BlkT.keep k29 hw11
              have k31 := BlkT.keep k31 hw11
              have k33 := BlkT.keep k33 hw11
              have k35 : BlkT W11 V11.heap.size #[(.string nub), (.string mub)] 26 := hW11 ▸ BlkT.newAt _ _ _ rfl
              clear hW11
              have k29c0 := k29.cell 0
              have k29c1 := k29.cell 1
              have k31c0 := k31.cell 0
              have k31c1 := k31.cell 1
              have k33c0 := k33.cell 0
              have k33c1 := k33.cell 1
              have k35c0 := k35.cell 0
              have k35c1 := k35.cell 1
              simp only [List.getElem?_toArray, List.getElem?_cons_succ, List.getElem?_cons_zero] at k29c0 k29c1 k31c0 k31c1 k33c0 k33c1 k35c0 k35c1
              go_wp2_with fail
              go_roundw
              case rel => exact ⟨.inr (.inr rfl), hBw11⟩
              case measure => simp only [Go.RowKit.intOf]; omega
            · clear kp Da Db Ea Eb Ua Ub Ya Yb
              go_wp2_with fail
              have HK6 := Lib.hid (fun V (hV : Below V7.heap.size V7 V) => And.intro (FI.out _ (BlkT.keep kl hV)).1 (F0.out _ (BlkT.keep kl hV)))
              apply wp_suchC (w0 := V7) #[.string nm, .string mm]
              · go_region_held3 (fun w' => Below V7.heap.size V7 w' ∧ (w'.cell? ⟨g4, i * 2, none⟩ = some (.string an) ∧ w'.cell? ⟨g4, 1, none⟩ = some (.string d0)))
                  (first | exact ⟨(Below.refl _ _).drew, HK6.out _ (Below.refl _ _).drew⟩ | (have hh := (‹Below V7.heap.size V7 _ ∧ _›).1; have hb := hh.trans (hBr.mono hh.size); exact ⟨hb, HK6.out _ hb⟩) | (have hh := (‹Below V7.heap.size V7 _ ∧ _›).1; exact ⟨hh.alloc hh.size _, HK6.out _ (hh.alloc hh.size _)⟩) | (have hh := (‹Below V7.heap.size V7 _ ∧ _›).1; exact ⟨(hh.setCell (by dsimp only; omega) _).setCell (by dsimp only; omega) _, HK6.out _ ((hh.setCell (by dsimp only; omega) _).setCell (by dsimp only; omega) _)⟩) | (exact ⟨hSr.alloc hSz _, HK6.out _ (hSr.alloc hSz _)⟩) | go_keep)
                  (first
                    | (go_at_call 62; (with_reducible refine (MA.out _ (HE6.out.below (hB7.trans ((‹Below V7.heap.size V7 _ ∧ _›).1.mono hB7.size)))).mono ?_); rintro r wr ⟨rfl, hBr⟩; have hSz := Nat.le_trans (‹Below V7.heap.size V7 _ ∧ _›).1.size hBr.size; have hSr := (‹Below V7.heap.size V7 _ ∧ _›).1.trans (hBr.mono (‹Below V7.heap.size V7 _ ∧ _›).1.size); have hblk2 := BlkT.keep (BlkT.newAt (World.drew V7) #[.string ⟨#[]⟩, .string ⟨#[]⟩] 26 (n := V7.heap.size) rfl) hBr; have u0 := hblk2.cell 0; have u1 := hblk2.cell 1; have v0 := hblk2.frozen 0; have v1 := hblk2.frozen 1; simp only [List.getElem?_toArray, List.getElem?_cons_succ, List.getElem?_cons_zero] at u0 u1)
                    | (go_at_call 62; (with_reducible refine (MA.out _ (HE6.out.below (hB7.trans ((‹Below V7.heap.size V7 _ ∧ _›).1.mono hB7.size)))).mono ?_); rintro r wr ⟨rfl, hBr⟩; have hSz := Nat.le_trans (‹Below V7.heap.size V7 _ ∧ _›).1.size hBr.size; have hSr := (‹Below V7.heap.size V7 _ ∧ _›).1.trans (hBr.mono (‹Below V7.heap.size V7 _ ∧ _›).1.size); have hblk2 := BlkT.newAt wr #[.string ⟨#[]⟩, .string ⟨#[]⟩] 26 rfl; have u0 := hblk2.cell 0; have u1 := hblk2.cell 1; have v0 := hblk2.frozen 0; have v1 := hblk2.frozen 1; simp only [List.getElem?_toArray, List.getElem?_cons_succ, List.getElem?_cons_zero] at u0 u1))
                all_goals (
                  refine NoPanic.normal ?_
                  have hh := (‹Below V7.heap.size V7 _ ∧ _›).1
                  first
                    | (have hz : BlkT _ _ #[.string nm, .string mm] 26 := (hblk2.set 0 (.string nm)).set 1 (.string mm); generalize wr.heap.size = gx at *; exact ⟨rfl, gx, rfl, hh, hz⟩)
                    | (have hz : BlkT (wr.alloc (.cells #[.string nm, .string mm] 26)) wr.heap.size #[.string nm, .string mm] 26 := BlkT.newAt _ _ _ rfl; obtain ⟨gx, hgx⟩ : ∃ g, wr.heap.size = g := ⟨_, rfl⟩; rw [hgx] at hz; rw [hgx]; exact ⟨rfl, gx, rfl, hh, hz⟩)
                    | (have hz : BlkT _ _ #[.string nm, .string mm] 26 := (hblk2.set 0 (.string nm)).set 1 (.string mm); obtain ⟨gx, hgx⟩ : ∃ g, V7.heap.size = g := ⟨_, rfl⟩; exact ⟨rfl, gx, by rw [hgx], hh, by rw [← hgx]; exact hz⟩)
                    | (have hz : BlkT _ _ #[.string nm, .string mm] 26 := (hblk2.set 0 (.string nm)).set 1 (.string mm); exact ⟨rfl, _, rfl, hh, hz⟩)
                    | (trace_state; fail))
              rintro g50 W50 ⟨hbw50, k50⟩
              clear HK6
              have hBw50 := hB7.trans (hbw50.mono hB7.size)
              have kl := BlkT.keep kl hbw50
              have k37 := k50
              go_wp2_with fail
              have HK6 := Lib.hid (fun V (hV : Below W50.heap.size W50 V) => And.intro (FI.out _ (BlkT.keep kl hV)).1 (F0.out _ (BlkT.keep kl hV)))
              apply wp_suchC (w0 := W50) #[.string nm, .string mm]
              · go_region_held3 (fun w' => Below W50.heap.size W50 w' ∧ (w'.cell? ⟨g4, i * 2, none⟩ = some (.string an) ∧ w'.cell? ⟨g4, 1, none⟩ = some (.string d0)))
                  (first | exact ⟨(Below.refl _ _).drew, HK6.out _ (Below.refl _ _).drew⟩ | (have hh := (‹Below W50.heap.size W50 _ ∧ _›).1; have hb := hh.trans (hBr.mono hh.size); exact ⟨hb, HK6.out _ hb⟩) | (have hh := (‹Below W50.heap.size W50 _ ∧ _›).1; exact ⟨hh.alloc hh.size _, HK6.out _ (hh.alloc hh.size _)⟩) | (have hh := (‹Below W50.heap.size W50 _ ∧ _›).1; exact ⟨(hh.setCell (by dsimp only; omega) _).setCell (by dsimp only; omega) _, HK6.out _ ((hh.setCell (by dsimp only; omega) _).setCell (by dsimp only; omega) _)⟩) | (exact ⟨hSr.alloc hSz _, HK6.out _ (hSr.alloc hSz _)⟩) | go_keep)
                  (first
                    | (go_at_call 72; (with_reducible refine (MB.out _).mono ?_); rintro r wr ⟨rfl, hBr⟩; have hSz := Nat.le_trans (‹Below W50.heap.size W50 _ ∧ _›).1.size hBr.size; have hSr := (‹Below W50.heap.size W50 _ ∧ _›).1.trans (hBr.mono (‹Below W50.heap.size W50 _ ∧ _›).1.size); have hblk2 := BlkT.keep (BlkT.newAt (World.drew W50) #[.string ⟨#[]⟩, .string ⟨#[]⟩] 26 (n := W50.heap.size) rfl) hBr; have u0 := hblk2.cell 0; have u1 := hblk2.cell 1; have v0 := hblk2.frozen 0; have v1 := hblk2.frozen 1; simp only [List.getElem?_toArray, List.getElem?_cons_succ, List.getElem?_cons_zero] at u0 u1)
                    | (go_at_call 72; (with_reducible refine (MB.out _).mono ?_); rintro r wr ⟨rfl, hBr⟩; have hSz := Nat.le_trans (‹Below W50.heap.size W50 _ ∧ _›).1.size hBr.size; have hSr := (‹Below W50.heap.size W50 _ ∧ _›).1.trans (hBr.mono (‹Below W50.heap.size W50 _ ∧ _›).1.size); have hblk2 := BlkT.newAt wr #[.string ⟨#[]⟩, .string ⟨#[]⟩] 26 rfl; have u0 := hblk2.cell 0; have u1 := hblk2.cell 1; have v0 := hblk2.frozen 0; have v1 := hblk2.frozen 1; simp only [List.getElem?_toArray, List.getElem?_cons_succ, List.getElem?_cons_zero] at u0 u1))
                all_goals (
                  refine NoPanic.normal ?_
                  have hh := (‹Below W50.heap.size W50 _ ∧ _›).1
                  first
                    | (have hz : BlkT _ _ #[.string nm, .string mm] 26 := (hblk2.set 0 (.string nm)).set 1 (.string mm); generalize wr.heap.size = gx at *; exact ⟨rfl, gx, rfl, hh, hz⟩)
                    | (have hz : BlkT (wr.alloc (.cells #[.string nm, .string mm] 26)) wr.heap.size #[.string nm, .string mm] 26 := BlkT.newAt _ _ _ rfl; obtain ⟨gx, hgx⟩ : ∃ g, wr.heap.size = g := ⟨_, rfl⟩; rw [hgx] at hz; rw [hgx]; exact ⟨rfl, gx, rfl, hh, hz⟩)
                    | (have hz : BlkT _ _ #[.string nm, .string mm] 26 := (hblk2.set 0 (.string nm)).set 1 (.string mm); obtain ⟨gx, hgx⟩ : ∃ g, W50.heap.size = g := ⟨_, rfl⟩; exact ⟨rfl, gx, by rw [hgx], hh, by rw [← hgx]; exact hz⟩)
                    | (have hz : BlkT _ _ #[.string nm, .string mm] 26 := (hblk2.set 0 (.string nm)).set 1 (.string mm); exact ⟨rfl, _, rfl, hh, hz⟩)
                    | (trace_state; fail))
              rintro g51 W51 ⟨hbw51, k51⟩
              clear HK6
              have hBw51 := hBw50.trans (hbw51.mono hBw50.size)
              have kl := BlkT.keep kl hbw51
              have k37 := BlkT.keep k37 hbw51
              have k39 := k51
              have HKS : Hid (∀ w', Below W51.heap.size W51 w' → (w'.cell? ⟨g4, i * 2, none⟩ = some (.string an) ∧ w'.cell? ⟨g4, i * 2 + 1, none⟩ = some (.string ad)) ∧ w'.cell? ⟨g50, 0, none⟩ = some (.string nm) ∧ w'.cell? ⟨g50, 1, none⟩ = some (.string mm) ∧ w'.cell? ⟨g51, 0, none⟩ = some (.string nm) ∧ w'.cell? ⟨g51, 1, none⟩ = some (.string mm)) := Lib.hid (fun V hV => And.intro (FI.out _ (BlkT.keep kl hV)) (And.intro ((BlkT.keep k37 hV).cell 0) (And.intro ((BlkT.keep k37 hV).cell 1) (And.intro ((BlkT.keep k39 hV).cell 0) ((BlkT.keep k39 hV).cell 1)))))
              clear k37 k39
              go_wp2_with fail
              refine wp_region_noPanic ?_
              refine wp_region_held_drew (S := (fun w' => Below W51.heap.size W51 w' ∧ (w'.cell? ⟨g4, i * 2, none⟩ = some (.string an) ∧ w'.cell? ⟨g4, i * 2 + 1, none⟩ = some (.string ad)) ∧ w'.cell? ⟨g50, 0, none⟩ = some (.string nm) ∧ w'.cell? ⟨g50, 1, none⟩ = some (.string mm) ∧ w'.cell? ⟨g51, 0, none⟩ = some (.string nm) ∧ w'.cell? ⟨g51, 1, none⟩ = some (.string mm))) (by kernel_rfl) ⟨(Below.refl _ _).drew, HKS.out _ (Below.refl _ _).drew⟩ (fun hHeld => ?_)
              refine wpAnyH_take (i := 0) (oi := { dst := some 224, op := Op.move (Operand.tmp 18), type := 58, pos := "law.go:92", after := #[], guard := none }) (v := ?_) rfl (by kernel_rfl) (by kernel_rfl) (by kernel_rfl) (fun _ _ _ h => h) (Or.inl ⟨by kernel_rfl, ?_⟩) (by assumption) ?_
              rotate_left
              · intro w hSw
                (try dsimp only at hSw)
                go_simp
                all_goals (with_reducible rfl)
              (try simp only [Act.put, List.setIfInBounds_toArray, List.set_cons_zero, List.set_cons_succ])
              refine wpAnyH_take (i := 1) (oi := { dst := some 225, op := Op.move (Operand.tmp 19), type := 3, pos := "law.go:92", after := #[], guard := none }) (v := ?_) rfl (by kernel_rfl) (by kernel_rfl) (by kernel_rfl) (fun _ _ _ h => h) (Or.inl ⟨by kernel_rfl, ?_⟩) (by assumption) ?_
              rotate_left
              · intro w hSw
                (try dsimp only at hSw)
                go_simp
                all_goals (with_reducible rfl)
              (try simp only [Act.put, List.setIfInBounds_toArray, List.set_cons_zero, List.set_cons_succ])
              refine wpAnyH_take (i := 2) (oi := { dst := some 226, op := Op.indexAddr 58 (Operand.tmp 224) (Operand.tmp 225), type := 0, pos := "law.go:92", after := #[{ on := 0, ground := Ground.data }, { on := 1, ground := Ground.data }], guard := none }) (v := ?_) rfl (by kernel_rfl) (by kernel_rfl) (by kernel_rfl) (fun _ _ _ h => h) (Or.inl ⟨by kernel_rfl, ?_⟩) (by assumption) ?_
              rotate_left
              · intro w hSw
                (try dsimp only at hSw)
                go_simp
                all_goals (with_reducible rfl)
              (try simp only [Act.put, List.setIfInBounds_toArray, List.set_cons_zero, List.set_cons_succ])
              refine wpAnyH_take (i := 3) (oi := { dst := some 227, op := Op.load 26 (Operand.tmp 226), type := 26, pos := "law.go:92", after := #[{ on := 2, ground := Ground.data }], guard := none }) (v := ?_) rfl (by kernel_rfl) (by kernel_rfl) (by kernel_rfl) (fun _ _ _ h => h) (Or.inl ⟨by kernel_rfl, ?_⟩) (by assumption) ?_
              rotate_left
              · intro w hSw
                (try dsimp only at hSw)
                go_simp
                all_goals (with_reducible rfl)
              (try simp only [Act.put, List.setIfInBounds_toArray, List.set_cons_zero, List.set_cons_succ])
              refine wpAnyH_take (i := 5) (oi := { dst := some 229, op := Op.move (Operand.tmp 18), type := 58, pos := "law.go:92", after := #[], guard := none }) (v := ?_) rfl (by kernel_rfl) (by kernel_rfl) (by kernel_rfl) (fun _ _ _ h => h) (Or.inl ⟨by kernel_rfl, ?_⟩) (by assumption) ?_
              rotate_left
              · intro w hSw
                (try dsimp only at hSw)
                go_simp
                all_goals (with_reducible rfl)
              (try simp only [Act.put, List.setIfInBounds_toArray, List.set_cons_zero, List.set_cons_succ])
              refine wpAnyH_take (i := 6) (oi := { dst := some 230, op := Op.move (Operand.tmp 19), type := 3, pos := "law.go:92", after := #[], guard := none }) (v := ?_) rfl (by kernel_rfl) (by kernel_rfl) (by kernel_rfl) (fun _ _ _ h => h) (Or.inl ⟨by kernel_rfl, ?_⟩) (by assumption) ?_
              rotate_left
              · intro w hSw
                (try dsimp only at hSw)
                go_simp
                all_goals (with_reducible rfl)
              (try simp only [Act.put, List.setIfInBounds_toArray, List.set_cons_zero, List.set_cons_succ])
              refine wpAnyH_take (i := 7) (oi := { dst := some 231, op := Op.indexAddr 58 (Operand.tmp 229) (Operand.tmp 230), type := 0, pos := "law.go:92", after := #[{ on := 5, ground := Ground.data }, { on := 6, ground := Ground.data }], guard := none }) (v := ?_) rfl (by kernel_rfl) (by kernel_rfl) (by kernel_rfl) (fun _ _ _ h => h) (Or.inl ⟨by kernel_rfl, ?_⟩) (by assumption) ?_
              rotate_left
              · intro w hSw
                (try dsimp only at hSw)
                go_simp
                all_goals (with_reducible rfl)
              (try simp only [Act.put, List.setIfInBounds_toArray, List.set_cons_zero, List.set_cons_succ])
              refine wpAnyH_take (i := 8) (oi := { dst := some 232, op := Op.load 26 (Operand.tmp 231), type := 26, pos := "law.go:92", after := #[{ on := 7, ground := Ground.data }], guard := none }) (v := ?_) rfl (by kernel_rfl) (by kernel_rfl) (by kernel_rfl) (fun _ _ _ h => h) (Or.inl ⟨by kernel_rfl, ?_⟩) (by assumption) ?_
              rotate_left
              · intro w hSw
                (try dsimp only at hSw)
                go_simp
                all_goals (with_reducible rfl)
              (try simp only [Act.put, List.setIfInBounds_toArray, List.set_cons_zero, List.set_cons_succ])
              refine wpAnyH_one1 (i := 4) (o := { dst := some 228, op := Op.call { callee := Callee.value (Operand.func 60), args := #[Operand.tmp 227], argTypes := #[26] }, type := 4, pos := "law.go:92", after := #[{ on := 3, ground := Ground.data }], guard := none }) (by kernel_rfl) rfl (fun K hK => ?_)
              go_simp
              go_at_call 60
              refine (VA.out _ (HE6.out.below (hBw51.trans (hHeld.1.mono hBw51.size)))).mono ?_
              rintro r wq ⟨rfl, hBq⟩
              have hbq := hHeld.1.trans (hBq.mono hHeld.1.size)
              refine hK.out _ _ ?_ (fun hHeld2 => ?_)
              · exact ⟨hbq, HKS.out _ hbq⟩
              clear hHeld
              have hHeld := hHeld2
              clear hHeld2
              clear hK K
              (try simp only [Act.put, List.setIfInBounds_toArray, List.set_cons_zero, List.set_cons_succ])
              refine wpAnyH_one1 (i := 9) (o := { dst := some 233, op := Op.call { callee := Callee.value (Operand.func 73), args := #[Operand.tmp 232], argTypes := #[26] }, type := 4, pos := "law.go:92", after := #[{ on := 8, ground := Ground.data }, { on := 4, ground := Ground.chain }], guard := none }) (by kernel_rfl) rfl (fun K hK => ?_)
              go_simp
              go_at_call 73
              refine (VB.out _).mono ?_
              rintro r wq ⟨rfl, hBq⟩
              have hbq := hHeld.1.trans (hBq.mono hHeld.1.size)
              refine hK.out _ _ ?_ (fun hHeld2 => ?_)
              · exact ⟨hbq, HKS.out _ hbq⟩
              clear hHeld
              have hHeld := hHeld2
              clear hHeld2
              clear hK K
              (try simp only [Act.put, List.setIfInBounds_toArray, List.set_cons_zero, List.set_cons_succ])
              refine wpAnyH_take (i := 10) (oi := { dst := some 234, op := Op.binOp BinOp.neq 4 (Operand.tmp 228) (Operand.tmp 233) 4, type := 4, pos := "law.go:92", after := #[{ on := 4, ground := Ground.data }, { on := 9, ground := Ground.data }], guard := none }) (v := ?_) rfl (by kernel_rfl) (by kernel_rfl) (by kernel_rfl) (fun _ _ _ h => h) (Or.inl ⟨by kernel_rfl, ?_⟩) (by assumption) ?_
              rotate_left
              · intro w hSw
                (try dsimp only at hSw)
                go_simp
                all_goals (with_reducible rfl)
              (try simp only [Act.put, List.setIfInBounds_toArray, List.set_cons_zero, List.set_cons_succ])
              refine wpAnyH_take (i := 11) (oi := { dst := some 235, op := Op.move (Operand.tmp 234), type := 4, pos := "law.go:92", after := #[{ on := 10, ground := Ground.data }, { on := 9, ground := Ground.chain }], guard := none }) (v := ?_) rfl (by kernel_rfl) (by kernel_rfl) (by kernel_rfl) (fun _ _ _ h => h) (Or.inl ⟨by kernel_rfl, ?_⟩) (by assumption) ?_
              rotate_left
              · intro w hSw
                (try dsimp only at hSw)
                go_simp
                all_goals (with_reducible rfl)
              (try simp only [Act.put, List.setIfInBounds_toArray, List.set_cons_zero, List.set_cons_succ])
              refine wpAnyH_take (i := 12) (oi := { dst := some 236, op := Op.load 26 (Operand.tmp 37), type := 26, pos := "law.go:92", after := #[{ on := 11, ground := Ground.guard }], guard := some (11, false) }) (v := ?_) rfl (by kernel_rfl) (by kernel_rfl) (by kernel_rfl) (fun _ _ _ h => h) (Or.inl ⟨by kernel_rfl, ?_⟩) (by assumption) ?_
              rotate_left
              · intro w hSw
                (try dsimp only at hSw)
                go_simp
                all_goals (with_reducible rfl)
              (try simp only [Act.put, List.setIfInBounds_toArray, List.set_cons_zero, List.set_cons_succ])
              refine wpAnyH_take (i := 13) (oi := { dst := some 237, op := Op.load 26 (Operand.tmp 39), type := 26, pos := "law.go:92", after := #[{ on := 11, ground := Ground.guard }], guard := some (11, false) }) (v := ?_) rfl (by kernel_rfl) (by kernel_rfl) (by kernel_rfl) (fun _ _ _ h => h) (Or.inl ⟨by kernel_rfl, ?_⟩) (by assumption) ?_
              rotate_left
              · intro w hSw
                (try dsimp only at hSw)
                go_simp
                all_goals (with_reducible rfl)
              (try simp only [Act.put, List.setIfInBounds_toArray, List.set_cons_zero, List.set_cons_succ])
              refine wpAnyH_take (i := 14) (oi := { dst := some 238, op := Op.binOp BinOp.neq 26 (Operand.tmp 236) (Operand.tmp 237) 26, type := 4, pos := "law.go:92", after := #[{ on := 12, ground := Ground.data }, { on := 13, ground := Ground.data }, { on := 11, ground := Ground.guard }], guard := some (11, false) }) (v := ?_) rfl (by kernel_rfl) (by kernel_rfl) (by kernel_rfl) (fun _ _ _ h => h) (Or.inl ⟨by kernel_rfl, ?_⟩) (by assumption) ?_
              rotate_left
              · intro w hSw
                (try dsimp only at hSw)
                go_simp
                all_goals (with_reducible rfl)
              (try simp only [Act.put, List.setIfInBounds_toArray, List.set_cons_zero, List.set_cons_succ])
              refine wpAnyH_take (i := 15) (oi := { dst := some 239, op := Op.pick (Operand.tmp 235) (Operand.const (Value.bool true)) (Operand.tmp 238), type := 4, pos := "law.go:92", after := #[{ on := 11, ground := Ground.data }, { on := 14, ground := Ground.data }], guard := none }) (v := ?_) rfl (by kernel_rfl) (by kernel_rfl) (by kernel_rfl) (fun _ _ _ h => h) (Or.inl ⟨by kernel_rfl, ?_⟩) (by assumption) ?_
              rotate_left
              · intro w hSw
                (try dsimp only at hSw)
                go_simp
                all_goals (with_reducible rfl)
              (try simp only [Act.put, List.setIfInBounds_toArray, List.set_cons_zero, List.set_cons_succ])
              refine wpAnyH_take (i := 16) (oi := { dst := some 240, op := Op.move (Operand.tmp 239), type := 4, pos := "law.go:92", after := #[{ on := 15, ground := Ground.data }, { on := 11, ground := Ground.chain }], guard := none }) (v := ?_) rfl (by kernel_rfl) (by kernel_rfl) (by kernel_rfl) (fun _ _ _ h => h) (Or.inl ⟨by kernel_rfl, ?_⟩) (by assumption) ?_
              rotate_left
              · intro w hSw
                (try dsimp only at hSw)
                go_simp
                all_goals (with_reducible rfl)
              (try simp only [Act.put, List.setIfInBounds_toArray, List.set_cons_zero, List.set_cons_succ])
              refine wpAnyH_take (i := 17) (oi := { dst := some 241, op := Op.move (Operand.tmp 38), type := 30, pos := "law.go:92", after := #[{ on := 16, ground := Ground.guard }], guard := some (16, false) }) (v := ?_) rfl (by kernel_rfl) (by kernel_rfl) (by kernel_rfl) (fun _ _ _ h => h) (Or.inl ⟨by kernel_rfl, ?_⟩) (by assumption) ?_
              rotate_left
              · intro w hSw
                (try dsimp only at hSw)
                go_simp
                all_goals (with_reducible rfl)
              (try simp only [Act.put, List.setIfInBounds_toArray, List.set_cons_zero, List.set_cons_succ])
              refine wpAnyH_take (i := 18) (oi := { dst := some 242, op := Op.move (Operand.tmp 40), type := 30, pos := "law.go:92", after := #[{ on := 16, ground := Ground.guard }], guard := some (16, false) }) (v := ?_) rfl (by kernel_rfl) (by kernel_rfl) (by kernel_rfl) (fun _ _ _ h => h) (Or.inl ⟨by kernel_rfl, ?_⟩) (by assumption) ?_
              rotate_left
              · intro w hSw
                (try dsimp only at hSw)
                go_simp
                all_goals (with_reducible rfl)
              (try simp only [Act.put, List.setIfInBounds_toArray, List.set_cons_zero, List.set_cons_succ])
              refine wpAnyH_take (i := 19) (oi := { dst := some 243, op := Op.binOp BinOp.neq 30 (Operand.tmp 241) (Operand.tmp 242) 30, type := 4, pos := "law.go:92", after := #[{ on := 17, ground := Ground.data }, { on := 18, ground := Ground.data }, { on := 16, ground := Ground.guard }], guard := some (16, false) }) (v := ?_) rfl (by kernel_rfl) (by kernel_rfl) (by kernel_rfl) (fun _ _ _ h => h) (Or.inl ⟨by kernel_rfl, ?_⟩) (by assumption) ?_
              rotate_left
              · intro w hSw
                (try dsimp only at hSw)
                go_simp
                all_goals (with_reducible rfl)
              (try simp only [Act.put, List.setIfInBounds_toArray, List.set_cons_zero, List.set_cons_succ])
              refine wpAnyH_take (i := 20) (oi := { dst := some 244, op := Op.pick (Operand.tmp 240) (Operand.const (Value.bool true)) (Operand.tmp 243), type := 4, pos := "law.go:92", after := #[{ on := 16, ground := Ground.data }, { on := 19, ground := Ground.data }], guard := none }) (v := ?_) rfl (by kernel_rfl) (by kernel_rfl) (by kernel_rfl) (fun _ _ _ h => h) (Or.inl ⟨by kernel_rfl, ?_⟩) (by assumption) ?_
              rotate_left
              · intro w hSw
                (try dsimp only at hSw)
                go_simp
                all_goals (with_reducible rfl)
              (try simp only [Act.put, List.setIfInBounds_toArray, List.set_cons_zero, List.set_cons_succ])
              refine wpAnyH_done (by kernel_rfl) ?_ _
              refine NoPanic.normal ?_
              have hh := hHeld.1
              clear hHeld
              have hBz := hBw51.trans (hh.mono hBw51.size)
              go_wp2_with fail
              go_roundw
              case rel => exact ⟨i + 1, by omega, by go_num, hB5.trans ((hBw6.trans (hBz.mono hBw6.size)).mono hB5.size)⟩
              case measure => simp only [Go.RowKit.intOf]; omega
    · have hki2 : decide ((i : Int) < 5) = false := decide_eq_false (by omega)
      have hki3 : ¬ (i : Int) < 5 := by omega
      have m10 := M10.out; have m11 := M11.out
      have OA := Lib.hid (fun V (hV : EnvR V) => of_u x10 x11 V m10.1 m10.2 m11.1 m11.2 hV.env)
      have OB := Lib.hid (fun V => of75 x10 x11 V m10.1 m10.2 m11.1 m11.2)
      clear m10 m11
      simp only [valR_parts] at OA OB
      generalize redU false (N3.S x10) (N3.S x11) = RM at *
      generalize fstR RM = nm at *
      generalize sndR RM = mm at *
      generalize errR RM = em at *
      clear kl
      go_wp2_with fail
      refine (OA.out _ (HE.out.below hB5)).mono ?_
      rintro r V6 ⟨rfl, hb6⟩
      have hB6 := hB5.trans (hb6.mono hB5.size)
      go_upto_region 37 with (fail)
      generalize hW6 : World.alloc V6 _ = W6
      have hw6 : Below V6.heap.size V6 W6 := hW6 ▸ (Below.refl _ _).alloc (Nat.le_refl _) _
      have hBw6 := hB6.trans (hw6.mono hB6.size)
      have k41 : BlkT W6 V6.heap.size #[(.string nm), (.string mm)] 26 := hW6 ▸ BlkT.newAt _ _ _ rfl
      clear hW6
      go_wp2_with fail
      refine (OB.out _).mono ?_
      rintro r V7 ⟨rfl, hb7⟩
      have hB7 := hBw6.trans (hb7.mono hBw6.size)
      have k41 := BlkT.keep k41 hb7
      go_upto_region 38 with (fail)
      have lk41k43 := Lib.hid k41.lt
      generalize hW7 : World.alloc V7 _ = W7
      have hw7 : Below V7.heap.size V7 W7 := hW7 ▸ (Below.refl _ _).alloc (Nat.le_refl _) _
      have hBw7 := hB7.trans (hw7.mono hB7.size)
      have k41 := BlkT.keep k41 hw7
      have k43 : BlkT W7 V7.heap.size #[(.string nm), (.string mm)] 26 := hW7 ▸ BlkT.newAt _ _ _ rfl
      clear hW7
      have k41c0 := k41.cell 0
      have k41c1 := k41.cell 1
      have k43c0 := k43.cell 0
      have k43c1 := k43.cell 1
      simp only [List.getElem?_toArray, List.getElem?_cons_succ, List.getElem?_cons_zero] at k41c0 k41c1 k43c0 k43c1
      go_wp2_with fail
      go_ret
      exact ⟨rfl, hBw4.trans (hBw7.mono hBw4.size)⟩
end Go.Proofs.YtjnpenljgfdaiaaGreatDoor
