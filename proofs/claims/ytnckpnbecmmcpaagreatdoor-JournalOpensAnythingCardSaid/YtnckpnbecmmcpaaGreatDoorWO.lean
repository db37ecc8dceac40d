/- nadirlaw34: a world of two journals and two disks; open, begin. -/
import Derived.Test.YtnckpnbecmmcpaaGreatDoorRB
namespace Go.Proofs.YtnckpnbecmmcpaaGreatDoor
open Go.RowKit Go.Shelf Lib
theorem duo_frm {W W' : World} {base n B R : Nat} {D E : DiskD} {G : Nat → Prop} (h : DuoB W base n B R D E) (hf : Frm G W W') (hG : ∀ k, k < W.heap.size → G k → Oth W k) : DuoB W' base n B R D E := by
  obtain ⟨F1, F2, p1, p2, d, o1, o2⟩ := h
  exact ⟨fun k => F1 k ∧ ¬ Oth W k, fun k => F2 k ∧ ¬ Oth W k, fun k h => p1 k h.1, fun k h => p2 k h.1, fun k a b => d k a.1 b.1, o1.byType.frm hf (fun k hk h g => h.2 (hG k hk g)), o2.byType.frm hf (fun k hk h g => h.2 (hG k hk g))⟩
section
variable {W : World} {base n B R : Nat} {D E : DiskD}
theorem noX (W : World) : ∀ k, k < W.heap.size → NoX k → base ≤ k ∧ Oth W k := fun _ _ h => h.elim
theorem d_open (h : DuoB W base n B R D E) (hb : base ≤ W.heap.size) (hE : EnvJ W) (hp : D.pend.length ≤ 90000) (hn : n ≤ 100000) :
    Calls Tryz.prog 25 #[.pointer (some ⟨B, 0, none⟩)] W fun e w' => Opened w' W.heap.size B n D e ∧ DuoB w' base n B R (openD n D) E ∧ Kept NoX W w' ∧ Below base W w' :=
  duo_d (P := fun e w' => Opened w' W.heap.size B n D e) NoX h hb (noX W) (fun _ hF ho => (open25 ho hF hp hn hE.1 hE.2).mono fun _ _ ⟨a, b, c⟩ => ⟨a, b, c.mono (fun _ _ h => .inl h)⟩)
theorem r_open (h : DuoB W base n B R D E) (hb : base ≤ W.heap.size) (hp : E.pend.length ≤ 90000) (hn : n ≤ 100000) :
    Calls Tryz.prog 50 #[.pointer (some ⟨R, 0, none⟩)] W fun e w' => OpenedK w' W.heap.size R n E e ∧ DuoB w' base n B R D (openD n E) ∧ Kept NoX W w' ∧ Below base W w' :=
  duo_r (P := fun e w' => OpenedK w' W.heap.size R n E e) NoX h hb (noX W) (fun _ hF ho => (open50 ho hF hp hn).mono fun _ _ ⟨a, b, c⟩ => ⟨a, b, c.mono (fun _ _ h => .inl h)⟩)
theorem d_cut (h : DuoB W base n B R D E) (hb : base ≤ W.heap.size) (k : Int) (hk : k ≤ 9223372036854775807) :
    Calls Tryz.prog 29 #[.pointer (some ⟨B, 0, none⟩), .int .i64 k] W fun e w' => e = .returned (.int .i64 (cutE D k)) ∧ DuoB w' base n B R (cutD D k) E ∧ Kept NoX W w' ∧ Below base W w' :=
  duo_d (P := fun e _ => e = .returned (.int .i64 (cutE D k))) NoX h hb (noX W) (fun _ _ ho => (cut_f ho k hk).mono fun _ _ ⟨a, b, c⟩ => ⟨a, b, c.mono (fun _ _ h => .inl h)⟩)
theorem r_cut (h : DuoB W base n B R D E) (hb : base ≤ W.heap.size) (k : Int) (hk : k ≤ 9223372036854775807) :
    Calls Tryz.prog 66 #[.pointer (some ⟨R, 0, none⟩), .int .i64 k] W fun e w' => e = .returned (.int .i64 (cutE E k)) ∧ DuoB w' base n B R D (cutD E k) ∧ Kept NoX W w' ∧ Below base W w' :=
  duo_r (P := fun e _ => e = .returned (.int .i64 (cutE E k))) NoX h hb (noX W) (fun _ _ ho => (cut_ref ho k hk).mono fun _ _ ⟨a, b, c⟩ => ⟨a, b, c.mono (fun _ _ h => .inl h)⟩)
theorem d_crash (h : DuoB W base n B R D E) (hb : base ≤ W.heap.size) (vk : Value) (kl : List Int) (hk : IntsAt W vk kl) (hks : kl.length ≤ 1000) (torn : Int) :
    Calls Tryz.prog 30 #[.pointer (some ⟨B, 0, none⟩), vk, .int .i64 torn] W fun e w' => e = .returned (.int .i64 0) ∧ DuoB w' base n B R (crashD D kl torn) E ∧ Kept NoX W w' ∧ Below base W w' :=
  duo_d (P := fun e _ => e = .returned (.int .i64 0)) NoX h hb (noX W) (fun _ _ ho => (crash_f ho vk kl hk hks torn).mono fun _ _ ⟨a, b, c⟩ => ⟨a, b, c.mono (fun _ _ h => .inl h)⟩)
theorem r_crash (h : DuoB W base n B R D E) (hb : base ≤ W.heap.size) (hp : E.pend.length ≤ 90000) (vk : Value) (kl : List Int) (hk : IntsAt W vk kl) (torn : Int) :
    Calls Tryz.prog 67 #[.pointer (some ⟨R, 0, none⟩), vk, .int .i64 torn] W fun e w' => e = .returned (.tuple #[]) ∧ DuoB w' base n B R D (crashD E kl torn) ∧ Kept NoX W w' ∧ Below base W w' :=
  duo_r (P := fun e _ => e = .returned (.tuple #[])) NoX h hb (noX W) (fun _ _ ho => (crash_ref ho (by omega) vk kl hk torn).mono fun _ _ ⟨a, b, c⟩ => ⟨a, b, c.mono (fun _ _ h => .inl h)⟩)
theorem d_write (h : DuoB W base n B R D E) (hb : base ≤ W.heap.size) (hp : D.pend.length ≤ 90000) (off : Int) (s : ByteArray) :
    Calls Tryz.prog 13 #[.pointer (some ⟨B, 0, none⟩), .int .i64 off, .string s] W fun e w' => e = .returned (.int .i64 (writeE D off s)) ∧ DuoB w' base n B R (writeD D off s) E ∧ Kept NoX W w' ∧ Below base W w' :=
  duo_d (P := fun e _ => e = .returned (.int .i64 (writeE D off s))) NoX h hb (noX W) (fun _ hF ho => (write_F ho hF (by omega) off s).mono fun _ _ ⟨a, b, c⟩ => ⟨a, b, c.mono (fun _ _ h => .inl h)⟩)
theorem r_write (h : DuoB W base n B R D E) (hb : base ≤ W.heap.size) (hp : E.pend.length ≤ 90000) (off : Int) (s : ByteArray) :
    Calls Tryz.prog 16 #[.pointer (some ⟨R, 0, none⟩), .int .i64 off, .string s] W fun e w' => e = .returned (.int .i64 (writeE E off s)) ∧ DuoB w' base n B R D (writeD E off s) ∧ Kept NoX W w' ∧ Below base W w' :=
  duo_r (P := fun e _ => e = .returned (.int .i64 (writeE E off s))) NoX h hb (noX W) (fun _ hF ho => (write_ref ho hF (by omega) off s).mono fun _ _ ⟨a, b, c⟩ => ⟨a, b, c.mono (fun _ _ h => .inl h)⟩)
theorem d_append (h : DuoB W base n B R D E) (hb : base ≤ W.heap.size) {Jb : Nat} {J : JouD} (hJ : JouAt W 0 Jb B J) (hJb : base ≤ Jb) (hE : EnvJ W) (hp : D.pend.length ≤ 90000) (hn : n ≤ 100000) (hok : JOK n J.L) (vl : Value) (l : List ByteArray) (hl : StrsAt W vl l) (hll : l.length ≤ 1000) :
    Calls Tryz.prog 10 #[.pointer (some ⟨Jb, 0, none⟩), vl] W fun e w' => (e = .returned (.int .i64 (appE n J D l)) ∧ JouAt w' 0 Jb B (appJ n J D l)) ∧ DuoB w' base n B R (appD n J D l) E ∧ Kept (fun k => k = Jb) W w' ∧ Below base W w' :=
  duo_d (P := fun e w' => e = .returned (.int .i64 (appE n J D l)) ∧ JouAt w' 0 Jb B (appJ n J D l)) (fun k => k = Jb) h hb (fun k _ e => by
    obtain ⟨vr, hbk, -⟩ := hJ.ex
    subst e
    exact ⟨hJb, ⟨_, _, hbk, by decide⟩⟩) (fun _ hF ho => (append10 hJ ho hF hp hn hE.1 hok.fit hok.sz vl l hl hll).mono fun _ _ ⟨a, b, c, d⟩ => ⟨⟨a, c⟩, b, d⟩)
theorem r_append (h : DuoB W base n B R D E) (hb : base ≤ W.heap.size) {Kb base2 : Nat} {J : JouD} (hK : KouAt W 0 Kb R J) (hKb : base ≤ Kb) (hp : E.pend.length ≤ 90000) (hn : n ≤ 100000) (hok : JOK n J.L) (vl : Value) (l : List ByteArray) (hl : W.ownsRow base2 9 1 vl l.length (l.map Value.string)) (hls : ∀ t ∈ l, t.size ≤ 100) (hll : l.length ≤ 6) :
    Calls Tryz.prog 12 #[.pointer (some ⟨Kb, 0, none⟩), vl] W fun e w' => (e = .returned (.int .i64 (appE n J E l)) ∧ KouAt w' 0 Kb R (appJ n J E l)) ∧ DuoB w' base n B R D (appD n J E l) ∧ Kept (fun k => k = Kb) W w' ∧ Below base W w' :=
  duo_r (P := fun e w' => e = .returned (.int .i64 (appE n J E l)) ∧ KouAt w' 0 Kb R (appJ n J E l)) (fun k => k = Kb) h hb (fun k _ e => by
    obtain ⟨vr, hbk, -⟩ := hK.ex
    subst e
    exact ⟨hKb, ⟨_, _, hbk, by decide⟩⟩) (fun _ hF ho => (append12 hK ho hF hp hn hok.fit hok.sz vl l hl hls hll).mono fun _ _ ⟨a, b, c, d⟩ => ⟨⟨a, c⟩, b, d⟩)
end
/-- The two journals of a world, or none. -/
def JK (base : Nat) (W : World) (B R : Nat) (vj vk : Value) : Option JouD → Prop
  | none => vj = .pointer none ∧ vk = .pointer none
  | some J => ∃ Jb Kb, vj = .pointer (some ⟨Jb, 0, none⟩) ∧ vk = .pointer (some ⟨Kb, 0, none⟩) ∧ base ≤ Jb ∧ base ≤ Kb ∧ JouAt W 0 Jb B J ∧ KouAt W 0 Kb R J
theorem JK.kept {base : Nat} {W W' : World} {B R : Nat} {vj vk : Value} : ∀ {oj : Option JouD}, JK base W B R vj vk oj → Kept NoX W W' → JK base W' B R vj vk oj
  | none, h, _ => h
  | some _, ⟨Jb, Kb, h1, h2, h3, h4, h5, h6⟩, hk => ⟨Jb, Kb, h1, h2, h3, h4, h5.kept hk (fun h => h) (fun _ _ _ h => h), h6.kept hk (fun h => h) (fun _ _ _ h => h)⟩
/-- A world: two disks with the same content, two journals with the same records. -/
structure St (base : Nat) (W : World) (Wb B R n : Nat) (D : DiskD) (oj : Option JouD) : Prop where
  duo : DuoB W base n B R D D
  cells : ∃ vj vk, Blk W Wb #[.pointer (some ⟨B, 0, none⟩), vj, .pointer (some ⟨R, 0, none⟩), vk] 32 ∧ JK base W B R vj vk oj
  wb : base ≤ Wb
theorem kept_frm {W W' : World} {G : Nat → Prop} (h : Frm G W W') (hG : ∀ k, k < W.heap.size → ¬ G k ∨ ¬ Oth W k) : Kept NoX W W' := fun k hk ho _ => h.block k hk (fun g => (hG k hk).elim (fun h => h g) (fun h => h ho))
theorem St.below {base : Nat} {W W' : World} {Wb B R n : Nat} {D : DiskD} {oj : Option JouD} (h : St base W Wb B R n D oj) (hb : Below W.heap.size W W') : St base W' Wb B R n D oj := by
  obtain ⟨vj, vk, hc, hj⟩ := h.cells
  exact ⟨h.duo.below hb, ⟨vj, vk, hc.below hb hc.lt, hj.kept (Kept.below hb)⟩, h.wb⟩
noncomputable def openedJ (n : Nat) (D : DiskD) : Option JouD := if openE n D = 0 then some ⟨openL n D, false⟩ else none
/-- Both pointers are written into a world. -/
theorem st_set {base : Nat} {W : World} {Wb B R n : Nat} {D : DiskD} {oj : Option JouD} {v1 v2 vj vk : Value} (hd : DuoB W base n B R D D) (hc : Blk W Wb #[.pointer (some ⟨B, 0, none⟩), v1, .pointer (some ⟨R, 0, none⟩), v2] 32) (hj : JK base W B R vj vk oj) (hwb : base ≤ Wb) :
    St base ((W.setCell ⟨Wb, 1, none⟩ vj).setCell ⟨Wb, 3, none⟩ vk) Wb B R n D oj ∧ Below base W ((W.setCell ⟨Wb, 1, none⟩ vj).setCell ⟨Wb, 3, none⟩ vk) := by
  have hf : Frm (fun k => k = Wb) W ((W.setCell ⟨Wb, 1, none⟩ vj).setCell ⟨Wb, 3, none⟩ vk) := ((Frm.refl (fun k => k = Wb) W).setCell (fun _ => rfl) _).setCell (fun _ => rfl) _
  have hO : Oth W Wb := ⟨_, _, hc, by decide⟩
  have h2 := (hc.set 1 vj).set 3 vk
  simp only [List.setIfInBounds_toArray, List.set_cons_zero, List.set_cons_succ] at h2
  refine ⟨⟨duo_frm hd hf (fun k _ e => by subst e; exact hO), ⟨vj, vk, h2, ?_⟩, hwb⟩, hf.below (by have := hc.lt; omega) (fun k e => by subst e; exact hwb)⟩
  cases oj with
  | none => exact hj
  | some J =>
    obtain ⟨Jb, Kb, h1, h2, h3, h4, h5, h6⟩ := hj
    refine ⟨Jb, Kb, h1, h2, h3, h4, h5.frm hf ?_ (fun k cs hb _ e => hb.ne hc (by decide) e), h6.frm hf ?_ (fun k cs hb _ e => hb.ne hc (by decide) e)⟩
    · obtain ⟨vr, hb, -⟩ := h5.ex
      exact fun e => hb.ne hc (by decide) e
    · obtain ⟨vr, hb, -⟩ := h6.ex
      exact fun e => hb.ne hc (by decide) e
set_option maxRecDepth 100000 in
set_option maxHeartbeats 4000000 in
theorem open17 {base : Nat} {W : World} {Wb B R n : Nat} {D : DiskD} {oj : Option JouD} (h : St base W Wb B R n D oj) (hb : base ≤ W.heap.size) (hE : EnvJ W) (hp : D.pend.length ≤ 90000) (hn : n ≤ 100000) :
    Calls Tryz.prog 17 #[.pointer (some ⟨Wb, 0, none⟩)] W fun e w' => e = .returned (.bool true) ∧ St base w' Wb B R n (openD n D) (openedJ n D) ∧ Below base W w' := by
  obtain ⟨v1, v2, hc, -⟩ := h.cells
  have hwb := h.wb
  have c0 := hc.cell 0
  simp only [List.getElem?_toArray, List.getElem?_cons_zero] at c0
  have HC1 := Lib.hid (d_open h.duo hb hE hp hn)
  have HC2 := Lib.hid (fun (w1 : World) (hd : DuoB w1 base n B R (openD n D) D) (hb1 : base ≤ w1.heap.size) => r_open hd hb1 hp hn)
  have HBK := Lib.hid (fun (w1 : World) (hk : Kept NoX W w1) => show Blk w1 Wb #[.pointer (some ⟨B, 0, none⟩), v1, .pointer (some ⟨R, 0, none⟩), v2] 32 from hk.blk hc (by decide) (fun h => h))
  have HB := Lib.hid hb
  unfold Opened at HC1
  unfold OpenedK at HC2
  have HOJ := Lib.hid (show openedJ n D = if openE n D = 0 then some ⟨openL n D, false⟩ else none from rfl)
  clear hc h hE
  generalize openedJ n D = oj' at HOJ ⊢
  generalize openD n D = D' at HC1 HC2 ⊢
  generalize openL n D = L at HC1 HC2 HOJ
  by_cases he : openE n D = 0
  · rw [he] at HC1 HC2 HOJ
    rw [if_pos rfl] at HOJ
    go_enter Tryz.func17, Tryz.ntmps17
    go_wp2_with fail
    refine HC1.out.mono ?_
    rintro e w1 ⟨⟨hcon, -⟩ | ⟨-, Jb, rfl, hJb, hJ⟩, hd1, hk1, b1⟩
    · exact absurd rfl hcon
    have k1 := HBK.out w1 hk1
    have c2 := k1.cell 2
    simp only [List.getElem?_toArray, List.getElem?_cons_zero, List.getElem?_cons_succ] at c2
    have hb1 := Nat.le_trans HB.out b1.size
    have H2 := Lib.hid (HC2.out w1 hd1 hb1)
    clear c0 k1 HC1 HC2 hd1
    go_wp2_with fail
    refine H2.out.mono ?_
    rintro e w2 ⟨⟨hcon, -⟩ | ⟨-, Kb, rfl, hKb, hK⟩, hd2, hk2, b2⟩
    · exact absurd rfl hcon
    have k2 := HBK.out w2 (fun k hk ho hx => by
      have h1 := hk1 k hk ho hx
      obtain ⟨cs, t, hbk, ht⟩ := ho
      have h2 := hk2 k (Nat.lt_of_lt_of_le hk b1.size) ⟨cs, t, h1.trans hbk, ht⟩ hx
      exact h2.trans h1)
    have a1 := k2.cell 1
    have f1 := k2.frozen 1
    have ks := k2.set 1 (.pointer (some ⟨Jb, 0, none⟩))
    have a3 := ks.cell 3
    have f3 := ks.frozen 3
    simp only [List.setIfInBounds_toArray, List.set_cons_zero, List.set_cons_succ, List.getElem?_toArray, List.getElem?_cons_zero, List.getElem?_cons_succ] at a1 a3
    have hjk : JK base w2 B R (.pointer (some ⟨Jb, 0, none⟩)) (.pointer (some ⟨Kb, 0, none⟩)) (some ⟨L, false⟩) :=
      ⟨Jb, Kb, rfl, rfl, Nat.le_trans HB.out hJb, Nat.le_trans hb1 hKb, (hJ.mono (Nat.zero_le _)).kept hk2 (fun h => h) (fun _ _ _ h => h), hK.mono (Nat.zero_le _)⟩
    have HST := Lib.hid (st_set hd2 k2 hjk hwb)
    have HBB := Lib.hid (b1.trans b2)
    clear k2 ks hjk hJ hK hd2 hk1 hk2 b1 b2 c2 HBK H2 hJb hKb
    go_wp2
    go_ret
    exact ⟨rfl, by rw [HOJ.out]; exact HST.out.1, HBB.out.trans HST.out.2⟩
  · generalize openE n D = er at *
    rw [if_neg he] at HOJ
    have x0 : (er == 0) = false := beq_eq_false_iff_ne.2 he
    have x0n : (er != 0) = true := by rw [bne, x0]; rfl
    have HE := Lib.hid he
    clear he
    go_enter Tryz.func17, Tryz.ntmps17
    go_wp2_with fail
    refine HC1.out.mono ?_
    rintro e w1 ⟨⟨-, rfl⟩ | ⟨hcon, -⟩, hd1, hk1, b1⟩
    rotate_left
    · exact absurd hcon HE.out
    have k1 := HBK.out w1 hk1
    have c2 := k1.cell 2
    simp only [List.getElem?_toArray, List.getElem?_cons_zero, List.getElem?_cons_succ] at c2
    have hb1 := Nat.le_trans HB.out b1.size
    have H2 := Lib.hid (HC2.out w1 hd1 hb1)
    clear c0 k1 HC1 HC2 hd1
    go_wp2_with fail
    refine H2.out.mono ?_
    rintro e w2 ⟨⟨-, rfl⟩ | ⟨hcon, -⟩, hd2, hk2, b2⟩
    rotate_left
    · exact absurd hcon HE.out
    have k2 := HBK.out w2 (fun k hk ho hx => by
      have h1 := hk1 k hk ho hx
      obtain ⟨cs, t, hbk, ht⟩ := ho
      have h2 := hk2 k (Nat.lt_of_lt_of_le hk b1.size) ⟨cs, t, h1.trans hbk, ht⟩ hx
      exact h2.trans h1)
    have a1 := k2.cell 1
    have f1 := k2.frozen 1
    have ks := k2.set 1 (.pointer none)
    have a3 := ks.cell 3
    have f3 := ks.frozen 3
    simp only [List.setIfInBounds_toArray, List.set_cons_zero, List.set_cons_succ, List.getElem?_toArray, List.getElem?_cons_zero, List.getElem?_cons_succ] at a1 a3
    have hjk : JK base w2 B R (.pointer none) (.pointer none) none := ⟨rfl, rfl⟩
    have HST := Lib.hid (st_set hd2 k2 hjk hwb)
    have HBB := Lib.hid (b1.trans b2)
    clear k2 ks hjk hd2 hk1 hk2 b1 b2 c2 HBK H2
    go_wp2
    go_ret
    exact ⟨rfl, by rw [HOJ.out]; exact HST.out.1, HBB.out.trans HST.out.2⟩
set_option maxRecDepth 100000 in
set_option maxHeartbeats 4000000 in
theorem begin9 (c : Int) (W : World) (hE : EnvJ W) (hc : InR c) :
    Calls Tryz.prog 9 #[.int .i64 c] W fun e w' => ∃ Wb B R, e = .returned (.tuple #[.pointer (some ⟨Wb, 0, none⟩), .bool true]) ∧ St W.heap.size w' Wb B R (sizeN c) (openD (sizeN c) (newD (sizeN c))) (openedJ (sizeN c) (newD (sizeN c))) ∧ Below W.heap.size W w' := by
  have h3 : 3 < W.heap.size := hE.1.1
  have HE := Lib.hid (fun V (hb : Below W.heap.size W V) => hE.below h3 hb)
  have hsz := Lib.hid (fun V => size15 c V hc)
  obtain ⟨hN1, hN2⟩ := sizeN_bd c
  generalize sizeN c = n at *
  have HN := Lib.hid (new_own n W hN1 (by omega))
  have HR := Lib.hid (fun V => new_ref n V hN1 (by omega))
  have hI : Inv n (newD n) := Inv.new hN1 (by omega)
  clear hc hE
  go_enter Tryz.func9, Tryz.ntmps9
  go_wp2_with fail
  refine (hsz.out _).mono ?_
  rintro e wq ⟨rfl, hq⟩
  subst hq
  go_wp2_with fail
  refine HN.out.mono ?_
  rintro e w1 ⟨B, rfl, o1, b1⟩
  go_wp2_with fail
  refine (hsz.out _).mono ?_
  rintro e wq ⟨rfl, hq⟩
  subst hq
  go_wp2_with fail
  refine (HR.out _).mono ?_
  rintro e w2 ⟨R, vs, rfl, r2, hR, hv, b2⟩
  have hd := Duo.new o1 b1.size r2 hI hR hv b2
  have B2 := b1.trans (b2.mono b1.size)
  have s2 := B2.size
  have hA : Below w2.heap.size w2 (w2.alloc (.cells #[.pointer (some ⟨B, 0, none⟩), .pointer none, .pointer (some ⟨R, 0, none⟩), .pointer none] 32)) := (Below.refl _ _).alloc (Nat.le_refl _) _
  have hst : St W.heap.size (w2.alloc (.cells #[.pointer (some ⟨B, 0, none⟩), .pointer none, .pointer (some ⟨R, 0, none⟩), .pointer none] 32)) w2.heap.size B R n (newD n) none :=
    ⟨Duo.below hd hA, ⟨_, _, Blk.new _ _ _, ⟨rfl, rfl⟩⟩, s2⟩
  have BA := B2.trans (hA.mono s2)
  have HOP := Lib.hid (open17 hst BA.size (HE.out _ BA) (by show ([] : List WrD).length ≤ 90000; decide) (by omega))
  have HBA := Lib.hid BA
  clear hd hA hst BA B2 o1 b1 r2 hv b2 hR s2 HN HR hsz HE
  go_wp2_with fail
  refine HOP.out.mono ?_
  rintro e w3 ⟨rfl, hs3, b3⟩
  go_wp2
  go_ret2
  exact ⟨_, _, _, rfl, hs3, HBA.out.trans b3⟩
end Go.Proofs.YtnckpnbecmmcpaaGreatDoor
