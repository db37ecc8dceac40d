/- package rational: a calculation that remembers whether it has failed. -/
import Derived.Test.YtjnpenljgfdaiaaGreatDoorLK
import Derived.Test.YtjnpenljgfdaiaaGreatDoorGA
namespace Go.Proofs.YtjnpenljgfdaiaaGreatDoor
open Go.RowKit Go.Shelf Lib

/-- All blocks but one are as they were. -/
def Oth (g : Nat) (w w' : World) : Prop := Below 0 w w' ∧ ∀ k, k < w.heap.size → k ≠ g → w'.heap[k]? = w.heap[k]?
theorem Oth.refl (g : Nat) (w : World) : Oth g w w := ⟨Below.refl _ _, fun _ _ _ => rfl⟩
theorem Oth.size {g : Nat} {w w' : World} (h : Oth g w w') : w.heap.size ≤ w'.heap.size := h.1.size
theorem Oth.trans {g : Nat} {a b c : World} (h : Oth g a b) (k : Oth g b c) : Oth g a c :=
  ⟨h.1.trans k.1, fun j hj hg => (k.2 j (Nat.lt_of_lt_of_le hj h.1.size) hg).trans (h.2 j hj hg)⟩
theorem Oth.of {g : Nat} {w w' : World} (h : Below w.heap.size w w') : Oth g w w' := ⟨h.mono (Nat.zero_le _), fun k hk _ => h.block k hk⟩
theorem Oth.set (w : World) (g i : Nat) (v : Value) : Oth g w (w.setCell ⟨g, i, none⟩ v) := ⟨(Below.refl 0 w).setCell (Nat.zero_le _) v, fun k _ hg => heap_setCell_other w ⟨g, i, none⟩ k v hg⟩
theorem Oth.blk {g k : Nat} {w w' : World} {cs : Array Value} {t : TypeId} (h : Oth g w w') (hb : BlkT w k cs t) (hk : k ≠ g) : BlkT w' k cs t := (h.2 k hb.lt hk).trans hb
theorem Oth.below {g : Nat} {a w w' : World} (k : Oth g w w') (h : Below a.heap.size a w) (hg : a.heap.size ≤ g) : Below a.heap.size a w' :=
  have q := (h.mono (Nat.zero_le _)).trans k.1
  ⟨q.os, q.tape, q.output, q.size, fun j hj => (k.2 j (Nat.lt_of_lt_of_le hj h.size) (by omega)).trans (h.block j hj)⟩
theorem BlkT.keep {k : Nat} {w w' : World} {cs : Array Value} {t : TypeId} (hb : BlkT w k cs t) (h : Below w.heap.size w w') : BlkT w' k cs t := hb.below h hb.lt
/-- The calculation's cell. -/
def WkB (w : World) (g : Nat) (b : Bool) : Prop := BlkT w g #[.bool b] 81
def doS (b : Bool) (s : ByteArray) : ByteArray := if b = true then ⟨#[]⟩ else s
def doB (b : Bool) (e : Int) : Bool := b || (e != 0)
theorem doS_true (s : ByteArray) : doS true s = ⟨#[]⟩ := rfl
theorem doS_false (s : ByteArray) : doS false s = s := rfl
theorem doB_true (e : Int) : doB true e = true := rfl
theorem doB_false (e : Int) : doB false e = (e != 0) := rfl
theorem out_size (o : Option Int) : (N3.outS o).size ≤ 300 := by
  cases o with
  | none => decide
  | some x =>
    by_cases h : x.natAbs < N3.lim
    · rw [N3.outS_some h]; exact S_size h
    · rw [N3.outS_big h]; decide
theorem doS_size (b : Bool) (o : Option Int) : (doS b (N3.outS o)).size ≤ 300 := by
  cases b with
  | true => rw [doS_true]; decide
  | false => exact out_size o
set_option maxRecDepth 100000 in
theorem do_u (k : Nat) (a b s : ByteArray) (e : Int) (g : Nat) (bad : Bool) (w : World) (hent : ∀ args w, (callFunc k args).run Tryz.prog w = .ok (.enter k args) w)
    (hop : Calls Tryz.prog k #[.string a, .string b] w fun r w' => r = .returned (.tuple #[.string s, .int .i64 e]) ∧ Below w.heap.size w w') (hg : WkB w g bad) :
    Calls Tryz.prog 110 #[.pointer (some ⟨g, 0, none⟩), .func (.func k) #[] #[], .string a, .string b] w fun r w' => r = .returned (.string (doS bad s)) ∧ WkB w' g (doB bad e) ∧ Oth g w w' := by
  have hc := hg.cell 0
  have hf := hg.frozen 0
  simp only [List.getElem?_toArray, List.getElem?_cons_zero] at hc
  have HG := Lib.hid hg
  have HOP := Lib.hid hop
  clear hg hop
  cases bad with
  | true =>
    rw [doS_true, doB_true]
    go_enter Tryz.func110, Tryz.ntmps110
    go_wp2_with fail
    go_ret
    exact ⟨rfl, HG.out, Oth.refl _ _⟩
  | false =>
    rw [doS_false, doB_false]
    go_enter Tryz.func110, Tryz.ntmps110
    go_wp2_with fail
    refine HOP.out.mono ?_
    rintro r w1 ⟨rfl, hB⟩
    have hg1 := BlkT.keep HG.out hB
    have hc1 := hg1.cell 0
    have hf1 := hg1.frozen 0
    simp only [List.getElem?_toArray, List.getElem?_cons_zero] at hc1
    have HG1 := Lib.hid hg1
    clear hc hf hg1
    go_wp2_with fail
    go_ret
    exact ⟨rfl, HG1.out.set 0 _, (Oth.of hB).trans (Oth.set _ _ _ _)⟩
set_option maxRecDepth 100000 in
theorem mul_u (a b : ByteArray) (g : Nat) (bad : Bool) (w : World) (ha : a.size ≤ 9223372036854775807) (hb : b.size ≤ 9223372036854775807) (he : EnvW w) (hg : WkB w g bad) :
    Calls Tryz.prog 79 #[.pointer (some ⟨g, 0, none⟩), .string a, .string b] w fun r w' => r = .returned (.string (doS bad (N3.outS (N3.mulO a b)))) ∧ WkB w' g (doB bad (N3.outE (N3.mulO a b))) ∧ Oth g w w' := by
  have H := Lib.hid (do_u 35 a b _ _ g bad w Tryz.call35 (mul_f a b w ha hb he) hg)
  clear hg
  go_enter Tryz.func79, Tryz.ntmps79
  go_wp2_with fail
  refine H.out.mono ?_
  rintro r w1 ⟨rfl, h1, h2⟩
  go_wp2
  go_ret
  exact ⟨rfl, h1, h2⟩
set_option maxRecDepth 100000 in
theorem quo1_f (a b : ByteArray) (w : World) (ha : a.size ≤ 9223372036854775807) (hb : b.size ≤ 9223372036854775807) (he : EnvW w) :
    Calls Tryz.prog 134 #[.string a, .string b] w fun r w' => r = .returned (.tuple #[.string (N3.outS (N3.quoO a b)), .int .i64 (N3.outE (N3.quoO a b))]) ∧ Below w.heap.size w w' := by
  have H := Lib.hid (div_f a b w ha hb he)
  go_enter Tryz.func134, Tryz.ntmps134
  go_wp2_with fail
  refine H.out.mono ?_
  rintro r w1 ⟨rfl, h1⟩
  go_wp2
  go_ret2
  exact ⟨rfl, h1⟩
set_option maxRecDepth 100000 in
theorem quo_u (a b : ByteArray) (g : Nat) (bad : Bool) (w : World) (ha : a.size ≤ 9223372036854775807) (hb : b.size ≤ 9223372036854775807) (he : EnvW w) (hg : WkB w g bad) :
    Calls Tryz.prog 111 #[.pointer (some ⟨g, 0, none⟩), .string a, .string b] w fun r w' => r = .returned (.string (doS bad (N3.outS (N3.quoO a b)))) ∧ WkB w' g (doB bad (N3.outE (N3.quoO a b))) ∧ Oth g w w' := by
  have H := Lib.hid (do_u 134 a b _ _ g bad w Tryz.call134 (quo1_f a b w ha hb he) hg)
  clear hg
  go_enter Tryz.func111, Tryz.ntmps111
  go_wp2_with fail
  refine H.out.mono ?_
  rintro r w1 ⟨rfl, h1, h2⟩
  go_wp2
  go_ret
  exact ⟨rfl, h1, h2⟩
/-- A fraction's two texts. -/
abbrev ratV (n d : ByteArray) : Value := .agg #[.string n, .string d]
def gcd1 (n d : ByteArray) : Bool := decide (N3.gcdI (N3.iV n) (N3.iV d) = 1)
def validR (n d : ByteArray) : Bool := N3.okS n && (N3.okS d && (decide (0 < N3.iV d) && gcd1 n d))
theorem gcd_out {n d : ByteArray} (hn : N3.okS n = true) (hd : N3.okS d = true) : N3.outS (N3.gcdO n d) = N3.S (N3.gcdI (N3.iV n) (N3.iV d)) ∧ N3.outE (N3.gcdO n d) = 0 := by
  have h1 := N3.gcd_natAbs_lt (N3.iV_lim hn) (N3.iV_lim hd)
  have e : N3.gcdO n d = some (N3.gcdI (N3.iV n) (N3.iV d)) := by unfold N3.gcdO N3.ok2; rw [hn, hd]; rfl
  rw [e, N3.outS_some h1, N3.outE_some h1]; exact ⟨rfl, rfl⟩
theorem S_is1 {x : Int} : ((N3.S x).toList == [49]) = decide (x = 1) := by
  have e : [49] = (N3.S 1).toList := by rw [S_one, ByteArray.toList_eq]
  rw [e]
  by_cases h : x = 1
  · rw [h, decide_eq_true rfl]; exact beq_self_eq_true _
  · rw [decide_eq_false h]
    refine beq_eq_false_iff_ne.2 fun k => h (N3.S_inj (Go.WideShapes.bytes_inj ?_))
    rw [← ByteArray.toList_eq, ← ByteArray.toList_eq, k]
theorem cmp0 {d : ByteArray} (hd : N3.okS d = true) : N3.cmpS d ⟨#[48]⟩ = N3.cmpI (N3.iV d) 0 := by
  unfold N3.cmpS N3.ok2
  rw [hd, okS_zero, iV_zero]; rfl
set_option maxRecDepth 100000 in
set_option maxHeartbeats 2000000 in
theorem valid04 (n d : ByteArray) (w : World) (hn : n.size ≤ 9223372036854775806) (hd : d.size ≤ 9223372036854775806) (he : EnvW w) :
    Calls Tryz.prog 60 #[ratV n d] w fun r w' => r = .returned (.bool (validR n d)) ∧ Below w.heap.size w w' := by
  have VN := Lib.hid (fun V => valid_f n V (by omega))
  have VD := Lib.hid (fun V => valid_f d V (by omega))
  have VC := Lib.hid (fun V => compare_f d ⟨#[48]⟩ V (by omega) (by decide))
  have VG := Lib.hid (fun V (hV : EnvW V) => gcd_f n d V (by omega) (by omega) hV)
  have HE := Lib.hid he
  obtain ⟨W, hW⟩ : ∃ W, w.alloc (.cells #[.string n, .string d] 26) = W := ⟨_, rfl⟩
  have hb : BlkT W w.heap.size #[.string n, .string d] 26 := hW ▸ BlkT.newAt _ _ _ rfl
  have hB : Below w.heap.size w W := hW ▸ (Below.refl _ _).alloc (Nat.le_refl _) _
  have x0 := hb.cell 0
  have x1 := hb.cell 1
  simp only [List.getElem?_toArray, List.getElem?_cons_succ, List.getElem?_cons_zero] at x0 x1
  clear he hn hd
  cases h1 : N3.okS n with
  | false =>
    have e1 : validR n d = false := by unfold validR; rw [h1]; rfl
    rw [e1]
    rw [h1] at VN
    clear h1 e1
    go_enter Tryz.func60, Tryz.ntmps60
    go_wp2_with (simp only [hW])
    refine (VN.out _).mono ?_
    rintro r w1 ⟨rfl, hb1⟩
    have hB1 := hB.trans (hb1.mono hB.size)
    go_wp2
    go_ret
    exact ⟨rfl, hB1⟩
  | true =>
    rw [h1] at VN
    cases h2 : N3.okS d with
    | false =>
      have e1 : validR n d = false := by unfold validR; rw [h1, h2]; rfl
      rw [e1]
      rw [h2] at VD
      clear h1 h2 e1
      go_enter Tryz.func60, Tryz.ntmps60
      go_wp2_with (simp only [hW])
      refine (VN.out _).mono ?_
      rintro r w1 ⟨rfl, hb1⟩
      have hB1 := hB.trans (hb1.mono hB.size)
      have y1 := cell_keep hb1 x1
      go_wp2_with fail
      refine (VD.out _).mono ?_
      rintro r w2 ⟨rfl, hb2⟩
      have hB2 := hB1.trans (hb2.mono hB1.size)
      go_wp2
      go_ret
      exact ⟨rfl, hB2⟩
    | true =>
      rw [h2] at VD
      rw [cmp0 h2] at VC
      obtain ⟨g1, g2⟩ := gcd_out h1 h2
      rw [g1, g2] at VG
      by_cases hp : 0 < N3.iV d
      · have hz : 0 < N3.cmpI (N3.iV d) 0 := by unfold N3.cmpI; (repeat' split) <;> omega
        have hz2 : ¬ N3.cmpI (N3.iV d) 0 ≤ 0 := by omega
        have e1 : validR n d = gcd1 n d := by unfold validR; rw [h1, h2, decide_eq_true hp]; rfl
        have HQ := Lib.hid (S_is1 (x := N3.gcdI (N3.iV n) (N3.iV d)))
        have HG : Hid (gcd1 n d = decide (N3.gcdI (N3.iV n) (N3.iV d) = 1)) := Lib.hid rfl
        rw [e1, HG.out, ← HQ.out]
        clear h1 h2 e1 g1 g2 HQ HG
        generalize N3.cmpI (N3.iV d) 0 = z at *
        generalize N3.S (N3.gcdI (N3.iV n) (N3.iV d)) = sg at *
        go_enter Tryz.func60, Tryz.ntmps60
        go_wp2_with (simp only [hW])
        refine (VN.out _).mono ?_
        rintro r w1 ⟨rfl, hb1⟩
        have hB1 := hB.trans (hb1.mono hB.size)
        have y0 := cell_keep hb1 x0
        have y1 := cell_keep hb1 x1
        clear x0 x1
        go_wp2_with fail
        refine (VD.out _).mono ?_
        rintro r w2 ⟨rfl, hb2⟩
        have hB2 := hB1.trans (hb2.mono hB1.size)
        have x0 := cell_keep hb2 y0
        have x1 := cell_keep hb2 y1
        clear y0 y1
        go_wp2_with fail
        refine (VC.out _).mono ?_
        rintro r w3 ⟨rfl, hb3⟩
        have hB3 := hB2.trans (hb3.mono hB2.size)
        have y0 := cell_keep hb3 x0
        have y1 := cell_keep hb3 x1
        clear x0 x1
        go_wp2_with fail
        refine (VG.out _ (HE.out.below hB3)).mono ?_
        rintro r w4 ⟨rfl, hb4⟩
        have hB4 := hB3.trans (hb4.mono hB3.size)
        go_wp2_with fail
        go_ret
        exact ⟨rfl, hB4⟩
      · have hz : N3.cmpI (N3.iV d) 0 ≤ 0 := by unfold N3.cmpI; (repeat' split) <;> omega
        have e1 : validR n d = false := by unfold validR; rw [h1, h2, decide_eq_false hp]; rfl
        rw [e1]
        clear h1 h2 e1 g1 g2
        generalize N3.cmpI (N3.iV d) 0 = z at *
        go_enter Tryz.func60, Tryz.ntmps60
        go_wp2_with (simp only [hW])
        refine (VN.out _).mono ?_
        rintro r w1 ⟨rfl, hb1⟩
        have hB1 := hB.trans (hb1.mono hB.size)
        have y1 := cell_keep hb1 x1
        clear x0 x1
        go_wp2_with fail
        refine (VD.out _).mono ?_
        rintro r w2 ⟨rfl, hb2⟩
        have hB2 := hB1.trans (hb2.mono hB1.size)
        have x1 := cell_keep hb2 y1
        clear y1
        go_wp2_with fail
        refine (VC.out _).mono ?_
        rintro r w3 ⟨rfl, hb3⟩
        have hB3 := hB2.trans (hb3.mono hB2.size)
        go_wp2
        go_ret
        exact ⟨rfl, hB3⟩
end Go.Proofs.YtjnpenljgfdaiaaGreatDoor
