/- package rational: reduced, Make, Of. -/
import Derived.Test.YtjnpenljgfdaiaaGreatDoorQ2
namespace Go.Proofs.YtjnpenljgfdaiaaGreatDoor
open Go.RowKit Go.Shelf Lib

theorem Oth.new {g h : Nat} {w V : World} (hO : Oth g w V) (hh : w.heap.size ≤ h) {i : Nat} {v : Value} : Oth g w (V.setCell ⟨h, i, none⟩ v) :=
  ⟨hO.1.setCell (Nat.zero_le _) v, fun k hk hg => (heap_setCell_other V ⟨h, i, none⟩ k v (by show k ≠ h; omega)).trans (hO.2 k hk hg)⟩
def redT (b : Bool) (n d : ByteArray) : Option (ByteArray × ByteArray) :=
  let gg := doS b (N3.outS (N3.gcdO n d)); let b3 := doB b (N3.outE (N3.gcdO n d))
  let x := doS b3 (N3.outS (N3.quoO n gg)); let b4 := doB b3 (N3.outE (N3.quoO n gg))
  let y := doS b4 (N3.outS (N3.quoO d gg)); let b5 := doB b4 (N3.outE (N3.quoO d gg))
  if b5 = true then none else some (x, y)
def zeroB : ByteArray := ⟨#[48]⟩
def redU (b : Bool) (n d : ByteArray) : Option (ByteArray × ByteArray) :=
  if b = true then none else if d.data.toList = [48] then none else
  if N3.cmpS d ⟨#[48]⟩ < 0 then redT (doB (doB false (N3.outE (N3.subO ⟨#[48]⟩ n))) (N3.outE (N3.subO ⟨#[48]⟩ d))) (doS false (N3.outS (N3.subO ⟨#[48]⟩ n))) (doS (doB false (N3.outE (N3.subO ⟨#[48]⟩ n))) (N3.outS (N3.subO ⟨#[48]⟩ d)))
  else redT false n d
def valR : Option (ByteArray × ByteArray) → Value
  | some r => ratV r.1 r.2
  | none => ratV ⟨#[]⟩ ⟨#[]⟩
def errR : Option (ByteArray × ByteArray) → Int
  | some _ => 0
  | none => 40
set_option maxRecDepth 100000 in
set_option maxHeartbeats 4000000 in
theorem reduced_u (n d : ByteArray) (g : Nat) (bad : Bool) (w a0 : World) (hn : n.size ≤ 1000000) (hd : d.size ≤ 1000000) (he : EnvW a0) (ha : Below a0.heap.size a0 w) (hag : a0.heap.size ≤ g) (hg : WkB w g bad) :
    Calls Tryz.prog 80 #[.pointer (some ⟨g, 0, none⟩), .string n, .string d] w fun r w' => r = .returned (.tuple #[valR (redU bad n d), .int .i64 (errR (redU bad n d))]) ∧ Oth g w w' := by
  have HE := Lib.hid he
  clear he
  obtain ⟨W, hW⟩ : ∃ W, w.alloc (.cells #[.string ⟨#[]⟩, .string ⟨#[]⟩] 26) = W := ⟨_, rfl⟩
  have hb0 : Below w.heap.size w W := hW ▸ (Below.refl _ _).alloc (Nat.le_refl _) _
  have hb : BlkT W w.heap.size #[.string ⟨#[]⟩, .string ⟨#[]⟩] 26 := hW ▸ BlkT.newAt _ _ _ rfl
  have hgW : WkB W g bad := BlkT.keep hg hb0
  have hng : w.heap.size ≠ g := by have := hg.lt; omega
  have hO0 : Oth g w W := Oth.of hb0
  clear hb0
  generalize hh : w.heap.size = h at *
  have hhle : w.heap.size ≤ h := Nat.le_of_eq hh
  have HB0 := Lib.hid hb
  have HG0 := Lib.hid hgW
  cases bad with
  | true =>
    have e : redU true n d = none := rfl
    rw [e]
    show Calls Tryz.prog 80 _ _ fun r w' => r = .returned (.tuple #[ratV ⟨#[]⟩ ⟨#[]⟩, .int .i64 40]) ∧ _
    have x0 := hb.cell 0
    have x1 := hb.cell 1
    have f0 := hb.frozen 0
    have f1 := hb.frozen 1
    have c0 := hgW.cell 0
    have c1 := hgW.frozen 0
    simp only [List.getElem?_toArray, List.getElem?_cons_succ, List.getElem?_cons_zero] at x0 x1 c0
    go_enter Tryz.func80, Tryz.ntmps80
    go_wp2_with (simp only [hW])
    have hz : BlkT _ _ #[.string ⟨#[]⟩, .string ⟨#[]⟩] 26 := (HB0.out.set 0 (.string ⟨#[]⟩)).set 1 (.string ⟨#[]⟩)
    have z0 := hz.cell 0
    have z1 := hz.cell 1
    simp only [List.getElem?_toArray, List.getElem?_cons_succ, List.getElem?_cons_zero] at z0 z1
    refine bodyPost_ret (v := .tuple #[ratV ⟨#[]⟩ ⟨#[]⟩, .int .i64 40]) (by simp [results, Tryz.results80, go_sem, z0, z1]) rfl ?_
    exact ⟨rfl, (hO0.new hhle).new hhle⟩
  | false =>
    by_cases hd0 : d.data.toList = [48]
    · have e : redU false n d = none := by unfold redU; rw [if_neg (by decide), if_pos hd0]
      rw [e]
      have hst := str_eq48 hd0
      show Calls Tryz.prog 80 _ _ fun r w' => r = .returned (.tuple #[ratV ⟨#[]⟩ ⟨#[]⟩, .int .i64 40]) ∧ _
      clear hd0 e
      have x0 := hb.cell 0
      have x1 := hb.cell 1
      have f0 := hb.frozen 0
      have f1 := hb.frozen 1
      have c0 := hgW.cell 0
      have c1 := hgW.frozen 0
      simp only [List.getElem?_toArray, List.getElem?_cons_succ, List.getElem?_cons_zero] at x0 x1 c0
      go_enter Tryz.func80, Tryz.ntmps80
      go_wp2_with (simp only [hW])
      have hz : BlkT _ _ #[.string ⟨#[]⟩, .string ⟨#[]⟩] 26 := (HB0.out.set 0 (.string ⟨#[]⟩)).set 1 (.string ⟨#[]⟩)
      have z0 := hz.cell 0
      have z1 := hz.cell 1
      simp only [List.getElem?_toArray, List.getElem?_cons_succ, List.getElem?_cons_zero] at z0 z1
      refine bodyPost_ret (v := .tuple #[ratV ⟨#[]⟩ ⟨#[]⟩, .int .i64 40]) (by simp [results, Tryz.results80, go_sem, z0, z1]) rfl ?_
      exact ⟨rfl, (hO0.new hhle).new hhle⟩
    · have hst := str_ne48 hd0
      have HC := Lib.hid (fun V => compare_f d ⟨#[48]⟩ V (by omega) (by decide))
      by_cases hlt : N3.cmpS d ⟨#[48]⟩ < 0
      · have EU : Hid (redU false n d = redT (doB (doB false (N3.outE (N3.subO ⟨#[48]⟩ n))) (N3.outE (N3.subO ⟨#[48]⟩ d))) (doS false (N3.outS (N3.subO ⟨#[48]⟩ n))) (doS (doB false (N3.outE (N3.subO ⟨#[48]⟩ n))) (N3.outS (N3.subO ⟨#[48]⟩ d)))) := Lib.hid (by unfold redU; rw [if_neg (by decide), if_neg hd0, if_pos hlt])
        clear hd0
        have c0 := hgW.cell 0
        have c1 := hgW.frozen 0
        simp only [List.getElem?_toArray, List.getElem?_cons_zero] at c0
        go_enter Tryz.func80, Tryz.ntmps80
        go_wp2_with (simp only [hW])
        refine (HC.out _).mono ?_
        rintro r V1 ⟨rfl, hp1⟩
        have hg1 := BlkT.keep hgW hp1
        have hO1 := hO0.trans (Oth.of hp1)
        have hb1 := BlkT.keep hb hp1
        clear c0 c1
        generalize N3.cmpS d ⟨#[48]⟩ = z at *
        have q1 := do_u 36 ⟨#[48]⟩ n _ _ g false V1 Tryz.call36 (sub_f ⟨#[48]⟩ n V1 (by decide) (by omega) (HE.out.below (hO1.below ha hag))) hg1
        obtain ⟨n1, hn1⟩ : ∃ s, s = doS false (N3.outS (N3.subO ⟨#[48]⟩ n)) := ⟨_, rfl⟩
        obtain ⟨b1, hb1⟩ : ∃ s, s = doB false (N3.outE (N3.subO ⟨#[48]⟩ n)) := ⟨_, rfl⟩
        have hszn1 : n1.size ≤ 300 := by rw [hn1]; exact doS_size _ _
        rw [← hn1, ← hb1] at q1
        have Q1 := Lib.hid q1
        have En1 := Lib.hid hn1
        have Eb1 := Lib.hid hb1
        clear q1 hn1 hb1
        go_wp2_with fail
        refine Q1.out.mono ?_
        rintro r V2 ⟨rfl, hg2, hp2⟩
        have hO2 := hO1.trans hp2
        have hb2 := hp2.blk hb1 hng
        clear hg1 Q1
        have q2 := do_u 36 ⟨#[48]⟩ d _ _ g b1 V2 Tryz.call36 (sub_f ⟨#[48]⟩ d V2 (by decide) (by omega) (HE.out.below (hO2.below ha hag))) hg2
        obtain ⟨d1, hd1⟩ : ∃ s, s = doS b1 (N3.outS (N3.subO ⟨#[48]⟩ d)) := ⟨_, rfl⟩
        obtain ⟨b2, hb2⟩ : ∃ s, s = doB b1 (N3.outE (N3.subO ⟨#[48]⟩ d)) := ⟨_, rfl⟩
        have hszd1 : d1.size ≤ 300 := by rw [hd1]; exact doS_size _ _
        rw [← hd1, ← hb2] at q2
        have Q2 := Lib.hid q2
        have Ed1 := Lib.hid hd1
        have Eb2 := Lib.hid hb2
        clear q2 hd1 hb2
        go_wp2_with fail
        refine Q2.out.mono ?_
        rintro r V3 ⟨rfl, hg3, hp3⟩
        have hO3 := hO2.trans hp3
        have hb3 := hp3.blk hb2 hng
        clear hg2 Q2
        have q3 := do_u 40 n1 d1 _ _ g b2 V3 Tryz.call40 (gcd_f n1 d1 V3 (by omega) (by omega) (HE.out.below (hO3.below ha hag))) hg3
        obtain ⟨gg, hgg⟩ : ∃ s, s = doS b2 (N3.outS (N3.gcdO n1 d1)) := ⟨_, rfl⟩
        obtain ⟨b3, hb3⟩ : ∃ s, s = doB b2 (N3.outE (N3.gcdO n1 d1)) := ⟨_, rfl⟩
        have hszgg : gg.size ≤ 300 := by rw [hgg]; exact doS_size _ _
        rw [← hgg, ← hb3] at q3
        have Q3 := Lib.hid q3
        have Egg := Lib.hid hgg
        have Eb3 := Lib.hid hb3
        clear q3 hgg hb3
        go_wp2_with fail
        refine Q3.out.mono ?_
        rintro r V4 ⟨rfl, hg4, hp4⟩
        have hO4 := hO3.trans hp4
        have hb4 := hp4.blk hb3 hng
        clear hg3 Q3
        have q4 := quo_u n1 gg g b3 V4 (by omega) (by omega) (HE.out.below (hO4.below ha hag)) hg4
        obtain ⟨x, hx⟩ : ∃ s, s = doS b3 (N3.outS (N3.quoO n1 gg)) := ⟨_, rfl⟩
        obtain ⟨b4, hb4⟩ : ∃ s, s = doB b3 (N3.outE (N3.quoO n1 gg)) := ⟨_, rfl⟩
        have hszx : x.size ≤ 300 := by rw [hx]; exact doS_size _ _
        rw [← hx, ← hb4] at q4
        have Q4 := Lib.hid q4
        have Ex := Lib.hid hx
        have Eb4 := Lib.hid hb4
        clear q4 hx hb4
        go_wp2_with fail
        refine Q4.out.mono ?_
        rintro r V5 ⟨rfl, hg5, hp5⟩
        have hO5 := hO4.trans hp5
        have hb5 := hp5.blk hb4 hng
        clear hg4 Q4
        have q5 := quo_u d1 gg g b4 V5 (by omega) (by omega) (HE.out.below (hO5.below ha hag)) hg5
        obtain ⟨y, hy⟩ : ∃ s, s = doS b4 (N3.outS (N3.quoO d1 gg)) := ⟨_, rfl⟩
        obtain ⟨b5, hb5⟩ : ∃ s, s = doB b4 (N3.outE (N3.quoO d1 gg)) := ⟨_, rfl⟩
        have hszy : y.size ≤ 300 := by rw [hy]; exact doS_size _ _
        rw [← hy, ← hb5] at q5
        have Q5 := Lib.hid q5
        have Ey := Lib.hid hy
        have Eb5 := Lib.hid hb5
        clear q5 hy hb5
        go_wp2_with fail
        refine Q5.out.mono ?_
        rintro r V6 ⟨rfl, hg6, hp6⟩
        have hO6 := hO5.trans hp6
        have hb6 := hp6.blk hb5 hng
        clear hg5 Q5
        have HT : Hid (redT b2 n1 d1 = if b5 = true then none else some (x, y)) := Lib.hid (by unfold redT; rw [Eb5.out, Ey.out, Eb4.out, Ex.out, Eb3.out, Egg.out])
        have HU : Hid (redU false n d = redT b2 n1 d1) := Lib.hid (by rw [EU.out]; rw [Eb2.out, Ed1.out, Eb1.out, En1.out])
        obtain ⟨X, hX⟩ : ∃ X, V6.alloc (.cells #[.string x, .string y] 26) = X := ⟨_, rfl⟩
        have hbx : Below V6.heap.size V6 X := hX ▸ (Below.refl _ _).alloc (Nat.le_refl _) _
        have hr : BlkT X V6.heap.size #[.string x, .string y] 26 := hX ▸ BlkT.newAt _ _ _ rfl
        have hgx := BlkT.keep hg6 hbx
        have hbb := BlkT.keep hb6 hbx
        have hOx := hO6.trans (Oth.of hbx)
        have r0 := hr.cell 0
        have r1 := hr.cell 1
        have x0 := hbb.cell 0
        have x1 := hbb.cell 1
        have f0 := hbb.frozen 0
        have f1 := hbb.frozen 1
        have c0 := hgx.cell 0
        have c1 := hgx.frozen 0
        simp only [List.getElem?_toArray, List.getElem?_cons_succ, List.getElem?_cons_zero] at x0 x1 c0 r0 r1
        have HBB := Lib.hid hbb
        have HOX := Lib.hid hOx
        have hne : V6.heap.size ≠ h := by have := hb6.lt; omega
        clear hbb hOx hg6 hb6 hr hbx hgx
        cases hb5 : b5 with
        | true =>
          rw [hb5] at c0 HT
          rw [if_pos rfl] at HT
          go_wp2_with (simp only)
          have hz : BlkT _ _ #[.string ⟨#[]⟩, .string ⟨#[]⟩] 26 := (HBB.out.set 0 (.string ⟨#[]⟩)).set 1 (.string ⟨#[]⟩)
          have z0 := hz.cell 0
          have z1 := hz.cell 1
          simp only [List.getElem?_toArray, List.getElem?_cons_succ, List.getElem?_cons_zero] at z0 z1
          refine bodyPost_ret (v := .tuple #[ratV ⟨#[]⟩ ⟨#[]⟩, .int .i64 40]) (by simp [results, Tryz.results80, go_sem, z0, z1]) rfl ?_
          exact ⟨by rw [HU.out, HT.out]; rfl, (HOX.out.new hhle).new hhle⟩
        | false =>
          rw [hb5] at c0 HT
          rw [if_neg (by decide)] at HT
          go_wp2_with (simp only)
          have hz : BlkT _ _ #[.string x, .string y] 26 := (HBB.out.set 0 (.string x)).set 1 (.string y)
          have z0 := hz.cell 0
          have z1 := hz.cell 1
          simp only [List.getElem?_toArray, List.getElem?_cons_succ, List.getElem?_cons_zero] at z0 z1
          refine bodyPost_ret (v := .tuple #[ratV x y, .int .i64 0]) (by simp [results, Tryz.results80, go_sem, z0, z1]) rfl ?_
          exact ⟨by rw [HU.out, HT.out]; rfl, (HOX.out.new hhle).new hhle⟩
      · have EU : Hid (redU false n d = redT false n d) := Lib.hid (by unfold redU; rw [if_neg (by decide), if_neg hd0, if_neg hlt])
        have hlt2 : 0 ≤ N3.cmpS d ⟨#[48]⟩ := Int.not_lt.1 hlt
        clear hd0
        have c0 := hgW.cell 0
        have c1 := hgW.frozen 0
        simp only [List.getElem?_toArray, List.getElem?_cons_zero] at c0
        go_enter Tryz.func80, Tryz.ntmps80
        go_wp2_with (simp only [hW])
        refine (HC.out _).mono ?_
        rintro r V1 ⟨rfl, hp1⟩
        have hg1 := BlkT.keep hgW hp1
        have hO1 := hO0.trans (Oth.of hp1)
        have hb1 := BlkT.keep hb hp1
        clear c0 c1
        generalize N3.cmpS d ⟨#[48]⟩ = z at *
        have q1 := do_u 40 n d _ _ g false V1 Tryz.call40 (gcd_f n d V1 (by omega) (by omega) (HE.out.below (hO1.below ha hag))) hg1
        obtain ⟨gg, hgg⟩ : ∃ s, s = doS false (N3.outS (N3.gcdO n d)) := ⟨_, rfl⟩
        obtain ⟨b3, hb3⟩ : ∃ s, s = doB false (N3.outE (N3.gcdO n d)) := ⟨_, rfl⟩
        have hszgg : gg.size ≤ 300 := by rw [hgg]; exact doS_size _ _
        rw [← hgg, ← hb3] at q1
        have Q1 := Lib.hid q1
        have Egg := Lib.hid hgg
        have Eb3 := Lib.hid hb3
        clear q1 hgg hb3
        go_wp2_with fail
        refine Q1.out.mono ?_
        rintro r V2 ⟨rfl, hg2, hp2⟩
        have hO2 := hO1.trans hp2
        have hb2 := hp2.blk hb1 hng
        clear hg1 Q1
        have q2 := quo_u n gg g b3 V2 (by omega) (by omega) (HE.out.below (hO2.below ha hag)) hg2
        obtain ⟨x, hx⟩ : ∃ s, s = doS b3 (N3.outS (N3.quoO n gg)) := ⟨_, rfl⟩
        obtain ⟨b4, hb4⟩ : ∃ s, s = doB b3 (N3.outE (N3.quoO n gg)) := ⟨_, rfl⟩
        have hszx : x.size ≤ 300 := by rw [hx]; exact doS_size _ _
        rw [← hx, ← hb4] at q2
        have Q2 := Lib.hid q2
        have Ex := Lib.hid hx
        have Eb4 := Lib.hid hb4
        clear q2 hx hb4
        go_wp2_with fail
        refine Q2.out.mono ?_
        rintro r V3 ⟨rfl, hg3, hp3⟩
        have hO3 := hO2.trans hp3
        have hb3 := hp3.blk hb2 hng
        clear hg2 Q2
        have q3 := quo_u d gg g b4 V3 (by omega) (by omega) (HE.out.below (hO3.below ha hag)) hg3
        obtain ⟨y, hy⟩ : ∃ s, s = doS b4 (N3.outS (N3.quoO d gg)) := ⟨_, rfl⟩
        obtain ⟨b5, hb5⟩ : ∃ s, s = doB b4 (N3.outE (N3.quoO d gg)) := ⟨_, rfl⟩
        have hszy : y.size ≤ 300 := by rw [hy]; exact doS_size _ _
        rw [← hy, ← hb5] at q3
        have Q3 := Lib.hid q3
        have Ey := Lib.hid hy
        have Eb5 := Lib.hid hb5
        clear q3 hy hb5
        go_wp2_with fail
        refine Q3.out.mono ?_
        rintro r V4 ⟨rfl, hg4, hp4⟩
        have hO4 := hO3.trans hp4
        have hb4 := hp4.blk hb3 hng
        clear hg3 Q3
        have HT : Hid (redT false n d = if b5 = true then none else some (x, y)) := Lib.hid (by unfold redT; rw [Eb5.out, Ey.out, Eb4.out, Ex.out, Eb3.out, Egg.out])
        have HU : Hid (redU false n d = redT false n d) := Lib.hid (by rw [EU.out])
        obtain ⟨X, hX⟩ : ∃ X, V4.alloc (.cells #[.string x, .string y] 26) = X := ⟨_, rfl⟩
        have hbx : Below V4.heap.size V4 X := hX ▸ (Below.refl _ _).alloc (Nat.le_refl _) _
        have hr : BlkT X V4.heap.size #[.string x, .string y] 26 := hX ▸ BlkT.newAt _ _ _ rfl
        have hgx := BlkT.keep hg4 hbx
        have hbb := BlkT.keep hb4 hbx
        have hOx := hO4.trans (Oth.of hbx)
        have r0 := hr.cell 0
        have r1 := hr.cell 1
        have x0 := hbb.cell 0
        have x1 := hbb.cell 1
        have f0 := hbb.frozen 0
        have f1 := hbb.frozen 1
        have c0 := hgx.cell 0
        have c1 := hgx.frozen 0
        simp only [List.getElem?_toArray, List.getElem?_cons_succ, List.getElem?_cons_zero] at x0 x1 c0 r0 r1
        have HBB := Lib.hid hbb
        have HOX := Lib.hid hOx
        have hne : V4.heap.size ≠ h := by have := hb4.lt; omega
        clear hbb hOx hg4 hb4 hr hbx hgx
        cases hb5 : b5 with
        | true =>
          rw [hb5] at c0 HT
          rw [if_pos rfl] at HT
          go_wp2_with (simp only)
          have hz : BlkT _ _ #[.string ⟨#[]⟩, .string ⟨#[]⟩] 26 := (HBB.out.set 0 (.string ⟨#[]⟩)).set 1 (.string ⟨#[]⟩)
          have z0 := hz.cell 0
          have z1 := hz.cell 1
          simp only [List.getElem?_toArray, List.getElem?_cons_succ, List.getElem?_cons_zero] at z0 z1
          refine bodyPost_ret (v := .tuple #[ratV ⟨#[]⟩ ⟨#[]⟩, .int .i64 40]) (by simp [results, Tryz.results80, go_sem, z0, z1]) rfl ?_
          exact ⟨by rw [HU.out, HT.out]; rfl, (HOX.out.new hhle).new hhle⟩
        | false =>
          rw [hb5] at c0 HT
          rw [if_neg (by decide)] at HT
          go_wp2_with (simp only)
          have hz : BlkT _ _ #[.string x, .string y] 26 := (HBB.out.set 0 (.string x)).set 1 (.string y)
          have z0 := hz.cell 0
          have z1 := hz.cell 1
          simp only [List.getElem?_toArray, List.getElem?_cons_succ, List.getElem?_cons_zero] at z0 z1
          refine bodyPost_ret (v := .tuple #[ratV x y, .int .i64 0]) (by simp [results, Tryz.results80, go_sem, z0, z1]) rfl ?_
          exact ⟨by rw [HU.out, HT.out]; rfl, (HOX.out.new hhle).new hhle⟩

set_option maxRecDepth 100000 in
set_option maxHeartbeats 2000000 in
theorem make_u (n d : ByteArray) (w : World) (hn : n.size ≤ 1000000) (hd : d.size ≤ 1000000) (he : EnvW w) :
    Calls Tryz.prog 62 #[.string n, .string d] w fun r w' => r = .returned (.tuple #[valR (redU (!(N3.okS n && N3.okS d)) n d), .int .i64 (errR (redU (!(N3.okS n && N3.okS d)) n d))]) ∧ Below w.heap.size w w' := by
  have VN := Lib.hid (fun V => valid_f n V (by omega))
  have VD := Lib.hid (fun V => valid_f d V (by omega))
  have HE := Lib.hid he
  obtain ⟨W, hW⟩ : ∃ W, w.alloc (.cells #[.string ⟨#[]⟩, .string ⟨#[]⟩] 26) = W := ⟨_, rfl⟩
  have hB0 : Below w.heap.size w W := hW ▸ (Below.refl _ _).alloc (Nat.le_refl _) _
  have hb : BlkT W w.heap.size #[.string ⟨#[]⟩, .string ⟨#[]⟩] 26 := hW ▸ BlkT.newAt _ _ _ rfl
  have hsW : W.heap.size = w.heap.size + 1 := by rw [← hW]; simp
  have HB := Lib.hid hb
  clear he hb
  cases h1 : N3.okS n with
  | false =>
    rw [h1] at VN
    rw [show (!(false && N3.okS d)) = true from rfl]
    obtain ⟨R, hR⟩ : ∃ R, redU true n d = R := ⟨_, rfl⟩
    rw [hR]
    clear h1
    go_enter Tryz.func62, Tryz.ntmps62
    go_wp2_with (simp only [hW])
    refine (VN.out _).mono ?_
    rintro r V ⟨rfl, hb1⟩
    have hB1 := hB0.trans (hb1.mono hB0.size)
    have hk1 := BlkT.keep HB.out hb1
    obtain ⟨X, hX⟩ : ∃ X, V.alloc (.cells #[.bool true] 81) = X := ⟨_, rfl⟩
    have hbx : Below V.heap.size V X := hX ▸ (Below.refl _ _).alloc (Nat.le_refl _) _
    have hgx : WkB X V.heap.size true := hX ▸ BlkT.newAt _ _ _ rfl
    have hBx := hB1.trans (hbx.mono hB1.size)
    have hkx := BlkT.keep hk1 hbx
    have hvs := hB1.size
    have hne : w.heap.size ≠ V.heap.size := by have := hk1.lt; omega
    have hR1 := reduced_u n d V.heap.size true X w hn hd HE.out hBx hvs hgx
    rw [hR] at hR1
    have HR := Lib.hid hR1
    clear hR1
    clear hk1 hgx
    go_wp2_with (simp only)
    refine HR.out.mono ?_
    rintro r Y ⟨rfl, hO⟩
    have hBy := hO.below hBx hvs
    have hky := hO.blk hkx hne
    have x0 := hky.cell 0
    have x1 := hky.cell 1
    have f0 := hky.frozen 0
    have f1 := hky.frozen 1
    simp only [List.getElem?_toArray, List.getElem?_cons_succ, List.getElem?_cons_zero] at x0 x1
    have HK := Lib.hid hky
    clear hky hkx HR
    cases R with
    | none =>
      dsimp only [valR, errR]
      go_wp2_with fail
      have hz : BlkT _ _ #[.string ⟨#[]⟩, .string ⟨#[]⟩] 26 := (HK.out.set 0 (.string ⟨#[]⟩)).set 1 (.string ⟨#[]⟩)
      have z0 := hz.cell 0
      have z1 := hz.cell 1
      simp only [List.getElem?_toArray, List.getElem?_cons_succ, List.getElem?_cons_zero] at z0 z1
      refine bodyPost_ret (v := .tuple #[ratV ⟨#[]⟩ ⟨#[]⟩, .int .i64 40]) (by simp [results, Tryz.results62, go_sem, z0, z1]) rfl ?_
      exact ⟨rfl, (hBy.setCell (Nat.le_refl _) _).setCell (Nat.le_refl _) _⟩
    | some R =>
      obtain ⟨x, y⟩ := R
      dsimp only [valR, errR]
      go_wp2_with fail
      have hz : BlkT _ _ #[.string x, .string y] 26 := (HK.out.set 0 (.string x)).set 1 (.string y)
      have z0 := hz.cell 0
      have z1 := hz.cell 1
      simp only [List.getElem?_toArray, List.getElem?_cons_succ, List.getElem?_cons_zero] at z0 z1
      refine bodyPost_ret (v := .tuple #[ratV x y, .int .i64 0]) (by simp [results, Tryz.results62, go_sem, z0, z1]) rfl ?_
      exact ⟨rfl, (hBy.setCell (Nat.le_refl _) _).setCell (Nat.le_refl _) _⟩
  | true =>
    rw [h1] at VN
    cases h2 : N3.okS d with
    | false =>
      rw [h2] at VD
      rw [show (!(true && false)) = true from rfl]
      obtain ⟨R, hR⟩ : ∃ R, redU true n d = R := ⟨_, rfl⟩
      rw [hR]
      clear h1 h2
      go_enter Tryz.func62, Tryz.ntmps62
      go_wp2_with (simp only [hW])
      refine (VN.out _).mono ?_
      rintro r V0 ⟨rfl, hb0⟩
      have hB00 := hB0.trans (hb0.mono hB0.size)
      have hk0 := BlkT.keep HB.out hb0
      go_wp2_with fail
      refine (VD.out _).mono ?_
      rintro r V ⟨rfl, hb1⟩
      have hB1 := hB00.trans (hb1.mono hB00.size)
      have hk1 := BlkT.keep hk0 hb1
      obtain ⟨X, hX⟩ : ∃ X, V.alloc (.cells #[.bool true] 81) = X := ⟨_, rfl⟩
      have hbx : Below V.heap.size V X := hX ▸ (Below.refl _ _).alloc (Nat.le_refl _) _
      have hgx : WkB X V.heap.size true := hX ▸ BlkT.newAt _ _ _ rfl
      have hBx := hB1.trans (hbx.mono hB1.size)
      have hkx := BlkT.keep hk1 hbx
      have hvs := hB1.size
      have hne : w.heap.size ≠ V.heap.size := by have := hk1.lt; omega
      have hR1 := reduced_u n d V.heap.size true X w hn hd HE.out hBx hvs hgx
      rw [hR] at hR1
      have HR := Lib.hid hR1
      clear hR1
      clear hk1 hgx
      go_wp2_with (simp only)
      refine HR.out.mono ?_
      rintro r Y ⟨rfl, hO⟩
      have hBy := hO.below hBx hvs
      have hky := hO.blk hkx hne
      have x0 := hky.cell 0
      have x1 := hky.cell 1
      have f0 := hky.frozen 0
      have f1 := hky.frozen 1
      simp only [List.getElem?_toArray, List.getElem?_cons_succ, List.getElem?_cons_zero] at x0 x1
      have HK := Lib.hid hky
      clear hky hkx HR
      cases R with
      | none =>
        dsimp only [valR, errR]
        go_wp2_with fail
        have hz : BlkT _ _ #[.string ⟨#[]⟩, .string ⟨#[]⟩] 26 := (HK.out.set 0 (.string ⟨#[]⟩)).set 1 (.string ⟨#[]⟩)
        have z0 := hz.cell 0
        have z1 := hz.cell 1
        simp only [List.getElem?_toArray, List.getElem?_cons_succ, List.getElem?_cons_zero] at z0 z1
        refine bodyPost_ret (v := .tuple #[ratV ⟨#[]⟩ ⟨#[]⟩, .int .i64 40]) (by simp [results, Tryz.results62, go_sem, z0, z1]) rfl ?_
        exact ⟨rfl, (hBy.setCell (Nat.le_refl _) _).setCell (Nat.le_refl _) _⟩
      | some R =>
        obtain ⟨x, y⟩ := R
        dsimp only [valR, errR]
        go_wp2_with fail
        have hz : BlkT _ _ #[.string x, .string y] 26 := (HK.out.set 0 (.string x)).set 1 (.string y)
        have z0 := hz.cell 0
        have z1 := hz.cell 1
        simp only [List.getElem?_toArray, List.getElem?_cons_succ, List.getElem?_cons_zero] at z0 z1
        refine bodyPost_ret (v := .tuple #[ratV x y, .int .i64 0]) (by simp [results, Tryz.results62, go_sem, z0, z1]) rfl ?_
        exact ⟨rfl, (hBy.setCell (Nat.le_refl _) _).setCell (Nat.le_refl _) _⟩
    | true =>
      rw [h2] at VD
      rw [show (!(true && true)) = false from rfl]
      obtain ⟨R, hR⟩ : ∃ R, redU false n d = R := ⟨_, rfl⟩
      rw [hR]
      clear h1 h2
      go_enter Tryz.func62, Tryz.ntmps62
      go_wp2_with (simp only [hW])
      refine (VN.out _).mono ?_
      rintro r V0 ⟨rfl, hb0⟩
      have hB00 := hB0.trans (hb0.mono hB0.size)
      have hk0 := BlkT.keep HB.out hb0
      go_wp2_with fail
      refine (VD.out _).mono ?_
      rintro r V ⟨rfl, hb1⟩
      have hB1 := hB00.trans (hb1.mono hB00.size)
      have hk1 := BlkT.keep hk0 hb1
      obtain ⟨X, hX⟩ : ∃ X, V.alloc (.cells #[.bool false] 81) = X := ⟨_, rfl⟩
      have hbx : Below V.heap.size V X := hX ▸ (Below.refl _ _).alloc (Nat.le_refl _) _
      have hgx : WkB X V.heap.size false := hX ▸ BlkT.newAt _ _ _ rfl
      have hBx := hB1.trans (hbx.mono hB1.size)
      have hkx := BlkT.keep hk1 hbx
      have hvs := hB1.size
      have hne : w.heap.size ≠ V.heap.size := by have := hk1.lt; omega
      have hR1 := reduced_u n d V.heap.size false X w hn hd HE.out hBx hvs hgx
      rw [hR] at hR1
      have HR := Lib.hid hR1
      clear hR1
      clear hk1 hgx
      go_wp2_with (simp only)
      refine HR.out.mono ?_
      rintro r Y ⟨rfl, hO⟩
      have hBy := hO.below hBx hvs
      have hky := hO.blk hkx hne
      have x0 := hky.cell 0
      have x1 := hky.cell 1
      have f0 := hky.frozen 0
      have f1 := hky.frozen 1
      simp only [List.getElem?_toArray, List.getElem?_cons_succ, List.getElem?_cons_zero] at x0 x1
      have HK := Lib.hid hky
      clear hky hkx HR
      cases R with
      | none =>
        dsimp only [valR, errR]
        go_wp2_with fail
        have hz : BlkT _ _ #[.string ⟨#[]⟩, .string ⟨#[]⟩] 26 := (HK.out.set 0 (.string ⟨#[]⟩)).set 1 (.string ⟨#[]⟩)
        have z0 := hz.cell 0
        have z1 := hz.cell 1
        simp only [List.getElem?_toArray, List.getElem?_cons_succ, List.getElem?_cons_zero] at z0 z1
        refine bodyPost_ret (v := .tuple #[ratV ⟨#[]⟩ ⟨#[]⟩, .int .i64 40]) (by simp [results, Tryz.results62, go_sem, z0, z1]) rfl ?_
        exact ⟨rfl, (hBy.setCell (Nat.le_refl _) _).setCell (Nat.le_refl _) _⟩
      | some R =>
        obtain ⟨x, y⟩ := R
        dsimp only [valR, errR]
        go_wp2_with fail
        have hz : BlkT _ _ #[.string x, .string y] 26 := (HK.out.set 0 (.string x)).set 1 (.string y)
        have z0 := hz.cell 0
        have z1 := hz.cell 1
        simp only [List.getElem?_toArray, List.getElem?_cons_succ, List.getElem?_cons_zero] at z0 z1
        refine bodyPost_ret (v := .tuple #[ratV x y, .int .i64 0]) (by simp [results, Tryz.results62, go_sem, z0, z1]) rfl ?_
        exact ⟨rfl, (hBy.setCell (Nat.le_refl _) _).setCell (Nat.le_refl _) _⟩
set_option maxRecDepth 100000 in
set_option maxHeartbeats 2000000 in
theorem of_u (n d : Int) (w : World) (l0 : -9223372036854775808 ≤ n) (u0 : n ≤ 9223372036854775807) (l1 : -9223372036854775808 ≤ d) (u1 : d ≤ 9223372036854775807) (he : EnvW w) :
    Calls Tryz.prog 74 #[.int .i64 n, .int .i64 d] w fun r w' => r = .returned (.tuple #[valR (redU false (N3.S n) (N3.S d)), .int .i64 (errR (redU false (N3.S n) (N3.S d)))]) ∧ Below w.heap.size w w' := by
  have hbig : (9223372036854775808 : Nat) < N3.lim := by decide
  have ln : n.natAbs < N3.lim := by omega
  have ld : d.natAbs < N3.lim := by omega
  have FN := Lib.hid (fun V (hV : EnvW V) => fromInt_f n l0 u0 V hV)
  have FD := Lib.hid (fun V (hV : EnvW V) => fromInt_f d l1 u1 V hV)
  have M := Lib.hid (fun V (hV : EnvW V) => by
    have k := make_u (N3.S n) (N3.S d) V (by have := S_size ln; omega) (by have := S_size ld; omega) hV
    rw [N3.okS_S ln, N3.okS_S ld] at k; exact k)
  rw [show (!(true && true)) = false from rfl] at M
  have HE := Lib.hid he
  obtain ⟨W, hW⟩ : ∃ W, w.alloc (.cells #[.string ⟨#[]⟩, .string ⟨#[]⟩] 26) = W := ⟨_, rfl⟩
  have hB0 : Below w.heap.size w W := hW ▸ (Below.refl _ _).alloc (Nat.le_refl _) _
  have hb : BlkT W w.heap.size #[.string ⟨#[]⟩, .string ⟨#[]⟩] 26 := hW ▸ BlkT.newAt _ _ _ rfl
  have HB := Lib.hid hb
  generalize redU false (N3.S n) (N3.S d) = R at *
  generalize N3.S n = sn at *
  generalize N3.S d = sd at *
  clear he hb hbig ln ld
  go_enter Tryz.func74, Tryz.ntmps74
  go_wp2_with (simp only [hW])
  refine (FN.out _ (HE.out.below hB0)).mono ?_
  rintro r V1 ⟨rfl, hb1⟩
  have hB1 := hB0.trans (hb1.mono hB0.size)
  have hk1 := BlkT.keep HB.out hb1
  go_wp2_with fail
  refine (FD.out _ (HE.out.below hB1)).mono ?_
  rintro r V2 ⟨rfl, hb2⟩
  have hB2 := hB1.trans (hb2.mono hB1.size)
  have hk2 := BlkT.keep hk1 hb2
  go_wp2_with fail
  refine (M.out _ (HE.out.below hB2)).mono ?_
  rintro r V3 ⟨rfl, hb3⟩
  have hB3 := hB2.trans (hb3.mono hB2.size)
  have hk3 := BlkT.keep hk2 hb3
  have x0 := hk3.cell 0
  have x1 := hk3.cell 1
  have f0 := hk3.frozen 0
  have f1 := hk3.frozen 1
  simp only [List.getElem?_toArray, List.getElem?_cons_succ, List.getElem?_cons_zero] at x0 x1
  have HK := Lib.hid hk3
  clear hk1 hk2 hk3
  cases R with
  | none =>
    dsimp only [valR, errR]
    go_wp2_with fail
    have hz : BlkT _ _ #[.string ⟨#[]⟩, .string ⟨#[]⟩] 26 := (HK.out.set 0 (.string ⟨#[]⟩)).set 1 (.string ⟨#[]⟩)
    have z0 := hz.cell 0
    have z1 := hz.cell 1
    simp only [List.getElem?_toArray, List.getElem?_cons_succ, List.getElem?_cons_zero] at z0 z1
    refine bodyPost_ret (v := .tuple #[ratV ⟨#[]⟩ ⟨#[]⟩, .int .i64 40]) (by simp [results, Tryz.results74, go_sem, z0, z1]) rfl ?_
    exact ⟨rfl, (hB3.setCell (Nat.le_refl _) _).setCell (Nat.le_refl _) _⟩
  | some R =>
    obtain ⟨x, y⟩ := R
    dsimp only [valR, errR]
    go_wp2_with fail
    have hz : BlkT _ _ #[.string x, .string y] 26 := (HK.out.set 0 (.string x)).set 1 (.string y)
    have z0 := hz.cell 0
    have z1 := hz.cell 1
    simp only [List.getElem?_toArray, List.getElem?_cons_succ, List.getElem?_cons_zero] at z0 z1
    refine bodyPost_ret (v := .tuple #[ratV x y, .int .i64 0]) (by simp [results, Tryz.results74, go_sem, z0, z1]) rfl ?_
    exact ⟨rfl, (hB3.setCell (Nat.le_refl _) _).setCell (Nat.le_refl _) _⟩
end Go.Proofs.YtjnpenljgfdaiaaGreatDoor
