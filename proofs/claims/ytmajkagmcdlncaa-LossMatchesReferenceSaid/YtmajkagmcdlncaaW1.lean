/- package nadirref18: worst. -/
import Derived.Test.YtmajkagmcdlncaaQ2
namespace Go.Proofs.Ytmajkagmcdlncaa
open Go.RowKit Go.Shelf
open L18 (Pass Slot noPass noSlot validB ownV mostV goneV accW worstV wrs pickL putV)

/-- append to a slice without room, in a walk. -/
theorem wpList_app {ops : Array Oper} {rest : List Oper} {o : Oper} {a : Act} {Q : Exit → Act → World → Prop} {w : World} (hg : o.guard = none) (s x : Operand)
    (hop : o.op = Op.call { callee := Callee.builtin Builtin.append, args := #[s, x], argTypes := #[23, 23] }) {base : Option Addr} {n : Nat} {xs ys : List Int} {v : Value} (hn : n = xs.length) (hs : a.eval s = .slice base n n) (hx : a.eval x = v)
    (hv : IntsAt w (.slice base xs.length xs.length) xs) (hy : IntsAt w v ys) (hne : 0 < ys.length) (hsz : xs.length + ys.length ≤ 100000)
    (hK : ∀ v' w', IntsAt w' v' (xs ++ ys) → Below w.heap.size w w' → wpList Try.prog ops Q rest (a.put o.dst v') w') :
    wpList Try.prog ops Q (o :: rest) a w := by
  subst hn
  obtain ⟨v', w', hrun, r1, r2, -⟩ := run_app_full w base o.type hv hy hne hsz
  refine wpList_plain hg fun K hK' => ?_
  unfold Oper.wp
  simp [execOp, hop, resolve, invoke, builtin, hs, hx, hrun, Result.andThen]
  exact hK' _ _ (hK v' w' r1 r2)
theorem wrs_next (acc : List Nat → Bool) (n i : Nat) (S best : List Nat) (h : i < n) : wrs acc (n - i) S i best = wrs acc (n - (i + 1)) S (i + 1) (if acc (S ++ [i]) = true then pickL best (wrs acc (n - (i + 1)) (S ++ [i]) (i + 1) (S ++ [i])) else best) := by
  obtain ⟨g, hg⟩ : ∃ g, n - i = g + 1 := ⟨n - i - 1, by omega⟩
  rw [hg, show n - (i + 1) = g by omega]; rfl
theorem IntsF.slice {W : World} {v : Value} {l : List Int} (h : IntsF W v l) : ∃ (a : Option Addr) (cap : Nat), v = .slice a l.length cap ∧ l.length ≤ cap ∧ cap ≤ maxLen ∧ IntsAt W (.slice a l.length l.length) l ∧ ((a = none ∧ cap = 0) ∨ ∃ b off, a = some ⟨b, off, none⟩) := by
  rcases h with ⟨rfl, rfl⟩ | ⟨h1, a, cap, rfl, h2, h3, h4⟩
  · exact ⟨none, 0, rfl, Nat.le_refl _, Nat.zero_le _, nil_ints _, .inl ⟨rfl, rfl⟩⟩
  · obtain ⟨b, off, rfl, h5⟩ := h4 h1
    exact ⟨_, cap, rfl, h2, h3, ⟨_, _, rfl, Nat.le_refl _, by omega, fun _ => ⟨b, off, rfl, h5⟩⟩, .inr ⟨b, off, rfl⟩⟩
def W59 (vo vp : Value) (os : List OptD) (l : List Pass) (k : Int) (fr : Nat) : Prop := ∀ (S : List Nat) (vl vs : Value) (w : World), (∀ x ∈ S, x < fr) → S.length ≤ fr → OptsAt w vo os → PassesAt w vp l → IntsF w vl (goneV (slotsL os) S) → IntsF w vs (nI S) →
    Calls Try.prog 59 #[vo, vp, .int .i64 k, .int .i64 (fr : Int), vl, vs] w fun e w' => (∃ v1 v2, e = .returned (.tuple #[v1, v2]) ∧ IntsF w' v1 (goneV (slotsL os) (wrs (accW l (slotsL os) k) (os.length - fr) S fr S)) ∧ IntsF w' v2 (nI (wrs (accW l (slotsL os) k) (os.length - fr) S fr S))) ∧ Below w.heap.size w w'
set_option maxRecDepth 100000 in
set_option maxHeartbeats 4000000 in
theorem worst59_some (vo vp : Value) (os : List OptD) (l : List Pass) (k : Int) (hA : AllOK l os) (h12 : os.length ≤ 12) (fr : Nat) (hfr : fr ≤ os.length) (ih : ∀ f, fr < f → f ≤ os.length → W59 vo vp os l k f) (S : List Nat) (hSp : 0 < S.length) (vl vs : Value) (w : World) (hS : ∀ x ∈ S, x < fr) (hSl : S.length ≤ fr) (ho : OptsAt w vo os) (hp : PassesAt w vp l) (hl : IntsF w vl (goneV (slotsL os) S)) (hs : IntsF w vs (nI S)) :
    Calls Try.prog 59 #[vo, vp, .int .i64 k, .int .i64 (fr : Int), vl, vs] w fun e w' => (∃ v1 v2, e = .returned (.tuple #[v1, v2]) ∧ IntsF w' v1 (goneV (slotsL os) (wrs (accW l (slotsL os) k) (os.length - fr) S fr S)) ∧ IntsF w' v2 (nI (wrs (accW l (slotsL os) k) (os.length - fr) S fr S))) ∧ Below w.heap.size w w' := by
  have HA := Lib.hid hA
  have HIH := Lib.hid ih
  have HO := Lib.hid ho
  have HP := Lib.hid hp
  have HL := Lib.hid hl
  have HSB := Lib.hid hS
  obtain ⟨oa, oc, rfl, hole, hocm⟩ := ho.len
  obtain ⟨pa, pc, rfl, hple, hpcm⟩ := hp.len
  obtain ⟨ba, bc, rfl, hble, hbcm, HB1, HB2⟩ := hs.slice
  obtain ⟨b5, off5, rfl⟩ : ∃ b off, ba = some ⟨b, off, none⟩ := by
    rcases HB2 with ⟨rfl, rfl⟩ | h
    · rw [nI_len] at hble; omega
    · exact h
  rw [nI_len] at hs hble HB1 ⊢
  have HS := Lib.hid hs
  have HB1 := Lib.hid HB1
  unfold maxLen at hocm hpcm hbcm
  obtain ⟨acc, hacc⟩ : ∃ acc, accW l (slotsL os) k = acc := ⟨_, rfl⟩
  have HACC := Lib.hid hacc
  rw [hacc]
  obtain ⟨R, hR⟩ : ∃ R, wrs acc (os.length - fr) S fr S = R := ⟨_, rfl⟩
  rw [hR]
  have HR := Lib.hid hR
  clear ho hp hl hs hA ih hacc hR hS
  go_enter Try.func59, Try.ntmps59
  go_wp2
  go_loopw [14, 15, 16, 17, 18, 19, 20, 21] (fun u14 u15 u16 _ _ _ _ _ wr => ∃ (i : Nat) (best : List Nat), (fr ≤ i ∧ i ≤ os.length) ∧ u16 = .int .i64 (i : Int) ∧ IntsF wr u14 (nI best) ∧ IntsF wr u15 (goneV (slotsL os) best) ∧ wrs acc (os.length - i) S i best = R ∧ Below w.heap.size w wr) (fun _ _ u16 _ _ _ _ _ _ => (os.length - intOf u16).toNat)
  case atStart => exact ⟨fr, S, ⟨Nat.le_refl _, hfr⟩, rfl, HS.out, HL.out, HR.out, Below.refl _ _⟩
  case round =>
    obtain ⟨i, best, ⟨hi1, hi2⟩, rfl, hb1, hb2, hw, hBr⟩ := hrel
    by_cases hil : i < os.length
    · rw [wrs_next acc os.length i S best hil] at hw
      have HW := Lib.hid hw
      have HBE := Lib.hid (And.intro hb1 hb2)
      have j1 : (0 : Int) ≤ (i : Int) ∧ (i : Int) < (os.length : Int) := by omega
      have eW : IntKind.i64.wrap ((i : Int) + 1) = (i : Int) + 1 := wrapS _ (by omega) (by omega)
      obtain ⟨b, off, vsl, rfl, d0, d1, d2, d3, d4, d5, d6, d7, d8, hsl⟩ := (HO.out.later hBr).get (getD_some dOpt hil)
      generalize hod : os.getD i dOpt = od at d0 d1 d2 d3 d4 d5 d6 d7 d8 hsl
      obtain ⟨sa, sc, rfl, hsle, hscm⟩ := hsl.len
      unfold maxLen at hscm
      have lb := World.block_lt_of_cell? _ _ d0
      simp only at lb
      have HSIX := HA.out.six i hil
      rw [hod] at HSIX
      have HC := Lib.hid (fun W (hW : Below wr.heap.size wr W) => show W.cell? ⟨b, off + i * 9, none⟩ = some (.int .i64 od.hd.id) ∧ W.cell? ⟨b, off + i * 9 + 1, none⟩ = some (.int .i64 od.hd.order) ∧ W.cell? ⟨b, off + i * 9 + 2, none⟩ = some (.int .i64 od.hd.clause) ∧ W.cell? ⟨b, off + i * 9 + 3, none⟩ = some (.int .i64 od.hd.sat) ∧ W.cell? ⟨b, off + i * 9 + 4, none⟩ = some (.int .i64 od.hd.fr) ∧ W.cell? ⟨b, off + i * 9 + 5, none⟩ = some (.int .i64 od.hd.to) ∧ W.cell? ⟨b, off + i * 9 + 6, none⟩ = some (.int .i64 od.hd.look) ∧ W.cell? ⟨b, off + i * 9 + 7, none⟩ = some (.int .i64 od.hd.size) ∧ W.cell? ⟨b, off + i * 9 + 8, none⟩ = some (.slice sa od.slots.length sc) from
        ⟨(hW.cell lb).trans d0, (hW.cell lb).trans d1, (hW.cell lb).trans d2, (hW.cell lb).trans d3, (hW.cell lb).trans d4, (hW.cell lb).trans d5, (hW.cell lb).trans d6, (hW.cell lb).trans d7, (hW.cell lb).trans d8⟩)
      have H42 := Lib.hid (fun W (hW : Below wr.heap.size wr W) => own42 (.agg #[.int .i64 od.hd.id, .int .i64 od.hd.order, .int .i64 od.hd.clause, .int .i64 od.hd.sat, .int .i64 od.hd.fr, .int .i64 od.hd.to, .int .i64 od.hd.look, .int .i64 od.hd.size, .slice sa od.slots.length sc]) od od.slots.length W ⟨_, rfl, hsl.later hW⟩ (Nat.le_refl _) (by omega) |> fun h => by rw [List.take_length] at h; exact h)
      have HG := Lib.hid (show goneV (slotsL os) (S ++ [i]) = (ownV od.slots).foldl putV (goneV (slotsL os) S) by rw [L18.gone_snoc, slotsL_get, hod])
      have HGL := Lib.hid (fun L h1 h2 => gone_len HA.out (L := L) h1 h2)
      have hgS := gone_len HA.out (L := S) (fun x hx => by have := HSB.out x hx; omega) (by omega)
      have HSI := Lib.hid (show ∀ x ∈ S ++ [i], x < i + 1 from fun x hx => by
        rcases List.mem_append.1 hx with h | h
        · have := HSB.out x h; omega
        · rw [List.mem_singleton.1 h]; omega)
      have hol := own_len od.slots
      have HLr := Lib.hid (HL.out.below hBr)
      clear hw hb1 hb2 hod hsl d0 d1 d2 d3 d4 d5 d6 d7 d8
      go_upto_region 7 with (fail)
      go_region_held3 (fun w' => Below wr.heap.size wr w' ∧ w'.cell? ⟨b, off + i * 9, none⟩ = some (.int .i64 od.hd.id) ∧ w'.cell? ⟨b, off + i * 9 + 1, none⟩ = some (.int .i64 od.hd.order) ∧ w'.cell? ⟨b, off + i * 9 + 2, none⟩ = some (.int .i64 od.hd.clause) ∧ w'.cell? ⟨b, off + i * 9 + 3, none⟩ = some (.int .i64 od.hd.sat) ∧ w'.cell? ⟨b, off + i * 9 + 4, none⟩ = some (.int .i64 od.hd.fr) ∧ w'.cell? ⟨b, off + i * 9 + 5, none⟩ = some (.int .i64 od.hd.to) ∧ w'.cell? ⟨b, off + i * 9 + 6, none⟩ = some (.int .i64 od.hd.look) ∧ w'.cell? ⟨b, off + i * 9 + 7, none⟩ = some (.int .i64 od.hd.size) ∧ w'.cell? ⟨b, off + i * 9 + 8, none⟩ = some (.slice sa od.slots.length sc))
        (first | exact ⟨(Below.refl _ _).drew, HC.out _ (Below.refl _ _).drew⟩ | (have hh := (‹Below wr.heap.size wr _ ∧ _›).1; have hb := hh.trans (hBq.mono hh.size); exact ⟨hb, HC.out _ hb⟩))
        ((go_at_call 42; (with_reducible refine (H42.out _ (Below.refl _ _).drew).mono ?_); rintro e wq ⟨v3, rfl, hI, hBq⟩; have HI3 := Lib.hid hI; clear hI))
      have hX := (‹Below wr.heap.size wr _ ∧ _›).1
      have hBX := hBr.trans (hX.mono hBr.size)
      obtain ⟨ca, cc, rfl, hcle, hccm⟩ := HI3.out.ints.len
      unfold maxLen at hccm
      have HLq := Lib.hid (HLr.out.below hX)
      obtain ⟨g, hg⟩ : ∃ g, goneV (slotsL os) S = g := ⟨_, rfl⟩
      have hgg := HG.out
      rw [hg] at HLq hgS hgg
      have HG := Lib.hid hgg
      clear hgg hg HLr HC H42
      obtain ⟨mine, hmine⟩ : ∃ z, ownV od.slots = z := ⟨_, rfl⟩
      rw [hmine] at HI3 HG hol hcle ⊢
      clear hmine
      go_wp2
      go_loopw [17, 19] (fun u17 u19 wz => ∃ n : Nat, n ≤ mine.length ∧ u19 = .int .i64 (n : Int) ∧ IntsF wz u17 ((mine.take n).foldl putV g) ∧ ((mine.take n).foldl putV g).length ≤ g.length + n ∧ Below wq.heap.size wq wz) (fun _ u19 _ => (mine.length - intOf u19).toNat)
      case atStart => exact ⟨0, by omega, rfl, HLq.out, Nat.le_refl _, Below.refl _ _⟩
      case round =>
        obtain ⟨n, hn, rfl, hF, hFl, hBz⟩ := hrel
        by_cases hnl : n < mine.length
        · have j2 : (0 : Int) ≤ (n : Int) ∧ (n : Int) < (mine.length : Int) := by omega
          obtain ⟨b2, off2, rfl, g0⟩ := (IntsAt_below HI3.out.ints hBz).get (getD_some 0 hnl)
          have hfs : (mine.take (n + 1)).foldl putV g = putV ((mine.take n).foldl putV g) (mine.getD n 0) := by
            rw [List.take_add_one, getD_some 0 hnl, List.foldl_append]; rfl
          have hpl := put_len ((mine.take n).foldl putV g) (mine.getD n 0)
          have hq := put34 _ _ (mine.getD n 0) _ hF (by omega)
          rw [← hfs] at hq hpl
          generalize mine.getD n 0 = z at g0 hq
          clear hfs hF
          go_wp2_with fail
          refine hq.mono ?_
          rintro e wa ⟨v2, rfl, hF2, ba2⟩
          clear hq
          go_wp2
          go_roundw
          case rel => exact ⟨n + 1, by omega, by go_num, hF2, by omega, hBz.trans (ba2.mono hBz.size)⟩
          case measure => simp [intOf]; omega
        · obtain rfl : n = mine.length := by omega
          rw [List.take_length, ← HG.out] at hF hFl
          have hB2 := hBX.trans (hBz.mono hBX.size)
          have hq := most41 _ u17 l _ _ (PassesAt.later HP.out hB2) hF.ints HA.out.can (gone_in HA.out (fun x hx => by have := HSI.out x hx; omega)) (by omega)
          have hac : acc (S ++ [i]) = decide ((L18.mostV l (goneV (slotsL os) (S ++ [i])) : Int) ≤ k) := by rw [← HACC.out]; rfl
          have HF := Lib.hid hF
          clear hF
          generalize L18.mostV l (goneV (slotsL os) (S ++ [i])) = mm at hq hac
          have HW2 := HW.out
          by_cases hgt : k < (mm : Int)
          · have q1 : decide (k < (mm : Int)) = true := decide_eq_true hgt
            rw [hac, if_neg (by rw [decide_eq_false (by omega)]; decide)] at HW2
            have HW2 := Lib.hid HW2
            clear hac hgt
            go_wp2_with fail
            refine hq.mono ?_
            rintro e wa ⟨rfl, ba2⟩
            clear hq
            have hB3 := hBX.trans ((hBz.trans (ba2.mono hBz.size)).mono hBX.size)
            have hX3 := hX.trans ((hBz.trans (ba2.mono hBz.size)).mono hX.size)
            go_wp2
            go_roundw
            case rel => exact ⟨i + 1, best, ⟨by omega, by omega⟩, by go_num, HBE.out.1.below hX3, HBE.out.2.below hX3, HW2.out, hB3⟩
            case measure => simp [intOf]; omega
          · have q1 : decide (k < (mm : Int)) = false := decide_eq_false hgt
            rw [hac, if_pos (by rw [decide_eq_true (by omega)])] at HW2
            obtain ⟨R2, hR2⟩ : ∃ R2, wrs acc (os.length - (i + 1)) (S ++ [i]) (i + 1) (S ++ [i]) = R2 := ⟨_, rfl⟩
            rw [hR2] at HW2
            have HW2 := Lib.hid HW2
            have HR2 := Lib.hid hR2
            clear hac hgt hR2
            go_wp2_with fail
            refine hq.mono ?_
            rintro e wa ⟨rfl, ba2⟩
            clear hq
            have hB3 := hBX.trans ((hBz.trans (ba2.mono hBz.size)).mono hBX.size)
            have hX3 := hX.trans ((hBz.trans (ba2.mono hBz.size)).mono hX.size)
            have bn : Below wa.heap.size wa (wa.alloc (.cells #[.int .i64 (i : Int)] 3)) := (Below.refl _ _).alloc (Nat.le_refl _) _
            have HI1 := Lib.hid (IntsAt_below (HB1.out.below hB3) bn)
            have HI2 := Lib.hid (ints_one (Blk.new wa #[.int .i64 (i : Int)] 3))
            have hnl2 := nI_len S
            go_wp2_with (at_builtin; refine wpList_app (xs := nI S) (ys := [(i : Int)]) rfl _ _ rfl hnl2.symm rfl rfl (by rw [hnl2]; exact HI1.out) HI2.out (by simp) (by simp; omega) ?_; intro v4 w4 hv4 hb4)
            have hX4 := hX3.trans ((bn.trans (hb4.mono bn.size)).mono hX3.size)
            have hB4 := hB3.trans ((bn.trans (hb4.mono bn.size)).mono hB3.size)
            have hz4 := ba2.trans ((bn.trans (hb4.mono bn.size)).mono ba2.size)
            rw [← nI_snoc] at hv4
            have hq := HIH.out (i + 1) (by omega) (by omega) (S ++ [i]) u17 v4 w4 HSI.out (by simp <;> omega) (HO.out.later hB4) (PassesAt.later HP.out hB4) (HF.out.below hz4) (.inr ⟨by simp [nI], hv4⟩)
            rw [HACC.out, HR2.out] at hq
            have HBE4 := Lib.hid (And.intro (HBE.out.1.below hX4) (HBE.out.2.below hX4))
            obtain ⟨ea, ec, he14, hele, hecm⟩ := HBE.out.1.ints.len
            rw [nI_len] at he14 hele
            subst he14
            go_wp2_with fail
            go_at_call 59
            refine hq.mono ?_
            rintro e w5 ⟨⟨v1, v2, rfl, hr1, hr2⟩, hb5⟩
            have hX5 := hX4.trans (hb5.mono hX4.size)
            have hB5 := hB4.trans (hb5.mono hB4.size)
            obtain ⟨fa, fc, he2, hfle, hfcm⟩ := hr2.ints.len
            rw [nI_len] at he2 hfle
            subst he2
            have HR12 := Lib.hid (And.intro hr2 hr1)
            clear hr1 hr2 hq
            by_cases hlt : best.length < R2.length
            · have q2 : decide (best.length < R2.length) = true := decide_eq_true hlt
              have q3 : decide ((best.length : Int) < (R2.length : Int)) = true := decide_eq_true (by omega)
              have HW3 := Lib.hid (show wrs acc (os.length - (i + 1)) S (i + 1) R2 = R from by rw [← HW2.out]; unfold pickL; rw [if_pos hlt])
              clear hlt
              go_wp2
              go_roundw
              case rel => exact ⟨i + 1, R2, ⟨by omega, by omega⟩, by go_num, HR12.out.1, HR12.out.2, HW3.out, hB5⟩
              case measure => simp [intOf]; omega
            · have q2 : decide (best.length < R2.length) = false := decide_eq_false hlt
              have q3 : decide ((best.length : Int) < (R2.length : Int)) = false := decide_eq_false (by omega)
              have HW3 := Lib.hid (show wrs acc (os.length - (i + 1)) S (i + 1) best = R from by rw [← HW2.out]; unfold pickL; rw [if_neg hlt])
              clear hlt
              go_wp2
              go_roundw
              case rel => exact ⟨i + 1, best, ⟨by omega, by omega⟩, by go_num, HBE.out.1.below hX5, HBE.out.2.below hX5, HW3.out, hB5⟩
              case measure => simp [intOf]; omega
    · obtain rfl : i = os.length := by omega
      rw [Nat.sub_self] at hw
      have hw' : best = R := hw
      subst hw'
      go_wp2
      refine bodyPost_ret (v := .tuple #[u15, u14]) (by simp [results, Try.results59, go_sem]) rfl ⟨⟨_, _, rfl, hb2, hb1⟩, hBr⟩
set_option maxRecDepth 100000 in
set_option maxHeartbeats 4000000 in
theorem worst59_nil (vo vp : Value) (os : List OptD) (l : List Pass) (k : Int) (hA : AllOK l os) (_h12 : os.length ≤ 12) (fr : Nat) (hfr : fr ≤ os.length) (ih : ∀ f, fr < f → f ≤ os.length → W59 vo vp os l k f) (vl : Value) (w : World) (ho : OptsAt w vo os) (hp : PassesAt w vp l) (hl : IntsF w vl (goneV (slotsL os) [])) :
    Calls Try.prog 59 #[vo, vp, .int .i64 k, .int .i64 (fr : Int), vl, .slice none 0 0] w fun e w' => (∃ v1 v2, e = .returned (.tuple #[v1, v2]) ∧ IntsF w' v1 (goneV (slotsL os) (wrs (accW l (slotsL os) k) (os.length - fr) [] fr [])) ∧ IntsF w' v2 (nI (wrs (accW l (slotsL os) k) (os.length - fr) [] fr []))) ∧ Below w.heap.size w w' := by
  have HA := Lib.hid hA
  have HIH := Lib.hid ih
  have HO := Lib.hid ho
  have HP := Lib.hid hp
  have HL := Lib.hid hl
  obtain ⟨oa, oc, rfl, hole, hocm⟩ := ho.len
  obtain ⟨pa, pc, rfl, hple, hpcm⟩ := hp.len
  have HB1 := Lib.hid (nil_ints w)
  unfold maxLen at hocm hpcm
  obtain ⟨acc, hacc⟩ : ∃ acc, accW l (slotsL os) k = acc := ⟨_, rfl⟩
  have HACC := Lib.hid hacc
  rw [hacc]
  obtain ⟨R, hR⟩ : ∃ R, wrs acc (os.length - fr) [] fr [] = R := ⟨_, rfl⟩
  rw [hR]
  have HR := Lib.hid hR
  clear ho hp hl hA ih hacc hR
  go_enter Try.func59, Try.ntmps59
  go_wp2
  go_loopw [14, 15, 16, 17, 18, 19, 20, 21] (fun u14 u15 u16 _ _ _ _ _ wr => ∃ (i : Nat) (best : List Nat), (fr ≤ i ∧ i ≤ os.length) ∧ u16 = .int .i64 (i : Int) ∧ IntsF wr u14 (nI best) ∧ IntsF wr u15 (goneV (slotsL os) best) ∧ wrs acc (os.length - i) [] i best = R ∧ Below w.heap.size w wr) (fun _ _ u16 _ _ _ _ _ _ => (os.length - intOf u16).toNat)
  case atStart => exact ⟨fr, [], ⟨Nat.le_refl _, hfr⟩, rfl, IntsF.nil _, HL.out, HR.out, Below.refl _ _⟩
  case round =>
    obtain ⟨i, best, ⟨hi1, hi2⟩, rfl, hb1, hb2, hw, hBr⟩ := hrel
    by_cases hil : i < os.length
    · rw [wrs_next acc os.length i [] best hil] at hw
      have HW := Lib.hid hw
      have HBE := Lib.hid (And.intro hb1 hb2)
      have j1 : (0 : Int) ≤ (i : Int) ∧ (i : Int) < (os.length : Int) := by omega
      have eW : IntKind.i64.wrap ((i : Int) + 1) = (i : Int) + 1 := wrapS _ (by omega) (by omega)
      obtain ⟨b, off, vsl, rfl, d0, d1, d2, d3, d4, d5, d6, d7, d8, hsl⟩ := (HO.out.later hBr).get (getD_some dOpt hil)
      generalize hod : os.getD i dOpt = od at d0 d1 d2 d3 d4 d5 d6 d7 d8 hsl
      obtain ⟨sa, sc, rfl, hsle, hscm⟩ := hsl.len
      unfold maxLen at hscm
      have lb := World.block_lt_of_cell? _ _ d0
      simp only at lb
      have HSIX := HA.out.six i hil
      rw [hod] at HSIX
      have HC := Lib.hid (fun W (hW : Below wr.heap.size wr W) => show W.cell? ⟨b, off + i * 9, none⟩ = some (.int .i64 od.hd.id) ∧ W.cell? ⟨b, off + i * 9 + 1, none⟩ = some (.int .i64 od.hd.order) ∧ W.cell? ⟨b, off + i * 9 + 2, none⟩ = some (.int .i64 od.hd.clause) ∧ W.cell? ⟨b, off + i * 9 + 3, none⟩ = some (.int .i64 od.hd.sat) ∧ W.cell? ⟨b, off + i * 9 + 4, none⟩ = some (.int .i64 od.hd.fr) ∧ W.cell? ⟨b, off + i * 9 + 5, none⟩ = some (.int .i64 od.hd.to) ∧ W.cell? ⟨b, off + i * 9 + 6, none⟩ = some (.int .i64 od.hd.look) ∧ W.cell? ⟨b, off + i * 9 + 7, none⟩ = some (.int .i64 od.hd.size) ∧ W.cell? ⟨b, off + i * 9 + 8, none⟩ = some (.slice sa od.slots.length sc) from
        ⟨(hW.cell lb).trans d0, (hW.cell lb).trans d1, (hW.cell lb).trans d2, (hW.cell lb).trans d3, (hW.cell lb).trans d4, (hW.cell lb).trans d5, (hW.cell lb).trans d6, (hW.cell lb).trans d7, (hW.cell lb).trans d8⟩)
      have H42 := Lib.hid (fun W (hW : Below wr.heap.size wr W) => own42 (.agg #[.int .i64 od.hd.id, .int .i64 od.hd.order, .int .i64 od.hd.clause, .int .i64 od.hd.sat, .int .i64 od.hd.fr, .int .i64 od.hd.to, .int .i64 od.hd.look, .int .i64 od.hd.size, .slice sa od.slots.length sc]) od od.slots.length W ⟨_, rfl, hsl.later hW⟩ (Nat.le_refl _) (by omega) |> fun h => by rw [List.take_length] at h; exact h)
      have HG := Lib.hid (show goneV (slotsL os) ([] ++ [i]) = (ownV od.slots).foldl putV (goneV (slotsL os) []) by rw [L18.gone_snoc, slotsL_get, hod])
      have HGL := Lib.hid (fun L h1 h2 => gone_len HA.out (L := L) h1 h2)
      have hgS := gone_len HA.out (L := []) (fun x hx => by cases hx) (by simp)
      have HSI := Lib.hid (show ∀ x ∈ [] ++ [i], x < i + 1 from fun x hx => by
        simp at hx; omega)
      have hol := own_len od.slots
      have HLr := Lib.hid (HL.out.below hBr)
      clear hw hb1 hb2 hod hsl d0 d1 d2 d3 d4 d5 d6 d7 d8
      go_upto_region 7 with (fail)
      go_region_held3 (fun w' => Below wr.heap.size wr w' ∧ w'.cell? ⟨b, off + i * 9, none⟩ = some (.int .i64 od.hd.id) ∧ w'.cell? ⟨b, off + i * 9 + 1, none⟩ = some (.int .i64 od.hd.order) ∧ w'.cell? ⟨b, off + i * 9 + 2, none⟩ = some (.int .i64 od.hd.clause) ∧ w'.cell? ⟨b, off + i * 9 + 3, none⟩ = some (.int .i64 od.hd.sat) ∧ w'.cell? ⟨b, off + i * 9 + 4, none⟩ = some (.int .i64 od.hd.fr) ∧ w'.cell? ⟨b, off + i * 9 + 5, none⟩ = some (.int .i64 od.hd.to) ∧ w'.cell? ⟨b, off + i * 9 + 6, none⟩ = some (.int .i64 od.hd.look) ∧ w'.cell? ⟨b, off + i * 9 + 7, none⟩ = some (.int .i64 od.hd.size) ∧ w'.cell? ⟨b, off + i * 9 + 8, none⟩ = some (.slice sa od.slots.length sc))
        (first | exact ⟨(Below.refl _ _).drew, HC.out _ (Below.refl _ _).drew⟩ | (have hh := (‹Below wr.heap.size wr _ ∧ _›).1; have hb := hh.trans (hBq.mono hh.size); exact ⟨hb, HC.out _ hb⟩))
        ((go_at_call 42; (with_reducible refine (H42.out _ (Below.refl _ _).drew).mono ?_); rintro e wq ⟨v3, rfl, hI, hBq⟩; have HI3 := Lib.hid hI; clear hI))
      have hX := (‹Below wr.heap.size wr _ ∧ _›).1
      have hBX := hBr.trans (hX.mono hBr.size)
      obtain ⟨ca, cc, rfl, hcle, hccm⟩ := HI3.out.ints.len
      unfold maxLen at hccm
      have HLq := Lib.hid (HLr.out.below hX)
      obtain ⟨g, hg⟩ : ∃ g, goneV (slotsL os) [] = g := ⟨_, rfl⟩
      have hgg := HG.out
      rw [hg] at HLq hgS hgg
      have HG := Lib.hid hgg
      clear hgg hg HLr HC H42
      obtain ⟨mine, hmine⟩ : ∃ z, ownV od.slots = z := ⟨_, rfl⟩
      rw [hmine] at HI3 HG hol hcle ⊢
      clear hmine
      go_wp2
      go_loopw [17, 19] (fun u17 u19 wz => ∃ n : Nat, n ≤ mine.length ∧ u19 = .int .i64 (n : Int) ∧ IntsF wz u17 ((mine.take n).foldl putV g) ∧ ((mine.take n).foldl putV g).length ≤ g.length + n ∧ Below wq.heap.size wq wz) (fun _ u19 _ => (mine.length - intOf u19).toNat)
      case atStart => exact ⟨0, by omega, rfl, HLq.out, Nat.le_refl _, Below.refl _ _⟩
      case round =>
        obtain ⟨n, hn, rfl, hF, hFl, hBz⟩ := hrel
        by_cases hnl : n < mine.length
        · have j2 : (0 : Int) ≤ (n : Int) ∧ (n : Int) < (mine.length : Int) := by omega
          obtain ⟨b2, off2, rfl, g0⟩ := (IntsAt_below HI3.out.ints hBz).get (getD_some 0 hnl)
          have hfs : (mine.take (n + 1)).foldl putV g = putV ((mine.take n).foldl putV g) (mine.getD n 0) := by
            rw [List.take_add_one, getD_some 0 hnl, List.foldl_append]; rfl
          have hpl := put_len ((mine.take n).foldl putV g) (mine.getD n 0)
          have hq := put34 _ _ (mine.getD n 0) _ hF (by omega)
          rw [← hfs] at hq hpl
          generalize mine.getD n 0 = z at g0 hq
          clear hfs hF
          go_wp2_with fail
          refine hq.mono ?_
          rintro e wa ⟨v2, rfl, hF2, ba2⟩
          clear hq
          go_wp2
          go_roundw
          case rel => exact ⟨n + 1, by omega, by go_num, hF2, by omega, hBz.trans (ba2.mono hBz.size)⟩
          case measure => simp [intOf]; omega
        · obtain rfl : n = mine.length := by omega
          rw [List.take_length, ← HG.out] at hF hFl
          have hB2 := hBX.trans (hBz.mono hBX.size)
          have hq := most41 _ u17 l _ _ (PassesAt.later HP.out hB2) hF.ints HA.out.can (gone_in HA.out (fun x hx => by have := HSI.out x hx; omega)) (by omega)
          have hac : acc ([] ++ [i]) = decide ((L18.mostV l (goneV (slotsL os) ([] ++ [i])) : Int) ≤ k) := by rw [← HACC.out]; rfl
          have HF := Lib.hid hF
          clear hF
          generalize L18.mostV l (goneV (slotsL os) ([] ++ [i])) = mm at hq hac
          have HW2 := HW.out
          by_cases hgt : k < (mm : Int)
          · have q1 : decide (k < (mm : Int)) = true := decide_eq_true hgt
            rw [hac, if_neg (by rw [decide_eq_false (by omega)]; decide)] at HW2
            have HW2 := Lib.hid HW2
            clear hac hgt
            go_wp2_with fail
            refine hq.mono ?_
            rintro e wa ⟨rfl, ba2⟩
            clear hq
            have hB3 := hBX.trans ((hBz.trans (ba2.mono hBz.size)).mono hBX.size)
            have hX3 := hX.trans ((hBz.trans (ba2.mono hBz.size)).mono hX.size)
            go_wp2
            go_roundw
            case rel => exact ⟨i + 1, best, ⟨by omega, by omega⟩, by go_num, HBE.out.1.below hX3, HBE.out.2.below hX3, HW2.out, hB3⟩
            case measure => simp [intOf]; omega
          · have q1 : decide (k < (mm : Int)) = false := decide_eq_false hgt
            rw [hac, if_pos (by rw [decide_eq_true (by omega)])] at HW2
            obtain ⟨R2, hR2⟩ : ∃ R2, wrs acc (os.length - (i + 1)) ([] ++ [i]) (i + 1) ([] ++ [i]) = R2 := ⟨_, rfl⟩
            rw [hR2] at HW2
            have HW2 := Lib.hid HW2
            have HR2 := Lib.hid hR2
            clear hac hgt hR2
            go_wp2_with fail
            refine hq.mono ?_
            rintro e wa ⟨rfl, ba2⟩
            clear hq
            have hB3 := hBX.trans ((hBz.trans (ba2.mono hBz.size)).mono hBX.size)
            have hX3 := hX.trans ((hBz.trans (ba2.mono hBz.size)).mono hX.size)
            have bn : Below wa.heap.size wa (wa.alloc (.cells #[.int .i64 (i : Int)] 3)) := (Below.refl _ _).alloc (Nat.le_refl _) _
            have HI1 := Lib.hid (IntsAt_below (HB1.out.below hB3) bn)
            have HI2 := Lib.hid (ints_one (Blk.new wa #[.int .i64 (i : Int)] 3))
            go_wp2_with (at_builtin; refine wpList_app (xs := []) (ys := [(i : Int)]) rfl _ _ rfl rfl rfl rfl HI1.out HI2.out (by simp) (by simp) ?_; intro v4 w4 hv4 hb4)
            have hX4 := hX3.trans ((bn.trans (hb4.mono bn.size)).mono hX3.size)
            have hB4 := hB3.trans ((bn.trans (hb4.mono bn.size)).mono hB3.size)
            have hz4 := ba2.trans ((bn.trans (hb4.mono bn.size)).mono ba2.size)
            have hv4 : IntsAt w4 v4 (nI ([] ++ [i])) := hv4
            have hq := HIH.out (i + 1) (by omega) (by omega) ([] ++ [i]) u17 v4 w4 HSI.out (by simp <;> omega) (HO.out.later hB4) (PassesAt.later HP.out hB4) (HF.out.below hz4) (.inr ⟨by simp [nI], hv4⟩)
            rw [HACC.out, HR2.out] at hq
            have HBE4 := Lib.hid (And.intro (HBE.out.1.below hX4) (HBE.out.2.below hX4))
            obtain ⟨ea, ec, he14, hele, hecm⟩ := HBE.out.1.ints.len
            rw [nI_len] at he14 hele
            subst he14
            go_wp2_with fail
            go_at_call 59
            refine hq.mono ?_
            rintro e w5 ⟨⟨v1, v2, rfl, hr1, hr2⟩, hb5⟩
            have hX5 := hX4.trans (hb5.mono hX4.size)
            have hB5 := hB4.trans (hb5.mono hB4.size)
            obtain ⟨fa, fc, he2, hfle, hfcm⟩ := hr2.ints.len
            rw [nI_len] at he2 hfle
            subst he2
            have HR12 := Lib.hid (And.intro hr2 hr1)
            clear hr1 hr2 hq
            by_cases hlt : best.length < R2.length
            · have q2 : decide (best.length < R2.length) = true := decide_eq_true hlt
              have q3 : decide ((best.length : Int) < (R2.length : Int)) = true := decide_eq_true (by omega)
              have HW3 := Lib.hid (show wrs acc (os.length - (i + 1)) [] (i + 1) R2 = R from by rw [← HW2.out]; unfold pickL; rw [if_pos hlt])
              clear hlt
              go_wp2
              go_roundw
              case rel => exact ⟨i + 1, R2, ⟨by omega, by omega⟩, by go_num, HR12.out.1, HR12.out.2, HW3.out, hB5⟩
              case measure => simp [intOf]; omega
            · have q2 : decide (best.length < R2.length) = false := decide_eq_false hlt
              have q3 : decide ((best.length : Int) < (R2.length : Int)) = false := decide_eq_false (by omega)
              have HW3 := Lib.hid (show wrs acc (os.length - (i + 1)) [] (i + 1) best = R from by rw [← HW2.out]; unfold pickL; rw [if_neg hlt])
              clear hlt
              go_wp2
              go_roundw
              case rel => exact ⟨i + 1, best, ⟨by omega, by omega⟩, by go_num, HBE.out.1.below hX5, HBE.out.2.below hX5, HW3.out, hB5⟩
              case measure => simp [intOf]; omega
    · obtain rfl : i = os.length := by omega
      rw [Nat.sub_self] at hw
      have hw' : best = R := hw
      subst hw'
      go_wp2
      refine bodyPost_ret (v := .tuple #[u15, u14]) (by simp [results, Try.results59, go_sem]) rfl ⟨⟨_, _, rfl, hb2, hb1⟩, hBr⟩
theorem worst59 (vo vp : Value) (os : List OptD) (l : List Pass) (k : Int) (hA : AllOK l os) (h12 : os.length ≤ 12) : ∀ (m fr : Nat), os.length ≤ fr + m → fr ≤ os.length → W59 vo vp os l k fr := by
  have hstep : ∀ fr, fr ≤ os.length → (∀ f, fr < f → f ≤ os.length → W59 vo vp os l k f) → W59 vo vp os l k fr := by
    intro fr hfr ih S vl vs w hS hSl ho hp hl hs
    by_cases h0 : 0 < S.length
    · exact worst59_some vo vp os l k hA h12 fr hfr ih S h0 vl vs w hS hSl ho hp hl hs
    · have hn : S = [] := List.eq_nil_of_length_eq_zero (by omega)
      subst hn
      obtain rfl : vs = .slice none 0 0 := by
        rcases hs with ⟨h, -⟩ | ⟨h, -⟩
        · exact h
        · exact absurd h (by simp [nI])
      exact worst59_nil vo vp os l k hA h12 fr hfr ih vl w ho hp hl
  intro m
  induction m with
  | zero => exact fun fr h1 h2 => hstep fr h2 (fun f hf hf2 => by omega)
  | succ m ih => exact fun fr h1 h2 => hstep fr h2 (fun f hf hf2 => ih f (by omega) hf2)
end Go.Proofs.Ytmajkagmcdlncaa
