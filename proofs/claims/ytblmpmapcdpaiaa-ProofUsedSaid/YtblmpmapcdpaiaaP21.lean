/- nadirref23.Made. -/
import Derived.Test.YtblmpmapcdpaiaaP20
import Derived.Deep.AppendLies
import Derived.Deep.RegionLaw
namespace Go.Proofs.Ytblmpmapcdpaiaa
open Go.RowKit Lib Go.Joins

structure X3 where
  a : Int
  b : Int
  c : Int
def XC (_ : World) (cs : List Value) (x : X3) : Prop := cs = [.int .i64 x.a, .int .i64 x.b, .int .i64 x.c]
abbrev XsAt (w : World) (v : Value) (l : List X3) : Prop := StructsOf 3 XC w v l
theorem XsAt.below {w w' : World} {v : Value} {l : List X3} (h : XsAt w v l) (hb : Below w.heap.size w w') : XsAt w' v l := StructsOf.below (R := XC) (fun _ _ _ _ h _ => h) h hb
def XR (x : X3) : Prop := InR x.a ∧ InR x.b ∧ InR x.c
def gainM (gain : List Int) (m : Nat) : List Int := (List.range m).map fun i => pickI (gain.getD i 0) 40 - 8
def coefM (x : X3) (m : Nat) : List Int := (List.range m).map fun (k : Nat) => pickI (Int.tdiv x.a (1 + 3 * k)) 12 - pickI (Int.tdiv x.b (1 + 5 * k)) 5
def rowM (i : Nat) (x : X3) (m : Nat) : RowD := ⟨1 + i, pickI x.a 9, 0, 0, coefM x m, pickI x.c 30 - 4⟩
def dX : X3 := ⟨0, 0, 0⟩
def rowsM (x : List X3) (m n : Nat) : List RowD := (List.range n).map fun i => rowM i (x.getD i dX) m
def madeP (vars : Int) (x : List X3) (gain : List Int) : ProgD := ⟨pickI vars 9, rowsM x (pickI vars 9).toNat (min x.length 8), gainM gain (pickI vars 9).toNat⟩
theorem gainM_succ (gain : List Int) (m : Nat) : gainM gain (m + 1) = gainM gain m ++ [pickI (gain.getD m 0) 40 - 8] := by unfold gainM; rw [List.range_succ, List.map_append]; rfl
theorem gainM_len (gain : List Int) (m : Nat) : (gainM gain m).length = m := by simp [gainM]
theorem coefM_succ (x : X3) (m : Nat) : coefM x (m + 1) = coefM x m ++ [pickI (Int.tdiv x.a (1 + 3 * m)) 12 - pickI (Int.tdiv x.b (1 + 5 * m)) 5] := by unfold coefM; rw [List.range_succ, List.map_append]; rfl
theorem coefM_len (x : X3) (m : Nat) : (coefM x m).length = m := by simp [coefM]
theorem rowsM_succ (x : List X3) (m n : Nat) : rowsM x m (n + 1) = rowsM x m n ++ [rowM n (x.getD n dX) m] := by unfold rowsM; rw [List.range_succ, List.map_append]; rfl
theorem rowsM_len (x : List X3) (m n : Nat) : (rowsM x m n).length = n := by simp [rowsM]

theorem InR_tdiv (a d : Int) (ha : InR a) (hd : 0 < d) : InR (Int.tdiv a d) := by
  obtain ⟨h1, h2⟩ := ha
  have h3 : (Int.tdiv a d).natAbs ≤ a.natAbs := by
    rw [Int.natAbs_tdiv]; exact Nat.div_le_self _ _
  by_cases h : a = -9223372036854775808
  · subst h
    refine ⟨by omega, ?_⟩
    have : Int.tdiv (-9223372036854775808) d ≤ 0 := by rw [Int.neg_tdiv]; have := Int.tdiv_nonneg (a := 9223372036854775808) (b := d) (by decide) (by omega); omega
    omega
  · exact ⟨by omega, by omega⟩
/-- A region whose ways all end alike. -/
theorem wp_one {P : Program} {c : Code} {Q : Exit → Act → World → Prop} {a fr : Act} {w wo : World} (h : c.wp P (fun e a' w' => e = .normal ∧ a' = fr ∧ w' = wo) a w) (k : Q .normal fr wo) : c.wp P Q a w :=
  Code.wp_mono (fun e a' w' h => by obtain ⟨rfl, rfl, rfl⟩ := h; exact k) h
/-- One number is appended to an own row, as a step of a region that draws. -/
theorem step_push {ops : Array Oper} {o : Oper} {a : Act} {w0 w : World} {K : Act → World → Prop} {Q : Exit → Act → World → Prop} {E : Prop} {x : Int}
    (hgd : o.guard = none) (s y : Operand) (ho : o.op = Op.call { callee := Callee.builtin Builtin.append, args := #[s, y], argTypes := #[24, 24] })
    (base : Nat) {v : Value} {n : Nat} {xs : List Value} (hw : w = w0.alloc (.cells #[.int .i64 x] 3)) (hown : w0.ownsRow base 3 1 v n xs) (hs : a.eval s = v) (hy : a.eval y = .slice (some ⟨w0.heap.size, 0, none⟩) 1 1)
    (hn : n ≤ 1000000) (hbase : base ≤ w0.heap.size)
    (hK : ∀ g cap w', w'.ownsRow base 3 1 (.slice (some ⟨g, 0, none⟩) (n + 1) cap) (n + 1) (xs ++ [.int .i64 x]) → (w0.alloc (.cells #[.int .i64 x] 3)).grownBy w' v.ownBlock → Below base w0 w' → K (a.put o.dst (.slice (some ⟨g, 0, none⟩) (n + 1) cap)) w') :
    if Region.wanted o (yielded ops a.tmps) = true then Oper.wp Try.prog o a w K Q else E := by
  subst hw
  obtain ⟨i, hi, hz0, hz1, hz2⟩ := info_parts E24.info
  refine step_append_lies _ hgd s y 24 ho base 3 i _ 1 8 E24.und hi hz0 hz1 hz2 E24.zs E24.pos v n xs hs (hown.alloc _) ⟨w0.heap.size, 0, none⟩ 1 1 [.int .i64 x] hy rfl ?_ (by intro u hu; simp at hu; subst hu; rfl) (by omega) (by unfold maxLen; omega) (by omega) (by simp; omega) _ rfl ?_
  · intro j u hj
    rw [add_zero_off]
    exact ((Blk.new w0 #[.int .i64 x] 3).cell j).trans (by simpa using hj)
  · intro g cap w' h1 h2 h3 h4
    exact hK g cap w' h1 h2 (grown_below hown h2 hbase)

set_option maxRecDepth 100000 in
set_option maxHeartbeats 8000000 in
theorem made_own (vars : Int) (vx : Value) (x : List X3) (gain : List Int) (w : World) (hv : InR vars) (hx : XsAt w vx x) (hxr : ∀ y ∈ x, XR y) (hg : gain.length = 8) (hgr : ∀ y ∈ gain, InR y) :
    Calls Try.prog 17 #[.int .i64 vars, vx, .agg (gain.map (Value.int .i64)).toArray] w fun e w' => ∃ oB vk vg, e = .returned (.agg #[.int .i64 (madeP vars x gain).vars, vk, vg]) ∧ OutP oB w' (madeP vars x gain).vars vk vg (madeP vars x gain).rows (madeP vars x gain).gain ∧ w.heap.size ≤ oB ∧ Below w.heap.size w w' := by
  obtain ⟨m, hm⟩ := Int.eq_ofNat_of_zero_le (pickI_bd vars (n := 9) (by decide)).1
  have hm9 : m < 9 := by have := (pickI_bd vars (n := 9) (by decide)).2; omega
  unfold madeP
  rw [hm]
  rw [Int.toNat_natCast]
  simp only
  have hpk := Lib.hid (fun W => pick59 vars 9 W hv (by decide) (by decide))
  rw [hm] at hpk
  have HX := Lib.hid hx
  obtain ⟨xa, xc, rfl, hx1, hx2⟩ := hx.len
  unfold maxLen at hx2
  obtain ⟨g0, g1, g2, g3, g4, g5, g6, g7, hge⟩ : ∃ g0 g1 g2 g3 g4 g5 g6 g7, gain = [g0, g1, g2, g3, g4, g5, g6, g7] := by
    match gain, hg with
    | [g0, g1, g2, g3, g4, g5, g6, g7], _ => exact ⟨_, _, _, _, _, _, _, _, rfl⟩
  have HXR := Lib.hid hxr
  have hcell : ∀ k, k < 8 → (#[.int .i64 g0, .int .i64 g1, .int .i64 g2, .int .i64 g3, .int .i64 g4, .int .i64 g5, .int .i64 g6, .int .i64 g7] : Array Value)[k]? = some (.int .i64 (gain.getD k 0)) := by
    rw [hge]
    intro k hk
    match k, hk with
    | 0, _ => rfl
    | 1, _ => rfl
    | 2, _ => rfl
    | 3, _ => rfl
    | 4, _ => rfl
    | 5, _ => rfl
    | 6, _ => rfl
    | 7, _ => rfl
  have hgin : ∀ k, InR (gain.getD k 0) := fun k => by
    by_cases hk : k < gain.length
    · exact hgr _ (List.mem_of_getElem? (getD_some 0 hk))
    · rw [List.getD_eq_getElem?_getD, List.getElem?_eq_none (by omega)]; exact ⟨by decide, by decide⟩
  have harg : (gain.map (Value.int .i64)).toArray = #[.int .i64 g0, .int .i64 g1, .int .i64 g2, .int .i64 g3, .int .i64 g4, .int .i64 g5, .int .i64 g6, .int .i64 g7] := by rw [hge]; rfl
  rw [harg]
  have HH := Lib.hid (And.intro hcell hgin)
  clear hx hg hgr hxr hm hv harg hge hcell hgin
  go_enter Try.func17, Try.ntmps17
  go_wp2_with fail
  refine (hpk.out _).mono ?_
  rintro e w1 ⟨rfl, rfl⟩
  clear hpk
  go_wp2
  have hW0 : Below w.heap.size w ((w.alloc (.cells #[.int .i64 g0, .int .i64 g1, .int .i64 g2, .int .i64 g3, .int .i64 g4, .int .i64 g5, .int .i64 g6, .int .i64 g7] 23)).alloc (.cells #[.int .i64 0, .slice none 0 0, .slice none 0 0] 29)) := ((Below.refl _ _).alloc (Nat.le_refl _) _).alloc (by simp) _
  have hgb : Blk ((w.alloc (.cells #[.int .i64 g0, .int .i64 g1, .int .i64 g2, .int .i64 g3, .int .i64 g4, .int .i64 g5, .int .i64 g6, .int .i64 g7] 23)).alloc (.cells #[.int .i64 0, .slice none 0 0, .slice none 0 0] 29)) w.heap.size #[.int .i64 g0, .int .i64 g1, .int .i64 g2, .int .i64 g3, .int .i64 g4, .int .i64 g5, .int .i64 g6, .int .i64 g7] 23 := (Blk.new w _ 23).alloc _
  have hrb : Blk ((w.alloc (.cells #[.int .i64 g0, .int .i64 g1, .int .i64 g2, .int .i64 g3, .int .i64 g4, .int .i64 g5, .int .i64 g6, .int .i64 g7] 23)).alloc (.cells #[.int .i64 0, .slice none 0 0, .slice none 0 0] 29)) (w.heap.size + 1) #[.int .i64 0, .slice none 0 0, .slice none 0 0] 29 := Blk.newAt _ _ _ (by simp)
  have hs0 : ((w.alloc (.cells #[.int .i64 g0, .int .i64 g1, .int .i64 g2, .int .i64 g3, .int .i64 g4, .int .i64 g5, .int .i64 g6, .int .i64 g7] 23)).alloc (.cells #[.int .i64 0, .slice none 0 0, .slice none 0 0] 29)).heap.size = w.heap.size + 2 := by simp
  generalize ((w.alloc (.cells #[.int .i64 g0, .int .i64 g1, .int .i64 g2, .int .i64 g3, .int .i64 g4, .int .i64 g5, .int .i64 g6, .int .i64 g7] 23)).alloc (.cells #[.int .i64 0, .slice none 0 0, .slice none 0 0] 29)) = W0 at hW0 hgb hrb hs0 ⊢
  go_loopw [8] (fun u8 wr => ∃ (k : Nat) (vk : Value), k ≤ m ∧ u8 = .int .i64 k ∧ Blk wr (w.heap.size + 2) #[.int .i64 m, .slice none 0 0, vk] 29 ∧ wr.ownsRow (w.heap.size + 3) 3 1 vk k ((gainM gain k).map (Value.int .i64)) ∧ Below (w.heap.size + 2) W0 wr ∧ w.heap.size + 3 ≤ wr.heap.size)
    (fun u8 _ => (m - intOf u8).toNat)
  case atStart => exact ⟨0, _, by omega, rfl, Blk.newAt _ _ _ (by omega), World.ownsRow_nil _ _ _ _, (Below.refl _ _).alloc (by omega) _, by simp; omega⟩
  case round =>
    obtain ⟨k, vk, hk, rfl, hbk, hown, hB, hsz⟩ := hrel
    have i0 := hbk.cell 0
    have i2 := hbk.cell 2
    simp only [List.getElem?_toArray, List.getElem?_cons_succ, List.getElem?_cons_zero] at i0 i2
    by_cases hkm : k < m
    · have hgk := ((hgb.below hB (by omega)).cell k).trans (HH.out.1 k (by omega))
      have hpk := Lib.hid (fun W => pick59 (gain.getD k 0) 40 W (HH.out.2 k) (by decide) (by decide))
      have hpb := pickI_bd (gain.getD k 0) (n := 40) (by decide)
      have hgs := Lib.hid (gainM_succ gain k)
      generalize gain.getD k 0 = y at hgk hpk hpb hgs
      generalize pickI y 40 = z at hpk hpb hgs
      have hwz : IntKind.i64.wrap (z - 8) = z - 8 := wrapS _ (by omega) (by omega)
      have hkk : (0 : Int) ≤ (k : Int) ∧ (k : Int) < 8 := by omega
      have lw : w.heap.size < wr.heap.size := by omega
      have lw2 : w.heap.size + 2 < wr.heap.size := by omega
      go_wp2_with fail
      have lg : w.heap.size < wr.heap.size := by omega
      go_region_law (first | (refine step_push (w0 := wr.drew) (x := z - 8) rfl (.tmp 22) (.tmp 28) rfl (w.heap.size + 3) rfl (owned_below hown ((Below.refl _ _).drew)) (by simp [Act.eval]) (by simp [Act.eval]) (by omega) (by show _ ≤ wr.heap.size; omega) ?_; intro g cap w' hown' hgrow hBw; have hbk' : Blk w' (w.heap.size + 2) #[.int .i64 m, .slice none 0 0, vk] 29 := (hBw.block _ (by omega)).trans (show Blk wr.drew _ _ _ from hbk); have j2 := hbk'.cell 2; have f2 := hbk'.frozen 2; simp only [List.getElem?_toArray, List.getElem?_cons_succ, List.getElem?_cons_zero] at j2) | (go_simp; go_at_call 59; refine (hpk.out _).mono ?_; rintro e w' ⟨rfl, rfl⟩))
      all_goals (
        go_wp2
        go_roundw
        case rel =>
          refine ⟨k + 1, _, by omega, by go_num, hbk'.set 2 _, ownsRow_setCell_below (by rw [hgs.out, List.map_append]; exact hown') (by simp) _, (hB.drew.trans (hBw.mono (by omega))).setCell (p := ⟨w.heap.size + 2, 2, none⟩) (Nat.le_refl _) _, ?_⟩
          have := hBw.size
          have e : wr.drew.heap.size = wr.heap.size := rfl
          simp; omega
        case measure => simp [intOf]; omega)
    · obtain rfl : m = k := by omega
      have HO := Lib.hid (show OutP (w.heap.size + 2) wr m (.slice none 0 0) vk [] (gainM gain m) from ⟨hbk, ⟨[], World.ownsRow_nil _ _ _ _, rfl⟩, ownsRow_base (by rw [gainM_len]; exact hown) (Nat.zero_le _), hsz⟩)
      have HB := Lib.hid hB
      have hgl := gainM_len gain m
      generalize hgg : gainM gain m = gg at HO hgl
      obtain ⟨va, vc, rfl, hva1, hva2⟩ := owned_len hown
      clear hown hB hbk i2
      generalize hvg : Value.slice va m vc = vg at HO
      have i1 := HO.out.box.cell 1
      simp only [List.getElem?_toArray, List.getElem?_cons_succ, List.getElem?_cons_zero] at i1
      go_wp2
      have hsg : SlicesLen vg m := by rw [← hvg]; exact ⟨_, _, rfl, hva1, hva2⟩
      obtain ⟨ga2, gc2, rfl, -, -⟩ := hsg
      clear hvg hva1 hva2
      go_loopw [9] (fun u9 wr => ∃ (i : Nat) (vk : Value), i ≤ min x.length 8 ∧ u9 = .int .i64 i ∧ OutP (w.heap.size + 2) wr m vk (.slice ga2 m gc2) (rowsM x m i) gg ∧ Below (w.heap.size + 2) W0 wr)
        (fun u9 _ => (8 - intOf u9).toNat)
      case atStart => exact ⟨0, _, by omega, rfl, HO.out, HB.out⟩
      case round =>
        obtain ⟨i, vk, hi, rfl, hO, hB⟩ := hrel
        rename World => Wo
        by_cases hix : i < x.length
        · by_cases hi8 : i < 8
          · have hsome := getD_some dX hix
            have hBx : Below w.heap.size w Wo := hW0.trans (hB.mono (by omega))
            obtain ⟨a', c', e, -, -, h4⟩ := HX.out.below hBx
            cases e
            obtain ⟨xb, xo, rfl, h5⟩ := h4 (by omega)
            obtain ⟨cs, -, c2, rfl⟩ := h5 i _ hsome
            have xr := HXR.out _ (List.mem_of_getElem? hsome)
            have hrs := Lib.hid (rowsM_succ x m i)
            generalize x.getD i dX = y at hsome c2 xr hrs
            have y0 := c2 0 _ rfl
            have y1 := c2 1 _ rfl
            have y2 := c2 2 _ rfl
            have hxlt := World.block_lt_of_cell? _ _ y0
            simp only [Nat.add_zero] at y0 hxlt
            clear c2 h4 h5 hsome
            have hb1 := pickI_bd y.a (n := 9) (by decide)
            have hb2 := pickI_bd y.c (n := 30) (by decide)
            have hwi : IntKind.i64.wrap (1 + (i : Int)) = 1 + (i : Int) := wrapS _ (by omega) (by omega)
            have hwz : IntKind.i64.wrap (pickI y.c 30 - 4) = pickI y.c 30 - 4 := wrapS _ (by omega) (by omega)
            have hii : (0 : Int) ≤ (i : Int) ∧ (i : Int) < (x.length : Int) := by omega
            have hi8' : (i : Int) < 8 := by omega
            go_wp2_with fail
            apply wp_one
            · go_region_held3 (fun w' => w'.cell? ⟨xb, xo + i * 3, none⟩ = some (.int .i64 y.a) ∧ w'.cell? ⟨xb, xo + i * 3 + 1, none⟩ = some (.int .i64 y.b) ∧ w'.cell? ⟨xb, xo + i * 3 + 2, none⟩ = some (.int .i64 y.c))
                (first | go_keep)
                (first | (go_at_call 59; refine (pick59 _ _ _ (by first | exact xr.1 | exact xr.2.2) (by decide) (by decide)).mono ?_; rintro e w' ⟨rfl, rfl⟩))
              all_goals exact ⟨rfl, rfl, rfl⟩
            have htb : Blk (Wo.alloc (.cells #[.int .i64 (1 + i), .int .i64 (pickI y.a 9), .int .i64 0, .int .i64 0, .slice none 0 0, .int .i64 (pickI y.c 30 - 4)] 26)).drew Wo.heap.size #[.int .i64 (1 + i), .int .i64 (pickI y.a 9), .int .i64 0, .int .i64 0, .slice none 0 0, .int .i64 (pickI y.c 30 - 4)] 26 := Blk.new Wo _ 26
            have hBt : Below Wo.heap.size Wo (Wo.alloc (.cells #[.int .i64 (1 + i), .int .i64 (pickI y.a 9), .int .i64 0, .int .i64 0, .slice none 0 0, .int .i64 (pickI y.c 30 - 4)] 26)).drew := ((Below.refl _ _).alloc (Nat.le_refl _) _).drew
            have hst : Wo.heap.size + 1 ≤ (Wo.alloc (.cells #[.int .i64 (1 + i), .int .i64 (pickI y.a 9), .int .i64 0, .int .i64 0, .slice none 0 0, .int .i64 (pickI y.c 30 - 4)] 26)).drew.heap.size := by show _ ≤ (World.alloc _ _).heap.size; simp
            generalize World.drew _ = Wt at htb hBt hst ⊢
            clear y2
            have HR3 := Lib.hid hrs.out
            go_wp2
            go_loopw [11] (fun u11 W => ∃ (k : Nat) (vc : Value), k ≤ m ∧ u11 = .int .i64 k ∧ Blk W Wo.heap.size #[.int .i64 (1 + i), .int .i64 (pickI y.a 9), .int .i64 0, .int .i64 0, vc, .int .i64 (pickI y.c 30 - 4)] 26 ∧ W.ownsRow (Wo.heap.size + 1) 3 1 vc k ((coefM y k).map (Value.int .i64)) ∧ Below Wo.heap.size Wo W ∧ Wo.heap.size + 1 ≤ W.heap.size)
              (fun u11 _ => (m - intOf u11).toNat)
            case atStart => exact ⟨0, _, by omega, rfl, htb, World.ownsRow_nil _ _ _ _, hBt, hst⟩
            case round =>
              obtain ⟨k, vc, hk, rfl, hbk, hown, hBk, hszk⟩ := hrel
              have hOk := hO.below hBk
              have o0 := hOk.box.cell 0
              have t4 := hbk.cell 4
              simp only [List.getElem?_toArray, List.getElem?_cons_succ, List.getElem?_cons_zero] at o0 t4
              by_cases hkm : k < m
              · have hxl2 : xb < Wo.heap.size := hxlt
                have lwk : Wo.heap.size < wr.heap.size := by omega
                have z0 : wr.cell? ⟨xb, xo + i * 3, none⟩ = some (.int .i64 y.a) := (hBk.cell (by exact hxlt)).trans y0
                have z1 : wr.cell? ⟨xb, xo + i * 3 + 1, none⟩ = some (.int .i64 y.b) := (hBk.cell (by exact hxlt)).trans y1
                have hcs := Lib.hid (coefM_succ y k)
                have hda := InR_tdiv y.a (1 + 3 * k) xr.1 (by omega)
                have hdb := InR_tdiv y.b (1 + 5 * k) xr.2.1 (by omega)
                have hba := pickI_bd (Int.tdiv y.a (1 + 3 * k)) (n := 12) (by decide)
                have hbb := pickI_bd (Int.tdiv y.b (1 + 5 * k)) (n := 5) (by decide)
                have hwa := wrapS _ hda.1 hda.2
                have hwb := wrapS _ hdb.1 hdb.2
                have hwd : IntKind.i64.wrap (pickI (Int.tdiv y.a (1 + 3 * k)) 12 - pickI (Int.tdiv y.b (1 + 5 * k)) 5) = pickI (Int.tdiv y.a (1 + 3 * k)) 12 - pickI (Int.tdiv y.b (1 + 5 * k)) 5 := wrapS _ (by omega) (by omega)
                have w3 : IntKind.i64.wrap (3 * (k : Int)) = 3 * (k : Int) := wrapS _ (by omega) (by omega)
                have w5 : IntKind.i64.wrap (5 * (k : Int)) = 5 * (k : Int) := wrapS _ (by omega) (by omega)
                have w13 : IntKind.i64.wrap (1 + 3 * (k : Int)) = 1 + 3 * (k : Int) := wrapS _ (by omega) (by omega)
                have w15 : IntKind.i64.wrap (1 + 5 * (k : Int)) = 1 + 5 * (k : Int) := wrapS _ (by omega) (by omega)
                have n3 : ¬ (1 + 3 * (k : Int) = 0) := by omega
                have n5 : ¬ (1 + 5 * (k : Int) = 0) := by omega
                go_wp2_with fail
                have lg : xb < wr.heap.size := by omega
                go_region_law (first | (refine step_push (w0 := wr.drew) (x := pickI (Int.tdiv y.a (1 + 3 * k)) 12 - pickI (Int.tdiv y.b (1 + 5 * k)) 5) rfl (.tmp 64) (.tmp 86) rfl (Wo.heap.size + 1) rfl (owned_below hown ((Below.refl _ _).drew)) (by simp [Act.eval]) (by simp [Act.eval]) (by omega) (by show _ ≤ wr.heap.size; omega) ?_; intro g cap w' hown' hgrow hBw; have hbk' : Blk w' Wo.heap.size #[.int .i64 (1 + i), .int .i64 (pickI y.a 9), .int .i64 0, .int .i64 0, vc, .int .i64 (pickI y.c 30 - 4)] 26 := (hBw.block _ (by omega)).trans (show Blk wr.drew _ _ _ from hbk); have j4 := hbk'.cell 4; have f4 := hbk'.frozen 4; simp only [List.getElem?_toArray, List.getElem?_cons_succ, List.getElem?_cons_zero] at j4) | (go_simp; go_at_call 59; refine (pick59 _ _ _ (by first | exact hda | exact hdb) (by decide) (by decide)).mono ?_; rintro e w' ⟨rfl, rfl⟩))
                all_goals (
                  go_wp2
                  go_roundw
                  case rel =>
                    refine ⟨k + 1, _, by omega, by go_num, hbk'.set 4 _, ownsRow_setCell_below (by rw [hcs.out, List.map_append]; exact hown') (by simp) _, (hBk.drew.trans (hBw.mono (by omega))).setCell (p := ⟨Wo.heap.size, 4, none⟩) (Nat.le_refl _) _, ?_⟩
                    have := hBw.size
                    have e : wr.drew.heap.size = wr.heap.size := rfl
                    simp; omega
                  case measure => simp [intOf]; omega)
              · obtain rfl : m = k := by omega
                obtain ⟨cs, ho1, ho2⟩ := hO.own
                obtain ⟨ka, kc, rfl, hk1, hk2⟩ := owned_len ho1
                have HOW := Lib.hid hown
                obtain ⟨va3, vc3, rfl, hv31, hv32⟩ := owned_len hown
                have d0 := hbk.cell 0
                have d1 := hbk.cell 1
                have d2 := hbk.cell 2
                have d3 := hbk.cell 3
                have d5 := hbk.cell 5
                have e1 := hOk.box.cell 1
                simp only [List.getElem?_toArray, List.getElem?_cons_succ, List.getElem?_cons_zero] at d0 d1 d2 d3 d5 e1
                have hset := owned_below ho1 hBk
                have HRL := Lib.hid (rowsM_len x m i)
                have hso := hO.sz
                have HOK := Lib.hid hO
                have HCL := Lib.hid (coefM_len y m)
                clear hO hOk hown
                go_wp2_with (at_builtin; (refine wpList_pushN E27 rfl _ _ rfl (w.heap.size + 2 + 1) hset rfl rfl rfl (by intro u hu; simp at hu; rcases hu with rfl | rfl | rfl | rfl | rfl | rfl <;> rfl) (by have := HRL.out; unfold maxLen; omega) (by have := HRL.out; omega) (by omega) ?_; intro v' w5 hown' hgrow hb5; obtain ⟨hbx, hO5⟩ := HOK.out.pushed0 (r := rowM i y m) ho1 ho2 hBk (ownsRow_base (by have := HOW.out; unfold rowM; simp only [HCL.out]; exact this) (Nat.zero_le _)) hgrow hown'; obtain ⟨na, nc, rfl, hn1, hn2⟩ := owned_len hown'; have f1 := hbx.frozen 1; have x1 := hbx.cell 1; simp only [List.getElem?_toArray, List.getElem?_cons_succ, List.getElem?_cons_zero] at x1))
                go_roundw
                case rel => exact ⟨i + 1, _, by omega, by go_num, by rw [HR3.out]; exact hO5, ((hB.trans (hBk.mono (by omega))).trans (hb5.mono (by omega))).setCell (p := ⟨w.heap.size + 2, 1, none⟩) (Nat.le_refl _) _⟩
                case measure => simp [intOf]; omega
          · obtain rfl : i = min x.length 8 := by omega
            have hbx := hO.box
            obtain ⟨cs, ho1, ho2⟩ := hO.own
            obtain ⟨ka, kc, rfl, hk1, hk2⟩ := owned_len ho1
            have kr := hrb.below hB (by omega)
            have a0 := hbx.cell 0
            have a1 := hbx.cell 1
            have a2 := hbx.cell 2
            have b0 := kr.cell 0
            have b1 := kr.cell 1
            have b2 := kr.cell 2
            have g0 := kr.frozen 0
            have g1 := kr.frozen 1
            have g2 := kr.frozen 2
            simp only [List.getElem?_toArray, List.getElem?_cons_succ, List.getElem?_cons_zero] at a0 a1 a2 b0 b1 b2
            have HOO := Lib.hid hO
            clear hO hbx
            have hi8' : ¬ ((min x.length 8 : Nat) : Int) < 8 := by omega
            have hii : ((min x.length 8 : Nat) : Int) < (x.length : Int) := by omega
            go_wp2
            refine bodyPost_ret (v := .agg #[.int .i64 m, .slice ka (rowsM x m (min x.length 8)).length kc, .slice ga2 m gc2]) (by simp [results, Try.results17, go_sem, b0, b1, b2]) rfl ?_
            have hlt2 : w.heap.size + 1 < w.heap.size + 2 := by omega
            have hB2 : ∀ (j : Nat) (u : Value) (W : World), Below w.heap.size w W → Below w.heap.size w (W.setCell ⟨w.heap.size + 1, j, none⟩ u) := fun j u W h => h.setCell (p := ⟨w.heap.size + 1, j, none⟩) (by simp) u
            exact ⟨w.heap.size + 2, _, _, rfl, ((HOO.out.setLow kr (by decide) hlt2 0 (.int .i64 m)).setLow (kr.set 0 (.int .i64 m)) (by decide) hlt2 1 _).setLow ((kr.set 0 (.int .i64 m)).set 1 _) (by decide) hlt2 2 _, Nat.le_add_right _ _, hB2 _ _ _ (hB2 _ _ _ (hB2 _ _ _ (hW0.trans (hB.mono (by omega)))))⟩
        · obtain rfl : i = min x.length 8 := by omega
          have hbx := hO.box
          obtain ⟨cs, ho1, ho2⟩ := hO.own
          obtain ⟨ka, kc, rfl, hk1, hk2⟩ := owned_len ho1
          have kr := hrb.below hB (by omega)
          have a0 := hbx.cell 0
          have a1 := hbx.cell 1
          have a2 := hbx.cell 2
          have b0 := kr.cell 0
          have b1 := kr.cell 1
          have b2 := kr.cell 2
          have g0 := kr.frozen 0
          have g1 := kr.frozen 1
          have g2 := kr.frozen 2
          simp only [List.getElem?_toArray, List.getElem?_cons_succ, List.getElem?_cons_zero] at a0 a1 a2 b0 b1 b2
          have HOO := Lib.hid hO
          clear hO hbx
          have hii : ¬ ((min x.length 8 : Nat) : Int) < (x.length : Int) := by omega
          go_wp2
          refine bodyPost_ret (v := .agg #[.int .i64 m, .slice ka (rowsM x m (min x.length 8)).length kc, .slice ga2 m gc2]) (by simp [results, Try.results17, go_sem, b0, b1, b2]) rfl ?_
          have hlt2 : w.heap.size + 1 < w.heap.size + 2 := by omega
          have hB2 : ∀ (j : Nat) (u : Value) (W : World), Below w.heap.size w W → Below w.heap.size w (W.setCell ⟨w.heap.size + 1, j, none⟩ u) := fun j u W h => h.setCell (p := ⟨w.heap.size + 1, j, none⟩) (by simp) u
          exact ⟨w.heap.size + 2, _, _, rfl, ((HOO.out.setLow kr (by decide) hlt2 0 (.int .i64 m)).setLow (kr.set 0 (.int .i64 m)) (by decide) hlt2 1 _).setLow ((kr.set 0 (.int .i64 m)).set 1 _) (by decide) hlt2 2 _, Nat.le_add_right _ _, hB2 _ _ _ (hB2 _ _ _ (hB2 _ _ _ (hW0.trans (hB.mono (by omega)))))⟩
end Go.Proofs.Ytblmpmapcdpaiaa
