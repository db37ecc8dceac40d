/- Texts P21, ReadX, ReadR, RS in one. -/
import Derived.Test.YtblmpmapcdpaiaaB4
import Derived.Deep.AppendLies
import Derived.Deep.RegionLaw
import Derived.Test.YtblmpmapcdpaiaaB1
import Derived.Test.YtblmpmapcdpaiaaB3
section
/- nadirref23.Made. -/
namespace Go.Proofs.Ytblmpmapcdpaiaa
open Go.RowKit Lib Go.Joins

structure X3 where
  a : Int
  b : Int
  c : Int
def XC (_ : World) (cs : List Value) (x : X3) : Prop := cs = [.int .i64 x.a, .int .i64 x.b, .int .i64 x.c]
abbrev XsAt (w : World) (v : Value) (l : List X3) : Prop := StructsOf 3 XC w v l
theorem XsAt.below {w w' : World} {v : Value} {l : List X3} (h : XsAt w v l) (hb : Below w.heap.size w w') : XsAt w' v l := StructsOf.below (R := XC) (fun _ _ _ _ h _ => h) h hb
def XR (x : X3) : Prop := InR x.a ∧ InR x.b ∧ InR x.c
def gainM (gain : List Int) (m : Nat) : List Int := (List.range m).map fun i => pickI (gain.getD i 0) 40 - 8
def coefM (x : X3) (m : Nat) : List Int := (List.range m).map fun (k : Nat) => pickI (Int.tdiv x.a (1 + 3 * k)) 12 - pickI (Int.tdiv x.b (1 + 5 * k)) 5
def rowM (i : Nat) (x : X3) (m : Nat) : RowD := ⟨1 + i, pickI x.a 9, 0, 0, coefM x m, pickI x.c 30 - 4⟩
def dX : X3 := ⟨0, 0, 0⟩
def rowsM (x : List X3) (m n : Nat) : List RowD := (List.range n).map fun i => rowM i (x.getD i dX) m
def madeP (vars : Int) (x : List X3) (gain : List Int) : ProgD := ⟨pickI vars 9, rowsM x (pickI vars 9).toNat (min x.length 8), gainM gain (pickI vars 9).toNat⟩
theorem gainM_succ (gain : List Int) (m : Nat) : gainM gain (m + 1) = gainM gain m ++ [pickI (gain.getD m 0) 40 - 8] := by unfold gainM; rw [List.range_succ, List.map_append]; rfl
theorem gainM_len (gain : List Int) (m : Nat) : (gainM gain m).length = m := by simp [gainM]
theorem coefM_succ (x : X3) (m : Nat) : coefM x (m + 1) = coefM x m ++ [pickI (Int.tdiv x.a (1 + 3 * m)) 12 - pickI (Int.tdiv x.b (1 + 5 * m)) 5] := by unfold coefM; rw [List.range_succ, List.map_append]; rfl
theorem coefM_len (x : X3) (m : Nat) : (coefM x m).length = m := by simp [coefM]
theorem rowsM_succ (x : List X3) (m n : Nat) : rowsM x m (n + 1) = rowsM x m n ++ [rowM n (x.getD n dX) m] := by unfold rowsM; rw [List.range_succ, List.map_append]; rfl
theorem rowsM_len (x : List X3) (m n : Nat) : (rowsM x m n).length = n := by simp [rowsM]

theorem InR_tdiv (a d : Int) (ha : InR a) (hd : 0 < d) : InR (Int.tdiv a d) := by
  obtain ⟨h1, h2⟩ := ha
  have h3 : (Int.tdiv a d).natAbs ≤ a.natAbs := by
    rw [Int.natAbs_tdiv]; exact Nat.div_le_self _ _
  by_cases h : a = -9223372036854775808
  · subst h
    refine ⟨by omega, ?_⟩
    have : Int.tdiv (-9223372036854775808) d ≤ 0 := by rw [Int.neg_tdiv]; have := Int.tdiv_nonneg (a := 9223372036854775808) (b := d) (by decide) (by omega); omega
    omega
  · exact ⟨by omega, by omega⟩
/-- A region whose ways all end alike. -/
theorem wp_one {P : Program} {c : Code} {Q : Exit → Act → World → Prop} {a fr : Act} {w wo : World} (h : c.wp P (fun e a' w' => e = .normal ∧ a' = fr ∧ w' = wo) a w) (k : Q .normal fr wo) : c.wp P Q a w :=
  Code.wp_mono (fun e a' w' h => by obtain ⟨rfl, rfl, rfl⟩ := h; exact k) h
/-- One number is appended to an own row, as a step of a region that draws. -/
theorem step_push {ops : Array Oper} {o : Oper} {a : Act} {w0 w : World} {K : Act → World → Prop} {Q : Exit → Act → World → Prop} {E : Prop} {x : Int}
    (hgd : o.guard = none) (s y : Operand) (ho : o.op = Op.call { callee := Callee.builtin Builtin.append, args := #[s, y], argTypes := #[24, 24] })
    (base : Nat) {v : Value} {n : Nat} {xs : List Value} (hw : w = w0.alloc (.cells #[.int .i64 x] 3)) (hown : w0.ownsRow base 3 1 v n xs) (hs : a.eval s = v) (hy : a.eval y = .slice (some ⟨w0.heap.size, 0, none⟩) 1 1)
    (hn : n ≤ 1000000) (hbase : base ≤ w0.heap.size)
    (hK : ∀ g cap w', w'.ownsRow base 3 1 (.slice (some ⟨g, 0, none⟩) (n + 1) cap) (n + 1) (xs ++ [.int .i64 x]) → (w0.alloc (.cells #[.int .i64 x] 3)).grownBy w' v.ownBlock → Below base w0 w' → K (a.put o.dst (.slice (some ⟨g, 0, none⟩) (n + 1) cap)) w') :
    if Region.wanted o (yielded ops a.tmps) = true then Oper.wp Try.prog o a w K Q else E := by
  subst hw
  obtain ⟨i, hi, hz0, hz1, hz2⟩ := info_parts E24.info
  refine step_append_lies _ hgd s y 24 ho base 3 i _ 1 8 E24.und hi hz0 hz1 hz2 E24.zs E24.pos v n xs hs (hown.alloc _) ⟨w0.heap.size, 0, none⟩ 1 1 [.int .i64 x] hy rfl ?_ (by intro u hu; simp at hu; subst hu; rfl) (by omega) (by unfold maxLen; omega) (by omega) (by simp; omega) _ rfl ?_
  · intro j u hj
    rw [add_zero_off]
    exact ((Blk.new w0 #[.int .i64 x] 3).cell j).trans (by simpa using hj)
  · intro g cap w' h1 h2 h3 h4
    exact hK g cap w' h1 h2 (grown_below hown h2 hbase)

set_option maxRecDepth 100000 in
set_option maxHeartbeats 8000000 in
theorem made_own (vars : Int) (vx : Value) (x : List X3) (gain : List Int) (w : World) (hv : InR vars) (hx : XsAt w vx x) (hxr : ∀ y ∈ x, XR y) (hg : gain.length = 8) (hgr : ∀ y ∈ gain, InR y) :
    Calls Try.prog 17 #[.int .i64 vars, vx, .agg (gain.map (Value.int .i64)).toArray] w fun e w' => ∃ oB vk vg, e = .returned (.agg #[.int .i64 (madeP vars x gain).vars, vk, vg]) ∧ OutP oB w' (madeP vars x gain).vars vk vg (madeP vars x gain).rows (madeP vars x gain).gain ∧ w.heap.size ≤ oB ∧ Below w.heap.size w w' := by
  obtain ⟨m, hm⟩ := Int.eq_ofNat_of_zero_le (pickI_bd vars (n := 9) (by decide)).1
  have hm9 : m < 9 := by have := (pickI_bd vars (n := 9) (by decide)).2; omega
  unfold madeP
  rw [hm]
  rw [Int.toNat_natCast]
  simp only
  have hpk := Lib.hid (fun W => pick59 vars 9 W hv (by decide) (by decide))
  rw [hm] at hpk
  have HX := Lib.hid hx
  obtain ⟨xa, xc, rfl, hx1, hx2⟩ := hx.len
  unfold maxLen at hx2
  obtain ⟨g0, g1, g2, g3, g4, g5, g6, g7, hge⟩ : ∃ g0 g1 g2 g3 g4 g5 g6 g7, gain = [g0, g1, g2, g3, g4, g5, g6, g7] := by
    match gain, hg with
    | [g0, g1, g2, g3, g4, g5, g6, g7], _ => exact ⟨_, _, _, _, _, _, _, _, rfl⟩
  have HXR := Lib.hid hxr
  have hcell : ∀ k, k < 8 → (#[.int .i64 g0, .int .i64 g1, .int .i64 g2, .int .i64 g3, .int .i64 g4, .int .i64 g5, .int .i64 g6, .int .i64 g7] : Array Value)[k]? = some (.int .i64 (gain.getD k 0)) := by
    rw [hge]
    intro k hk
    match k, hk with
    | 0, _ => rfl
    | 1, _ => rfl
    | 2, _ => rfl
    | 3, _ => rfl
    | 4, _ => rfl
    | 5, _ => rfl
    | 6, _ => rfl
    | 7, _ => rfl
  have hgin : ∀ k, InR (gain.getD k 0) := fun k => by
    by_cases hk : k < gain.length
    · exact hgr _ (List.mem_of_getElem? (getD_some 0 hk))
    · rw [List.getD_eq_getElem?_getD, List.getElem?_eq_none (by omega)]; exact ⟨by decide, by decide⟩
  have harg : (gain.map (Value.int .i64)).toArray = #[.int .i64 g0, .int .i64 g1, .int .i64 g2, .int .i64 g3, .int .i64 g4, .int .i64 g5, .int .i64 g6, .int .i64 g7] := by rw [hge]; rfl
  rw [harg]
  have HH := Lib.hid (And.intro hcell hgin)
  clear hx hg hgr hxr hm hv harg hge hcell hgin
  go_enter Try.func17, Try.ntmps17
  go_wp2_with fail
  refine (hpk.out _).mono ?_
  rintro e w1 ⟨rfl, rfl⟩
  clear hpk
  go_wp2
  have hW0 : Below w.heap.size w ((w.alloc (.cells #[.int .i64 g0, .int .i64 g1, .int .i64 g2, .int .i64 g3, .int .i64 g4, .int .i64 g5, .int .i64 g6, .int .i64 g7] 23)).alloc (.cells #[.int .i64 0, .slice none 0 0, .slice none 0 0] 29)) := ((Below.refl _ _).alloc (Nat.le_refl _) _).alloc (by simp) _
  have hgb : Blk ((w.alloc (.cells #[.int .i64 g0, .int .i64 g1, .int .i64 g2, .int .i64 g3, .int .i64 g4, .int .i64 g5, .int .i64 g6, .int .i64 g7] 23)).alloc (.cells #[.int .i64 0, .slice none 0 0, .slice none 0 0] 29)) w.heap.size #[.int .i64 g0, .int .i64 g1, .int .i64 g2, .int .i64 g3, .int .i64 g4, .int .i64 g5, .int .i64 g6, .int .i64 g7] 23 := (Blk.new w _ 23).alloc _
  have hrb : Blk ((w.alloc (.cells #[.int .i64 g0, .int .i64 g1, .int .i64 g2, .int .i64 g3, .int .i64 g4, .int .i64 g5, .int .i64 g6, .int .i64 g7] 23)).alloc (.cells #[.int .i64 0, .slice none 0 0, .slice none 0 0] 29)) (w.heap.size + 1) #[.int .i64 0, .slice none 0 0, .slice none 0 0] 29 := Blk.newAt _ _ _ (by simp)
  have hs0 : ((w.alloc (.cells #[.int .i64 g0, .int .i64 g1, .int .i64 g2, .int .i64 g3, .int .i64 g4, .int .i64 g5, .int .i64 g6, .int .i64 g7] 23)).alloc (.cells #[.int .i64 0, .slice none 0 0, .slice none 0 0] 29)).heap.size = w.heap.size + 2 := by simp
  generalize ((w.alloc (.cells #[.int .i64 g0, .int .i64 g1, .int .i64 g2, .int .i64 g3, .int .i64 g4, .int .i64 g5, .int .i64 g6, .int .i64 g7] 23)).alloc (.cells #[.int .i64 0, .slice none 0 0, .slice none 0 0] 29)) = W0 at hW0 hgb hrb hs0 ⊢
  go_loopw [8] (fun u8 wr => ∃ (k : Nat) (vk : Value), k ≤ m ∧ u8 = .int .i64 k ∧ Blk wr (w.heap.size + 2) #[.int .i64 m, .slice none 0 0, vk] 29 ∧ wr.ownsRow (w.heap.size + 3) 3 1 vk k ((gainM gain k).map (Value.int .i64)) ∧ Below (w.heap.size + 2) W0 wr ∧ w.heap.size + 3 ≤ wr.heap.size)
    (fun u8 _ => (m - intOf u8).toNat)
  case atStart => exact ⟨0, _, by omega, rfl, Blk.newAt _ _ _ (by omega), World.ownsRow_nil _ _ _ _, (Below.refl _ _).alloc (by omega) _, by simp; omega⟩
  case round =>
    obtain ⟨k, vk, hk, rfl, hbk, hown, hB, hsz⟩ := hrel
    have i0 := hbk.cell 0
    have i2 := hbk.cell 2
    simp only [List.getElem?_toArray, List.getElem?_cons_succ, List.getElem?_cons_zero] at i0 i2
    by_cases hkm : k < m
    · have hgk := ((hgb.below hB (by omega)).cell k).trans (HH.out.1 k (by omega))
      have hpk := Lib.hid (fun W => pick59 (gain.getD k 0) 40 W (HH.out.2 k) (by decide) (by decide))
      have hpb := pickI_bd (gain.getD k 0) (n := 40) (by decide)
      have hgs := Lib.hid (gainM_succ gain k)
      generalize gain.getD k 0 = y at hgk hpk hpb hgs
      generalize pickI y 40 = z at hpk hpb hgs
      have hwz : IntKind.i64.wrap (z - 8) = z - 8 := wrapS _ (by omega) (by omega)
      have hkk : (0 : Int) ≤ (k : Int) ∧ (k : Int) < 8 := by omega
      have lw : w.heap.size < wr.heap.size := by omega
      have lw2 : w.heap.size + 2 < wr.heap.size := by omega
      go_wp2_with fail
      have lg : w.heap.size < wr.heap.size := by omega
      go_region_law (first | (refine step_push (w0 := wr.drew) (x := z - 8) rfl (.tmp 22) (.tmp 28) rfl (w.heap.size + 3) rfl (owned_below hown ((Below.refl _ _).drew)) (by simp [Act.eval]) (by simp [Act.eval]) (by omega) (by show _ ≤ wr.heap.size; omega) ?_; intro g cap w' hown' hgrow hBw; have hbk' : Blk w' (w.heap.size + 2) #[.int .i64 m, .slice none 0 0, vk] 29 := (hBw.block _ (by omega)).trans (show Blk wr.drew _ _ _ from hbk); have j2 := hbk'.cell 2; have f2 := hbk'.frozen 2; simp only [List.getElem?_toArray, List.getElem?_cons_succ, List.getElem?_cons_zero] at j2) | (go_simp; go_at_call 59; refine (hpk.out _).mono ?_; rintro e w' ⟨rfl, rfl⟩))
      all_goals (
        go_wp2
        go_roundw
        case rel =>
          refine ⟨k + 1, _, by omega, by go_num, hbk'.set 2 _, ownsRow_setCell_below (by rw [hgs.out, List.map_append]; exact hown') (by simp) _, (hB.drew.trans (hBw.mono (by omega))).setCell (p := ⟨w.heap.size + 2, 2, none⟩) (Nat.le_refl _) _, ?_⟩
          have := hBw.size
          have e : wr.drew.heap.size = wr.heap.size := rfl
          simp; omega
        case measure => simp [intOf]; omega)
    · obtain rfl : m = k := by omega
      have HO := Lib.hid (show OutP (w.heap.size + 2) wr m (.slice none 0 0) vk [] (gainM gain m) from ⟨hbk, ⟨[], World.ownsRow_nil _ _ _ _, rfl⟩, ownsRow_base (by rw [gainM_len]; exact hown) (Nat.zero_le _), hsz⟩)
      have HB := Lib.hid hB
      have hgl := gainM_len gain m
      generalize hgg : gainM gain m = gg at HO hgl
      obtain ⟨va, vc, rfl, hva1, hva2⟩ := owned_len hown
      clear hown hB hbk i2
      generalize hvg : Value.slice va m vc = vg at HO
      have i1 := HO.out.box.cell 1
      simp only [List.getElem?_toArray, List.getElem?_cons_succ, List.getElem?_cons_zero] at i1
      go_wp2
      have hsg : SlicesLen vg m := by rw [← hvg]; exact ⟨_, _, rfl, hva1, hva2⟩
      obtain ⟨ga2, gc2, rfl, -, -⟩ := hsg
      clear hvg hva1 hva2
      go_loopw [9] (fun u9 wr => ∃ (i : Nat) (vk : Value), i ≤ min x.length 8 ∧ u9 = .int .i64 i ∧ OutP (w.heap.size + 2) wr m vk (.slice ga2 m gc2) (rowsM x m i) gg ∧ Below (w.heap.size + 2) W0 wr)
        (fun u9 _ => (8 - intOf u9).toNat)
      case atStart => exact ⟨0, _, by omega, rfl, HO.out, HB.out⟩
      case round =>
        obtain ⟨i, vk, hi, rfl, hO, hB⟩ := hrel
        rename World => Wo
        by_cases hix : i < x.length
        · by_cases hi8 : i < 8
          · have hsome := getD_some dX hix
            have hBx : Below w.heap.size w Wo := hW0.trans (hB.mono (by omega))
            obtain ⟨a', c', e, -, -, h4⟩ := HX.out.below hBx
            cases e
            obtain ⟨xb, xo, rfl, h5⟩ := h4 (by omega)
            obtain ⟨cs, -, c2, rfl⟩ := h5 i _ hsome
            have xr := HXR.out _ (List.mem_of_getElem? hsome)
            have hrs := Lib.hid (rowsM_succ x m i)
            generalize x.getD i dX = y at hsome c2 xr hrs
            have y0 := c2 0 _ rfl
            have y1 := c2 1 _ rfl
            have y2 := c2 2 _ rfl
            have hxlt := World.block_lt_of_cell? _ _ y0
            simp only [Nat.add_zero] at y0 hxlt
            clear c2 h4 h5 hsome
            have hb1 := pickI_bd y.a (n := 9) (by decide)
            have hb2 := pickI_bd y.c (n := 30) (by decide)
            have hwi : IntKind.i64.wrap (1 + (i : Int)) = 1 + (i : Int) := wrapS _ (by omega) (by omega)
            have hwz : IntKind.i64.wrap (pickI y.c 30 - 4) = pickI y.c 30 - 4 := wrapS _ (by omega) (by omega)
            have hii : (0 : Int) ≤ (i : Int) ∧ (i : Int) < (x.length : Int) := by omega
            have hi8' : (i : Int) < 8 := by omega
            go_wp2_with fail
            apply wp_one
            · go_region_held3 (fun w' => w'.cell? ⟨xb, xo + i * 3, none⟩ = some (.int .i64 y.a) ∧ w'.cell? ⟨xb, xo + i * 3 + 1, none⟩ = some (.int .i64 y.b) ∧ w'.cell? ⟨xb, xo + i * 3 + 2, none⟩ = some (.int .i64 y.c))
                (first | go_keep)
                (first | (go_at_call 59; refine (pick59 _ _ _ (by first | exact xr.1 | exact xr.2.2) (by decide) (by decide)).mono ?_; rintro e w' ⟨rfl, rfl⟩))
              all_goals exact ⟨rfl, rfl, rfl⟩
            have htb : Blk (Wo.alloc (.cells #[.int .i64 (1 + i), .int .i64 (pickI y.a 9), .int .i64 0, .int .i64 0, .slice none 0 0, .int .i64 (pickI y.c 30 - 4)] 26)).drew Wo.heap.size #[.int .i64 (1 + i), .int .i64 (pickI y.a 9), .int .i64 0, .int .i64 0, .slice none 0 0, .int .i64 (pickI y.c 30 - 4)] 26 := Blk.new Wo _ 26
            have hBt : Below Wo.heap.size Wo (Wo.alloc (.cells #[.int .i64 (1 + i), .int .i64 (pickI y.a 9), .int .i64 0, .int .i64 0, .slice none 0 0, .int .i64 (pickI y.c 30 - 4)] 26)).drew := ((Below.refl _ _).alloc (Nat.le_refl _) _).drew
            have hst : Wo.heap.size + 1 ≤ (Wo.alloc (.cells #[.int .i64 (1 + i), .int .i64 (pickI y.a 9), .int .i64 0, .int .i64 0, .slice none 0 0, .int .i64 (pickI y.c 30 - 4)] 26)).drew.heap.size := by show _ ≤ (World.alloc _ _).heap.size; simp
            generalize World.drew _ = Wt at htb hBt hst ⊢
            clear y2
            have HR3 := Lib.hid hrs.out
            go_wp2
            go_loopw [11] (fun u11 W => ∃ (k : Nat) (vc : Value), k ≤ m ∧ u11 = .int .i64 k ∧ Blk W Wo.heap.size #[.int .i64 (1 + i), .int .i64 (pickI y.a 9), .int .i64 0, .int .i64 0, vc, .int .i64 (pickI y.c 30 - 4)] 26 ∧ W.ownsRow (Wo.heap.size + 1) 3 1 vc k ((coefM y k).map (Value.int .i64)) ∧ Below Wo.heap.size Wo W ∧ Wo.heap.size + 1 ≤ W.heap.size)
              (fun u11 _ => (m - intOf u11).toNat)
            case atStart => exact ⟨0, _, by omega, rfl, htb, World.ownsRow_nil _ _ _ _, hBt, hst⟩
            case round =>
              obtain ⟨k, vc, hk, rfl, hbk, hown, hBk, hszk⟩ := hrel
              have hOk := hO.below hBk
              have o0 := hOk.box.cell 0
              have t4 := hbk.cell 4
              simp only [List.getElem?_toArray, List.getElem?_cons_succ, List.getElem?_cons_zero] at o0 t4
              by_cases hkm : k < m
              · have hxl2 : xb < Wo.heap.size := hxlt
                have lwk : Wo.heap.size < wr.heap.size := by omega
                have z0 : wr.cell? ⟨xb, xo + i * 3, none⟩ = some (.int .i64 y.a) := (hBk.cell (by exact hxlt)).trans y0
                have z1 : wr.cell? ⟨xb, xo + i * 3 + 1, none⟩ = some (.int .i64 y.b) := (hBk.cell (by exact hxlt)).trans y1
                have hcs := Lib.hid (coefM_succ y k)
                have hda := InR_tdiv y.a (1 + 3 * k) xr.1 (by omega)
                have hdb := InR_tdiv y.b (1 + 5 * k) xr.2.1 (by omega)
                have hba := pickI_bd (Int.tdiv y.a (1 + 3 * k)) (n := 12) (by decide)
                have hbb := pickI_bd (Int.tdiv y.b (1 + 5 * k)) (n := 5) (by decide)
                have hwa := wrapS _ hda.1 hda.2
                have hwb := wrapS _ hdb.1 hdb.2
                have hwd : IntKind.i64.wrap (pickI (Int.tdiv y.a (1 + 3 * k)) 12 - pickI (Int.tdiv y.b (1 + 5 * k)) 5) = pickI (Int.tdiv y.a (1 + 3 * k)) 12 - pickI (Int.tdiv y.b (1 + 5 * k)) 5 := wrapS _ (by omega) (by omega)
                have w3 : IntKind.i64.wrap (3 * (k : Int)) = 3 * (k : Int) := wrapS _ (by omega) (by omega)
                have w5 : IntKind.i64.wrap (5 * (k : Int)) = 5 * (k : Int) := wrapS _ (by omega) (by omega)
                have w13 : IntKind.i64.wrap (1 + 3 * (k : Int)) = 1 + 3 * (k : Int) := wrapS _ (by omega) (by omega)
                have w15 : IntKind.i64.wrap (1 + 5 * (k : Int)) = 1 + 5 * (k : Int) := wrapS _ (by omega) (by omega)
                have n3 : ¬ (1 + 3 * (k : Int) = 0) := by omega
                have n5 : ¬ (1 + 5 * (k : Int) = 0) := by omega
                go_wp2_with fail
                have lg : xb < wr.heap.size := by omega
                go_region_law (first | (refine step_push (w0 := wr.drew) (x := pickI (Int.tdiv y.a (1 + 3 * k)) 12 - pickI (Int.tdiv y.b (1 + 5 * k)) 5) rfl (.tmp 64) (.tmp 86) rfl (Wo.heap.size + 1) rfl (owned_below hown ((Below.refl _ _).drew)) (by simp [Act.eval]) (by simp [Act.eval]) (by omega) (by show _ ≤ wr.heap.size; omega) ?_; intro g cap w' hown' hgrow hBw; have hbk' : Blk w' Wo.heap.size #[.int .i64 (1 + i), .int .i64 (pickI y.a 9), .int .i64 0, .int .i64 0, vc, .int .i64 (pickI y.c 30 - 4)] 26 := (hBw.block _ (by omega)).trans (show Blk wr.drew _ _ _ from hbk); have j4 := hbk'.cell 4; have f4 := hbk'.frozen 4; simp only [List.getElem?_toArray, List.getElem?_cons_succ, List.getElem?_cons_zero] at j4) | (go_simp; go_at_call 59; refine (pick59 _ _ _ (by first | exact hda | exact hdb) (by decide) (by decide)).mono ?_; rintro e w' ⟨rfl, rfl⟩))
                all_goals (
                  go_wp2
                  go_roundw
                  case rel =>
                    refine ⟨k + 1, _, by omega, by go_num, hbk'.set 4 _, ownsRow_setCell_below (by rw [hcs.out, List.map_append]; exact hown') (by simp) _, (hBk.drew.trans (hBw.mono (by omega))).setCell (p := ⟨Wo.heap.size, 4, none⟩) (Nat.le_refl _) _, ?_⟩
                    have := hBw.size
                    have e : wr.drew.heap.size = wr.heap.size := rfl
                    simp; omega
                  case measure => simp [intOf]; omega)
              · obtain rfl : m = k := by omega
                obtain ⟨cs, ho1, ho2⟩ := hO.own
                obtain ⟨ka, kc, rfl, hk1, hk2⟩ := owned_len ho1
                have HOW := Lib.hid hown
                obtain ⟨va3, vc3, rfl, hv31, hv32⟩ := owned_len hown
                have d0 := hbk.cell 0
                have d1 := hbk.cell 1
                have d2 := hbk.cell 2
                have d3 := hbk.cell 3
                have d5 := hbk.cell 5
                have e1 := hOk.box.cell 1
                simp only [List.getElem?_toArray, List.getElem?_cons_succ, List.getElem?_cons_zero] at d0 d1 d2 d3 d5 e1
                have hset := owned_below ho1 hBk
                have HRL := Lib.hid (rowsM_len x m i)
                have hso := hO.sz
                have HOK := Lib.hid hO
                have HCL := Lib.hid (coefM_len y m)
                clear hO hOk hown
                go_wp2_with (at_builtin; (refine wpList_pushN E27 rfl _ _ rfl (w.heap.size + 2 + 1) hset rfl rfl rfl (by intro u hu; simp at hu; rcases hu with rfl | rfl | rfl | rfl | rfl | rfl <;> rfl) (by have := HRL.out; unfold maxLen; omega) (by have := HRL.out; omega) (by omega) ?_; intro v' w5 hown' hgrow hb5; obtain ⟨hbx, hO5⟩ := HOK.out.pushed0 (r := rowM i y m) ho1 ho2 hBk (ownsRow_base (by have := HOW.out; unfold rowM; simp only [HCL.out]; exact this) (Nat.zero_le _)) hgrow hown'; obtain ⟨na, nc, rfl, hn1, hn2⟩ := owned_len hown'; have f1 := hbx.frozen 1; have x1 := hbx.cell 1; simp only [List.getElem?_toArray, List.getElem?_cons_succ, List.getElem?_cons_zero] at x1))
                go_roundw
                case rel => exact ⟨i + 1, _, by omega, by go_num, by rw [HR3.out]; exact hO5, ((hB.trans (hBk.mono (by omega))).trans (hb5.mono (by omega))).setCell (p := ⟨w.heap.size + 2, 1, none⟩) (Nat.le_refl _) _⟩
                case measure => simp [intOf]; omega
          · obtain rfl : i = min x.length 8 := by omega
            have hbx := hO.box
            obtain ⟨cs, ho1, ho2⟩ := hO.own
            obtain ⟨ka, kc, rfl, hk1, hk2⟩ := owned_len ho1
            have kr := hrb.below hB (by omega)
            have a0 := hbx.cell 0
            have a1 := hbx.cell 1
            have a2 := hbx.cell 2
            have b0 := kr.cell 0
            have b1 := kr.cell 1
            have b2 := kr.cell 2
            have g0 := kr.frozen 0
            have g1 := kr.frozen 1
            have g2 := kr.frozen 2
            simp only [List.getElem?_toArray, List.getElem?_cons_succ, List.getElem?_cons_zero] at a0 a1 a2 b0 b1 b2
            have HOO := Lib.hid hO
            clear hO hbx
            have hi8' : ¬ ((min x.length 8 : Nat) : Int) < 8 := by omega
            have hii : ((min x.length 8 : Nat) : Int) < (x.length : Int) := by omega
            go_wp2
            refine bodyPost_ret (v := .agg #[.int .i64 m, .slice ka (rowsM x m (min x.length 8)).length kc, .slice ga2 m gc2]) (by simp [results, Try.results17, go_sem, b0, b1, b2]) rfl ?_
            have hlt2 : w.heap.size + 1 < w.heap.size + 2 := by omega
            have hB2 : ∀ (j : Nat) (u : Value) (W : World), Below w.heap.size w W → Below w.heap.size w (W.setCell ⟨w.heap.size + 1, j, none⟩ u) := fun j u W h => h.setCell (p := ⟨w.heap.size + 1, j, none⟩) (by simp) u
            exact ⟨w.heap.size + 2, _, _, rfl, ((HOO.out.setLow kr (by decide) hlt2 0 (.int .i64 m)).setLow (kr.set 0 (.int .i64 m)) (by decide) hlt2 1 _).setLow ((kr.set 0 (.int .i64 m)).set 1 _) (by decide) hlt2 2 _, Nat.le_add_right _ _, hB2 _ _ _ (hB2 _ _ _ (hB2 _ _ _ (hW0.trans (hB.mono (by omega)))))⟩
        · obtain rfl : i = min x.length 8 := by omega
          have hbx := hO.box
          obtain ⟨cs, ho1, ho2⟩ := hO.own
          obtain ⟨ka, kc, rfl, hk1, hk2⟩ := owned_len ho1
          have kr := hrb.below hB (by omega)
          have a0 := hbx.cell 0
          have a1 := hbx.cell 1
          have a2 := hbx.cell 2
          have b0 := kr.cell 0
          have b1 := kr.cell 1
          have b2 := kr.cell 2
          have g0 := kr.frozen 0
          have g1 := kr.frozen 1
          have g2 := kr.frozen 2
          simp only [List.getElem?_toArray, List.getElem?_cons_succ, List.getElem?_cons_zero] at a0 a1 a2 b0 b1 b2
          have HOO := Lib.hid hO
          clear hO hbx
          have hii : ¬ ((min x.length 8 : Nat) : Int) < (x.length : Int) := by omega
          go_wp2
          refine bodyPost_ret (v := .agg #[.int .i64 m, .slice ka (rowsM x m (min x.length 8)).length kc, .slice ga2 m gc2]) (by simp [results, Try.results17, go_sem, b0, b1, b2]) rfl ?_
          have hlt2 : w.heap.size + 1 < w.heap.size + 2 := by omega
          have hB2 : ∀ (j : Nat) (u : Value) (W : World), Below w.heap.size w W → Below w.heap.size w (W.setCell ⟨w.heap.size + 1, j, none⟩ u) := fun j u W h => h.setCell (p := ⟨w.heap.size + 1, j, none⟩) (by simp) u
          exact ⟨w.heap.size + 2, _, _, rfl, ((HOO.out.setLow kr (by decide) hlt2 0 (.int .i64 m)).setLow (kr.set 0 (.int .i64 m)) (by decide) hlt2 1 _).setLow ((kr.set 0 (.int .i64 m)).set 1 _) (by decide) hlt2 2 _, Nat.le_add_right _ _, hB2 _ _ _ (hB2 _ _ _ (hB2 _ _ _ (hW0.trans (hB.mono (by omega)))))⟩
end Go.Proofs.Ytblmpmapcdpaiaa
end
section
/- A slice of arrays of three integers, opened. -/
namespace Go.Proofs.Ytblmpmapcdpaiaa
open Go.ChangeShapes Go.WideShapes Go.ChangeAt Go.RowKit
section
variable {H : Type} {enc : TypeId × Value → H} {P : Program}

theorem cells_three {w : World} {a : Addr} {cs : List Value} (h : w.cells? 0 a 3 = some cs) : ∃ x y z, cs = [x, y, z] ∧ w.cell? a = some x ∧ w.cell? (a.add 1) = some y ∧ w.cell? (a.add 2) = some z := by
  unfold World.cells? at h
  rw [if_pos (Nat.zero_le _)] at h
  have hl : cs.length = 3 := by have := mapM_len h; simpa using this
  match cs, hl with
  | [x, y, z], _ =>
    obtain ⟨c0, hc0, hx0⟩ := Lib.mapM_at h 0 0 rfl
    obtain ⟨c1, hc1, hx1⟩ := Lib.mapM_at h 1 1 rfl
    obtain ⟨c2, hc2, hx2⟩ := Lib.mapM_at h 2 2 rfl
    simp at hc0 hc1 hc2
    subst hc0 hc1 hc2
    exact ⟨x, y, z, rfl, by simpa [Addr.add] using hx0, hx1, hx2⟩
theorem inR_wf {y : Int} (h : (Lit.int .i64 y).wf = true) : InR y := by
  simp [Lit.wf, IntKind.min, IntKind.max, IntKind.signed, IntKind.bits] at h
  exact ⟨by omega, by omega⟩
theorem trod_three {w : World} {base : Nat} {spare : Nat → Bool} {held : Bool} {e i : TypeId} {x y z : Value} {fuel : Nat} {r : DataW H × List MemPlace} (he : P.underlying e = some (.array 3 i)) (hi : P.underlying i = some (.int .i64)) (hci : P.cellsOf i = 1)
    (h : DataW.trod enc P w base spare held fuel e [x, y, z] = some r) : ∃ t : X3, x = .int .i64 t.a ∧ y = .int .i64 t.b ∧ z = .int .i64 t.c ∧ XR t := by
  obtain ⟨xs, m, -, -, hl, hxl, hx⟩ := DataW.trod_array he h
  have g : ∀ k, k < 3 → ∃ v : Int, (([x, y, z].drop (k * 1)).take 1) = [.int .i64 v] ∧ InR v := fun k hk => by
    have h1 := hx k hk
    rw [hci] at h1
    obtain ⟨x0, hx0⟩ : ∃ q, xs[k]? = some q := ⟨xs[k]'(by omega), List.getElem?_eq_getElem (by omega)⟩
    rw [hx0] at h1
    obtain ⟨c, hc⟩ : ∃ c, (([x, y, z].drop (k * 1)).take 1) = [c] := by
      match k, hk with
      | 0, _ => exact ⟨x, rfl⟩
      | 1, _ => exact ⟨y, rfl⟩
      | 2, _ => exact ⟨z, rfl⟩
    rw [hc] at h1 ⊢
    obtain ⟨v, e1, e2⟩ := inv_int hi m c x0 h1
    exact ⟨v, by rw [e1], inR_wf e2⟩
  obtain ⟨a, ha, ra⟩ := g 0 (by decide)
  obtain ⟨b, hb, rb⟩ := g 1 (by decide)
  obtain ⟨c, hc, rc⟩ := g 2 (by decide)
  exact ⟨⟨a, b, c⟩, by simpa using ha, by simpa using hb, by simpa using hc, ra, rb, rc⟩
theorem slice_x {w : World} {r : Reach} {b0 : Nat} {spare : Nat → Bool} {held : Bool} {t e i : TypeId} {v : Value} {d : DataW H} {p : List MemPlace}
    (ht : P.underlying t = some (.slice e)) (he : P.underlying e = some (.array 3 i)) (hi : P.underlying i = some (.int .i64)) (hce : P.cellsOf e = 3) (hci : P.cellsOf i = 1)
    (hv : Value.okWide P w r b0 t v) (h : DataW.Trod enc P w 0 spare held t v d p) : ∃ l : List X3, XsAt w v l ∧ ∀ y ∈ l, XR y := by
  obtain ⟨a, len, cap, rfl⟩ := okWide_slice ht hv
  obtain ⟨fuel, hf⟩ := h
  cases fuel with
  | zero => simp [DataW.trod] at hf
  | succ fuel =>
    unfold DataW.trod at hf
    simp only [ht, Value.cells] at hf
    cases a with
    | none =>
      cases len with
      | zero =>
        cases cap with
        | zero => exact ⟨[], ⟨none, 0, rfl, Nat.le_refl _, Nat.zero_le _, fun h => absurd h (Nat.lt_irrefl 0)⟩, by simp⟩
        | succ c => simp at hf
      | succ l => simp at hf
    | some a =>
      simp only [hce] at hf
      split at hf
      · rename_i hc
        obtain ⟨elems, he2, -⟩ := Option.bind_eq_some_iff.1 hf
        have hcell : ∀ i, i < len → ∃ y : X3, (w.cell? (a.add (i * 3)) = some (.int .i64 y.a) ∧ w.cell? ((a.add (i * 3)).add 1) = some (.int .i64 y.b) ∧ w.cell? ((a.add (i * 3)).add 2) = some (.int .i64 y.c)) ∧ XR y := by
          intro i hi
          obtain ⟨x, -, hx⟩ := Lib.mapM_at he2 i i (by simp [hi])
          obtain ⟨cs, hcs, hx3⟩ := Option.bind_eq_some_iff.1 hx
          obtain ⟨c0, c1, c2, rfl, h0, h1, h2⟩ := cells_three hcs
          obtain ⟨t, rfl, rfl, rfl, hr⟩ := trod_three he (by assumption) hci hx3
          exact ⟨t, ⟨h0, h1, h2⟩, hr⟩
        obtain ⟨l, hl1, hl2⟩ := choose_list (fun i (y : X3) => (w.cell? (a.add (i * 3)) = some (.int .i64 y.a) ∧ w.cell? ((a.add (i * 3)).add 1) = some (.int .i64 y.b) ∧ w.cell? ((a.add (i * 3)).add 2) = some (.int .i64 y.c)) ∧ XR y) len hcell
        subst hl1
        refine ⟨l, ⟨some a, cap, rfl, hc.2.1, hc.2.2, fun h0 => ?_⟩, fun y hy => ?_⟩
        · have hs := spot_none (hl2 0 (l[0]'h0) (List.getElem?_eq_getElem h0)).1.1
          obtain ⟨b, o, sp⟩ := a
          simp [Addr.add] at hs
          subst hs
          refine ⟨b, o, rfl, fun j y hj => ⟨_, rfl, fun k c hk => ?_, rfl⟩⟩
          obtain ⟨⟨q0, q1, q2⟩, -⟩ := hl2 j y hj
          rw [addr_add] at q0 q1 q2
          rw [addr_add] at q1 q2
          match k with
          | 0 => simp at hk; subst hk; exact q0
          | 1 => simp at hk; subst hk; exact q1
          | 2 => simp at hk; subst hk; exact q2
          | k + 3 => simp at hk
        · obtain ⟨j, hj, rfl⟩ := List.getElem_of_mem hy
          exact (hl2 j _ (List.getElem?_eq_getElem hj)).2
      · cases hf
end
end Go.Proofs.Ytblmpmapcdpaiaa
end
section
/- A row and a program as arguments, opened: structs with slices in them. -/
namespace Go.Proofs.Ytblmpmapcdpaiaa
open Go.ChangeShapes Go.WideShapes Go.ChangeAt Go.RowKit
section
variable {H : Type} {enc : TypeId × Value → H} {P : Program}
theorem cells_get {w : World} {a : Addr} {n : Nat} {cs : List Value} (h : w.cells? 0 a n = some cs) : cs.length = n ∧ ∀ i c, cs[i]? = some c → w.cell? (a.add i) = some c := by
  unfold World.cells? at h
  rw [if_pos (Nat.zero_le _)] at h
  have hl : cs.length = n := by have := mapM_len h; simpa using this
  refine ⟨hl, fun i c hc => ?_⟩
  have hi : i < n := by
    rw [← hl]
    refine Classical.byContradiction fun h2 => ?_
    rw [List.getElem?_eq_none (by omega)] at hc; cases hc
  obtain ⟨x, hx1, hx2⟩ := Lib.mapM_at h i i (by simp [hi])
  rw [hc] at hx1
  cases hx1
  exact hx2
/-- A slice of elements of n cells, within a struct, opened. -/
theorem nest_structs {α : Type} (n : Nat) (R : World → List Value → α → Prop) (hn : 0 < n) {w : World} {fuel : Nat} {spare : Nat → Bool} {held : Bool} {t e : TypeId} {cs : List Value} {x : DataW H × List MemPlace}
    (ht : P.underlying t = some (.slice e)) (hce : P.cellsOf e = n)
    (hinv : ∀ (m : Nat) (cs : List Value) (x : DataW H × List MemPlace), cs.length = n → DataW.trod enc P w 0 spare held m e cs = some x → ∃ y, R w cs y)
    (h : DataW.trod enc P w 0 spare held fuel t cs = some x) : ∃ v, ∃ l : List α, cs = [v] ∧ StructsOf n R w v l := by
  rcases DataW.trod_slice ht h with ⟨rfl, -⟩ | ⟨a, len, cap, elems, rest, m, -, rfl, -, -, h1, h2, h3, h4, -, -⟩
  · exact ⟨_, [], rfl, none, 0, rfl, Nat.le_refl _, Nat.zero_le _, fun h => absurd h (Nat.lt_irrefl 0)⟩
  · rw [hce] at h4
    have hcell : ∀ i, i < len → ∃ y : α, ∃ cs : List Value, cs.length = n ∧ (∀ k c, cs[k]? = some c → w.cell? ((a.add (i * n)).add k) = some c) ∧ R w cs y := by
      intro i hi
      have hx := (h4 i hi).trans (List.getElem?_eq_getElem (by omega))
      obtain ⟨cs, hcs, hx3⟩ := Option.bind_eq_some_iff.1 hx
      obtain ⟨hl, hg⟩ := cells_get hcs
      obtain ⟨y, hy⟩ := hinv _ _ _ hl hx3
      exact ⟨y, cs, hl, hg, hy⟩
    obtain ⟨l, hl1, hl2⟩ := choose_list (fun i (y : α) => ∃ cs : List Value, cs.length = n ∧ (∀ k c, cs[k]? = some c → w.cell? ((a.add (i * n)).add k) = some c) ∧ R w cs y) len hcell
    subst hl1
    refine ⟨_, l, rfl, some a, cap, rfl, h1, h2, fun h0 => ?_⟩
    obtain ⟨cs0, q0, q1, -⟩ := hl2 0 (l[0]'h0) (List.getElem?_eq_getElem h0)
    have hs := spot_none (q1 0 _ (List.getElem?_eq_getElem (by omega)))
    obtain ⟨b, o, sp⟩ := a
    simp [Addr.add] at hs
    subst hs
    refine ⟨b, o, rfl, fun j y hj => ?_⟩
    obtain ⟨cs, k0, k1, k2⟩ := hl2 j y hj
    refine ⟨cs, k0, fun i c hc2 => ?_, k2⟩
    have := k1 i c hc2
    rwa [addr_add, addr_add] at this
theorem nest_ints {w : World} {fuel : Nat} {spare : Nat → Bool} {held : Bool} {t e : TypeId} {cs : List Value} {x : DataW H × List MemPlace}
    (ht : P.underlying t = some (.slice e)) (hce : P.cellsOf e = 1) (he : P.underlying e = some (.int .i64)) (h : DataW.trod enc P w 0 spare held fuel t cs = some x) : ∃ v, ∃ l : List Int, cs = [v] ∧ IntsAt w v l := by
  obtain ⟨v, l, rfl, a, cap, h1, h2, h3, h4⟩ := nest_structs 1 (fun _ cs (y : Int) => cs = [.int .i64 y]) (by decide) ht hce (fun m cs x hl hx => by
    match cs, hl with
    | [c], _ =>
      obtain ⟨y, e1, -⟩ := inv_int he m c x hx
      exact ⟨y, by rw [e1]⟩) h
  refine ⟨v, l, rfl, a, cap, h1, h2, h3, fun hl => ?_⟩
  obtain ⟨b, off, e1, h5⟩ := h4 hl
  refine ⟨b, off, e1, fun j y hj => ?_⟩
  obtain ⟨cs, -, c2, rfl⟩ := h5 j y hj
  have := c2 0 _ rfl
  simpa using this
end
section
variable {H : Type} {enc : TypeId × Value → H}
set_option maxRecDepth 100000 in
theorem trod_row {w : World} {spare : Nat → Bool} {held : Bool} {fuel : Nat} {cs : List Value} {r : DataW H × List MemPlace} (hcs : cs.length = 6)
    (h : DataW.trod enc Try.prog w 0 spare held fuel 26 cs = some r) : ∃ t : RowD, RowCs w cs t := by
  obtain ⟨xs, n, -, -, -, hlen, hf⟩ := DataW.trod_struct Try.underlying26 h
  match cs, hcs with
  | [q0, q1, q2, q3, q4, q5], _ =>
    have c3 : Try.prog.cellsOf 3 = 1 := by kernel_rfl
    have c24 : Try.prog.cellsOf 24 = 1 := by kernel_rfl
    have hl : xs.length = 6 := hlen
    have h0 : DataW.trod enc Try.prog w 0 spare held n 3 (([q0, q1, q2, q3, q4, q5].drop 0).take (Try.prog.cellsOf 3)) = xs[0]? := hf 0 _ rfl
    have h1 : DataW.trod enc Try.prog w 0 spare held n 3 (([q0, q1, q2, q3, q4, q5].drop 1).take (Try.prog.cellsOf 3)) = xs[1]? := hf 1 _ rfl
    have h2 : DataW.trod enc Try.prog w 0 spare held n 3 (([q0, q1, q2, q3, q4, q5].drop 2).take (Try.prog.cellsOf 3)) = xs[2]? := hf 2 _ rfl
    have h3 : DataW.trod enc Try.prog w 0 spare held n 3 (([q0, q1, q2, q3, q4, q5].drop 3).take (Try.prog.cellsOf 3)) = xs[3]? := hf 3 _ rfl
    have h4 : DataW.trod enc Try.prog w 0 spare held n 24 (([q0, q1, q2, q3, q4, q5].drop 4).take (Try.prog.cellsOf 24)) = xs[4]? := hf 4 _ rfl
    have h5 : DataW.trod enc Try.prog w 0 spare held n 3 (([q0, q1, q2, q3, q4, q5].drop 5).take (Try.prog.cellsOf 3)) = xs[5]? := hf 5 _ rfl
    rw [c3, List.getElem?_eq_getElem (by omega)] at h0 h1 h2 h3 h5
    rw [c24, List.getElem?_eq_getElem (by omega)] at h4
    obtain ⟨o0, e0, -⟩ := inv_int Try.underlying3 _ _ _ h0
    obtain ⟨o1, e1, -⟩ := inv_int Try.underlying3 _ _ _ h1
    obtain ⟨o2, e2, -⟩ := inv_int Try.underlying3 _ _ _ h2
    obtain ⟨o3, e3, -⟩ := inv_int Try.underlying3 _ _ _ h3
    obtain ⟨o5, e5, -⟩ := inv_int Try.underlying3 _ _ _ h5
    obtain ⟨v, l, e4, hi⟩ := nest_ints Try.underlying24 c3 Try.underlying3 h4
    have e4' : q4 = v := by simpa using e4
    subst e0 e1 e2 e3 e4' e5
    exact ⟨⟨o0, o1, o2, o3, l, o5⟩, _, rfl, hi⟩
set_option maxRecDepth 100000 in
theorem row_val {w : World} {r : Reach} {b0 : Nat} {spare : Nat → Bool} {held : Bool} {v : Value} {d : DataW H} {p : List MemPlace}
    (hv : Value.okWide Try.prog w r b0 26 v) (h : DataW.Trod enc Try.prog w 0 spare held 26 v d p) : ∃ t : RowD, RowV w v t := by
  obtain ⟨cs, rfl, hsz⟩ := okWide_struct Try.underlying26 hv
  obtain ⟨fuel, hf⟩ := h
  have hsz' : cs.size = 6 := hsz.trans (by kernel_rfl)
  obtain ⟨t, vc, e, hi⟩ := trod_row (cs := cs.toList) (by simpa using hsz') hf
  exact ⟨t, vc, by rw [← e], hi⟩
set_option maxRecDepth 100000 in
theorem prog_val {w : World} {r : Reach} {b0 : Nat} {spare : Nat → Bool} {held : Bool} {v : Value} {d : DataW H} {p : List MemPlace}
    (hv : Value.okWide Try.prog w r b0 29 v) (h : DataW.Trod enc Try.prog w 0 spare held 29 v d p) : ∃ t : ProgD, ProgV w v t := by
  obtain ⟨cs, rfl, hsz⟩ := okWide_struct Try.underlying29 hv
  obtain ⟨fuel, hf⟩ := h
  have hsz' : cs.size = 3 := hsz.trans (by kernel_rfl)
  obtain ⟨xs, n, -, -, -, hlen, hg⟩ := DataW.trod_struct Try.underlying29 hf
  obtain ⟨cl⟩ := cs
  match cl, hsz' with
  | [q0, q1, q2], _ =>
    have c3 : Try.prog.cellsOf 3 = 1 := by kernel_rfl
    have c24 : Try.prog.cellsOf 24 = 1 := by kernel_rfl
    have c27 : Try.prog.cellsOf 27 = 1 := by kernel_rfl
    have hl : xs.length = 3 := hlen
    have h0 : DataW.trod enc Try.prog w 0 spare held n 3 (([q0, q1, q2].drop 0).take (Try.prog.cellsOf 3)) = xs[0]? := hg 0 _ rfl
    have h1 : DataW.trod enc Try.prog w 0 spare held n 27 (([q0, q1, q2].drop 1).take (Try.prog.cellsOf 27)) = xs[1]? := hg 1 _ rfl
    have h2 : DataW.trod enc Try.prog w 0 spare held n 24 (([q0, q1, q2].drop 2).take (Try.prog.cellsOf 24)) = xs[2]? := hg 2 _ rfl
    rw [c3, List.getElem?_eq_getElem (by omega)] at h0
    rw [c27, List.getElem?_eq_getElem (by omega)] at h1
    rw [c24, List.getElem?_eq_getElem (by omega)] at h2
    obtain ⟨o0, e0, -⟩ := inv_int Try.underlying3 _ _ _ h0
    obtain ⟨vr, lr, e1, hr⟩ := nest_structs 6 RowCs (by decide) Try.underlying27 (by kernel_rfl) (fun _ _ _ hl hx => trod_row hl hx) h1
    obtain ⟨vg, lg, e2, hgn⟩ := nest_ints Try.underlying24 c3 Try.underlying3 h2
    have e1' : q1 = vr := by simpa using e1
    have e2' : q2 = vg := by simpa using e2
    subst e0 e1' e2'
    exact ⟨⟨o0, lr, lg⟩, _, _, rfl, hr, hgn⟩
end
end Go.Proofs.Ytblmpmapcdpaiaa
end
section
/- A step, a list of steps and an array of two arrays of four integers as arguments, opened. -/
namespace Go.Proofs.Ytblmpmapcdpaiaa
open Go.ChangeShapes Go.WideShapes Go.ChangeAt Go.RowKit
section
variable {H : Type} {enc : TypeId × Value → H} {P : Program}
/-- A slice of structs of n cells, opened by what one element's reading tells. -/
theorem slice_structs {α : Type} (n : Nat) (R : World → List Value → α → Prop) (hn : 0 < n) {w : World} {r : Reach} {b0 : Nat} {spare : Nat → Bool} {held : Bool} {t e : TypeId} {v : Value} {d : DataW H} {p : List MemPlace}
    (ht : P.underlying t = some (.slice e)) (hce : P.cellsOf e = n)
    (hinv : ∀ (m : Nat) (cs : List Value) (x : DataW H × List MemPlace), cs.length = n → DataW.trod enc P w 0 spare held m e cs = some x → ∃ y, R w cs y)
    (hv : Value.okWide P w r b0 t v) (h : DataW.Trod enc P w 0 spare held t v d p) : ∃ l : List α, StructsOf n R w v l := by
  obtain ⟨a, len, cap, rfl⟩ := okWide_slice ht hv
  obtain ⟨fuel, hf⟩ := h
  cases fuel with
  | zero => simp [DataW.trod] at hf
  | succ fuel =>
    unfold DataW.trod at hf
    simp only [ht, Value.cells] at hf
    cases a with
    | none =>
      cases len with
      | zero =>
        cases cap with
        | zero => exact ⟨[], ⟨none, 0, rfl, Nat.le_refl _, Nat.zero_le _, fun h => absurd h (Nat.lt_irrefl 0)⟩⟩
        | succ c => simp at hf
      | succ l => simp at hf
    | some a =>
      simp only [hce] at hf
      split at hf
      · rename_i hc
        obtain ⟨elems, he2, -⟩ := Option.bind_eq_some_iff.1 hf
        have hcell : ∀ i, i < len → ∃ y : α, ∃ cs : List Value, cs.length = n ∧ (∀ k c, cs[k]? = some c → w.cell? ((a.add (i * n)).add k) = some c) ∧ R w cs y := by
          intro i hi
          obtain ⟨x, -, hx⟩ := Lib.mapM_at he2 i i (by simp [hi])
          obtain ⟨cs, hcs, hx3⟩ := Option.bind_eq_some_iff.1 hx
          obtain ⟨hl, hg⟩ := cells_get hcs
          obtain ⟨y, hy⟩ := hinv _ _ _ hl hx3
          exact ⟨y, cs, hl, hg, hy⟩
        obtain ⟨l, hl1, hl2⟩ := choose_list (fun i (y : α) => ∃ cs : List Value, cs.length = n ∧ (∀ k c, cs[k]? = some c → w.cell? ((a.add (i * n)).add k) = some c) ∧ R w cs y) len hcell
        subst hl1
        refine ⟨l, ⟨some a, cap, rfl, hc.2.1, hc.2.2, fun h0 => ?_⟩⟩
        obtain ⟨cs0, q0, q1, -⟩ := hl2 0 (l[0]'h0) (List.getElem?_eq_getElem h0)
        have hs := spot_none (q1 0 _ (List.getElem?_eq_getElem (by omega)))
        obtain ⟨b, o, sp⟩ := a
        simp [Addr.add] at hs
        subst hs
        refine ⟨b, o, rfl, fun j y hj => ?_⟩
        obtain ⟨cs, k0, k1, k2⟩ := hl2 j y hj
        refine ⟨cs, k0, fun i c hc2 => ?_, k2⟩
        have := k1 i c hc2
        rwa [addr_add, addr_add] at this
      · cases hf
end
section
variable {H : Type} {enc : TypeId × Value → H}
set_option maxRecDepth 100000 in
theorem trod_wt {w : World} {spare : Nat → Bool} {held : Bool} {fuel : Nat} {cs : List Value} {r : DataW H × List MemPlace} (hcs : cs.length = 2)
    (h : DataW.trod enc Try.prog w 0 spare held fuel 82 cs = some r) : ∃ t : WtD, WtC w cs t := by
  obtain ⟨xs, n, -, -, -, hlen, hf⟩ := DataW.trod_struct Try.underlying82 h
  match cs, hcs with
  | [q0, q1], _ =>
    have c3 : Try.prog.cellsOf 3 = 1 := by kernel_rfl
    have hl : xs.length = 2 := hlen
    have h0 : DataW.trod enc Try.prog w 0 spare held n 3 (([q0, q1].drop 0).take (Try.prog.cellsOf 3)) = xs[0]? := hf 0 _ rfl
    have h1 : DataW.trod enc Try.prog w 0 spare held n 3 (([q0, q1].drop 1).take (Try.prog.cellsOf 3)) = xs[1]? := hf 1 _ rfl
    rw [c3, List.getElem?_eq_getElem (by omega)] at h0 h1
    obtain ⟨o0, e0, -⟩ := inv_int Try.underlying3 _ _ _ h0
    obtain ⟨o1, e1, -⟩ := inv_int Try.underlying3 _ _ _ h1
    subst e0 e1
    exact ⟨⟨o0, o1⟩, rfl⟩
set_option maxRecDepth 100000 in
theorem trod_step {w : World} {spare : Nat → Bool} {held : Bool} {fuel : Nat} {cs : List Value} {r : DataW H × List MemPlace} (hcs : cs.length = 4)
    (h : DataW.trod enc Try.prog w 0 spare held fuel 80 cs = some r) : ∃ t : StepD, StepCs w cs t := by
  obtain ⟨xs, n, -, -, -, hlen, hf⟩ := DataW.trod_struct Try.underlying80 h
  match cs, hcs with
  | [q0, q1, q2, q3], _ =>
    have c3 : Try.prog.cellsOf 3 = 1 := by kernel_rfl
    have c78 : Try.prog.cellsOf 78 = 1 := by kernel_rfl
    have hl : xs.length = 4 := hlen
    have h0 : DataW.trod enc Try.prog w 0 spare held n 3 (([q0, q1, q2, q3].drop 0).take (Try.prog.cellsOf 3)) = xs[0]? := hf 0 _ rfl
    have h1 : DataW.trod enc Try.prog w 0 spare held n 3 (([q0, q1, q2, q3].drop 1).take (Try.prog.cellsOf 3)) = xs[1]? := hf 1 _ rfl
    have h2 : DataW.trod enc Try.prog w 0 spare held n 3 (([q0, q1, q2, q3].drop 2).take (Try.prog.cellsOf 3)) = xs[2]? := hf 2 _ rfl
    have h3 : DataW.trod enc Try.prog w 0 spare held n 78 (([q0, q1, q2, q3].drop 3).take (Try.prog.cellsOf 78)) = xs[3]? := hf 3 _ rfl
    rw [c3, List.getElem?_eq_getElem (by omega)] at h0 h1 h2
    rw [c78, List.getElem?_eq_getElem (by omega)] at h3
    obtain ⟨o0, e0, -⟩ := inv_int Try.underlying3 _ _ _ h0
    obtain ⟨o1, e1, -⟩ := inv_int Try.underlying3 _ _ _ h1
    obtain ⟨o2, e2, -⟩ := inv_int Try.underlying3 _ _ _ h2
    obtain ⟨vr, lr, e3, hr⟩ := nest_structs 2 WtC (by decide) Try.underlying78 (by kernel_rfl) (fun _ _ _ hl hx => trod_wt hl hx) h3
    have e3' : q3 = vr := by simpa using e3
    subst e0 e1 e2 e3'
    exact ⟨⟨o0, o1, o2, lr⟩, _, rfl, hr⟩
set_option maxRecDepth 100000 in
theorem slice_steps {w : World} {r : Reach} {b0 : Nat} {spare : Nat → Bool} {held : Bool} {v : Value} {d : DataW H} {p : List MemPlace}
    (hv : Value.okWide Try.prog w r b0 35 v) (h : DataW.Trod enc Try.prog w 0 spare held 35 v d p) : ∃ l : List StepD, StepsAt w v l :=
  slice_structs 4 StepCs (by decide) Try.underlying35 (by kernel_rfl) (fun _ _ _ hl hx => trod_step hl hx) hv h
set_option maxRecDepth 100000 in
theorem step_val {w : World} {r : Reach} {b0 : Nat} {spare : Nat → Bool} {held : Bool} {v : Value} {d : DataW H} {p : List MemPlace}
    (hv : Value.okWide Try.prog w r b0 80 v) (h : DataW.Trod enc Try.prog w 0 spare held 80 v d p) : ∃ t : StepD, ∃ vw, v = .agg #[.int .i64 t.var, .int .i64 t.no, .int .i64 t.yes, vw] ∧ WtsAt w vw t.wts := by
  obtain ⟨cs, rfl, hsz⟩ := okWide_struct Try.underlying80 hv
  obtain ⟨fuel, hf⟩ := h
  have hsz' : cs.size = 4 := hsz.trans (by kernel_rfl)
  obtain ⟨t, vc, e, hi⟩ := trod_step (cs := cs.toList) (by simpa using hsz') hf
  exact ⟨t, vc, by rw [← e], hi⟩
theorem trod_four {w : World} {base : Nat} {spare : Nat → Bool} {held : Bool} {x y z u : Value} {fuel : Nat} {r : DataW H × List MemPlace}
    (h : DataW.trod enc Try.prog w base spare held fuel 61 [x, y, z, u] = some r) : ∃ a b c d : Int, x = .int .i64 a ∧ y = .int .i64 b ∧ z = .int .i64 c ∧ u = .int .i64 d ∧ InR a ∧ InR b ∧ InR c ∧ InR d := by
  obtain ⟨xs, m, -, -, hl, hxl, hx⟩ := DataW.trod_array Try.underlying61 h
  have hci : Try.prog.cellsOf 3 = 1 := by kernel_rfl
  have g : ∀ k, k < 4 → ∃ v : Int, (([x, y, z, u].drop (k * 1)).take 1) = [.int .i64 v] ∧ InR v := fun k hk => by
    have h1 := hx k hk
    rw [hci] at h1
    obtain ⟨x0, hx0⟩ : ∃ q, xs[k]? = some q := ⟨xs[k]'(by omega), List.getElem?_eq_getElem (by omega)⟩
    rw [hx0] at h1
    obtain ⟨c, hc⟩ : ∃ c, (([x, y, z, u].drop (k * 1)).take 1) = [c] := by
      match k, hk with
      | 0, _ => exact ⟨x, rfl⟩
      | 1, _ => exact ⟨y, rfl⟩
      | 2, _ => exact ⟨z, rfl⟩
      | 3, _ => exact ⟨u, rfl⟩
    rw [hc] at h1 ⊢
    obtain ⟨v, e1, e2⟩ := inv_int Try.underlying3 m c x0 h1
    exact ⟨v, by rw [e1], inR_wf e2⟩
  obtain ⟨a, ha, ra⟩ := g 0 (by decide)
  obtain ⟨b, hb, rb⟩ := g 1 (by decide)
  obtain ⟨c, hc, rc⟩ := g 2 (by decide)
  obtain ⟨d, hd, rd⟩ := g 3 (by decide)
  exact ⟨a, b, c, d, by simpa using ha, by simpa using hb, by simpa using hc, by simpa using hd, ra, rb, rc, rd⟩
set_option maxRecDepth 100000 in
theorem arr24 {w : World} {r : Reach} {b0 base : Nat} {spare : Nat → Bool} {held : Bool} {v : Value} {d : DataW H} {p : List MemPlace}
    (hv : Value.okWide Try.prog w r b0 67 v) (h : DataW.Trod enc Try.prog w base spare held 67 v d p) : ∃ z0 z1 z2 z3 z4 z5 z6 z7 : Int, v = .agg #[.int .i64 z0, .int .i64 z1, .int .i64 z2, .int .i64 z3, .int .i64 z4, .int .i64 z5, .int .i64 z6, .int .i64 z7] ∧ (InR z0 ∧ InR z1 ∧ InR z2 ∧ InR z3) ∧ (InR z4 ∧ InR z5 ∧ InR z6 ∧ InR z7) := by
  obtain ⟨cs, rfl, hsz⟩ := okWide_array Try.underlying67 hv
  obtain ⟨fuel, hf⟩ := h
  have hct : Try.prog.cellsOf 67 = 8 := by kernel_rfl
  have hce : Try.prog.cellsOf 61 = 4 := by kernel_rfl
  obtain ⟨xs, m, -, -, hl, hxl, hx⟩ := DataW.trod_array Try.underlying67 hf
  have hlen : cs.size = 8 := by simp [hsz, hct]
  obtain ⟨cl⟩ := cs
  match cl, hlen with
  | [c0, c1, c2, c3, c4, c5, c6, c7], _ =>
    have h0 := hx 0 (by decide)
    have h1 := hx 1 (by decide)
    rw [hce] at h0 h1
    have e0 : xs[0]? = some (xs[0]'(by omega)) := List.getElem?_eq_getElem (by omega)
    have e1 : xs[1]? = some (xs[1]'(by omega)) := List.getElem?_eq_getElem (by omega)
    obtain ⟨z0, z1, z2, z3, rfl, rfl, rfl, rfl, a0, a1, a2, a3⟩ := trod_four (h0.trans e0)
    obtain ⟨z4, z5, z6, z7, rfl, rfl, rfl, rfl, a4, a5, a6, a7⟩ := trod_four (h1.trans e1)
    exact ⟨z0, z1, z2, z3, z4, z5, z6, z7, rfl, ⟨a0, a1, a2, a3⟩, ⟨a4, a5, a6, a7⟩⟩
end
end Go.Proofs.Ytblmpmapcdpaiaa
end
