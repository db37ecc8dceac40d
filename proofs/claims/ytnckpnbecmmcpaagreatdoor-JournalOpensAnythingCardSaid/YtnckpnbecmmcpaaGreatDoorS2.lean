/- package digest: the words of a block, the first sixteen. -/
import Derived.Test.YtnckpnbecmmcpaaGreatDoorS1
import Derived.Deep.MidRow
namespace Go.Proofs.YtnckpnbecmmcpaaGreatDoor
open Go.RowKit
def byI (l : List UInt8) (i : Nat) : Int := ((l.getD i 0).toNat : Int)
abbrev BytesAt (w : World) (v : Value) (l : List UInt8) : Prop := SliceOf (fun u : UInt8 => Value.int .u8 (u.toNat : Int)) w v l
/-- A word out of four bytes. -/
def word4 (a b c d : Int) : Int := bits .or .u32 (bits .or .u32 (bits .or .u32 (IntKind.u32.wrap (a * 16777216)) (IntKind.u32.wrap (b * 65536))) (IntKind.u32.wrap (c * 256))) d
def wordAt (l : List UInt8) (i : Nat) : Int := word4 (byI l (4 * i)) (byI l (4 * i + 1)) (byI l (4 * i + 2)) (byI l (4 * i + 3))
/-- Words in a row of 64 cells. -/
def cells64 (ws : List Int) : Array Value := (ws.map (Value.int .u32) ++ List.replicate (64 - ws.length) (Value.int .u32 0)).toArray
theorem cells64_snoc {ws : List Int} {x : Int} (h : ws.length < 64) : (cells64 ws).setIfInBounds ws.length (.int .u32 x) = cells64 (ws ++ [x]) := by
  unfold cells64
  apply Array.toList_inj.1
  rw [Array.toList_setIfInBounds]
  show List.set (ws.map (Value.int .u32) ++ List.replicate (64 - ws.length) (Value.int .u32 0)) ws.length (.int .u32 x) = (ws ++ [x]).map (Value.int .u32) ++ List.replicate (64 - (ws ++ [x]).length) (Value.int .u32 0)
  obtain ⟨n, hn⟩ : ∃ n, 64 - ws.length = n + 1 := ⟨63 - ws.length, by omega⟩
  rw [hn, List.length_append, List.length_singleton, show 64 - (ws.length + 1) = n by omega, List.replicate_succ]
  rw [List.set_append_right _ _ (by rw [List.length_map]; exact Nat.le_refl _), List.length_map, Nat.sub_self]
  simp
theorem cells64_get {ws : List Int} {i : Nat} (h : i < ws.length) : (cells64 ws)[i]? = some (.int .u32 (ws.getD i 0)) := by
  unfold cells64
  rw [List.getElem?_toArray, List.getElem?_append_left (by rw [List.length_map]; exact h), List.getElem?_map, getD_some 0 h]; rfl
theorem cells64_in {ws : List Int} {i : Nat} (h : ws.length ≤ 64) (hi : i < 64) : ∃ v, (cells64 ws)[i]? = some v := by
  have : i < (cells64 ws).size := by unfold cells64; simp; omega
  exact ⟨_, Array.getElem?_eq_getElem this⟩
/-- The first words of a block. -/
def words16 (l : List UInt8) (n : Nat) : List Int := (List.range n).map (wordAt l)
theorem words16_len (l : List UInt8) (n : Nat) : (words16 l n).length = n := by simp [words16]
theorem words16_succ (l : List UInt8) (n : Nat) : words16 l (n + 1) = words16 l n ++ [wordAt l n] := by unfold words16; rw [List.range_succ, List.map_append]; rfl
theorem byI_bd (l : List UInt8) (i : Nat) : 0 ≤ byI l i ∧ byI l i < 256 := by
  unfold byI
  have := (l.getD i 0).toNat_lt
  omega
theorem cells64_nil : #[.int .u32 0, .int .u32 0, .int .u32 0, .int .u32 0, .int .u32 0, .int .u32 0, .int .u32 0, .int .u32 0, .int .u32 0, .int .u32 0, .int .u32 0, .int .u32 0, .int .u32 0, .int .u32 0, .int .u32 0, .int .u32 0, .int .u32 0, .int .u32 0, .int .u32 0, .int .u32 0, .int .u32 0, .int .u32 0, .int .u32 0, .int .u32 0, .int .u32 0, .int .u32 0, .int .u32 0, .int .u32 0, .int .u32 0, .int .u32 0, .int .u32 0, .int .u32 0, .int .u32 0, .int .u32 0, .int .u32 0, .int .u32 0, .int .u32 0, .int .u32 0, .int .u32 0, .int .u32 0, .int .u32 0, .int .u32 0, .int .u32 0, .int .u32 0, .int .u32 0, .int .u32 0, .int .u32 0, .int .u32 0, .int .u32 0, .int .u32 0, .int .u32 0, .int .u32 0, .int .u32 0, .int .u32 0, .int .u32 0, .int .u32 0, .int .u32 0, .int .u32 0, .int .u32 0, .int .u32 0, .int .u32 0, .int .u32 0, .int .u32 0, .int .u32 0] = cells64 [] := rfl
theorem ints2 {W : World} {g : Nat} {a b : Nat} (h : Blk W g #[.int .i64 (a : Int), .int .i64 (b : Int)] 3) : SliceOf (Value.int .i64) W (.slice (some ⟨g, 0, none⟩) 2 2) ([a, b].map fun n : Nat => (n : Int)) := by
  refine ⟨_, _, rfl, Nat.le_refl _, by unfold maxLen; decide, fun _ => ⟨g, 0, rfl, fun j y hj => ?_⟩⟩
  rw [h.cell]
  match j with
  | 0 => simp at hj; subst hj; rfl
  | 1 => simp at hj; subst hj; rfl
  | _ + 2 => simp at hj
theorem sAlloc {A p q : Nat} {V X : World} {a b : Value} {o : Obj} (hA : A < X.heap.size) (h : Below A V X ∧ X.cell? ⟨A, p, none⟩ = some a ∧ X.cell? ⟨A, q, none⟩ = some b) :
    Below A V (X.alloc o) ∧ (X.alloc o).cell? ⟨A, p, none⟩ = some a ∧ (X.alloc o).cell? ⟨A, q, none⟩ = some b := by
  have hb := (Below.refl X.heap.size X).alloc (Nat.le_refl _) o
  exact ⟨h.1.alloc (Nat.le_of_lt hA) _, (hb.cell (p := ⟨A, p, none⟩) hA).trans h.2.1, (hb.cell (p := ⟨A, q, none⟩) hA).trans h.2.2⟩
theorem sStore {A p q i : Nat} {V X : World} {a b v : Value} (hp : p ≠ i) (hq : q ≠ i) (h : Below A V X ∧ X.cell? ⟨A, p, none⟩ = some a ∧ X.cell? ⟨A, q, none⟩ = some b) :
    Below A V (X.setCell ⟨A, i, none⟩ v) ∧ (X.setCell ⟨A, i, none⟩ v).cell? ⟨A, p, none⟩ = some a ∧ (X.setCell ⟨A, i, none⟩ v).cell? ⟨A, q, none⟩ = some b :=
  ⟨h.1.setCell (Nat.le_refl _) _, (World.cell?_setCell_other _ _ _ _ (fun hh => hp (by injection hh with _ h2; exact h2.symm))).trans h.2.1, (World.cell?_setCell_other _ _ _ _ (fun hh => hq (by injection hh with _ h2; exact h2.symm))).trans h.2.2⟩
theorem sDrew {A p q : Nat} {V X : World} {a b : Value} (h : Below A V X ∧ X.cell? ⟨A, p, none⟩ = some a ∧ X.cell? ⟨A, q, none⟩ = some b) : Below A V X.drew ∧ X.drew.cell? ⟨A, p, none⟩ = some a ∧ X.drew.cell? ⟨A, q, none⟩ = some b := ⟨h.1.drew, h.2.1, h.2.2⟩
abbrev addU (a b : Int) : Int := IntKind.u32.wrap (a + b)
/-- The next word out of those before. -/
def nextV (a16 x15 a7 x2 : Int) : Int := addU (addU (addU a16 (xU (mixV x15 [7, 18]) (x15 / 8))) a7) (xU (mixV x2 [17, 19]) (x2 / 1024))
def nextW (ws : List Int) : Int := nextV (ws.getD (ws.length - 16) 0) (ws.getD (ws.length - 15) 0) (ws.getD (ws.length - 7) 0) (ws.getD (ws.length - 2) 0)
def extW (ws : List Int) : Nat → List Int
  | 0 => ws
  | k + 1 => extW ws k ++ [nextW (extW ws k)]
theorem extW_len (ws : List Int) : ∀ k, (extW ws k).length = ws.length + k
  | 0 => rfl
  | k + 1 => by rw [extW, List.length_append, extW_len ws k]; rfl
/-- The cells of a row of 64 words. -/
def c64 (ws : List Int) : List Value := ws.map (Value.int .u32) ++ List.replicate (64 - ws.length) (Value.int .u32 0)
theorem c64_len {ws : List Int} (h : ws.length ≤ 64) : (c64 ws).length = 64 := by unfold c64; simp; omega
theorem c64_one {ws : List Int} : ∀ v ∈ c64 ws, v.oneCell' = true := fun v hv => by
  unfold c64 at hv
  rcases List.mem_append.1 hv with h | h
  · obtain ⟨x, -, rfl⟩ := List.mem_map.1 h; rfl
  · rw [(List.mem_replicate.1 h).2]; rfl
theorem blk_c64 {W : World} {A : Nat} {ws : List Int} {t : TypeId} (h : Blk W A (cells64 ws) t) : Blk W A (c64 ws).toArray t := h
theorem Blk.range {W : World} {B : Nat} {cs : List Value} {t : TypeId} (h : Blk W B cs.toArray t) : W.rangeAt B 0 cs := fun j v hj => by
  rw [Nat.zero_add, h.cell]; simpa using hj
theorem results_cell_of {P : Program} {fn : Func} {p : Tmp} {ty : TypeId} (h : fn.results = #[.cell p ty]) (tmps : Array Value) (w : World) (ad : Addr) (v : Value) (hp : tmps.getD p undef = .pointer (some ad)) (hl : (loadVar ty ad).run P w = .ok v w) : (results fn tmps).run P w = .ok v w := by
  have hp' : tmps[p]?.getD undef = .pointer (some ad) := by simpa using hp
  simp [results, h, hp', asAddr, hl]
theorem blk_there {W : World} {B : Nat} {cs : Array Value} {t : TypeId} (h : Blk W B cs t) : W.there B 0 cs.size := fun j hj => by
  rw [Nat.zero_add]
  exact ⟨by rw [h.cell, Array.getElem?_eq_getElem hj]; rfl, h.frozen j⟩
theorem below_setCells {b : Nat} {w : World} : ∀ (vs : List Value) (o : Nat) {W : World}, Below b w W → Below b w (W.setCells b o vs)
  | [], _, _, h => h
  | v :: vs, o, W, h => by
    rw [World.setCells]
    exact below_setCells vs (o + 1) (h.setCell (p := ⟨b, o, none⟩) (Nat.le_refl _) v)
def schedW (l : List UInt8) : List Int := extW (words16 l 16) 48
attribute [local irreducible] wpStill
set_option maxRecDepth 100000 in
set_option maxHeartbeats 4000000 in
theorem sched144 (v : Value) (l : List UInt8) (w : World) (hv : BytesAt w v l) (hl : l.length = 64) : Calls Tryz.prog 144 #[v] w fun e w' => e = .returned (.agg (cells64 (schedW l))) ∧ Below w.heap.size w w' := by
  have HV := Lib.hid hv
  obtain ⟨a, cap, rfl, hle, hcm, -⟩ := hv
  rw [hl] at hle ⊢
  have HL := Lib.hid hl
  unfold maxLen at hcm
  have hA0 : (w.alloc (.cells (cells64 []) 214)) = w.alloc (.cells (cells64 []) 214) := rfl
  clear hl
  go_enter Tryz.func144, Tryz.ntmps144
  go_wp2
  have kA := Blk.new w (cells64 []) 214
  have hbA := (Below.refl w.heap.size w).alloc (Nat.le_refl _) (.cells (cells64 []) 214)
  obtain ⟨V, hV⟩ : ∃ V, V = w.alloc (.cells (cells64 []) 214) := ⟨_, rfl⟩
  rw [cells64_nil, ← hV]
  rw [← hV] at kA hbA
  clear hV hA0
  generalize hA : w.heap.size = A at kA ⊢
  have HBA := Lib.hid (show Below A w V from hA ▸ hbA)
  have KA := Lib.hid kA
  clear kA hbA
  go_loopw [3, 7] (fun _ u7 wr => ∃ i : Nat, i ≤ 16 ∧ u7 = .int .i64 (i : Int) ∧ Blk wr A (cells64 (words16 l i)) 214 ∧ Below A w wr) (fun _ u7 _ => (16 - intOf u7).toNat)
  case atStart => exact ⟨0, by omega, rfl, KA.out, HBA.out⟩
  case round =>
    obtain ⟨i, hi, rfl, ka, hB⟩ := hrel
    by_cases hi16 : i < 16
    · have d1 : decide ((i : Int) < 16) = true := decide_eq_true (by omega)
      have hBw : Below w.heap.size w wr := hA ▸ hB
      have hbyte := fun j (hj : j < 64) => (SliceOf.below HV.out hBw).get (getD_some (0 : UInt8) (show j < l.length by rw [HL.out]; exact hj))
      obtain ⟨b, off, rfl, c0⟩ := hbyte (4 * i) (by omega)
      obtain ⟨b1, off1, e1, c1⟩ := hbyte (4 * i + 1) (by omega)
      cases e1
      obtain ⟨b1, off1, e1, c2⟩ := hbyte (4 * i + 2) (by omega)
      cases e1
      obtain ⟨b1, off1, e1, c3⟩ := hbyte (4 * i + 3) (by omega)
      cases e1
      have HW := Lib.hid (words16_succ l i)
      have HWA := Lib.hid (show wordAt l i = word4 (byI l (4 * i)) (byI l (4 * i + 1)) (byI l (4 * i + 2)) (byI l (4 * i + 3)) from rfl)
      have hb0 := byI_bd l (4 * i)
      have hb1 := byI_bd l (4 * i + 1)
      have hb2 := byI_bd l (4 * i + 2)
      have hb3 := byI_bd l (4 * i + 3)
      unfold byI at HWA hb0 hb1 hb2 hb3
      generalize ((l.getD (4 * i) 0).toNat : Int) = y0 at c0 HWA hb0
      generalize ((l.getD (4 * i + 1) 0).toNat : Int) = y1 at c1 HWA hb1
      generalize ((l.getD (4 * i + 2) 0).toNat : Int) = y2 at c2 HWA hb2
      generalize ((l.getD (4 * i + 3) 0).toNat : Int) = y3 at c3 HWA hb3
      obtain ⟨j0, hj0⟩ : ∃ j, 4 * i = j := ⟨_, rfl⟩
      obtain ⟨j1, hj1⟩ : ∃ j, 4 * i + 1 = j := ⟨_, rfl⟩
      obtain ⟨j2, hj2⟩ : ∃ j, 4 * i + 2 = j := ⟨_, rfl⟩
      obtain ⟨j3, hj3⟩ : ∃ j, 4 * i + 3 = j := ⟨_, rfl⟩
      rw [hj0] at c0
      rw [hj1] at c1
      rw [hj2] at c2
      rw [hj3] at c3
      have w0 : IntKind.i64.wrap (4 * (i : Int)) = (j0 : Int) := by rw [wrapS _ (by omega) (by omega)]; omega
      have w1 : IntKind.i64.wrap ((j0 : Int) + 1) = (j1 : Int) := by rw [wrapS _ (by omega) (by omega)]; omega
      have w2 : IntKind.i64.wrap ((j0 : Int) + 2) = (j2 : Int) := by rw [wrapS _ (by omega) (by omega)]; omega
      have w3 : IntKind.i64.wrap ((j0 : Int) + 3) = (j3 : Int) := by rw [wrapS _ (by omega) (by omega)]; omega
      have i0 : (0 : Int) ≤ (j0 : Int) ∧ (j0 : Int) < 64 := by omega
      have i1 : (0 : Int) ≤ (j1 : Int) ∧ (j1 : Int) < 64 := by omega
      have i2 : (0 : Int) ≤ (j2 : Int) ∧ (j2 : Int) < 64 := by omega
      have i3 : (0 : Int) ≤ (j3 : Int) ∧ (j3 : Int) < 64 := by omega
      have ii : (0 : Int) ≤ (i : Int) ∧ (i : Int) < 64 := by omega
      have v0 : IntKind.u32.wrap y0 = y0 := wraps_u32 _ (by omega) (by omega)
      have v1 : IntKind.u32.wrap y1 = y1 := wraps_u32 _ (by omega) (by omega)
      have v2 : IntKind.u32.wrap y2 = y2 := wraps_u32 _ (by omega) (by omega)
      have v3 : IntKind.u32.wrap y3 = y3 := wraps_u32 _ (by omega) (by omega)
      have hle16 := words16_len l i
      obtain ⟨vi, hvi⟩ := cells64_in (ws := words16 l i) (i := i) (by rw [hle16]; omega) (by omega)
      have kd := ka.below (Below.refl wr.heap.size wr).drew ka.lt
      have ci := (kd.cell i).trans hvi
      have fi := kd.frozen i
      have hset := cells64_snoc (ws := words16 l i) (x := wordAt l i) (by rw [hle16]; omega)
      rw [hle16] at hset
      have ks := kd.set i (.int .u32 (wordAt l i))
      rw [hset, ← HW.out, HWA.out] at ks
      have hBs := hB.drew.setCell (p := ⟨A, i, none⟩) (Nat.le_refl _) (.int .u32 (wordAt l i))
      rw [HWA.out] at hBs
      unfold word4 at ks hBs
      have HS := Lib.hid (And.intro ks hBs)
      have HC := Lib.hid (And.intro ci fi)
      clear hset ks hBs hvi hbyte hj0 hj1 hj2 hj3 hle16 HW ka kd ci fi
      go_upto_region 4 with (fail)
      go_still_tail 35, (by kernel_rfl)
      change wpList _ _ _ _ _ wr.drew
      obtain ⟨ci, fi⟩ := HC.out
      generalize wr.drew = WD at ci fi HS ⊢
      clear c0 c1 c2 c3 HC
      generalize bits .or .u32 (bits .or .u32 (bits .or .u32 (IntKind.u32.wrap (y0 * 16777216)) (IntKind.u32.wrap (y1 * 65536))) (IntKind.u32.wrap (y2 * 256))) y3 = wx at HS ⊢
      go_wp2
      go_roundw
      case rel => exact ⟨i + 1, by omega, by go_num, HS.out.1, HS.out.2⟩
      case measure => simp [intOf]; omega
    · have he : i = 16 := by omega
      have ka2 : Blk wr A (cells64 (words16 l 16)) 214 := he ▸ ka
      have d1 : decide ((i : Int) < 16) = false := decide_eq_false (by omega)
      have d1b : decide (i < 16) = false := decide_eq_false (by omega)
      clear ka he
      have HBB := Lib.hid hB
      have KK := Lib.hid (show Blk wr A (cells64 (extW (words16 l 16) (16 - 16))) 214 from ka2)
      have hw16 := words16_len l 16
      have HWW := Lib.hid (show schedW l = extW (words16 l 16) 48 from rfl)
      have HWL := Lib.hid (fun k => (extW_len (words16 l 16) k).trans (by rw [hw16]))
      generalize words16 l 16 = W16 at KK HWL HWW
      clear hB ka2 hw16
      obtain ⟨w9, hren⟩ : ∃ z, z = wr := ⟨_, rfl⟩
      subst hren
      go_wp2
      go_loopw [4, 5, 6] (fun u4 _ _ wr => ∃ i : Nat, 16 ≤ i ∧ i ≤ 64 ∧ u4 = .int .i64 (i : Int) ∧ Blk wr A (cells64 (extW W16 (i - 16))) 214 ∧ Below A w wr) (fun u4 _ _ _ => (64 - intOf u4).toNat)
      case atStart => exact ⟨16, by omega, by omega, rfl, KK.out, HBB.out⟩
      case round =>
        obtain ⟨i, hi1, hi2, rfl, ka, hB⟩ := hrel
        by_cases hlt : i < 64
        · have d1 : decide ((i : Int) < 64) = true := decide_eq_true (by omega)
          have hlen : (extW W16 (i - 16)).length = i := by rw [HWL.out]; omega
          have HW := Lib.hid (show extW W16 (i + 1 - 16) = extW W16 (i - 16) ++ [nextV ((extW W16 (i - 16)).getD (i - 16) 0) ((extW W16 (i - 16)).getD (i - 15) 0) ((extW W16 (i - 16)).getD (i - 7) 0) ((extW W16 (i - 16)).getD (i - 2) 0)] by
            rw [show i + 1 - 16 = (i - 16) + 1 by omega, extW]
            unfold nextW
            rw [hlen])
          generalize extW W16 (i - 16) = ws at ka hlen HW
          obtain ⟨j16, hj16⟩ : ∃ j, i - 16 = j := ⟨_, rfl⟩
          obtain ⟨j15, hj15⟩ : ∃ j, i - 15 = j := ⟨_, rfl⟩
          obtain ⟨j7, hj7⟩ : ∃ j, i - 7 = j := ⟨_, rfl⟩
          obtain ⟨j2, hj2⟩ : ∃ j, i - 2 = j := ⟨_, rfl⟩
          rw [hj16, hj15, hj7, hj2] at HW
          have c16 := (ka.cell j16).trans (cells64_get (by omega))
          have c15 := (ka.cell j15).trans (cells64_get (by omega))
          have c7 := (ka.cell j7).trans (cells64_get (by omega))
          have c2 := (ka.cell j2).trans (cells64_get (by omega))
          generalize ws.getD j16 0 = a16 at c16 HW
          generalize ws.getD j15 0 = x15 at c15 HW
          generalize ws.getD j7 0 = a7 at c7 HW
          generalize ws.getD j2 0 = x2 at c2 HW
          have w1 : IntKind.i64.wrap ((i : Int) - 16) = (j16 : Int) := by rw [wrapS _ (by omega) (by omega)]; omega
          have w2 : IntKind.i64.wrap ((i : Int) - 15) = (j15 : Int) := by rw [wrapS _ (by omega) (by omega)]; omega
          have w3 : IntKind.i64.wrap ((i : Int) - 7) = (j7 : Int) := by rw [wrapS _ (by omega) (by omega)]; omega
          have w4 : IntKind.i64.wrap ((i : Int) - 2) = (j2 : Int) := by rw [wrapS _ (by omega) (by omega)]; omega
          have i16 : (0 : Int) ≤ (j16 : Int) ∧ (j16 : Int) < 64 := by omega
          have i15 : (0 : Int) ≤ (j15 : Int) ∧ (j15 : Int) < 64 := by omega
          have i7 : (0 : Int) ≤ (j7 : Int) ∧ (j7 : Int) < 64 := by omega
          have i2 : (0 : Int) ≤ (j2 : Int) ∧ (j2 : Int) < 64 := by omega
          have ii : (0 : Int) ≤ (i : Int) ∧ (i : Int) < 64 := by omega
          have hp1 : j16 ≠ i := by omega
          have hp2 : j7 ≠ i := by omega
          obtain ⟨vi, hvi⟩ := cells64_in (ws := ws) (i := i) (by omega) (by omega)
          have HVI := Lib.hid hvi
          have hset := cells64_snoc (ws := ws) (x := nextV a16 x15 a7 x2) (by omega)
          rw [hlen] at hset
          have HSET := Lib.hid hset
          have KA2 := Lib.hid ka
          have lA := ka.lt
          clear hvi hset ka hj16 hj15 hj7 hj2 hlen
          go_upto_region 9 with (fail)
          go_quiet (skip)
          generalize hq : World.drewN _ _ = V
          have hBV := hq ▸ below_drewN (Below.refl wr.heap.size wr) _
          have KD0 := Lib.hid (KA2.out.below hBV lA)
          have c16 := (hBV.cell (p := ⟨A, j16, none⟩) lA).trans c16
          have c7 := (hBV.cell (p := ⟨A, j7, none⟩) lA).trans c7
          have hB := hB.trans (hBV.mono (Nat.le_of_lt lA))
          have lA := Nat.lt_of_lt_of_le lA hBV.size
          clear hq c15 c2 KA2 hBV
          obtain ⟨wr, hren⟩ : ∃ z, z = V := ⟨_, rfl⟩
          subst hren
          have lA2 : A < wr.drew.heap.size := lA
          have KD := Lib.hid (KD0.out.below (Below.refl wr.heap.size wr).drew lA)
          go_upto_region 10 with (fail)
          refine wp_region_noPanic ?_
          refine wp_region_held_drew (S := (fun w' => Below A wr w' ∧ w'.cell? ⟨A, j16, none⟩ = some (.int .u32 a16) ∧ w'.cell? ⟨A, j7, none⟩ = some (.int .u32 a7))) (by kernel_rfl) ⟨(Below.refl _ _).drew, c16, c7⟩ (fun hHeld => ?_)
          refine wpAnyH_take (i := 0) (oi := { dst := some 58, op := Op.move (Operand.tmp 4), type := 3, pos := "digest.go:53", after := #[], guard := none }) (v := ?_) rfl (by kernel_rfl) (by kernel_rfl) (by kernel_rfl) (fun _ _ _ h => h) (Or.inl ⟨by kernel_rfl, ?_⟩) (by assumption) ?_
          rotate_left
          · intro w hSw
            (try dsimp only at hSw)
            go_simp
            all_goals (with_reducible rfl)
          (try simp only [Act.put, List.setIfInBounds_toArray, List.set_cons_zero, List.set_cons_succ])
          refine wpAnyH_take (i := 1) (oi := { dst := some 59, op := Op.move (Operand.tmp 4), type := 3, pos := "digest.go:53", after := #[], guard := none }) (v := ?_) rfl (by kernel_rfl) (by kernel_rfl) (by kernel_rfl) (fun _ _ _ h => h) (Or.inl ⟨by kernel_rfl, ?_⟩) (by assumption) ?_
          rotate_left
          · intro w hSw
            (try dsimp only at hSw)
            go_simp
            all_goals (with_reducible rfl)
          (try simp only [Act.put, List.setIfInBounds_toArray, List.set_cons_zero, List.set_cons_succ])
          refine wpAnyH_take (i := 2) (oi := { dst := some 60, op := Op.binOp BinOp.sub 3 (Operand.tmp 59) (Operand.const (Value.int IntKind.i64 16)) 3, type := 3, pos := "digest.go:53", after := #[{ on := 1, ground := Ground.data }], guard := none }) (v := ?_) rfl (by kernel_rfl) (by kernel_rfl) (by kernel_rfl) (fun _ _ _ h => h) (Or.inl ⟨by kernel_rfl, ?_⟩) (by assumption) ?_
          rotate_left
          · intro w hSw
            (try dsimp only at hSw)
            go_simp
            all_goals (with_reducible rfl)
          (try simp only [Act.put, List.setIfInBounds_toArray, List.set_cons_zero, List.set_cons_succ])
          refine wpAnyH_take (i := 3) (oi := { dst := some 61, op := Op.indexAddr 214 (Operand.tmp 2) (Operand.tmp 60), type := 0, pos := "digest.go:53", after := #[{ on := 2, ground := Ground.data }], guard := none }) (v := ?_) rfl (by kernel_rfl) (by kernel_rfl) (by kernel_rfl) (fun _ _ _ h => h) (Or.inl ⟨by kernel_rfl, ?_⟩) (by assumption) ?_
          rotate_left
          · intro w hSw
            (try dsimp only at hSw)
            go_simp
            all_goals (with_reducible rfl)
          (try simp only [Act.put, List.setIfInBounds_toArray, List.set_cons_zero, List.set_cons_succ])
          refine wpAnyH_take (i := 4) (oi := { dst := some 62, op := Op.load 109 (Operand.tmp 61), type := 109, pos := "digest.go:53", after := #[{ on := 3, ground := Ground.data }], guard := none }) (v := ?_) rfl (by kernel_rfl) (by kernel_rfl) (by kernel_rfl) (fun _ _ _ h => h) (Or.inl ⟨by kernel_rfl, ?_⟩) (by assumption) ?_
          rotate_left
          · intro w hSw
            (try dsimp only at hSw)
            go_simp
            all_goals (with_reducible rfl)
          (try simp only [Act.put, List.setIfInBounds_toArray, List.set_cons_zero, List.set_cons_succ])
          refine wpAnyH_take (i := 5) (oi := { dst := some 63, op := Op.move (Operand.tmp 5), type := 109, pos := "digest.go:53", after := #[], guard := none }) (v := ?_) rfl (by kernel_rfl) (by kernel_rfl) (by kernel_rfl) (fun _ _ _ h => h) (Or.inl ⟨by kernel_rfl, ?_⟩) (by assumption) ?_
          rotate_left
          · intro w hSw
            (try dsimp only at hSw)
            go_simp
            all_goals (with_reducible rfl)
          (try simp only [Act.put, List.setIfInBounds_toArray, List.set_cons_zero, List.set_cons_succ])
          refine wpAnyH_take (i := 8) (oi := { dst := some 66, op := Op.move (Operand.tmp 5), type := 109, pos := "digest.go:53", after := #[], guard := none }) (v := ?_) rfl (by kernel_rfl) (by kernel_rfl) (by kernel_rfl) (fun _ _ _ h => h) (Or.inl ⟨by kernel_rfl, ?_⟩) (by assumption) ?_
          rotate_left
          · intro w hSw
            (try dsimp only at hSw)
            go_simp
            all_goals (with_reducible rfl)
          (try simp only [Act.put, List.setIfInBounds_toArray, List.set_cons_zero, List.set_cons_succ])
          refine wpAnyH_take (i := 9) (oi := { dst := some 67, op := Op.binOp BinOp.shr 109 (Operand.tmp 66) (Operand.const (Value.int IntKind.u64 3)) 113, type := 109, pos := "digest.go:53", after := #[{ on := 8, ground := Ground.data }], guard := none }) (v := ?_) rfl (by kernel_rfl) (by kernel_rfl) (by kernel_rfl) (fun _ _ _ h => h) (Or.inl ⟨by kernel_rfl, ?_⟩) (by assumption) ?_
          rotate_left
          · intro w hSw
            (try dsimp only at hSw)
            go_simp
            all_goals (with_reducible rfl)
          (try simp only [Act.put, List.setIfInBounds_toArray, List.set_cons_zero, List.set_cons_succ])
          refine wpAnyH_take (i := 12) (oi := { dst := some 70, op := Op.move (Operand.tmp 4), type := 3, pos := "digest.go:53", after := #[], guard := none }) (v := ?_) rfl (by kernel_rfl) (by kernel_rfl) (by kernel_rfl) (fun _ _ _ h => h) (Or.inl ⟨by kernel_rfl, ?_⟩) (by assumption) ?_
          rotate_left
          · intro w hSw
            (try dsimp only at hSw)
            go_simp
            all_goals (with_reducible rfl)
          (try simp only [Act.put, List.setIfInBounds_toArray, List.set_cons_zero, List.set_cons_succ])
          refine wpAnyH_take (i := 13) (oi := { dst := some 71, op := Op.binOp BinOp.sub 3 (Operand.tmp 70) (Operand.const (Value.int IntKind.i64 7)) 3, type := 3, pos := "digest.go:53", after := #[{ on := 12, ground := Ground.data }], guard := none }) (v := ?_) rfl (by kernel_rfl) (by kernel_rfl) (by kernel_rfl) (fun _ _ _ h => h) (Or.inl ⟨by kernel_rfl, ?_⟩) (by assumption) ?_
          rotate_left
          · intro w hSw
            (try dsimp only at hSw)
            go_simp
            all_goals (with_reducible rfl)
          (try simp only [Act.put, List.setIfInBounds_toArray, List.set_cons_zero, List.set_cons_succ])
          refine wpAnyH_take (i := 14) (oi := { dst := some 72, op := Op.indexAddr 214 (Operand.tmp 2) (Operand.tmp 71), type := 0, pos := "digest.go:53", after := #[{ on := 13, ground := Ground.data }], guard := none }) (v := ?_) rfl (by kernel_rfl) (by kernel_rfl) (by kernel_rfl) (fun _ _ _ h => h) (Or.inl ⟨by kernel_rfl, ?_⟩) (by assumption) ?_
          rotate_left
          · intro w hSw
            (try dsimp only at hSw)
            go_simp
            all_goals (with_reducible rfl)
          (try simp only [Act.put, List.setIfInBounds_toArray, List.set_cons_zero, List.set_cons_succ])
          refine wpAnyH_take (i := 15) (oi := { dst := some 73, op := Op.load 109 (Operand.tmp 72), type := 109, pos := "digest.go:53", after := #[{ on := 14, ground := Ground.data }], guard := none }) (v := ?_) rfl (by kernel_rfl) (by kernel_rfl) (by kernel_rfl) (fun _ _ _ h => h) (Or.inl ⟨by kernel_rfl, ?_⟩) (by assumption) ?_
          rotate_left
          · intro w hSw
            (try dsimp only at hSw)
            go_simp
            all_goals (with_reducible rfl)
          (try simp only [Act.put, List.setIfInBounds_toArray, List.set_cons_zero, List.set_cons_succ])
          refine wpAnyH_take (i := 17) (oi := { dst := some 75, op := Op.move (Operand.tmp 6), type := 109, pos := "digest.go:53", after := #[], guard := none }) (v := ?_) rfl (by kernel_rfl) (by kernel_rfl) (by kernel_rfl) (fun _ _ _ h => h) (Or.inl ⟨by kernel_rfl, ?_⟩) (by assumption) ?_
          rotate_left
          · intro w hSw
            (try dsimp only at hSw)
            go_simp
            all_goals (with_reducible rfl)
          (try simp only [Act.put, List.setIfInBounds_toArray, List.set_cons_zero, List.set_cons_succ])
          refine wpAnyH_take (i := 20) (oi := { dst := some 78, op := Op.move (Operand.tmp 6), type := 109, pos := "digest.go:53", after := #[], guard := none }) (v := ?_) rfl (by kernel_rfl) (by kernel_rfl) (by kernel_rfl) (fun _ _ _ h => h) (Or.inl ⟨by kernel_rfl, ?_⟩) (by assumption) ?_
          rotate_left
          · intro w hSw
            (try dsimp only at hSw)
            go_simp
            all_goals (with_reducible rfl)
          (try simp only [Act.put, List.setIfInBounds_toArray, List.set_cons_zero, List.set_cons_succ])
          refine wpAnyH_take (i := 21) (oi := { dst := some 79, op := Op.binOp BinOp.shr 109 (Operand.tmp 78) (Operand.const (Value.int IntKind.u64 10)) 113, type := 109, pos := "digest.go:53", after := #[{ on := 20, ground := Ground.data }], guard := none }) (v := ?_) rfl (by kernel_rfl) (by kernel_rfl) (by kernel_rfl) (fun _ _ _ h => h) (Or.inl ⟨by kernel_rfl, ?_⟩) (by assumption) ?_
          rotate_left
          · intro w hSw
            (try dsimp only at hSw)
            go_simp
            all_goals (with_reducible rfl)
          (try simp only [Act.put, List.setIfInBounds_toArray, List.set_cons_zero, List.set_cons_succ])
          refine wpAnyH_two (i := 6) (j := 18) (oi := { dst := some 64, op := Op.buildSlice 56 2 #[(0, Operand.const (Value.int IntKind.i64 7)), (1, Operand.const (Value.int IntKind.i64 18))], type := 56, pos := "digest.go:53", after := #[], guard := none }) (oj := { dst := some 76, op := Op.buildSlice 56 2 #[(0, Operand.const (Value.int IntKind.i64 17)), (1, Operand.const (Value.int IntKind.i64 19))], type := 56, pos := "digest.go:53", after := #[], guard := none }) (by kernel_rfl) rfl rfl (fun K hK => ?_) (fun K hK => ?_)
          · skip
            go_simp
            refine hK.out _ _ ?_ (fun hHeld2 => ?_)
            · exact sAlloc (by simp; omega) hHeld
            clear hHeld
            have hHeld := hHeld2
            clear hHeld2
            clear hK K
            (try simp only [Act.put, List.setIfInBounds_toArray, List.set_cons_zero, List.set_cons_succ])
            refine wpAnyH_two (i := 7) (j := 18) (oi := { dst := some 65, op := Op.call { callee := Callee.value (Operand.func 145), args := #[Operand.tmp 63, Operand.tmp 64], argTypes := #[109, 56] }, type := 109, pos := "digest.go:53", after := #[{ on := 5, ground := Ground.data }, { on := 6, ground := Ground.data }], guard := none }) (oj := { dst := some 76, op := Op.buildSlice 56 2 #[(0, Operand.const (Value.int IntKind.i64 17)), (1, Operand.const (Value.int IntKind.i64 19))], type := 56, pos := "digest.go:53", after := #[], guard := none }) (by kernel_rfl) rfl rfl (fun K hK => ?_) (fun K hK => ?_)
            · skip
              go_simp
              go_at_call 145
              refine (mixed145 x15 _ [7, 18] _ (by decide) (ints2 (Blk.newAt wr.drew #[.int .i64 7, .int .i64 18] 3 (n := wr.heap.size) (by simp)))).mono ?_
              rintro e wq ⟨rfl, rfl⟩
              refine hK.out _ _ ?_ (fun hHeld2 => ?_)
              · exact hHeld
              clear hHeld
              have hHeld := hHeld2
              clear hHeld2
              clear hK K
              (try simp only [Act.put, List.setIfInBounds_toArray, List.set_cons_zero, List.set_cons_succ])
              refine wpAnyH_take (i := 10) (oi := { dst := some 68, op := Op.binOp BinOp.xor 109 (Operand.tmp 65) (Operand.tmp 67) 109, type := 109, pos := "digest.go:53", after := #[{ on := 7, ground := Ground.data }, { on := 9, ground := Ground.data }], guard := none }) (v := ?_) rfl (by kernel_rfl) (by kernel_rfl) (by kernel_rfl) (fun _ _ _ h => h) (Or.inl ⟨by kernel_rfl, ?_⟩) (by assumption) ?_
              rotate_left
              · intro w hSw
                (try dsimp only at hSw)
                go_simp
                all_goals (with_reducible rfl)
              (try simp only [Act.put, List.setIfInBounds_toArray, List.set_cons_zero, List.set_cons_succ])
              refine wpAnyH_take (i := 11) (oi := { dst := some 69, op := Op.binOp BinOp.add 109 (Operand.tmp 62) (Operand.tmp 68) 109, type := 109, pos := "digest.go:53", after := #[{ on := 4, ground := Ground.data }, { on := 10, ground := Ground.data }], guard := none }) (v := ?_) rfl (by kernel_rfl) (by kernel_rfl) (by kernel_rfl) (fun _ _ _ h => h) (Or.inl ⟨by kernel_rfl, ?_⟩) (by assumption) ?_
              rotate_left
              · intro w hSw
                (try dsimp only at hSw)
                go_simp
                all_goals (with_reducible rfl)
              (try simp only [Act.put, List.setIfInBounds_toArray, List.set_cons_zero, List.set_cons_succ])
              refine wpAnyH_take (i := 16) (oi := { dst := some 74, op := Op.binOp BinOp.add 109 (Operand.tmp 69) (Operand.tmp 73) 109, type := 109, pos := "digest.go:53", after := #[{ on := 11, ground := Ground.data }, { on := 15, ground := Ground.data }], guard := none }) (v := ?_) rfl (by kernel_rfl) (by kernel_rfl) (by kernel_rfl) (fun _ _ _ h => h) (Or.inl ⟨by kernel_rfl, ?_⟩) (by assumption) ?_
              rotate_left
              · intro w hSw
                (try dsimp only at hSw)
                go_simp
                all_goals (with_reducible rfl)
              (try simp only [Act.put, List.setIfInBounds_toArray, List.set_cons_zero, List.set_cons_succ])
              refine wpAnyH_one1 (i := 18) (o := { dst := some 76, op := Op.buildSlice 56 2 #[(0, Operand.const (Value.int IntKind.i64 17)), (1, Operand.const (Value.int IntKind.i64 19))], type := 56, pos := "digest.go:53", after := #[], guard := none }) (by kernel_rfl) rfl (fun K hK => ?_)
              go_simp
              refine hK.out _ _ ?_ (fun hHeld2 => ?_)
              · exact sAlloc (by simp; omega) hHeld
              clear hHeld
              have hHeld := hHeld2
              clear hHeld2
              clear hK K
              (try simp only [Act.put, List.setIfInBounds_toArray, List.set_cons_zero, List.set_cons_succ])
              refine wpAnyH_one1 (i := 19) (o := { dst := some 77, op := Op.call { callee := Callee.value (Operand.func 145), args := #[Operand.tmp 75, Operand.tmp 76], argTypes := #[109, 56] }, type := 109, pos := "digest.go:53", after := #[{ on := 17, ground := Ground.data }, { on := 18, ground := Ground.data }, { on := 7, ground := Ground.chain }], guard := none }) (by kernel_rfl) rfl (fun K hK => ?_)
              go_simp
              go_at_call 145
              refine (mixed145 x2 _ [17, 19] _ (by decide) (ints2 (Blk.newAt (wr.drew.alloc (.cells #[.int .i64 7, .int .i64 18] 3)) #[.int .i64 17, .int .i64 19] 3 (n := wr.heap.size + 1) (by simp)))).mono ?_
              rintro e wq ⟨rfl, rfl⟩
              refine hK.out _ _ ?_ (fun hHeld2 => ?_)
              · exact hHeld
              clear hHeld
              have hHeld := hHeld2
              clear hHeld2
              clear hK K
              (try simp only [Act.put, List.setIfInBounds_toArray, List.set_cons_zero, List.set_cons_succ])
              refine wpAnyH_take (i := 22) (oi := { dst := some 80, op := Op.binOp BinOp.xor 109 (Operand.tmp 77) (Operand.tmp 79) 109, type := 109, pos := "digest.go:53", after := #[{ on := 19, ground := Ground.data }, { on := 21, ground := Ground.data }], guard := none }) (v := ?_) rfl (by kernel_rfl) (by kernel_rfl) (by kernel_rfl) (fun _ _ _ h => h) (Or.inl ⟨by kernel_rfl, ?_⟩) (by assumption) ?_
              rotate_left
              · intro w hSw
                (try dsimp only at hSw)
                go_simp
                all_goals (with_reducible rfl)
              (try simp only [Act.put, List.setIfInBounds_toArray, List.set_cons_zero, List.set_cons_succ])
              refine wpAnyH_take (i := 23) (oi := { dst := some 81, op := Op.binOp BinOp.add 109 (Operand.tmp 74) (Operand.tmp 80) 109, type := 109, pos := "digest.go:53", after := #[{ on := 16, ground := Ground.data }, { on := 22, ground := Ground.data }], guard := none }) (v := ?_) rfl (by kernel_rfl) (by kernel_rfl) (by kernel_rfl) (fun _ _ _ h => h) (Or.inl ⟨by kernel_rfl, ?_⟩) (by assumption) ?_
              rotate_left
              · intro w hSw
                (try dsimp only at hSw)
                go_simp
                all_goals (with_reducible rfl)
              (try simp only [Act.put, List.setIfInBounds_toArray, List.set_cons_zero, List.set_cons_succ])
              refine wpAnyH_take (i := 24) (oi := { dst := some 82, op := Op.indexAddr 214 (Operand.tmp 2) (Operand.tmp 58), type := 0, pos := "digest.go:53", after := #[{ on := 0, ground := Ground.data }, { on := 0, ground := Ground.phase }, { on := 1, ground := Ground.phase }, { on := 2, ground := Ground.phase }, { on := 3, ground := Ground.phase }, { on := 4, ground := Ground.phase }, { on := 5, ground := Ground.phase }, { on := 6, ground := Ground.phase }, { on := 7, ground := Ground.phase }, { on := 8, ground := Ground.phase }, { on := 9, ground := Ground.phase }, { on := 10, ground := Ground.phase }, { on := 11, ground := Ground.phase }, { on := 12, ground := Ground.phase }, { on := 13, ground := Ground.phase }, { on := 14, ground := Ground.phase }, { on := 15, ground := Ground.phase }, { on := 16, ground := Ground.phase }, { on := 17, ground := Ground.phase }, { on := 18, ground := Ground.phase }, { on := 19, ground := Ground.phase }, { on := 20, ground := Ground.phase }, { on := 21, ground := Ground.phase }, { on := 22, ground := Ground.phase }, { on := 23, ground := Ground.phase }], guard := none }) (v := ?_) rfl (by kernel_rfl) (by kernel_rfl) (by kernel_rfl) (fun _ _ _ h => h) (Or.inl ⟨by kernel_rfl, ?_⟩) (by assumption) ?_
              rotate_left
              · intro w hSw
                (try dsimp only at hSw)
                go_simp
                all_goals (with_reducible rfl)
              (try simp only [Act.put, List.setIfInBounds_toArray, List.set_cons_zero, List.set_cons_succ])
              refine wpAnyH_one1 (i := 25) (o := { dst := none, op := Op.store 109 (Operand.tmp 82) (Operand.tmp 81), type := 0, pos := "digest.go:53", after := #[{ on := 24, ground := Ground.data }, { on := 23, ground := Ground.data }, { on := 19, ground := Ground.chain }, { on := 0, ground := Ground.phase }, { on := 1, ground := Ground.phase }, { on := 2, ground := Ground.phase }, { on := 3, ground := Ground.phase }, { on := 4, ground := Ground.phase }, { on := 5, ground := Ground.phase }, { on := 6, ground := Ground.phase }, { on := 7, ground := Ground.phase }, { on := 8, ground := Ground.phase }, { on := 9, ground := Ground.phase }, { on := 10, ground := Ground.phase }, { on := 11, ground := Ground.phase }, { on := 12, ground := Ground.phase }, { on := 13, ground := Ground.phase }, { on := 14, ground := Ground.phase }, { on := 15, ground := Ground.phase }, { on := 16, ground := Ground.phase }, { on := 17, ground := Ground.phase }, { on := 18, ground := Ground.phase }, { on := 19, ground := Ground.phase }, { on := 20, ground := Ground.phase }, { on := 21, ground := Ground.phase }, { on := 22, ground := Ground.phase }, { on := 23, ground := Ground.phase }], guard := none }) (by kernel_rfl) rfl (fun K hK => ?_)
              have ci := (KD0.out.cell i).trans HVI.out
              have fi := KD0.out.frozen i
              go_simp
              refine hK.out _ _ ?_ (fun hHeld2 => ?_)
              · exact sDrew (sAlloc (by simp; omega) (sAlloc (by simp; omega) (sStore (by omega) (by omega) ⟨Below.refl _ _, c16, c7⟩)))
              clear hHeld
              have hHeld := hHeld2
              clear hHeld2
              clear hK K
              (try simp only [Act.put, List.setIfInBounds_toArray, List.set_cons_zero, List.set_cons_succ])
              refine wpAnyH_done (by kernel_rfl) ?_ _
              refine NoPanic.normal ?_
              have hX := hHeld.1
              clear hHeld
              go_wp2
              go_roundw
              case rel => exact ⟨i + 1, by omega, by omega, by go_num, by rw [HW.out]; rw [← HSET.out]; exact ((KD0.out.set i _).alloc _).alloc _, hB.trans hX⟩
              case measure => simp [intOf]; omega
            · skip
              go_simp
              refine hK.out _ _ ?_ (fun hHeld2 => ?_)
              · exact sAlloc (by simp; omega) hHeld
              clear hHeld
              have hHeld := hHeld2
              clear hHeld2
              clear hK K
              (try simp only [Act.put, List.setIfInBounds_toArray, List.set_cons_zero, List.set_cons_succ])
              refine wpAnyH_one1 (i := 7) (o := { dst := some 65, op := Op.call { callee := Callee.value (Operand.func 145), args := #[Operand.tmp 63, Operand.tmp 64], argTypes := #[109, 56] }, type := 109, pos := "digest.go:53", after := #[{ on := 5, ground := Ground.data }, { on := 6, ground := Ground.data }], guard := none }) (by kernel_rfl) rfl (fun K hK => ?_)
              go_simp
              go_at_call 145
              refine (mixed145 x15 _ [7, 18] _ (by decide) (ints2 ((Blk.newAt wr.drew #[.int .i64 7, .int .i64 18] 3 (n := wr.heap.size) (by simp)).alloc _))).mono ?_
              rintro e wq ⟨rfl, rfl⟩
              refine hK.out _ _ ?_ (fun hHeld2 => ?_)
              · exact hHeld
              clear hHeld
              have hHeld := hHeld2
              clear hHeld2
              clear hK K
              (try simp only [Act.put, List.setIfInBounds_toArray, List.set_cons_zero, List.set_cons_succ])
              refine wpAnyH_take (i := 10) (oi := { dst := some 68, op := Op.binOp BinOp.xor 109 (Operand.tmp 65) (Operand.tmp 67) 109, type := 109, pos := "digest.go:53", after := #[{ on := 7, ground := Ground.data }, { on := 9, ground := Ground.data }], guard := none }) (v := ?_) rfl (by kernel_rfl) (by kernel_rfl) (by kernel_rfl) (fun _ _ _ h => h) (Or.inl ⟨by kernel_rfl, ?_⟩) (by assumption) ?_
              rotate_left
              · intro w hSw
                (try dsimp only at hSw)
                go_simp
                all_goals (with_reducible rfl)
              (try simp only [Act.put, List.setIfInBounds_toArray, List.set_cons_zero, List.set_cons_succ])
              refine wpAnyH_take (i := 11) (oi := { dst := some 69, op := Op.binOp BinOp.add 109 (Operand.tmp 62) (Operand.tmp 68) 109, type := 109, pos := "digest.go:53", after := #[{ on := 4, ground := Ground.data }, { on := 10, ground := Ground.data }], guard := none }) (v := ?_) rfl (by kernel_rfl) (by kernel_rfl) (by kernel_rfl) (fun _ _ _ h => h) (Or.inl ⟨by kernel_rfl, ?_⟩) (by assumption) ?_
              rotate_left
              · intro w hSw
                (try dsimp only at hSw)
                go_simp
                all_goals (with_reducible rfl)
              (try simp only [Act.put, List.setIfInBounds_toArray, List.set_cons_zero, List.set_cons_succ])
              refine wpAnyH_take (i := 16) (oi := { dst := some 74, op := Op.binOp BinOp.add 109 (Operand.tmp 69) (Operand.tmp 73) 109, type := 109, pos := "digest.go:53", after := #[{ on := 11, ground := Ground.data }, { on := 15, ground := Ground.data }], guard := none }) (v := ?_) rfl (by kernel_rfl) (by kernel_rfl) (by kernel_rfl) (fun _ _ _ h => h) (Or.inl ⟨by kernel_rfl, ?_⟩) (by assumption) ?_
              rotate_left
              · intro w hSw
                (try dsimp only at hSw)
                go_simp
                all_goals (with_reducible rfl)
              (try simp only [Act.put, List.setIfInBounds_toArray, List.set_cons_zero, List.set_cons_succ])
              refine wpAnyH_one1 (i := 19) (o := { dst := some 77, op := Op.call { callee := Callee.value (Operand.func 145), args := #[Operand.tmp 75, Operand.tmp 76], argTypes := #[109, 56] }, type := 109, pos := "digest.go:53", after := #[{ on := 17, ground := Ground.data }, { on := 18, ground := Ground.data }, { on := 7, ground := Ground.chain }], guard := none }) (by kernel_rfl) rfl (fun K hK => ?_)
              go_simp
              go_at_call 145
              refine (mixed145 x2 _ [17, 19] _ (by decide) (ints2 (Blk.newAt (wr.drew.alloc (.cells #[.int .i64 7, .int .i64 18] 3)) #[.int .i64 17, .int .i64 19] 3 (n := wr.heap.size + 1) (by simp)))).mono ?_
              rintro e wq ⟨rfl, rfl⟩
              refine hK.out _ _ ?_ (fun hHeld2 => ?_)
              · exact hHeld
              clear hHeld
              have hHeld := hHeld2
              clear hHeld2
              clear hK K
              (try simp only [Act.put, List.setIfInBounds_toArray, List.set_cons_zero, List.set_cons_succ])
              refine wpAnyH_take (i := 22) (oi := { dst := some 80, op := Op.binOp BinOp.xor 109 (Operand.tmp 77) (Operand.tmp 79) 109, type := 109, pos := "digest.go:53", after := #[{ on := 19, ground := Ground.data }, { on := 21, ground := Ground.data }], guard := none }) (v := ?_) rfl (by kernel_rfl) (by kernel_rfl) (by kernel_rfl) (fun _ _ _ h => h) (Or.inl ⟨by kernel_rfl, ?_⟩) (by assumption) ?_
              rotate_left
              · intro w hSw
                (try dsimp only at hSw)
                go_simp
                all_goals (with_reducible rfl)
              (try simp only [Act.put, List.setIfInBounds_toArray, List.set_cons_zero, List.set_cons_succ])
              refine wpAnyH_take (i := 23) (oi := { dst := some 81, op := Op.binOp BinOp.add 109 (Operand.tmp 74) (Operand.tmp 80) 109, type := 109, pos := "digest.go:53", after := #[{ on := 16, ground := Ground.data }, { on := 22, ground := Ground.data }], guard := none }) (v := ?_) rfl (by kernel_rfl) (by kernel_rfl) (by kernel_rfl) (fun _ _ _ h => h) (Or.inl ⟨by kernel_rfl, ?_⟩) (by assumption) ?_
              rotate_left
              · intro w hSw
                (try dsimp only at hSw)
                go_simp
                all_goals (with_reducible rfl)
              (try simp only [Act.put, List.setIfInBounds_toArray, List.set_cons_zero, List.set_cons_succ])
              refine wpAnyH_take (i := 24) (oi := { dst := some 82, op := Op.indexAddr 214 (Operand.tmp 2) (Operand.tmp 58), type := 0, pos := "digest.go:53", after := #[{ on := 0, ground := Ground.data }, { on := 0, ground := Ground.phase }, { on := 1, ground := Ground.phase }, { on := 2, ground := Ground.phase }, { on := 3, ground := Ground.phase }, { on := 4, ground := Ground.phase }, { on := 5, ground := Ground.phase }, { on := 6, ground := Ground.phase }, { on := 7, ground := Ground.phase }, { on := 8, ground := Ground.phase }, { on := 9, ground := Ground.phase }, { on := 10, ground := Ground.phase }, { on := 11, ground := Ground.phase }, { on := 12, ground := Ground.phase }, { on := 13, ground := Ground.phase }, { on := 14, ground := Ground.phase }, { on := 15, ground := Ground.phase }, { on := 16, ground := Ground.phase }, { on := 17, ground := Ground.phase }, { on := 18, ground := Ground.phase }, { on := 19, ground := Ground.phase }, { on := 20, ground := Ground.phase }, { on := 21, ground := Ground.phase }, { on := 22, ground := Ground.phase }, { on := 23, ground := Ground.phase }], guard := none }) (v := ?_) rfl (by kernel_rfl) (by kernel_rfl) (by kernel_rfl) (fun _ _ _ h => h) (Or.inl ⟨by kernel_rfl, ?_⟩) (by assumption) ?_
              rotate_left
              · intro w hSw
                (try dsimp only at hSw)
                go_simp
                all_goals (with_reducible rfl)
              (try simp only [Act.put, List.setIfInBounds_toArray, List.set_cons_zero, List.set_cons_succ])
              refine wpAnyH_one1 (i := 25) (o := { dst := none, op := Op.store 109 (Operand.tmp 82) (Operand.tmp 81), type := 0, pos := "digest.go:53", after := #[{ on := 24, ground := Ground.data }, { on := 23, ground := Ground.data }, { on := 19, ground := Ground.chain }, { on := 0, ground := Ground.phase }, { on := 1, ground := Ground.phase }, { on := 2, ground := Ground.phase }, { on := 3, ground := Ground.phase }, { on := 4, ground := Ground.phase }, { on := 5, ground := Ground.phase }, { on := 6, ground := Ground.phase }, { on := 7, ground := Ground.phase }, { on := 8, ground := Ground.phase }, { on := 9, ground := Ground.phase }, { on := 10, ground := Ground.phase }, { on := 11, ground := Ground.phase }, { on := 12, ground := Ground.phase }, { on := 13, ground := Ground.phase }, { on := 14, ground := Ground.phase }, { on := 15, ground := Ground.phase }, { on := 16, ground := Ground.phase }, { on := 17, ground := Ground.phase }, { on := 18, ground := Ground.phase }, { on := 19, ground := Ground.phase }, { on := 20, ground := Ground.phase }, { on := 21, ground := Ground.phase }, { on := 22, ground := Ground.phase }, { on := 23, ground := Ground.phase }], guard := none }) (by kernel_rfl) rfl (fun K hK => ?_)
              have ci := (KD0.out.cell i).trans HVI.out
              have fi := KD0.out.frozen i
              go_simp
              refine hK.out _ _ ?_ (fun hHeld2 => ?_)
              · exact sDrew (sAlloc (by simp; omega) (sAlloc (by simp; omega) (sStore (by omega) (by omega) ⟨Below.refl _ _, c16, c7⟩)))
              clear hHeld
              have hHeld := hHeld2
              clear hHeld2
              clear hK K
              (try simp only [Act.put, List.setIfInBounds_toArray, List.set_cons_zero, List.set_cons_succ])
              refine wpAnyH_done (by kernel_rfl) ?_ _
              refine NoPanic.normal ?_
              have hX := hHeld.1
              clear hHeld
              go_wp2
              go_roundw
              case rel => exact ⟨i + 1, by omega, by omega, by go_num, by rw [HW.out]; rw [← HSET.out]; exact ((KD0.out.set i _).alloc _).alloc _, hB.trans hX⟩
              case measure => simp [intOf]; omega
          · skip
            go_simp
            refine hK.out _ _ ?_ (fun hHeld2 => ?_)
            · exact sAlloc (by simp; omega) hHeld
            clear hHeld
            have hHeld := hHeld2
            clear hHeld2
            clear hK K
            (try simp only [Act.put, List.setIfInBounds_toArray, List.set_cons_zero, List.set_cons_succ])
            refine wpAnyH_one1 (i := 6) (o := { dst := some 64, op := Op.buildSlice 56 2 #[(0, Operand.const (Value.int IntKind.i64 7)), (1, Operand.const (Value.int IntKind.i64 18))], type := 56, pos := "digest.go:53", after := #[], guard := none }) (by kernel_rfl) rfl (fun K hK => ?_)
            go_simp
            refine hK.out _ _ ?_ (fun hHeld2 => ?_)
            · exact sAlloc (by simp; omega) hHeld
            clear hHeld
            have hHeld := hHeld2
            clear hHeld2
            clear hK K
            (try simp only [Act.put, List.setIfInBounds_toArray, List.set_cons_zero, List.set_cons_succ])
            refine wpAnyH_one1 (i := 7) (o := { dst := some 65, op := Op.call { callee := Callee.value (Operand.func 145), args := #[Operand.tmp 63, Operand.tmp 64], argTypes := #[109, 56] }, type := 109, pos := "digest.go:53", after := #[{ on := 5, ground := Ground.data }, { on := 6, ground := Ground.data }], guard := none }) (by kernel_rfl) rfl (fun K hK => ?_)
            go_simp
            go_at_call 145
            refine (mixed145 x15 _ [7, 18] _ (by decide) (ints2 (Blk.newAt (wr.drew.alloc (.cells #[.int .i64 17, .int .i64 19] 3)) #[.int .i64 7, .int .i64 18] 3 (n := wr.heap.size + 1) (by simp)))).mono ?_
            rintro e wq ⟨rfl, rfl⟩
            refine hK.out _ _ ?_ (fun hHeld2 => ?_)
            · exact hHeld
            clear hHeld
            have hHeld := hHeld2
            clear hHeld2
            clear hK K
            (try simp only [Act.put, List.setIfInBounds_toArray, List.set_cons_zero, List.set_cons_succ])
            refine wpAnyH_take (i := 10) (oi := { dst := some 68, op := Op.binOp BinOp.xor 109 (Operand.tmp 65) (Operand.tmp 67) 109, type := 109, pos := "digest.go:53", after := #[{ on := 7, ground := Ground.data }, { on := 9, ground := Ground.data }], guard := none }) (v := ?_) rfl (by kernel_rfl) (by kernel_rfl) (by kernel_rfl) (fun _ _ _ h => h) (Or.inl ⟨by kernel_rfl, ?_⟩) (by assumption) ?_
            rotate_left
            · intro w hSw
              (try dsimp only at hSw)
              go_simp
              all_goals (with_reducible rfl)
            (try simp only [Act.put, List.setIfInBounds_toArray, List.set_cons_zero, List.set_cons_succ])
            refine wpAnyH_take (i := 11) (oi := { dst := some 69, op := Op.binOp BinOp.add 109 (Operand.tmp 62) (Operand.tmp 68) 109, type := 109, pos := "digest.go:53", after := #[{ on := 4, ground := Ground.data }, { on := 10, ground := Ground.data }], guard := none }) (v := ?_) rfl (by kernel_rfl) (by kernel_rfl) (by kernel_rfl) (fun _ _ _ h => h) (Or.inl ⟨by kernel_rfl, ?_⟩) (by assumption) ?_
            rotate_left
            · intro w hSw
              (try dsimp only at hSw)
              go_simp
              all_goals (with_reducible rfl)
            (try simp only [Act.put, List.setIfInBounds_toArray, List.set_cons_zero, List.set_cons_succ])
            refine wpAnyH_take (i := 16) (oi := { dst := some 74, op := Op.binOp BinOp.add 109 (Operand.tmp 69) (Operand.tmp 73) 109, type := 109, pos := "digest.go:53", after := #[{ on := 11, ground := Ground.data }, { on := 15, ground := Ground.data }], guard := none }) (v := ?_) rfl (by kernel_rfl) (by kernel_rfl) (by kernel_rfl) (fun _ _ _ h => h) (Or.inl ⟨by kernel_rfl, ?_⟩) (by assumption) ?_
            rotate_left
            · intro w hSw
              (try dsimp only at hSw)
              go_simp
              all_goals (with_reducible rfl)
            (try simp only [Act.put, List.setIfInBounds_toArray, List.set_cons_zero, List.set_cons_succ])
            refine wpAnyH_one1 (i := 19) (o := { dst := some 77, op := Op.call { callee := Callee.value (Operand.func 145), args := #[Operand.tmp 75, Operand.tmp 76], argTypes := #[109, 56] }, type := 109, pos := "digest.go:53", after := #[{ on := 17, ground := Ground.data }, { on := 18, ground := Ground.data }, { on := 7, ground := Ground.chain }], guard := none }) (by kernel_rfl) rfl (fun K hK => ?_)
            go_simp
            go_at_call 145
            refine (mixed145 x2 _ [17, 19] _ (by decide) (ints2 ((Blk.newAt wr.drew #[.int .i64 17, .int .i64 19] 3 (n := wr.heap.size) (by simp)).alloc _))).mono ?_
            rintro e wq ⟨rfl, rfl⟩
            refine hK.out _ _ ?_ (fun hHeld2 => ?_)
            · exact hHeld
            clear hHeld
            have hHeld := hHeld2
            clear hHeld2
            clear hK K
            (try simp only [Act.put, List.setIfInBounds_toArray, List.set_cons_zero, List.set_cons_succ])
            refine wpAnyH_take (i := 22) (oi := { dst := some 80, op := Op.binOp BinOp.xor 109 (Operand.tmp 77) (Operand.tmp 79) 109, type := 109, pos := "digest.go:53", after := #[{ on := 19, ground := Ground.data }, { on := 21, ground := Ground.data }], guard := none }) (v := ?_) rfl (by kernel_rfl) (by kernel_rfl) (by kernel_rfl) (fun _ _ _ h => h) (Or.inl ⟨by kernel_rfl, ?_⟩) (by assumption) ?_
            rotate_left
            · intro w hSw
              (try dsimp only at hSw)
              go_simp
              all_goals (with_reducible rfl)
            (try simp only [Act.put, List.setIfInBounds_toArray, List.set_cons_zero, List.set_cons_succ])
            refine wpAnyH_take (i := 23) (oi := { dst := some 81, op := Op.binOp BinOp.add 109 (Operand.tmp 74) (Operand.tmp 80) 109, type := 109, pos := "digest.go:53", after := #[{ on := 16, ground := Ground.data }, { on := 22, ground := Ground.data }], guard := none }) (v := ?_) rfl (by kernel_rfl) (by kernel_rfl) (by kernel_rfl) (fun _ _ _ h => h) (Or.inl ⟨by kernel_rfl, ?_⟩) (by assumption) ?_
            rotate_left
            · intro w hSw
              (try dsimp only at hSw)
              go_simp
              all_goals (with_reducible rfl)
            (try simp only [Act.put, List.setIfInBounds_toArray, List.set_cons_zero, List.set_cons_succ])
            refine wpAnyH_take (i := 24) (oi := { dst := some 82, op := Op.indexAddr 214 (Operand.tmp 2) (Operand.tmp 58), type := 0, pos := "digest.go:53", after := #[{ on := 0, ground := Ground.data }, { on := 0, ground := Ground.phase }, { on := 1, ground := Ground.phase }, { on := 2, ground := Ground.phase }, { on := 3, ground := Ground.phase }, { on := 4, ground := Ground.phase }, { on := 5, ground := Ground.phase }, { on := 6, ground := Ground.phase }, { on := 7, ground := Ground.phase }, { on := 8, ground := Ground.phase }, { on := 9, ground := Ground.phase }, { on := 10, ground := Ground.phase }, { on := 11, ground := Ground.phase }, { on := 12, ground := Ground.phase }, { on := 13, ground := Ground.phase }, { on := 14, ground := Ground.phase }, { on := 15, ground := Ground.phase }, { on := 16, ground := Ground.phase }, { on := 17, ground := Ground.phase }, { on := 18, ground := Ground.phase }, { on := 19, ground := Ground.phase }, { on := 20, ground := Ground.phase }, { on := 21, ground := Ground.phase }, { on := 22, ground := Ground.phase }, { on := 23, ground := Ground.phase }], guard := none }) (v := ?_) rfl (by kernel_rfl) (by kernel_rfl) (by kernel_rfl) (fun _ _ _ h => h) (Or.inl ⟨by kernel_rfl, ?_⟩) (by assumption) ?_
            rotate_left
            · intro w hSw
              (try dsimp only at hSw)
              go_simp
              all_goals (with_reducible rfl)
            (try simp only [Act.put, List.setIfInBounds_toArray, List.set_cons_zero, List.set_cons_succ])
            refine wpAnyH_one1 (i := 25) (o := { dst := none, op := Op.store 109 (Operand.tmp 82) (Operand.tmp 81), type := 0, pos := "digest.go:53", after := #[{ on := 24, ground := Ground.data }, { on := 23, ground := Ground.data }, { on := 19, ground := Ground.chain }, { on := 0, ground := Ground.phase }, { on := 1, ground := Ground.phase }, { on := 2, ground := Ground.phase }, { on := 3, ground := Ground.phase }, { on := 4, ground := Ground.phase }, { on := 5, ground := Ground.phase }, { on := 6, ground := Ground.phase }, { on := 7, ground := Ground.phase }, { on := 8, ground := Ground.phase }, { on := 9, ground := Ground.phase }, { on := 10, ground := Ground.phase }, { on := 11, ground := Ground.phase }, { on := 12, ground := Ground.phase }, { on := 13, ground := Ground.phase }, { on := 14, ground := Ground.phase }, { on := 15, ground := Ground.phase }, { on := 16, ground := Ground.phase }, { on := 17, ground := Ground.phase }, { on := 18, ground := Ground.phase }, { on := 19, ground := Ground.phase }, { on := 20, ground := Ground.phase }, { on := 21, ground := Ground.phase }, { on := 22, ground := Ground.phase }, { on := 23, ground := Ground.phase }], guard := none }) (by kernel_rfl) rfl (fun K hK => ?_)
            have ci := (KD0.out.cell i).trans HVI.out
            have fi := KD0.out.frozen i
            go_simp
            refine hK.out _ _ ?_ (fun hHeld2 => ?_)
            · exact sDrew (sAlloc (by simp; omega) (sAlloc (by simp; omega) (sStore (by omega) (by omega) ⟨Below.refl _ _, c16, c7⟩)))
            clear hHeld
            have hHeld := hHeld2
            clear hHeld2
            clear hK K
            (try simp only [Act.put, List.setIfInBounds_toArray, List.set_cons_zero, List.set_cons_succ])
            refine wpAnyH_done (by kernel_rfl) ?_ _
            refine NoPanic.normal ?_
            have hX := hHeld.1
            clear hHeld
            go_wp2
            go_roundw
            case rel => exact ⟨i + 1, by omega, by omega, by go_num, by rw [HW.out]; rw [← HSET.out]; exact ((KD0.out.set i _).alloc _).alloc _, hB.trans hX⟩
            case measure => simp [intOf]; omega
        · have he : i = 64 := by omega
          have hlen : (extW W16 (i - 16)).length = 64 := by rw [HWL.out]; omega
          have hse : extW W16 (i - 16) = extW W16 48 := by rw [he]
          rw [hse] at ka hlen
          have d1 : decide ((i : Int) < 64) = false := decide_eq_false (by omega)
          have d1b : decide (i < 64) = false := decide_eq_false (by omega)
          have HR := Lib.hid (blk_c64 ka).range
          have hcl := c64_len (ws := extW W16 48) (by omega)
          have hth : wr.there A 0 (c64 (extW W16 48)).toArray.size := blk_there (blk_c64 ka)
          have HTH := Lib.hid hth
          have hbs := below_setCells (c64 (extW W16 48)) 0 hB
          have hrs := World.rangeAt_setCells_same wr A 0 (c64 (extW W16 48)) (by simpa using hth)
          have HEND := Lib.hid (And.intro hrs hbs)
          have hsz : (Tryz.prog.info? 214).map (·.size) = some (c64 (extW W16 48)).length := by rw [hcl]; kernel_rfl
          have hone := all_oneCell_toArray (cs := c64 (extW W16 48)) c64_one
          have HWS := Lib.hid (show cells64 (extW W16 48) = (c64 (extW W16 48)).toArray from rfl)
          clear he hse ka hth hbs hrs hlen
          generalize c64 (extW W16 48) = cs at HR HTH HEND hsz hone HWS hcl
          go_wp2_with (first
            | (refine wpList_load_mid rfl 214 _ rfl A 0 rfl cs _ HR.out Tryz.underlying214 rfl hsz ?_)
            | (refine wpList_store_mid rfl 214 _ _ rfl A 0 cs.toArray rfl rfl HTH.out (by simpa using hsz) hone ?_))
          have hres := run_loadVar_mid (P := Tryz.prog) (wr.setCells A 0 cs) A 0 214 cs _ HEND.out.1 Tryz.underlying214 rfl hsz
          have hto : cs.toArray.toList = cs := rfl
          refine bodyPost_ret (v := .agg cs.toArray) (results_cell_of Tryz.results144 _ _ ⟨A, 0, none⟩ _ rfl hres) rfl ⟨?_, hA ▸ HEND.out.2⟩
          rw [HWW.out, ← HWS.out]
end Go.Proofs.YtnckpnbecmmcpaaGreatDoor
