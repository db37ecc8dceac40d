/- nadirlaw33.DiskCrashBytes: the walk. -/
import Derived.Test.YtfmdpmcniccioaaPrep
namespace Go.Proofs.Ytfmdpmcniccioaa
open Go.RowKit Go.Shelf Lib

def fitW (l : List WP) (n i : Nat) : WrD := ⟨fitO (l.getD i ⟨0, ⟨#[]⟩, false⟩) n, fitS (l.getD i ⟨0, ⟨#[]⟩, false⟩) n⟩
theorem fitW_at {l : List WP} {n i : Nat} {x : WP} (h : l[i]? = some x) : fitW l n i = ⟨fitO x n, fitS x n⟩ := by
  unfold fitW; rw [List.getD_eq_getElem?_getD, h]; rfl
/-- A disk that holds b0 for sure, and the first k writes. -/
structure CrI (n : Nat) (b0 : List UInt8) (f : Nat → WrD) (k : Nat) (D : DiskD) : Prop where
  on : OnD n D
  dur : D.dur = b0
  pend : D.pend = (List.range k).map f
theorem CrI.len {n : Nat} {b0 : List UInt8} {f : Nat → WrD} {k : Nat} {D : DiskD} (h : CrI n b0 f k D) : D.pend.length = k := by rw [h.pend]; simp
theorem CrI.write {n : Nat} {b0 : List UInt8} {f : Nat → WrD} {k : Nat} {D : DiskD} (h : CrI n b0 f k D) {o : Nat} {s : ByteArray} (hf : f k = ⟨o, s⟩) (hl : o + s.size ≤ n) : writeE D o s = 0 ∧ CrI n b0 f (k + 1) (writeD D o s) := by
  obtain ⟨e1, on1, v1, d1, p1⟩ := on_write h.on o s hl
  exact ⟨e1, on1, d1.trans h.dur, by rw [p1, h.pend, List.range_succ, List.map_append, List.map_singleton, hf]⟩
/-- The content into which the kept writes are put. -/
def wantC (b0 : List UInt8) (torn last : Int) (kl : List Bool) (f : Nat → WrD) (k : Nat) : List UInt8 := ((keptN kl k).map (putW torn last f)).foldl ontoW b0
theorem wantC_yes {b0 : List UInt8} {torn last : Int} {kl : List Bool} {f : Nat → WrD} {k : Nat} (h : kl.getD k false = true) {o : Nat} {s : ByteArray} (hw : putW torn last f k = ⟨o, s⟩) : wantC b0 torn last kl f (k + 1) = putB (wantC b0 torn last kl f k) o (bts s) := by
  unfold wantC
  rw [keptN_succ, if_pos h, List.map_append, List.foldl_append, List.map_singleton, hw]
  rfl
theorem wantC_no {b0 : List UInt8} {torn last : Int} {kl : List Bool} {f : Nat → WrD} {k : Nat} (h : kl.getD k false = false) : wantC b0 torn last kl f (k + 1) = wantC b0 torn last kl f k := by
  unfold wantC
  rw [keptN_succ, if_neg (by rw [h]; decide)]
theorem keptN_yes {kl : List Bool} {k : Nat} (h : kl.getD k false = true) : (keptN kl (k + 1)).reverse = k :: (keptN kl k).reverse ∧ (keptN kl (k + 1)).length = (keptN kl k).length + 1 := by
  rw [keptN_succ, if_pos h]; simp
theorem keptN_no {kl : List Bool} {k : Nat} (h : kl.getD k false = false) : keptN kl (k + 1) = keptN kl k := by
  rw [keptN_succ, if_neg (by rw [h]; decide)]
theorem keptN_len (kl : List Bool) (k : Nat) : (keptN kl k).length ≤ k := by
  have := List.length_filter_le (fun i => kl.getD i false) (List.range k)
  rw [List.length_range] at this
  exact this
theorem nums_one {l : List Nat} : ∀ u ∈ l.map (fun i : Nat => Value.int .i64 (i : Int)), u.oneCell' = true := by
  intro u hu
  obtain ⟨z, -, rfl⟩ := List.mem_map.1 hu
  rfl
set_option maxRecDepth 100000 in
set_option maxHeartbeats 40000000 in
theorem crashBytes_true (size : Int) (vl : Value) (l : List WP) (vk : Value) (kl : List Bool) (torn : Int) (w : World) (hs : InR size) (hl : WpsAt w vl l) (hkl : SliceOf Value.bool w vk kl) : Calls Try.prog 8 #[.int .i64 size, vl, vk, .int .i64 torn] w fun e w' => e = .returned (.bool true) ∧ Below w.heap.size w w' := by
  have hpb := pickI_bd size (n := 100) (by decide)
  have hpk := Lib.hid (fun W => pick_any size 100 W hs (by decide) (by decide))
  obtain ⟨p, hp⟩ := Int.eq_ofNat_of_zero_le hpb.1
  rw [hp] at hpk hpb
  have hn1 : 1 ≤ 1 + p := by omega
  have hn2 : 1 + p ≤ 4194304 := by omega
  have hcast : (1 : Int) + (p : Int) = ((1 + p : Nat) : Int) := by omega
  have hw1 : IntKind.i64.wrap (1 + (p : Int)) = ((1 + p : Nat) : Int) := by rw [wrapS _ (by omega) (by omega)]; omega
  have hnew := Lib.hid (fun W => new_own (1 + p) W hn1 hn2)
  have hon0 := Lib.hid (on_new hn1 hn2)
  have hmk := mk40 (1 + p) hn2
  have hN := Lib.hid (And.intro hn1 hn2)
  obtain ⟨la, lc, rfl, hl1, hl2⟩ := hl.len
  obtain ⟨ka, kc, rfl, hk1, hk2⟩ := hkl.len
  unfold maxLen at hl2 hk2
  have HL := Lib.hid hl
  have HK := Lib.hid hkl
  clear hs hpb hp hcast hl hn1 hn2 hkl
  generalize 1 + p = n at *
  go_enter Try.func8, Try.ntmps8
  go_wp2_with fail
  refine (sane_true _).mono ?_
  rintro e w1 ⟨rfl, hB1⟩
  go_wp2_with fail
  refine (hpk.out _).mono ?_
  rintro e wq ⟨rfl, rfl⟩
  go_wp2_with fail
  refine (hnew.out _).mono ?_
  rintro e w2 ⟨B, rfl, hO2, hB2⟩
  have hA : Below w2.heap.size w2 (w2.alloc (.cells (bcs (List.replicate n 0)).toArray 5)) := (Below.refl _ _).alloc (Nat.le_refl _) _
  have kg := Blk.new w2 (bcs (List.replicate n 0)).toArray 5
  have hO3 : OwnF (w2.alloc (.cells (bcs (List.replicate n 0)).toArray 5)) B n (newD n) (Bes w1.heap.size w2.heap.size) := (hO2.mono (G := Bes w1.heap.size w2.heap.size) (fun k hk h => ⟨h, by omega⟩)).below hA
  have hB3 := hB2.trans (hA.mono hB2.size)
  have hs3 : (w2.alloc (.cells (bcs (List.replicate n 0)).toArray 5)).heap.size = w2.heap.size + 1 := by simp
  have hb12 := hB2.size
  have HB1 := Lib.hid hB1
  go_wp2
  generalize w2.alloc (.cells (bcs (List.replicate n 0)).toArray 5) = W3 at kg hO3 hB3 hs3 ⊢
  have hg3 : w2.heap.size < W3.heap.size := by omega
  clear hA hO2 hB2 hs3 hB1 hmk hnew hpk hw1
  generalize w2.heap.size = g at *
  go_loopw [13] (fun u13 wr => ∃ (k : Nat) (b : List UInt8), k ≤ n ∧ u13 = .int .i64 k ∧ Hid (b.length = n) ∧ OwnF wr B n (newD n) (Bes w1.heap.size g) ∧ Blk wr g (bcs b).toArray 5 ∧ Below w1.heap.size w1 wr) (fun u13 _ => (n - intOf u13).toNat)
  case atStart => exact ⟨0, List.replicate n 0, by omega, rfl, Lib.hid List.length_replicate, hO3, kg, hB3⟩
  case round =>
    obtain ⟨k, b, hk, rfl, hbl, hO, hgr, hBr⟩ := hrel
    rename World => wr
    by_cases hkn : k < n
    · have hn4 := hN.out.2
      obtain ⟨r, hr, hr10⟩ : ∃ r : Nat, Int.tmod (k : Int) 10 = (r : Int) ∧ r < 10 := ⟨k % 10, by rw [Int.tmod_eq_emod_of_nonneg (by omega)]; omega, by omega⟩
      have hw48 : IntKind.i64.wrap (48 + (r : Int)) = 48 + (r : Int) := wrapS _ (by omega) (by omega)
      have hu8 : IntKind.u8.wrap (48 + (r : Int)) = ((UInt8.ofNat (48 + r)).toNat : Int) := by
        rw [IntKind.wrap_u8, UInt8.toNat_ofNat']; omega
      have hki : (0 : Int) ≤ (k : Int) ∧ (k : Int) < (n : Int) := by omega
      have hcell : ∃ y, wr.cell? ⟨g, k, none⟩ = some y := by
        refine ⟨_, (hgr.cell k).trans (Array.getElem?_eq_getElem ?_)⟩
        simp [bcs_len]; rw [hbl.out]; omega
      obtain ⟨y, hcell⟩ := hcell
      have hfz := hgr.frozen k
      have hgs := hgr.set k (.int .u8 ((UInt8.ofNat (48 + r)).toNat : Int))
      rw [bcs_set] at hgs
      have HGS := Lib.hid hgs
      have hOs := Lib.hid (hO.frm (G := fun i => i = g) ((Frm.refl (fun i => i = g) wr).setCell (b := g) (o := k) (fun _ => rfl) (.int .u8 ((UInt8.ofNat (48 + r)).toNat : Int))) (fun i _ h e => h.2 e))
      have hBs := hBr.setCell (p := ⟨g, k, none⟩) hb12 (.int .u8 ((UInt8.ofNat (48 + r)).toNat : Int))
      generalize UInt8.ofNat (48 + r) = z at *
      clear hgs hgr hO
      go_wp2
      go_roundw
      case rel => exact ⟨k + 1, b.set k z, by omega, by go_num, Lib.hid (by rw [List.length_set]; exact hbl.out), hOs.out, HGS.out, hBs⟩
      case measure => simp [intOf]; omega
    · obtain rfl : k = n := by omega
      have hcv := conv_all hgr hbl.out
      obtain ⟨e1, on1, v1, d1, p1⟩ := on_write hon0.out 0 (strOf b) (by rw [show (strOf b).size = b.length from rfl, hbl.out]; omega)
      have hwr := write_F hO (fun i hi => ⟨by have := hBr.size; omega, by have := hgr.lt; omega⟩) (by show ([] : List WrD).length ≤ _; decide) ((0 : Nat) : Int) (strOf b)
      rw [e1] at hwr
      obtain ⟨e2, on2, v2, d2, p2⟩ := on_sync on1
      have hdb : (syncD (writeD (newD k) ((0 : Nat) : Int) (strOf b))).dur = b := by
        rw [d2, v1]
        show putB (List.replicate k 0) 0 b = b
        unfold putB
        rw [List.take_zero, List.nil_append, List.drop_eq_nil_of_le (by rw [List.length_replicate, hbl.out]; omega), List.append_nil]
      have hcr0 : CrI k b (fitW l k) 0 (syncD (writeD (newD k) ((0 : Nat) : Int) (strOf b))) := ⟨on2, hdb, p2⟩
      have HCR := Lib.hid hcr0
      clear e1 on1 v1 d1 p1 on2 v2 d2 p2 hdb hcr0
      have hwr' : Calls Try.prog 21 #[.pointer (some ⟨B, 0, none⟩), .int .i64 0, .string (strOf b)] wr _ := hwr
      generalize writeD (newD k) ((0 : Nat) : Int) (strOf b) = D1 at *
      clear hwr
      go_wp2_with fail
      refine hwr'.mono ?_
      rintro e w4 ⟨rfl, hO4, hf4⟩
      have hg4 := hgr.frm hf4 (fun h => h.2 rfl)
      have hB4 := hBr.trans (hf4.besBelow hBr.size)
      have hsy := sync_f hO4
      rw [e2] at hsy
      clear hwr' hf4 hO4 hcv hgr e2
      generalize syncD D1 = D2 at *
      go_wp2_with fail
      refine hsy.mono ?_
      rintro e w5 ⟨rfl, hO5, hf5⟩
      have hg5 := hg4.frm hf5 (fun h => h.2 rfl)
      have hB5 := hB4.trans (hf5.besBelow hB4.size)
      have HG5 := Lib.hid hg5
      have HO5 := Lib.hid hO5
      clear hsy hf5 hO5 hg4 hg5 hB4 hBr hO hO3 kg hB3 hg3 hon0
      have HBW : Hid (Below w.heap.size w w5) := Lib.hid (HB1.out.trans (hB5.mono HB1.out.size))
      go_wp2
      go_loopw [14, 15] (fun u14 u15 wr => ∃ (m : Nat), m ≤ l.length ∧ m ≤ 20 ∧ u15 = .int .i64 m ∧ u14 = .int .i64 (lastN kl m) ∧ wr = w5) (fun _ u15 _ => (20 - intOf u15).toNat)
      case atStart => exact ⟨0, by omega, by omega, rfl, rfl, rfl⟩
      case round =>
        obtain ⟨m, hm, hm20, rfl, rfl, rfl⟩ := hrel
        by_cases hml : m < l.length ∧ m < 20
        · obtain ⟨hml, hm2⟩ := hml
          by_cases hmk : m < kl.length
          · have hx := List.getElem?_eq_getElem hmk
            generalize kl[m] = x at hx
            have hgd : kl.getD m false = x := by rw [List.getD_eq_getElem?_getD, hx]; rfl
            obtain ⟨kb, ko, rfl, kcell⟩ := (HK.out.below HBW.out).get hx
            have hmi : (0 : Int) ≤ (m : Int) ∧ (m : Int) < (kl.length : Int) := by omega
            cases x with
            | true =>
              have hls : Hid (lastN kl (m + 1) = (m : Int)) := by show _ = _; rw [lastN_succ, hgd]; rfl
              clear hx hgd
              go_wp2
              go_roundw
              case rel => exact ⟨m + 1, by omega, by omega, by go_num, by rw [hls.out], trivial⟩
              case measure => simp [intOf]; omega
            | false =>
              have hls : Hid (lastN kl (m + 1) = lastN kl m) := by show _ = _; rw [lastN_succ, hgd]; rfl
              clear hx hgd
              go_wp2
              go_roundw
              case rel => exact ⟨m + 1, by omega, by omega, by go_num, by rw [hls.out], trivial⟩
              case measure => simp [intOf]; omega
          · have hgd : kl.getD m false = false := by rw [List.getD_eq_getElem?_getD, List.getElem?_eq_none (by omega)]; rfl
            have hls : Hid (lastN kl (m + 1) = lastN kl m) := by show _ = _; rw [lastN_succ, hgd]; rfl
            clear hgd
            go_wp2
            go_roundw
            case rel => exact ⟨m + 1, by omega, by omega, by go_num, by rw [hls.out], trivial⟩
            case measure => simp [intOf]; omega
        · have hmin : m = min l.length 20 := by omega
          have HM := Lib.hid hmin
          have HLAST : Hid (lastN kl m = lastN kl m) := rfl
          generalize hlast : lastN kl m = last at HLAST
          have HLS := Lib.hid hlast
          clear HLAST
          by_cases hm3 : m < l.length
          · obtain rfl : m = 20 := by omega
            clear hmin
            go_wp2
            go_loopw [16, 17] (fun u16 u17 wr => ∃ (q : Nat) (D : DiskD) (bw : List UInt8), q ≤ l.length ∧ q ≤ 20 ∧ u17 = .int .i64 q ∧ OwnF wr B k D (Bes w1.heap.size g) ∧ Hid (CrI k b (fitW l k) q D) ∧ Hid (bw.length = k ∧ bw = wantC b torn last kl (fitW l k) q) ∧ Blk wr g (bcs bw).toArray 5 ∧ wr.ownsRow (g + 1) 3 1 u16 (keptN kl q).length ((keptN kl q).reverse.map (fun i : Nat => Value.int .i64 (i : Int))) ∧ Below w1.heap.size w1 wr) (fun _ u17 _ => (20 - intOf u17).toNat)
            case atStart => exact ⟨0, D2, b, by omega, by omega, rfl, HO5.out, HCR, Lib.hid ⟨hbl.out, rfl⟩, HG5.out, World.ownsRow_nil _ _ _ _, hB5⟩
            case round =>
              obtain ⟨q, D, bw, hq, hq20, rfl, hO, hcr, hbw, hgr, hrow, hBr⟩ := hrel
              rename World => wr
              have hgl := hgr.lt
              have hkq := keptN_len kl q
              by_cases hql : q < l.length ∧ q < 20
              · obtain ⟨hql, hq2⟩ := hql
                have hBw := HB1.out.trans (hBr.mono HB1.out.size)
                have hx := List.getElem?_eq_getElem hql
                generalize l[q] = x at hx
                obtain ⟨lb, lo, rfl, c0, c1, c2, hxi, hxs⟩ := (HL.out.below' hBw).get hx
                have hfi := fits_any x k hN.out.2 hxi wr
                have hle := fit_le x k
                have hfW := fitW_at (n := k) hx
                have hki : (0 : Int) ≤ (q : Int) ∧ (q : Int) < (l.length : Int) := by omega
                generalize fitO x k = o at hfi hle hfW
                generalize fitS x k = s at hfi hle hfW
                obtain ⟨xo, xs, xb⟩ := x
                simp only at c0 c1 c2 hfi
                clear hx hxi hxs
                go_wp2_with fail
                refine hfi.mono ?_
                rintro e w6 ⟨rfl, hB6⟩
                have hO6 := hO.below hB6
                have hg6 := hgr.below hB6 hgl
                have hrow6 := owned_kept hrow (fun i hi => hB6.block i (hrow.lt i hi).2)
                have hB6r := hBr.trans (hB6.mono hBr.size)
                have hA7 : Below w6.heap.size w6 (w6.alloc (.cells #[.int .i64 (o : Nat), .string s, .bool xb] 53)) := (Below.refl _ _).alloc (Nat.le_refl _) _
                have kA7 := Blk.new w6 #[.int .i64 (o : Nat), .string s, .bool xb] 53
                have hrow7 := owned_kept hrow6 (fun i hi => hA7.block i (hrow6.lt i hi).2)
                have hO7 := ((hO6.below hA7).away kA7 (by decide) (by decide) (by decide)).awayRow hrow7 (by decide) (by decide) (by decide)
                have hg7 := hg6.below hA7 hg6.lt
                have hB7 := hB6r.trans (hA7.mono hB6r.size)
                have hs7 : (w6.alloc (.cells #[.int .i64 (o : Nat), .string s, .bool xb] 53)).heap.size = w6.heap.size + 1 := by simp
                have hAl : g < w6.heap.size := hg6.lt
                have hz7 := hB6r.size
                have a0 := kA7.cell 0
                have a1 := kA7.cell 1
                simp only [List.getElem?_toArray, List.getElem?_cons_succ, List.getElem?_cons_zero] at a0 a1
                have hpl := hcr.out.len
                have hwr := write_F hO7 (fun i hi => ⟨⟨⟨by omega, by omega⟩, by omega⟩, fun e => by have := (hrow7.lt i e).2; omega⟩) (by omega) (o : Nat) s
                have hrg : ∀ i, Value.ownBlock _ = some i → i ≠ g := fun i hi e => by have := (hrow7.lt i hi).1; omega
                have hrA : ∀ i, Value.ownBlock _ = some i → i ≠ w6.heap.size := fun i hi e => by have := (hrow6.lt i hi).2; omega
                obtain ⟨e1, cr1⟩ := hcr.out.write hfW hle
                rw [e1] at hwr
                have HCR1 := Lib.hid cr1
                clear hfi c0 c1 c2 hO6 hg6 hrow6 hB6 hB6r hO hgr hrow hs7 hA7 e1 cr1
                generalize writeD D (o : Nat) s = D1 at *
                go_wp2_with fail
                generalize w6.alloc (.cells #[.int .i64 (o : Nat), .string s, .bool xb] 53) = W7 at *
                refine hwr.mono ?_
                rintro e w8 ⟨rfl, hO8, hf8⟩
                have hg8 := hg7.frm hf8 (fun h => h.1.1.2 rfl)
                have kA8 := kA7.frm hf8 (fun h => h.1.2 rfl)
                have hrow8 := owned_kept hrow7 (fun i hi => hf8.block i (hrow7.lt i hi).2 (fun h => h.2 hi))
                have hB8 := hB7.trans (hf8.below (B := w1.heap.size) hB7.size (fun i h => h.1.1.1))
                have hO8' := hO8.mono (G := Bes w1.heap.size g) (fun i _ h => h.1.1)
                clear hwr a0 a1 hO7 hg7 kA7 hrow7 hB7 hf8 hO8
                by_cases hqk : q < kl.length
                · have hx := List.getElem?_eq_getElem hqk
                  generalize kl[q] = x at hx
                  have hgd : kl.getD q false = x := by rw [List.getD_eq_getElem?_getD, hx]; rfl
                  obtain ⟨kb, ko, rfl, kcell⟩ := (HK.out.below (HB1.out.trans (hB8.mono HB1.out.size))).get hx
                  have hqi : (0 : Int) ≤ (q : Int) ∧ (q : Int) < (kl.length : Int) := by omega
                  cases x with
                  | true =>
                    obtain ⟨kn1, kn2⟩ := keptN_yes hgd
                    have HKN := Lib.hid (And.intro kn1 kn2)
                    have HPW : Hid (putW torn last (fitW l k) q = if (q : Int) = last then tornW torn ⟨o, s⟩ else ⟨o, s⟩) := by show _ = _; unfold putW; rw [hfW]
                    have HGD := Lib.hid hgd
                    have HBW := hbw
                    have kmi := nums_one (l := (keptN kl q).reverse)
                    clear hx hgd kn1 kn2 hbw
                    have hbase8 : g + 1 ≤ w8.heap.size := hg8.lt
                    by_cases hql : (q : Int) = last
                    · have dq : ((q : Int) == last) = true := by rw [hql]; exact beq_self_eq_true _
                      by_cases htn : 0 ≤ torn
                      · obtain ⟨t, rfl⟩ := Int.eq_ofNat_of_zero_le htn
                        have dt : ((0 : Int) ≤ (t : Int)) = True := eq_true htn
                        have hcut := Lib.hid (fun W => cut22 s t W)
                        have hle' : o + (cutS s (min s.size t)).size ≤ k := by rw [cutS_size _ _ (by omega)]; omega
                        have HPW' : Hid (putW (t : Int) last (fitW l k) q = ⟨o, cutS s (min s.size t)⟩) := by
                          show _ = _
                          rw [HPW.out, if_pos hql]
                          unfold tornW
                          rw [if_pos (by omega)]
                          show WrD.mk o (cutS s (min (Int.toNat (t : Int)) s.size)) = _
                          rw [Int.toNat_natCast, Nat.min_comm]
                        clear HPW hql
                        generalize cutS s (min s.size t) = s2 at *
                        go_wp2_with (at_builtin; refine wpList_prep rfl _ _ rfl (g + 1) hrow8 rfl rfl kmi (by omega) hbase8 ?_; intro v' w9 hown' hb9; have kA9 := kA8.below hb9 kA8.lt; have a2 := kA9.cell 0; have a3 := kA9.cell 1; simp only [List.getElem?_toArray, List.getElem?_cons_succ, List.getElem?_cons_zero] at a2 a3)
                        refine (hcut.out _).mono ?_
                        rintro e wq ⟨rfl, rfl⟩
                        clear hcut
                        have hO9 := hO8'.below hb9
                        have hg9 := hg8.below hb9 hg8.lt
                        have hB9 := hB8.trans (hb9.mono (by have := hB8.size; omega))
                        have hrg9 : ∀ i, Value.ownBlock v' = some i → i ≠ g := fun i hi e => by have := (hown'.lt i hi).1; omega
                        clear hO8' hg8 kA8 hrow8 hB8 hb9 kmi hrg hrA kA9
                        have hput := put_any (n := k) hg9 HBW.out.1 hN.out.2 o s2 hle'
                        go_wp2_with fail
                        refine hput.mono ?_
                        rintro e w10 ⟨rfl, hg10, hf10⟩
                        have hO10 := Lib.hid (hO9.frm hf10 (fun i _ h => h.2))
                        have hown10 := Lib.hid (owned_kept hown' (fun i hi => hf10.block i (hown'.lt i hi).2 (hrg9 i hi)))
                        have hB10 := hB9.trans (hf10.below (B := w1.heap.size) hB9.size (fun i e => by subst e; omega))
                        have HG := Lib.hid hg10
                        have hlen : Hid ((putB bw o (bts s2)).length = k ∧ putB bw o (bts s2) = wantC b t last kl (fitW l k) (q + 1)) := ⟨by rw [putB_len (by rw [HBW.out.1, bts_len]; exact hle'), HBW.out.1], by rw [wantC_yes HGD.out HPW'.out, ← HBW.out.2]⟩
                        clear hput a2 a3 hO9 hown' hB9 hf10 hg10 hg9 hrg9 HPW'
                        go_wp2
                        go_roundw
                        case rel => exact ⟨q + 1, D1, putB bw o (bts s2), by omega, by omega, by go_num, hO10.out, HCR1, hlen, HG.out, by rw [HKN.out.1, HKN.out.2]; exact hown10.out, hB10⟩
                        case measure => simp [intOf]; omega
                      · have dt : (0 ≤ torn) = False := eq_false htn
                        have HPW' : Hid (putW torn last (fitW l k) q = ⟨o, s⟩) := by
                          show _ = _
                          rw [HPW.out, if_pos hql]
                          unfold tornW
                          rw [if_neg htn]
                        clear HPW hql htn
                        go_wp2_with (at_builtin; refine wpList_prep rfl _ _ rfl (g + 1) hrow8 rfl rfl kmi (by omega) hbase8 ?_; intro v' w9 hown' hb9; have kA9 := kA8.below hb9 kA8.lt; have a2 := kA9.cell 0; have a3 := kA9.cell 1; simp only [List.getElem?_toArray, List.getElem?_cons_succ, List.getElem?_cons_zero] at a2 a3)
                        have hO9 := hO8'.below hb9
                        have hg9 := hg8.below hb9 hg8.lt
                        have hB9 := hB8.trans (hb9.mono (by have := hB8.size; omega))
                        have hrg9 : ∀ i, Value.ownBlock v' = some i → i ≠ g := fun i hi e => by have := (hown'.lt i hi).1; omega
                        clear hO8' hg8 kA8 hrow8 hB8 hb9 kmi hrg hrA kA9
                        have hput := put_any (n := k) hg9 HBW.out.1 hN.out.2 o s hle
                        refine hput.mono ?_
                        rintro e w10 ⟨rfl, hg10, hf10⟩
                        have hO10 := Lib.hid (hO9.frm hf10 (fun i _ h => h.2))
                        have hown10 := Lib.hid (owned_kept hown' (fun i hi => hf10.block i (hown'.lt i hi).2 (hrg9 i hi)))
                        have hB10 := hB9.trans (hf10.below (B := w1.heap.size) hB9.size (fun i e => by subst e; omega))
                        have HG := Lib.hid hg10
                        have hlen : Hid ((putB bw o (bts s)).length = k ∧ putB bw o (bts s) = wantC b torn last kl (fitW l k) (q + 1)) := ⟨by rw [putB_len (by rw [HBW.out.1, bts_len]; exact hle), HBW.out.1], by rw [wantC_yes HGD.out HPW'.out, ← HBW.out.2]⟩
                        clear hput a2 a3 hO9 hown' hB9 hf10 hg10 hg9 hrg9 HPW'
                        go_wp2
                        go_roundw
                        case rel => exact ⟨q + 1, D1, putB bw o (bts s), by omega, by omega, by go_num, hO10.out, HCR1, hlen, HG.out, by rw [HKN.out.1, HKN.out.2]; exact hown10.out, hB10⟩
                        case measure => simp [intOf]; omega
                    · have dq : ((q : Int) == last) = false := beq_eq_false_iff_ne.2 hql
                      have HPW' : Hid (putW torn last (fitW l k) q = ⟨o, s⟩) := by
                        show _ = _
                        rw [HPW.out, if_neg hql]
                      clear HPW hql
                      go_wp2_with (at_builtin; refine wpList_prep rfl _ _ rfl (g + 1) hrow8 rfl rfl kmi (by omega) hbase8 ?_; intro v' w9 hown' hb9; have kA9 := kA8.below hb9 kA8.lt; have a2 := kA9.cell 0; have a3 := kA9.cell 1; simp only [List.getElem?_toArray, List.getElem?_cons_succ, List.getElem?_cons_zero] at a2 a3)
                      have hO9 := hO8'.below hb9
                      have hg9 := hg8.below hb9 hg8.lt
                      have hB9 := hB8.trans (hb9.mono (by have := hB8.size; omega))
                      have hrg9 : ∀ i, Value.ownBlock v' = some i → i ≠ g := fun i hi e => by have := (hown'.lt i hi).1; omega
                      clear hO8' hg8 kA8 hrow8 hB8 hb9 kmi hrg hrA kA9
                      have hput := put_any (n := k) hg9 HBW.out.1 hN.out.2 o s hle
                      refine hput.mono ?_
                      rintro e w10 ⟨rfl, hg10, hf10⟩
                      have hO10 := Lib.hid (hO9.frm hf10 (fun i _ h => h.2))
                      have hown10 := Lib.hid (owned_kept hown' (fun i hi => hf10.block i (hown'.lt i hi).2 (hrg9 i hi)))
                      have hB10 := hB9.trans (hf10.below (B := w1.heap.size) hB9.size (fun i e => by subst e; omega))
                      have HG := Lib.hid hg10
                      have hlen : Hid ((putB bw o (bts s)).length = k ∧ putB bw o (bts s) = wantC b torn last kl (fitW l k) (q + 1)) := ⟨by rw [putB_len (by rw [HBW.out.1, bts_len]; exact hle), HBW.out.1], by rw [wantC_yes HGD.out HPW'.out, ← HBW.out.2]⟩
                      clear hput a2 a3 hO9 hown' hB9 hf10 hg10 hg9 hrg9 HPW'
                      go_wp2
                      go_roundw
                      case rel => exact ⟨q + 1, D1, putB bw o (bts s), by omega, by omega, by go_num, hO10.out, HCR1, hlen, HG.out, by rw [HKN.out.1, HKN.out.2]; exact hown10.out, hB10⟩
                      case measure => simp [intOf]; omega
                  | false =>
                    have hno := wantC_no (b0 := b) (torn := torn) (last := last) (f := fitW l k) hgd
                    have HNO := Lib.hid (And.intro (keptN_no hgd) hno)
                    have HR := Lib.hid hrow8
                    have HG := Lib.hid hg8
                    have HO8 := Lib.hid hO8'
                    clear hx hgd hno hrow8 hg8 hO8' kA8
                    go_wp2
                    go_roundw
                    case rel => exact ⟨q + 1, D1, bw, by omega, by omega, by go_num, HO8.out, HCR1, Lib.hid ⟨hbw.out.1, by rw [HNO.out.2]; exact hbw.out.2⟩, HG.out, by rw [HNO.out.1]; exact HR.out, hB8⟩
                    case measure => simp [intOf]; omega
                · have hgd : kl.getD q false = false := by rw [List.getD_eq_getElem?_getD, List.getElem?_eq_none (by omega)]; rfl
                  have hno := wantC_no (b0 := b) (torn := torn) (last := last) (f := fitW l k) hgd
                  have HNO := Lib.hid (And.intro (keptN_no hgd) hno)
                  have HR := Lib.hid hrow8
                  have HG := Lib.hid hg8
                  have HO8 := Lib.hid hO8'
                  clear hgd hno hrow8 hg8 hO8' kA8
                  go_wp2
                  go_roundw
                  case rel => exact ⟨q + 1, D1, bw, by omega, by omega, by go_num, HO8.out, HCR1, Lib.hid ⟨hbw.out.1, by rw [HNO.out.2]; exact hbw.out.2⟩, HG.out, by rw [HNO.out.1]; exact HR.out, hB8⟩
                  case measure => simp [intOf]; omega
              · obtain rfl : q = 20 := by have := HM.out; omega
                clear hgl hkq
                have hO' := hO.awayRow hrow (by decide) (by decide) (by decide)
                have hia : IntsAt wr _ ((keptN kl 20).reverse.map fun i : Nat => (i : Int)) := owned_slice (by rw [List.map_map, List.length_map, List.length_reverse]; exact hrow)
                obtain ⟨na, nc, rfl, hn1, hn2⟩ := owned_len hrow
                have hcra := crash_f hO' _ _ hia (by rw [List.length_map, List.length_reverse]; have := keptN_len kl 20; omega) torn
                have on2 := on_crash hcr.out.on ((keptN kl 20).reverse.map fun i : Nat => (i : Int)) torn
                have hcb := crash_bytes (kl := kl) torn hcr.out.dur hcr.out.pend
                obtain ⟨r1, r2⟩ := on_read on2
                have hvis : (crashD D ((keptN kl 20).reverse.map fun i : Nat => (i : Int)) torn).vis = bw := by
                  rw [hbw.out.2, ← HLS.out]; exact hcb
                rw [hvis] at r2
                have HR := Lib.hid (And.intro r1 r2)
                clear hO hO' hrow hia on2 hcb r1 r2 hvis
                generalize crashD D ((keptN kl 20).reverse.map fun i : Nat => (i : Int)) torn = Dc at *
                go_wp2_with fail
                refine hcra.mono ?_
                rintro e w6 ⟨rfl, hO6, hf6⟩
                have hg6 := hgr.frm hf6 (fun h => h.1.2 rfl)
                have hB6 := hBr.trans (hf6.below (B := w1.heap.size) hBr.size (fun i h => h.1.1))
                have hr6 := read_f hO6 0 k
                rw [HR.out.1, HR.out.2] at hr6
                have hcv := conv_all hg6 hbw.out.1
                clear hcra hf6 hO6 hgr hBr
                go_wp2_with fail
                refine hr6.mono ?_
                rintro e wq ⟨rfl, rfl⟩
                go_wp2
                go_ret
                exact ⟨rfl, HB1.out.trans (hB6.mono HB1.out.size)⟩
          · obtain rfl : m = l.length := by omega
            clear hmin
            go_wp2
            go_loopw [16, 17] (fun u16 u17 wr => ∃ (q : Nat) (D : DiskD) (bw : List UInt8), q ≤ l.length ∧ q ≤ 20 ∧ u17 = .int .i64 q ∧ OwnF wr B k D (Bes w1.heap.size g) ∧ Hid (CrI k b (fitW l k) q D) ∧ Hid (bw.length = k ∧ bw = wantC b torn last kl (fitW l k) q) ∧ Blk wr g (bcs bw).toArray 5 ∧ wr.ownsRow (g + 1) 3 1 u16 (keptN kl q).length ((keptN kl q).reverse.map (fun i : Nat => Value.int .i64 (i : Int))) ∧ Below w1.heap.size w1 wr) (fun _ u17 _ => (20 - intOf u17).toNat)
            case atStart => exact ⟨0, D2, b, by omega, by omega, rfl, HO5.out, HCR, Lib.hid ⟨hbl.out, rfl⟩, HG5.out, World.ownsRow_nil _ _ _ _, hB5⟩
            case round =>
              obtain ⟨q, D, bw, hq, hq20, rfl, hO, hcr, hbw, hgr, hrow, hBr⟩ := hrel
              rename World => wr
              have hgl := hgr.lt
              have hkq := keptN_len kl q
              by_cases hql : q < l.length ∧ q < 20
              · obtain ⟨hql, hq2⟩ := hql
                have hBw := HB1.out.trans (hBr.mono HB1.out.size)
                have hx := List.getElem?_eq_getElem hql
                generalize l[q] = x at hx
                obtain ⟨lb, lo, rfl, c0, c1, c2, hxi, hxs⟩ := (HL.out.below' hBw).get hx
                have hfi := fits_any x k hN.out.2 hxi wr
                have hle := fit_le x k
                have hfW := fitW_at (n := k) hx
                have hki : (0 : Int) ≤ (q : Int) ∧ (q : Int) < (l.length : Int) := by omega
                generalize fitO x k = o at hfi hle hfW
                generalize fitS x k = s at hfi hle hfW
                obtain ⟨xo, xs, xb⟩ := x
                simp only at c0 c1 c2 hfi
                clear hx hxi hxs
                go_wp2_with fail
                refine hfi.mono ?_
                rintro e w6 ⟨rfl, hB6⟩
                have hO6 := hO.below hB6
                have hg6 := hgr.below hB6 hgl
                have hrow6 := owned_kept hrow (fun i hi => hB6.block i (hrow.lt i hi).2)
                have hB6r := hBr.trans (hB6.mono hBr.size)
                have hA7 : Below w6.heap.size w6 (w6.alloc (.cells #[.int .i64 (o : Nat), .string s, .bool xb] 53)) := (Below.refl _ _).alloc (Nat.le_refl _) _
                have kA7 := Blk.new w6 #[.int .i64 (o : Nat), .string s, .bool xb] 53
                have hrow7 := owned_kept hrow6 (fun i hi => hA7.block i (hrow6.lt i hi).2)
                have hO7 := ((hO6.below hA7).away kA7 (by decide) (by decide) (by decide)).awayRow hrow7 (by decide) (by decide) (by decide)
                have hg7 := hg6.below hA7 hg6.lt
                have hB7 := hB6r.trans (hA7.mono hB6r.size)
                have hs7 : (w6.alloc (.cells #[.int .i64 (o : Nat), .string s, .bool xb] 53)).heap.size = w6.heap.size + 1 := by simp
                have hAl : g < w6.heap.size := hg6.lt
                have hz7 := hB6r.size
                have a0 := kA7.cell 0
                have a1 := kA7.cell 1
                simp only [List.getElem?_toArray, List.getElem?_cons_succ, List.getElem?_cons_zero] at a0 a1
                have hpl := hcr.out.len
                have hwr := write_F hO7 (fun i hi => ⟨⟨⟨by omega, by omega⟩, by omega⟩, fun e => by have := (hrow7.lt i e).2; omega⟩) (by omega) (o : Nat) s
                have hrg : ∀ i, Value.ownBlock _ = some i → i ≠ g := fun i hi e => by have := (hrow7.lt i hi).1; omega
                have hrA : ∀ i, Value.ownBlock _ = some i → i ≠ w6.heap.size := fun i hi e => by have := (hrow6.lt i hi).2; omega
                obtain ⟨e1, cr1⟩ := hcr.out.write hfW hle
                rw [e1] at hwr
                have HCR1 := Lib.hid cr1
                clear hfi c0 c1 c2 hO6 hg6 hrow6 hB6 hB6r hO hgr hrow hs7 hA7 e1 cr1
                generalize writeD D (o : Nat) s = D1 at *
                go_wp2_with fail
                generalize w6.alloc (.cells #[.int .i64 (o : Nat), .string s, .bool xb] 53) = W7 at *
                refine hwr.mono ?_
                rintro e w8 ⟨rfl, hO8, hf8⟩
                have hg8 := hg7.frm hf8 (fun h => h.1.1.2 rfl)
                have kA8 := kA7.frm hf8 (fun h => h.1.2 rfl)
                have hrow8 := owned_kept hrow7 (fun i hi => hf8.block i (hrow7.lt i hi).2 (fun h => h.2 hi))
                have hB8 := hB7.trans (hf8.below (B := w1.heap.size) hB7.size (fun i h => h.1.1.1))
                have hO8' := hO8.mono (G := Bes w1.heap.size g) (fun i _ h => h.1.1)
                clear hwr a0 a1 hO7 hg7 kA7 hrow7 hB7 hf8 hO8
                by_cases hqk : q < kl.length
                · have hx := List.getElem?_eq_getElem hqk
                  generalize kl[q] = x at hx
                  have hgd : kl.getD q false = x := by rw [List.getD_eq_getElem?_getD, hx]; rfl
                  obtain ⟨kb, ko, rfl, kcell⟩ := (HK.out.below (HB1.out.trans (hB8.mono HB1.out.size))).get hx
                  have hqi : (0 : Int) ≤ (q : Int) ∧ (q : Int) < (kl.length : Int) := by omega
                  cases x with
                  | true =>
                    obtain ⟨kn1, kn2⟩ := keptN_yes hgd
                    have HKN := Lib.hid (And.intro kn1 kn2)
                    have HPW : Hid (putW torn last (fitW l k) q = if (q : Int) = last then tornW torn ⟨o, s⟩ else ⟨o, s⟩) := by show _ = _; unfold putW; rw [hfW]
                    have HGD := Lib.hid hgd
                    have HBW := hbw
                    have kmi := nums_one (l := (keptN kl q).reverse)
                    clear hx hgd kn1 kn2 hbw
                    have hbase8 : g + 1 ≤ w8.heap.size := hg8.lt
                    by_cases hql : (q : Int) = last
                    · have dq : ((q : Int) == last) = true := by rw [hql]; exact beq_self_eq_true _
                      by_cases htn : 0 ≤ torn
                      · obtain ⟨t, rfl⟩ := Int.eq_ofNat_of_zero_le htn
                        have dt : ((0 : Int) ≤ (t : Int)) = True := eq_true htn
                        have hcut := Lib.hid (fun W => cut22 s t W)
                        have hle' : o + (cutS s (min s.size t)).size ≤ k := by rw [cutS_size _ _ (by omega)]; omega
                        have HPW' : Hid (putW (t : Int) last (fitW l k) q = ⟨o, cutS s (min s.size t)⟩) := by
                          show _ = _
                          rw [HPW.out, if_pos hql]
                          unfold tornW
                          rw [if_pos (by omega)]
                          show WrD.mk o (cutS s (min (Int.toNat (t : Int)) s.size)) = _
                          rw [Int.toNat_natCast, Nat.min_comm]
                        clear HPW hql
                        generalize cutS s (min s.size t) = s2 at *
                        go_wp2_with (at_builtin; refine wpList_prep rfl _ _ rfl (g + 1) hrow8 rfl rfl kmi (by omega) hbase8 ?_; intro v' w9 hown' hb9; have kA9 := kA8.below hb9 kA8.lt; have a2 := kA9.cell 0; have a3 := kA9.cell 1; simp only [List.getElem?_toArray, List.getElem?_cons_succ, List.getElem?_cons_zero] at a2 a3)
                        refine (hcut.out _).mono ?_
                        rintro e wq ⟨rfl, rfl⟩
                        clear hcut
                        have hO9 := hO8'.below hb9
                        have hg9 := hg8.below hb9 hg8.lt
                        have hB9 := hB8.trans (hb9.mono (by have := hB8.size; omega))
                        have hrg9 : ∀ i, Value.ownBlock v' = some i → i ≠ g := fun i hi e => by have := (hown'.lt i hi).1; omega
                        clear hO8' hg8 kA8 hrow8 hB8 hb9 kmi hrg hrA kA9
                        have hput := put_any (n := k) hg9 HBW.out.1 hN.out.2 o s2 hle'
                        go_wp2_with fail
                        refine hput.mono ?_
                        rintro e w10 ⟨rfl, hg10, hf10⟩
                        have hO10 := Lib.hid (hO9.frm hf10 (fun i _ h => h.2))
                        have hown10 := Lib.hid (owned_kept hown' (fun i hi => hf10.block i (hown'.lt i hi).2 (hrg9 i hi)))
                        have hB10 := hB9.trans (hf10.below (B := w1.heap.size) hB9.size (fun i e => by subst e; omega))
                        have HG := Lib.hid hg10
                        have hlen : Hid ((putB bw o (bts s2)).length = k ∧ putB bw o (bts s2) = wantC b t last kl (fitW l k) (q + 1)) := ⟨by rw [putB_len (by rw [HBW.out.1, bts_len]; exact hle'), HBW.out.1], by rw [wantC_yes HGD.out HPW'.out, ← HBW.out.2]⟩
                        clear hput a2 a3 hO9 hown' hB9 hf10 hg10 hg9 hrg9 HPW'
                        go_wp2
                        go_roundw
                        case rel => exact ⟨q + 1, D1, putB bw o (bts s2), by omega, by omega, by go_num, hO10.out, HCR1, hlen, HG.out, by rw [HKN.out.1, HKN.out.2]; exact hown10.out, hB10⟩
                        case measure => simp [intOf]; omega
                      · have dt : (0 ≤ torn) = False := eq_false htn
                        have HPW' : Hid (putW torn last (fitW l k) q = ⟨o, s⟩) := by
                          show _ = _
                          rw [HPW.out, if_pos hql]
                          unfold tornW
                          rw [if_neg htn]
                        clear HPW hql htn
                        go_wp2_with (at_builtin; refine wpList_prep rfl _ _ rfl (g + 1) hrow8 rfl rfl kmi (by omega) hbase8 ?_; intro v' w9 hown' hb9; have kA9 := kA8.below hb9 kA8.lt; have a2 := kA9.cell 0; have a3 := kA9.cell 1; simp only [List.getElem?_toArray, List.getElem?_cons_succ, List.getElem?_cons_zero] at a2 a3)
                        have hO9 := hO8'.below hb9
                        have hg9 := hg8.below hb9 hg8.lt
                        have hB9 := hB8.trans (hb9.mono (by have := hB8.size; omega))
                        have hrg9 : ∀ i, Value.ownBlock v' = some i → i ≠ g := fun i hi e => by have := (hown'.lt i hi).1; omega
                        clear hO8' hg8 kA8 hrow8 hB8 hb9 kmi hrg hrA kA9
                        have hput := put_any (n := k) hg9 HBW.out.1 hN.out.2 o s hle
                        refine hput.mono ?_
                        rintro e w10 ⟨rfl, hg10, hf10⟩
                        have hO10 := Lib.hid (hO9.frm hf10 (fun i _ h => h.2))
                        have hown10 := Lib.hid (owned_kept hown' (fun i hi => hf10.block i (hown'.lt i hi).2 (hrg9 i hi)))
                        have hB10 := hB9.trans (hf10.below (B := w1.heap.size) hB9.size (fun i e => by subst e; omega))
                        have HG := Lib.hid hg10
                        have hlen : Hid ((putB bw o (bts s)).length = k ∧ putB bw o (bts s) = wantC b torn last kl (fitW l k) (q + 1)) := ⟨by rw [putB_len (by rw [HBW.out.1, bts_len]; exact hle), HBW.out.1], by rw [wantC_yes HGD.out HPW'.out, ← HBW.out.2]⟩
                        clear hput a2 a3 hO9 hown' hB9 hf10 hg10 hg9 hrg9 HPW'
                        go_wp2
                        go_roundw
                        case rel => exact ⟨q + 1, D1, putB bw o (bts s), by omega, by omega, by go_num, hO10.out, HCR1, hlen, HG.out, by rw [HKN.out.1, HKN.out.2]; exact hown10.out, hB10⟩
                        case measure => simp [intOf]; omega
                    · have dq : ((q : Int) == last) = false := beq_eq_false_iff_ne.2 hql
                      have HPW' : Hid (putW torn last (fitW l k) q = ⟨o, s⟩) := by
                        show _ = _
                        rw [HPW.out, if_neg hql]
                      clear HPW hql
                      go_wp2_with (at_builtin; refine wpList_prep rfl _ _ rfl (g + 1) hrow8 rfl rfl kmi (by omega) hbase8 ?_; intro v' w9 hown' hb9; have kA9 := kA8.below hb9 kA8.lt; have a2 := kA9.cell 0; have a3 := kA9.cell 1; simp only [List.getElem?_toArray, List.getElem?_cons_succ, List.getElem?_cons_zero] at a2 a3)
                      have hO9 := hO8'.below hb9
                      have hg9 := hg8.below hb9 hg8.lt
                      have hB9 := hB8.trans (hb9.mono (by have := hB8.size; omega))
                      have hrg9 : ∀ i, Value.ownBlock v' = some i → i ≠ g := fun i hi e => by have := (hown'.lt i hi).1; omega
                      clear hO8' hg8 kA8 hrow8 hB8 hb9 kmi hrg hrA kA9
                      have hput := put_any (n := k) hg9 HBW.out.1 hN.out.2 o s hle
                      refine hput.mono ?_
                      rintro e w10 ⟨rfl, hg10, hf10⟩
                      have hO10 := Lib.hid (hO9.frm hf10 (fun i _ h => h.2))
                      have hown10 := Lib.hid (owned_kept hown' (fun i hi => hf10.block i (hown'.lt i hi).2 (hrg9 i hi)))
                      have hB10 := hB9.trans (hf10.below (B := w1.heap.size) hB9.size (fun i e => by subst e; omega))
                      have HG := Lib.hid hg10
                      have hlen : Hid ((putB bw o (bts s)).length = k ∧ putB bw o (bts s) = wantC b torn last kl (fitW l k) (q + 1)) := ⟨by rw [putB_len (by rw [HBW.out.1, bts_len]; exact hle), HBW.out.1], by rw [wantC_yes HGD.out HPW'.out, ← HBW.out.2]⟩
                      clear hput a2 a3 hO9 hown' hB9 hf10 hg10 hg9 hrg9 HPW'
                      go_wp2
                      go_roundw
                      case rel => exact ⟨q + 1, D1, putB bw o (bts s), by omega, by omega, by go_num, hO10.out, HCR1, hlen, HG.out, by rw [HKN.out.1, HKN.out.2]; exact hown10.out, hB10⟩
                      case measure => simp [intOf]; omega
                  | false =>
                    have hno := wantC_no (b0 := b) (torn := torn) (last := last) (f := fitW l k) hgd
                    have HNO := Lib.hid (And.intro (keptN_no hgd) hno)
                    have HR := Lib.hid hrow8
                    have HG := Lib.hid hg8
                    have HO8 := Lib.hid hO8'
                    clear hx hgd hno hrow8 hg8 hO8' kA8
                    go_wp2
                    go_roundw
                    case rel => exact ⟨q + 1, D1, bw, by omega, by omega, by go_num, HO8.out, HCR1, Lib.hid ⟨hbw.out.1, by rw [HNO.out.2]; exact hbw.out.2⟩, HG.out, by rw [HNO.out.1]; exact HR.out, hB8⟩
                    case measure => simp [intOf]; omega
                · have hgd : kl.getD q false = false := by rw [List.getD_eq_getElem?_getD, List.getElem?_eq_none (by omega)]; rfl
                  have hno := wantC_no (b0 := b) (torn := torn) (last := last) (f := fitW l k) hgd
                  have HNO := Lib.hid (And.intro (keptN_no hgd) hno)
                  have HR := Lib.hid hrow8
                  have HG := Lib.hid hg8
                  have HO8 := Lib.hid hO8'
                  clear hgd hno hrow8 hg8 hO8' kA8
                  go_wp2
                  go_roundw
                  case rel => exact ⟨q + 1, D1, bw, by omega, by omega, by go_num, HO8.out, HCR1, Lib.hid ⟨hbw.out.1, by rw [HNO.out.2]; exact hbw.out.2⟩, HG.out, by rw [HNO.out.1]; exact HR.out, hB8⟩
                  case measure => simp [intOf]; omega
              · obtain rfl : q = l.length := by have := HM.out; omega
                clear hgl hkq
                have hO' := hO.awayRow hrow (by decide) (by decide) (by decide)
                have hia : IntsAt wr _ ((keptN kl l.length).reverse.map fun i : Nat => (i : Int)) := owned_slice (by rw [List.map_map, List.length_map, List.length_reverse]; exact hrow)
                obtain ⟨na, nc, rfl, hn1, hn2⟩ := owned_len hrow
                have hcra := crash_f hO' _ _ hia (by rw [List.length_map, List.length_reverse]; have := keptN_len kl l.length; omega) torn
                have on2 := on_crash hcr.out.on ((keptN kl l.length).reverse.map fun i : Nat => (i : Int)) torn
                have hcb := crash_bytes (kl := kl) torn hcr.out.dur hcr.out.pend
                obtain ⟨r1, r2⟩ := on_read on2
                have hvis : (crashD D ((keptN kl l.length).reverse.map fun i : Nat => (i : Int)) torn).vis = bw := by
                  rw [hbw.out.2, ← HLS.out]; exact hcb
                rw [hvis] at r2
                have HR := Lib.hid (And.intro r1 r2)
                clear hO hO' hrow hia on2 hcb r1 r2 hvis
                generalize crashD D ((keptN kl l.length).reverse.map fun i : Nat => (i : Int)) torn = Dc at *
                go_wp2_with fail
                refine hcra.mono ?_
                rintro e w6 ⟨rfl, hO6, hf6⟩
                have hg6 := hgr.frm hf6 (fun h => h.1.2 rfl)
                have hB6 := hBr.trans (hf6.below (B := w1.heap.size) hBr.size (fun i h => h.1.1))
                have hr6 := read_f hO6 0 k
                rw [HR.out.1, HR.out.2] at hr6
                have hcv := conv_all hg6 hbw.out.1
                clear hcra hf6 hO6 hgr hBr
                go_wp2_with fail
                refine hr6.mono ?_
                rintro e wq ⟨rfl, rfl⟩
                go_wp2
                go_ret
                exact ⟨rfl, HB1.out.trans (hB6.mono HB1.out.size)⟩
end Go.Proofs.Ytfmdpmcniccioaa
