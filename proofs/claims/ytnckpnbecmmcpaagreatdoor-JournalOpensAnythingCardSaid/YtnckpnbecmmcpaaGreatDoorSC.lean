/- package digest: Sum. -/
import Derived.Test.YtnckpnbecmmcpaaGreatDoorSB
namespace Go.Proofs.YtnckpnbecmmcpaaGreatDoor
open Go.RowKit
theorem blk_turn {W W' : World} {zs : Nat → Prop} {D B : Nat} {cs : Array Value} {t : TypeId} (h : Blk W B cs t) (ht : Turn zs D W W') (hz : ¬ zs B) : Blk W' B cs t := ht.heap h hz (.inr rfl)
theorem cell_turn {W W' : World} {zs : Nat → Prop} {D b o : Nat} {v : Value} (hc : W.cell? ⟨b, o, none⟩ = some v) (ht : Turn zs D W W') (hz : ¬ zs b) : W'.cell? ⟨b, o, none⟩ = some v := by
  have hb := World.block_lt_of_cell? _ _ hc
  have e2 := ht.block b hb hz (by
    right
    unfold World.cell? at hc
    simp only at hc
    split at hc
    · rename_i cs t fr hh
      exact ⟨_, hh, rfl⟩
    · cases hc)
  unfold World.cell? at hc ⊢
  simp only at hc ⊢
  rw [e2]; exact hc
theorem bytes_turn {W W' : World} {zs : Nat → Prop} {D : Nat} {v : Value} {l : List UInt8} (h : BytesAt W v l) (ht : Turn zs D W W') (hz : ∀ k, v.ownBlock = some k → ¬ zs k) : BytesAt W' v l := by
  obtain ⟨a, cap, e, h1, h2, h3⟩ := h
  refine ⟨a, cap, e, h1, h2, fun hp => ?_⟩
  obtain ⟨b, o, e', h4⟩ := h3 hp
  refine ⟨b, o, e', fun j y hj => cell_turn (h4 j y hj) ht (hz b (by rw [e, e']; rfl))⟩
theorem cell_raw {W : World} {g : Nat} {cs : Array Value} {t : TypeId} {fr : Nat × Nat} (h : W.heap[g]? = some (.cells cs t fr)) (j : Nat) : W.cell? ⟨g, j, none⟩ = cs[j]? := by simp [World.cell?, h]
theorem frozen_raw {W : World} {g : Nat} {cs : Array Value} {t : TypeId} {fr : Nat × Nat} (h : W.heap[g]? = some (.cells cs t fr)) {j : Nat} (hj : j < fr.1) : W.frozen? ⟨g, j, none⟩ = false := by
  simp [World.frozen?, h]
  omega
theorem conv_own (w : World) (s : ByteArray) (hs : s.size ≤ 100000) : ∃ cap W', (convert 9 39 (.string s)).run Tryz.prog w = .ok (.slice (some ⟨w.heap.size, 0, none⟩) s.size cap) W' ∧ OwnX W' w.heap.size (.slice (some ⟨w.heap.size, 0, none⟩) s.size cap) (bytesI s) ∧ Below w.heap.size w W' := by
  have hr := run_bytes_of_string (P := Tryz.prog) w 9 39 5 s Tryz.underlying9 Tryz.underlying39 Tryz.underlying5
  have hge := grownCap_ge w s.size 0 5
  have hle := grownCap_le_maxLen w s.size 0 5 (by unfold maxLen; omega)
  generalize grownCap w s.size 0 5 = cap at hr hge hle
  refine ⟨cap, _, hr, ?_, (Below.refl _ _).drew.alloc (Nat.le_refl _) _⟩
  have hsz : (bytesRow s cap).size = cap := by unfold bytesRow; simp; omega
  have hbl := bytesI_len s
  have hnew : (w.drew.alloc (.cells (bytesRow s cap) 5 ((bytesRow s cap).size, (bytesRow s cap).size + 1))).heap[w.heap.size]? = some (.cells (bytesRow s cap) 5 ((bytesRow s cap).size, (bytesRow s cap).size + 1)) := heap_alloc_new w.drew _
  refine ⟨w.heap.size, cap, by rw [hbl], Nat.le_refl _, by omega, hle, fun j x hj => ?_, fun j hj => ⟨?_, ?_⟩⟩
  · rw [cell_raw hnew]
    have hjl : j < s.size := by
      rw [← hbl]
      exact (List.getElem?_eq_some_iff.1 hj).1
    unfold bytesI at hj
    rw [List.getElem?_map] at hj
    unfold bytesRow
    rw [Array.getElem?_append_left (by simpa using hjl), Array.getElem?_map, ← Array.getElem?_toList]
    cases hq : s.data.toList[j]? with
    | none => rw [hq] at hj; cases hj
    | some z => rw [hq] at hj; cases hj; rfl
  · rw [cell_raw hnew, Array.getElem?_eq_getElem (by omega)]; rfl
  · exact frozen_raw hnew (by omega)
attribute [local go_sem] Oper.semAt_some
set_option maxRecDepth 100000 in
set_option maxHeartbeats 4000000 in
theorem sum110 (s : ByteArray) (w : World) (hs : s.size ≤ 100000) (hT : RoundT w) : Calls Tryz.prog 110 #[.string s] w fun e w' => e = .returned (.string (sumS s)) ∧ Below w.heap.size w w' := by
  have hbl := bytesI_len s
  have hpn := padN_le s.size
  have HSP := Lib.hid (padN_spec s.size)
  have HP := Lib.hid (show padL s = bytesI s ++ [128] ++ List.replicate (padN s.size) 0 ++ lenL s.size 8 from rfl)
  have HS := Lib.hid (show sumS s = digS (hashV s (nblk s)) from rfl)
  have HT := Lib.hid hT
  have HNB := Lib.hid (And.intro (nblk_len s) (nblk_le s))
  clear hT
  refine (callsIn_wide (n := 6)).1 ?_
  refine callsIn_of_wp_marks Tryz.func110 rfl trivial ?_ rfl
  simp only [Tryz.ntmps110, List.size_toArray, List.length_cons, List.length_nil, Nat.reduceAdd, Nat.reduceSub, Array.replicate_succ, Array.replicate_zero, List.push_toArray, List.append_toArray, List.nil_append, List.cons_append]
  refine wpIn_wide.2 ?_
  go_upto_region 2 with (fail)
  have kH := Blk.new w (cellsV iv) 193
  have hb1 : Below w.heap.size w (w.alloc (.cells (cellsV iv) 193)) := (Below.refl _ _).alloc (Nat.le_refl _) _
  obtain ⟨w1, hw1⟩ : ∃ w1, w1 = w.alloc (.cells (cellsV iv) 193) := ⟨_, rfl⟩
  have hw1' : w1 = w.alloc (.cells #[.int .u32 1779033703, .int .u32 3144134277, .int .u32 1013904242, .int .u32 2773480762, .int .u32 1359893119, .int .u32 2600822924, .int .u32 528734635, .int .u32 1541459225] 193) := hw1
  rw [← hw1']
  rw [← hw1] at hb1 kH
  clear hw1 hw1'
  obtain ⟨Hb, hHb⟩ : ∃ Hb, w.heap.size = Hb := ⟨_, rfl⟩
  rw [hHb] at kH hb1 ⊢
  obtain ⟨cap0, w2, hcv, hox, hb2⟩ := conv_own w1 s hs
  have hlt1 := kH.lt
  have hB2 := hb1.trans (hb2.mono (hHb ▸ hb1.size))
  have kH2 := kH.below hb2 hlt1
  have hs2 := hb2.size
  obtain ⟨B, hBe⟩ : ∃ B, w1.heap.size = B := ⟨_, rfl⟩
  rw [hBe] at hox hcv hlt1 hs2
  have HO := Lib.hid hox
  have HB2 := Lib.hid hB2
  have HK := Lib.hid kH2
  clear hb1 kH hox hb2 hB2 kH2 hBe
  go_wp2_with (at_builtin; refine wpList_pushX E40 rfl _ _ rfl B HO.out rfl rfl (by omega) hs2 ?_; intro v' w9 hown' hb9)
  have HN0 := Lib.hid (show OwnX w9 B v' (bytesI s ++ [128] ++ List.replicate 0 0) from by rw [List.replicate_zero, List.append_nil]; exact hown')
  clear hown' hcv HO
  go_loopw [4] (fun u4 wr => ∃ m : Nat, m ≤ padN s.size ∧ OwnX wr B u4 (bytesI s ++ [128] ++ List.replicate m 0) ∧ Below B w2 wr ∧ (∃ a cap, u4 = .slice a (s.size + 1 + m) cap)) (fun u4 _ => padN s.size + s.size + 1 - (match u4 with | .slice _ n _ => n | _ => 0))
  case atStart => exact ⟨0, by omega, HN0.out, hb9, by obtain ⟨g, cap, e, -⟩ := HN0.out; rw [e]; exact ⟨some ⟨g, 0, none⟩, cap, by simp [hbl]⟩⟩
  case round =>
    obtain ⟨m, hm, ho, hB, a, cap, rfl⟩ := hrel
    have hsp := HSP.out m hm
    have hlen : (bytesI s ++ [128] ++ List.replicate m (0 : Int)).length = s.size + 1 + m := by simp [hbl]; omega
    obtain ⟨n, hn⟩ : ∃ n, s.size + 1 + m = n := ⟨_, rfl⟩
    have hrem : ((n : Int).tmod 64) = ((n % 64 : Nat) : Int) := by rw [Int.tmod_eq_emod_of_nonneg (by omega)]; omega
    have HO := Lib.hid ho
    rw [hn] at hsp HO hlen ⊢
    clear ho
    by_cases h56 : n % 64 = 56
    · have hme := hsp.1 h56
      have q1 : ((n : Int) % 64 == 56) = true := beq_iff_eq.2 (by omega)
      have hbase : (bytesI s ++ [128] ++ List.replicate (padN s.size) (0 : Int)).length ≤ 100065 := by simp [hbl]; omega
      rw [hme] at HO
      have HO2 := Lib.hid (show OwnX wr B (.slice a n cap) (bytesI s ++ [128] ++ List.replicate (padN s.size) 0 ++ lenL s.size 0) from by
        rw [show lenL s.size 0 = [] from rfl, List.append_nil]; exact HO.out)
      generalize bytesI s ++ [128] ++ List.replicate (padN s.size) (0 : Int) = bb at HO2 HP hbase
      clear hsp hrem hme HO hlen HN0 hb9 h56
      obtain ⟨w5, hren⟩ : ∃ z, z = wr := ⟨_, rfl⟩
      subst hren
      go_wp2
      go_loopw [4, 5] (fun u4 u5 wr => ∃ k : Nat, k ≤ 8 ∧ u5 = .int .i64 (7 - (k : Int)) ∧ OwnX wr B u4 (bb ++ lenL s.size k) ∧ Below B w2 wr) (fun _ u5 _ => (intOf u5 + 1).toNat)
      case atStart => exact ⟨0, by omega, rfl, HO2.out, hB⟩
      case round =>
        obtain ⟨k, hk, hu5, ho, hB⟩ := hrel
        by_cases hk8 : k < 8
        · obtain ⟨z, hz⟩ : ∃ z : Nat, (7 - (k : Int)) = (z : Int) := ⟨7 - k, by omega⟩
          rw [hz] at hu5
          subst hu5
          have z0 : (0 : Int) ≤ (z : Int) := by omega
          have d1 : decide ((0 : Int) ≤ (z : Int)) = true := decide_eq_true z0
          obtain ⟨z8, hz8⟩ : ∃ m, 8 * z = m := ⟨_, rfl⟩
          obtain ⟨n8, hn8⟩ : ∃ m, 8 * s.size = m := ⟨_, rfl⟩
          have e1 : IntKind.i64.wrap (8 * (s.size : Int)) = (n8 : Int) := by rw [wrapS _ (by omega) (by omega)]; omega
          have e2 : IntKind.i64.wrap (8 * (z : Int)) = (z8 : Int) := by rw [wrapS _ (by omega) (by omega)]; omega
          have hwz : IntKind.i64.wrap ((z : Int) - 1) = 7 - ((k + 1 : Nat) : Int) := by rw [wrapS _ (by omega) (by omega)]; omega
          have hmin : min z8 64 = z8 := by omega
          have zz0 : (0 : Int) ≤ (z8 : Int) := by omega
          have HSL := Lib.hid (lenL_succ s.size k)
          have hby : lenB s.size k = (n8 : Int) / 2 ^ z8 % 256 := by
            unfold lenB
            rw [show 8 * (7 - k) = z8 by omega, show 8 * (s.size : Int) = (n8 : Int) by omega]
          have HBY := Lib.hid hby
          have hlen : (bb ++ lenL s.size k).length + 1 ≤ 1000000 := by rw [List.length_append, lenL_len]; omega
          have HO := Lib.hid ho
          obtain ⟨g, cap2, rfl, -⟩ := ho
          have hzk : (z : Int) + (k : Int) = 7 := by omega
          have hBs : B ≤ wr.heap.size := Nat.le_trans hs2 hB.size
          clear hby hz hz8 hn8
          go_wp2_with (at_builtin; refine wpList_pushX E40 rfl _ _ rfl B HO.out rfl rfl hlen hBs ?_; intro v' w9 hown' hb9)
          go_simp
          refine ⟨⟨k + 1, by omega, by omega, ?_, hB.trans hb9⟩, ?_⟩
          · rw [HSL.out, HBY.out, ← List.append_assoc]; exact hown'
          · simp [intOf]; omega
        · have he : k = 8 := by omega
          have hu6 : (7 - (k : Int)) = -1 := by omega
          rw [hu6] at hu5
          subst hu5
          rw [he] at ho
          have HO3 := Lib.hid (show OwnX wr B u4 (padL s) by rw [HP.out]; exact ho)
          clear ho he hu6 HP HO2
          have hnb := HNB.out
          have hpl := padL_len s
          obtain ⟨g0, c0, e0, hBg, -⟩ := HO3.out
          obtain ⟨a, cap, rfl, hle, hcm, hcell⟩ := HO3.out.bytes (padU_int s)
          rw [padU_len] at hle hcell ⊢
          obtain ⟨bk, ok, rfl, hcell2⟩ := hcell (by omega)
          have hne : bk ≠ Hb := by
            injection e0 with e1 _ _
            injection e1 with e2
            injection e2 with e3 _ _
            omega
          clear e0 hBg
          obtain ⟨N, hN⟩ : ∃ N, nblk s = N := ⟨_, rfl⟩
          rw [hN] at hnb HS
          rw [hnb.1] at hle ⊢
          have HY := Lib.hid (show BytesAt wr (.slice (some ⟨bk, ok, none⟩) (64 * N) cap) (padU s) from ⟨_, _, by rw [padU_len, hnb.1], by rw [padU_len, hnb.1]; exact hle, hcm, fun _ => ⟨_, _, rfl, hcell2⟩⟩)
          have hBr := HB2.out.trans (hB.mono (Nat.le_of_lt hlt1))
          have hKr := HK.out.below hB hlt1
          have hHr : Hb < wr.heap.size := hKr.lt
          clear hcell hcell2 HO3 hB HB2 HK hpl
          go_wp2_with (go_at_call 128; refine (chunk128 _ _ _ _).mono ?_; rintro e w' ⟨rfl, rfl⟩)
          refine (wpIn_wide (n := 6)).1 ?_
          obtain ⟨R, hR⟩ : ∃ R, R = (wr.alloc (.cells #[.slice (some ⟨bk, ok, none⟩) (64 * N) cap] 39)).alloc (.cells #[.int .i64 64] 3) := ⟨_, rfl⟩
          have hbR : Below wr.heap.size wr R := by rw [hR]; exact ((Below.refl _ _).alloc (Nat.le_refl _) _).alloc (by simp) _
          have x1 : Boxed R wr.heap.size 39 (.slice (some ⟨bk, ok, none⟩) (64 * N) cap) := by rw [hR]; exact (Boxed.new _ _ _).alloc _
          have x2 : Boxed R (wr.heap.size + 1) 3 (.int .i64 64) := by
            rw [hR]
            have := Boxed.new (wr.alloc (.cells #[.slice (some ⟨bk, ok, none⟩) (64 * N) cap] 39)) 3 (.int .i64 64)
            simpa using this
          have hRs : wr.heap.size + 2 = R.heap.size := by rw [hR]; simp
          rw [← hR]
          have hseq := chunk_seq 5 (by omega) wr.heap.size (wr.heap.size + 1) bk ok N cap R (by omega) hle hcm x1 x2
          have HYR := Lib.hid (SliceOf.below HY.out hbR)
          have kHR := hKr.below hbR hHr
          have hBR := hBr.trans (hbR.mono (Nat.le_of_lt hHr))
          have hTw := HT.out
          have hHs : Hb ≤ R.heap.size := by omega
          clear hR x1 x2 hbR HY hKr hBr HT
          refine wpIn_rangeFunc_Mf (zs := fun _ => False) rfl (by omega) (gf := 143) (lb := #[.pointer (some ⟨wr.heap.size, 0, none⟩), .pointer (some ⟨wr.heap.size + 1, 0, none⟩)]) rfl trivial (enters_of Tryz.func143 (by kernel_rfl) rfl)
            (fun k hk => hk.elim) hseq (fun h k => ⟨k.1.trans h.1, k.2.trans h.2⟩)
            (fun W l o o' hl _ _ _ => ⟨World.putObj_heap_other (by omega), World.putObj_heap_other (by omega)⟩) (Below.refl _ _) (fun _ => rfl)
            (fun pre W => Blk W Hb (cellsV (hashV s pre.length)) 193 ∧ BytesAt W (.slice (some ⟨bk, ok, none⟩) (64 * N) cap) (padU s) ∧ Below Hb w W ∧ R.heap.size ≤ W.heap.size)
            (fun _ _ _ => False)
            (fun s A B hs ht => ⟨blk_turn hs.1 ht (fun h => h), bytes_turn hs.2.1 ht (fun _ _ h => h), ht.below hs.2.2.1 (Nat.le_of_eq hHb.symm) hHs (fun _ _ h => h), Nat.le_trans hs.2.2.2 ht.size⟩)
            (fun _ _ _ _ hs _ => hs)
            ⟨kHR, HYR.out, hBR, Nat.le_refl _⟩
            (fun x t => (t.setIfInBounds 35 (.slice (some ⟨bk, ok + 64 * x, none⟩) 64 64)).setIfInBounds 6 (.slice (some ⟨bk, ok + 64 * x, none⟩) 64 64)) ?assign ?body ?done ?stop
          case assign =>
            intro l x W K hK
            dsimp only [encC]
            gi_wp2
            exact hK
          case body =>
            rintro l pre x W ⟨hk1, hy1, hb1, hs1⟩ ⟨rfl, hx⟩
            dsimp only at *
            have hlen : (blkU s pre.length).length = 64 := blkU_len (by rw [hN]; exact hx)
            have hpart := bytes_part hy1 (lo := 64 * pre.length) (k := 64) (c' := 64) (by omega) (by decide) (Nat.le_refl _) (by unfold maxLen; decide)
            have hadd := add129 Hb (hashV s pre.length) _ (blkU s pre.length) W hk1 hpart hlen (hTw.below (by rw [← hHb]; exact hTw.1) hb1)
            have HA := Lib.hid hadd
            have HX := Lib.hid (And.intro hk1 (And.intro hy1 hb1))
            clear hadd hpart hk1 hy1 hb1
            gi_wp2_with fail
            refine ⟨trivial, ?_⟩
            refine (CallsIn.inRound l (callsIn_wide.2 HA.out)).mono ?_
            rintro e w8 ⟨rfl, hk8, hf8⟩
            gi_wp2
            have hX := HX.out
            have hlt := hX.1.lt
            have hbe : Below Hb W w8 := hf8.below (Nat.le_of_lt hlt) (fun k hk => by omega)
            have htr : Turn (fun k => k = Hb) 0 W w8 := ⟨hf8.os, hf8.tape, hf8.output, hf8.size, fun k hk hz _ => hf8.block k hk hz⟩
            refine ⟨⟨hf8.size, fun k o hk ho => (hf8.block k (Array.getElem?_eq_some_iff.1 hk).1 (fun e => ?_)).trans hk⟩, ⟨hf8.block _ (by omega) (by omega), hf8.block _ (by omega) (by omega)⟩, ?_, ?_, hX.2.2.trans hbe, Nat.le_trans hs1 hf8.size⟩
            · rw [e] at hk
              have h1 : W.heap[Hb]? = some (.cells (cellsV (hashV s pre.length)) 193 (0, 0)) := hX.1
              rw [h1] at hk; cases hk; cases ho
            · rw [List.length_append]; exact hk8
            · exact bytes_turn hX.2.1 htr (fun k hk e => hne ((Option.some.inj hk).trans e))
          case done =>
            rintro D ys W hD rfl ⟨hk1, hy1, hb1, hs1⟩ hK
            rw [List.length_range] at hk1
            have hdg := digest130 (hashV s N) W
            have hlt := hk1.lt
            obtain ⟨u0, u1, u2, u3, u4, u5, u6, u7⟩ := cV hk1
            have HDG := Lib.hid hdg
            have HB1 := Lib.hid hb1
            have hlD : D < W.heap.size := (Array.getElem?_eq_some_iff.1 hK).1
            unfold cellsV at HDG
            clear hdg hk1 hy1 hb1 hseq HYR kHR
            go_wp2_with (go_at_call 130; refine HDG.out.mono ?_; rintro e w8 ⟨rfl, hb8⟩)
            have hK8 := (hb8.block D hlD).trans hK
            refine ⟨by simp, .inl ⟨_, _, rfl, run_takeDeferred hK8, ?_⟩⟩
            have hfin : Below Hb w w8 := HB1.out.trans (hb8.mono (Nat.le_of_lt hlt))
            refine ⟨.string (sumS s), by rw [HS.out]; simp [results, Tryz.results110, go_sem], rfl, ?_⟩
            rw [hHb]
            exact hfin.trans (belowK_b (w := R) (n₀ := Hb) hHs w8 D _ _ hD hK8 rfl rfl)
          case stop =>
            intro D c pre W _ _ h _
            exact h.elim
    · have q1 : ((n : Int) % 64 == 56) = false := beq_eq_false_iff_ne.2 (by omega)
      have hlt2 : m < padN s.size := by
        rcases Nat.lt_or_eq_of_le hm with h | h
        · exact h
        · exact absurd (hsp.2 h) h56
      have hl2 : (bytesI s ++ [128] ++ List.replicate m (0 : Int)).length + 1 ≤ 1000000 := by rw [hlen]; omega
      have hBs : B ≤ wr.heap.size := Nat.le_trans hs2 hB.size
      clear hsp hrem
      go_wp2_with (at_builtin; refine wpList_pushX E40 rfl _ _ rfl B HO.out rfl rfl hl2 hBs ?_; intro v' w9 hown' hb9)
      have hlist : bytesI s ++ [128] ++ List.replicate m (0 : Int) ++ [0] = bytesI s ++ [128] ++ List.replicate (m + 1) 0 := by rw [List.replicate_succ', ← List.append_assoc]
      rw [hlist] at hown'
      have hl3 : (bytesI s ++ [128] ++ List.replicate (m + 1) (0 : Int)).length = s.size + 1 + (m + 1) := by simp [hbl]; omega
      have hx := hown'
      obtain ⟨g', cap', rfl, -⟩ := hx
      refine ⟨⟨m + 1, by omega, hown', hB.trans hb9, _, cap', by rw [hl3]⟩, ?_⟩
      simp only [hl3]
      omega
end Go.Proofs.YtnckpnbecmmcpaaGreatDoor
