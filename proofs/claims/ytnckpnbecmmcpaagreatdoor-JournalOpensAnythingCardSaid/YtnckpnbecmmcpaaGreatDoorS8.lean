/- package nadirref02: Sum. -/
import Derived.Test.YtnckpnbecmmcpaaGreatDoorP1
namespace Go.Proofs.YtnckpnbecmmcpaaGreatDoor
open Go.RowKit
/-- Further elements, as a step of a drawn region. -/
theorem step_pushM {P : Program} {ops : Array Oper} {o : Oper} {a : Act} {K : Act → World → Prop} {Q : Exit → Act → World → Prop} {F : Prop} {t e : TypeId} {z : Value} {size bytes : Nat} {w0 : World} {us : List Value}
    (E : ElemOK P t e z size bytes) (hg : o.guard = none) (s x : Operand) (ho : o.op = .call { callee := .builtin .append, args := #[s, x], argTypes := #[t, t] })
    (B : Nat) {v : Value} {n m : Nat} {xs : List Value} (hown : w0.ownsRow B e size v n xs) (hs : a.eval s = v) (hx : a.eval x = .slice (some ⟨w0.heap.size, 0, none⟩) m m)
    (hus : us.length = m * size) (h1 : ∀ u ∈ us, u.oneCell' = true) (h63 : n + m ≤ maxLen) (hbytes : (n + m) * bytes ≤ 140737488355328) (hB : B ≤ w0.heap.size)
    (h : ∀ v' w', w'.ownsRow B e size v' (n + m) (xs ++ us) → Below B w0 w' → K (a.put o.dst v') w') :
    if Region.wanted o (yielded ops a.tmps) = true then Oper.wp P o a (w0.alloc (.cells us.toArray e)) K Q else F := by
  have hw : Region.wanted o (yielded ops a.tmps) = true := by simp [Region.wanted, hg]
  rw [if_pos hw]
  obtain ⟨i, hi, hz0, hz1, hz2⟩ := info_parts E.info
  have hown1 : (w0.alloc (.cells us.toArray e)).ownsRow B e size v n xs := World.ownsRow.alloc hown _
  obtain ⟨v', w', hrun, r1, r2, -⟩ := run_append_where (P := P) (w0.alloc (.cells us.toArray e)) B t o.type e i z size bytes E.und hi hz0 hz1 hz2 E.zs E.pos v n xs hown1 ⟨w0.heap.size, 0, none⟩ m m us hus
    (fun j u hj => by rw [add_zero_off, World.cell?_alloc_at _ _ _ _ rfl]; simpa using hj) h1 h63 hbytes (by simp; omega)
  unfold Oper.wp
  simp [execOp, ho, resolve, invoke, builtin, hs, hx, hrun, Result.andThen]
  refine h v' w' r1 ?_
  have hb1 : Below B w0 (w0.alloc (.cells us.toArray e)) := (Below.refl _ _).alloc hB _
  refine hb1.trans ⟨r2.os, r2.tape, r2.output, r2.size, fun k hk => r2.block k (by simp; omega) (fun e => ?_)⟩
  obtain ⟨cur, -, hg⟩ := owned_block hown1 e.symm
  omega
/-- A row of bytes of one's own, seen as bytes. -/
theorem OwnBy.bytes {W : World} {B : Nat} {v : Value} {bs : List Int} {l : List UInt8} (h : OwnBy W B v bs) (hl : l.map (fun u : UInt8 => (u.toNat : Int)) = bs) (_hm : bs.length ≤ maxLen) : BytesAt W v l := by
  have hll : l.length = bs.length := by rw [← hl, List.length_map]
  unfold OwnBy at h
  rcases h.2 with ⟨rfl, hn⟩ | ⟨g, cap, cur, rfl, hb, hg, h1, h2, -⟩
  · exact ⟨none, 0, by rw [hll, hn], by omega, by unfold maxLen; decide, fun hp => by omega⟩
  · refine ⟨_, cap, by rw [hll], by omega, h2, fun _ => ⟨g, 0, rfl, fun j y hj => ?_⟩⟩
    have q := h.cells (g := g) rfl j (.int .u8 (y.toNat : Int)) (by rw [← hl, List.map_map, List.getElem?_map, hj]; rfl)
    rw [add_zero_off] at q
    rw [Nat.zero_add]; exact q
/-- A part of a row that is seen. -/
theorem bytes_part {W : World} {b o n c : Nat} {l : List UInt8} (h : BytesAt W (.slice (some ⟨b, o, none⟩) n c) l) {lo k c' : Nat} (hlo : lo + k ≤ n) (hk : 0 < k) (hc : k ≤ c') (hc' : c' ≤ maxLen) :
    BytesAt W (.slice (some ⟨b, o + lo, none⟩) k c') ((l.drop lo).take k) := by
  obtain ⟨a, cap, e, h1, h2, h3⟩ := h
  cases e
  have hl : ((l.drop lo).take k).length = k := by rw [List.length_take, List.length_drop]; omega
  obtain ⟨b', o', e, h4⟩ := h3 (by omega)
  cases e
  refine ⟨_, c', by rw [hl], by omega, hc', fun _ => ⟨b, o + lo, rfl, fun j y hj => ?_⟩⟩
  rw [Nat.add_assoc]
  refine h4 (lo + j) y ?_
  rw [List.getElem?_take] at hj
  split at hj
  · rw [List.getElem?_drop] at hj; exact hj
  · cases hj
theorem digL_four (h : V8) (i : Nat) : digL h (4 * i + 4) = digL h (4 * i) ++ [byteD (getV h i) 0, byteD (getV h i) 1, byteD (getV h i) 2, byteD (getV h i) 3] := by
  rw [show 4 * i + 4 = 4 * i + 3 + 1 from rfl, digL_succ h i 3 (by decide), show 4 * i + 3 = 4 * i + 2 + 1 from rfl, digL_succ h i 2 (by decide), show 4 * i + 2 = 4 * i + 1 + 1 from rfl, digL_succ h i 1 (by decide), show 4 * i + 1 = 4 * i + 0 + 1 from rfl, digL_succ h i 0 (by decide)]
  simp
theorem listV_get (h : V8) {j : Nat} (hj : j < 8) : (listV h)[j]? = some (getV h j) := by
  match j, hj with
  | 0, _ => rfl
  | 1, _ => rfl
  | 2, _ => rfl
  | 3, _ => rfl
  | 4, _ => rfl
  | 5, _ => rfl
  | 6, _ => rfl
  | 7, _ => rfl
attribute [local irreducible] wpStill
set_option maxRecDepth 100000 in
set_option maxHeartbeats 4000000 in
theorem sum28 (s : ByteArray) (w : World) (hs : s.size ≤ 100000) : Calls Tryz.prog 28 #[.string s] w fun e w' => e = .returned (.string (sumS s)) ∧ Below w.heap.size w w' := by
  have hpl := padL_len s
  have hpn := padN_le s.size
  have hnb := nblk_len s
  have HS := Lib.hid (show sumS s = digS (hashV s (nblk s)) from rfl)
  have HBL := Lib.hid (fun i (hi : i < nblk s) => blkU_len hi)
  go_enter Tryz.func28, Tryz.ntmps28
  go_upto_region 2 with (fail)
  have hb1 : Below w.heap.size w (w.alloc (.cells (cellsV iv) 109)) := (Below.refl _ _).alloc (Nat.le_refl _) _
  have hh1 : SliceOf (Value.int .u32) (w.alloc (.cells (cellsV iv) 109)) (.slice (some ⟨w.heap.size, 0, none⟩) 8 8) (listV iv) := sliceNew (ws := listV iv) (Blk.new w _ 109) rfl (by unfold maxLen; decide)
  obtain ⟨w1, hw1⟩ : ∃ w1, w1 = w.alloc (.cells (cellsV iv) 109) := ⟨_, rfl⟩
  have hw1' : w1 = w.alloc (.cells #[.int .u32 1779033703, .int .u32 3144134277, .int .u32 1013904242, .int .u32 2773480762, .int .u32 1359893119, .int .u32 2600822924, .int .u32 528734635, .int .u32 1541459225] 109) := hw1
  rw [← hw1'] 
  rw [← hw1] at hb1 hh1
  clear hw1 hw1'
  go_wp2_with (go_at_call 58; refine (ext58 s _ hs).mono ?_; rintro e w2 ⟨v, rfl, ho, hb2⟩)
  have hBY := OwnBy.bytes ho (padU_int s) (by unfold maxLen; omega)
  have hB2 := hb1.trans (hb2.mono hb1.size)
  have hh2 := hh1.below hb2
  have HH := Lib.hid (show SliceOf (Value.int .u32) w2 (.slice (some ⟨w.heap.size, 0, none⟩) 8 8) (listV (hashV s 0)) from hh2)
  obtain ⟨a, cap, rfl, hle, hcm, hcell⟩ := hBY
  obtain ⟨bb, ob, rfl, hcell2⟩ := hcell (by rw [padU_len]; omega)
  have HY := Lib.hid (show BytesAt w2 (.slice (some ⟨bb, ob, none⟩) (padU s).length cap) (padU s) from ⟨_, _, rfl, hle, hcm, fun _ => ⟨_, _, rfl, hcell2⟩⟩)
  rw [padU_len] at HY hle ⊢
  unfold maxLen at hcm
  clear ho hb2 hh1 hh2 hb1 hcell hcell2
  obtain ⟨n, hn⟩ : ∃ n, (padL s).length = n := ⟨_, rfl⟩
  rw [hn] at HY hle hpl hnb ⊢
  have HNB := Lib.hid (And.intro hnb hpl)
  clear hnb hpl hn
  go_wp2
  go_loopw [3, 5] (fun u3 u5 wr => ∃ i m : Nat, i ≤ nblk s ∧ m = 64 * i ∧ u5 = .int .i64 (m : Int) ∧ SliceOf (Value.int .u32) wr u3 (listV (hashV s i)) ∧ Below w2.heap.size w2 wr) (fun _ u5 _ => (n - intOf u5).toNat)
  case atStart => exact ⟨0, 0, by omega, rfl, rfl, HH.out, Below.refl _ _⟩
  case round =>
    obtain ⟨i, m, hi, hm, rfl, hh, hB⟩ := hrel
    have hnb := HNB.out.1
    have hpl := HNB.out.2
    by_cases hlt : i < nblk s
    · have d1 : decide ((m : Int) < (n : Int)) = true := decide_eq_true (by omega)
      have d1b : decide (m < n) = true := decide_eq_true (by omega)
      have q0 : (0 : Int) ≤ (m : Int) ∧ (m : Int) ≤ (m : Int) + 64 := by omega
      have wm : IntKind.i64.wrap ((m : Int) + 64) = ((m + 64 : Nat) : Int) := by rw [wrapS _ (by omega) (by omega)]; omega
      have hlen := HBL.out i hlt
      have hpart := bytes_part (SliceOf.below HY.out hB) (lo := m) (k := 64) (c' := cap - m) (by omega) (by decide) (by omega) (by unfold maxLen; omega)
      have HP := Lib.hid (show BytesAt wr (.slice (some ⟨bb, ob + m, none⟩) 64 (cap - m)) (blkU s i) from by unfold blkU; rw [← hm]; exact hpart)
      clear hpart
      obtain ⟨m2, hm2⟩ : ∃ m2, m + 64 = m2 := ⟨_, rfl⟩
      rw [hm2] at wm
      have q1 : (m : Int) ≤ (m2 : Int) := by omega
      have q2 : (m2 : Int) ≤ (cap : Int) := by omega
      have q3 : m2 - m = 64 := by omega
      have q4 : m ≤ m2 := by omega
      have q5 : m2 ≤ cap := by omega
      have q6 : m2 = 64 * (i + 1) ∧ (n - m2 < n - m) := by omega
      have HM := Lib.hid q6
      clear q6 hm hm2 hnb hpl q0 q1 q2 hi
      have q0 : (0 : Int) ≤ (m : Int) := by omega
      go_wp2_with (go_at_call 59; refine (block59 _ _ (hashV s i) (blkU s i) _ hh HP.out hlen).mono ?_; rintro e wq ⟨v', rfl, hown, hbq⟩)
      go_roundw
      case rel => exact ⟨i + 1, m2, by omega, HM.out.1, by go_num, hown.slice (by show 8 ≤ maxLen; unfold maxLen; decide), hB.trans (hbq.mono hB.size)⟩
      case measure => have := HM.out.2; simp [intOf]; omega
    · have he : i = nblk s := by omega
      have hmn : m = n := by omega
      have d1 : decide ((m : Int) < (n : Int)) = false := decide_eq_false (by omega)
      have d1b : decide (m < n) = false := decide_eq_false (by omega)
      rw [he] at hh
      generalize hashV s (nblk s) = H at hh HS
      have HV := Lib.hid hh
      obtain ⟨ah, caph, rfl, hleh, hcmh, hcellh⟩ := hh
      obtain ⟨bh, oh, rfl, hch⟩ := hcellh (by show 0 < 8; decide)
      have HCH := Lib.hid (fun j (hj : j < 8) => hch j _ (listV_get H hj))
      have hBw := hB2.trans (hB.mono hB2.size)
      obtain ⟨wx, hren⟩ : ∃ z, z = wr := ⟨_, rfl⟩
      subst hren
      obtain ⟨B6, hB6e⟩ : ∃ B6, B6 = wx.heap.size := ⟨_, rfl⟩
      have h8 : (listV H).length = 8 := rfl
      rw [h8] at hleh ⊢
      unfold maxLen at hcmh
      clear he hi hlt hm hnb hpl hmn HBL HY HH hch hcellh HV hB hB2 h8 HNB
      go_wp2
      go_loopw [6, 7] (fun u6 u7 wr => ∃ j : Nat, j ≤ 8 ∧ u7 = .int .i64 (j : Int) ∧ OwnBy wr B6 u6 (digL H (4 * j)) ∧ Below B6 wx wr) (fun _ u7 _ => (8 - intOf u7).toNat)
      case atStart => exact ⟨0, by omega, rfl, World.ownsRow_nil _ _ _ _, Below.refl _ _⟩
      case round =>
        obtain ⟨j, hj, rfl, ho, hB⟩ := hrel
        by_cases hj8 : j < 8
        · have e1 : decide ((j : Int) < 8) = true := decide_eq_true (by omega)
          have j0 : (0 : Int) ≤ (j : Int) ∧ (j : Int) < 8 := by omega
          have HD := Lib.hid (digL_four H j)
          have cx := HCH.out j hj8
          generalize getV H j = x at HD cx
          have hlo := digL_len H (4 * j)
          have ho' := ho
          unfold OwnBy at ho'
          rw [hlo] at ho'
          have hB6 : B6 ≤ wr.heap.size := Nat.le_trans (Nat.le_of_eq hB6e) hB.size
          have hbx : bh < B6 := by rw [hB6e]; exact World.block_lt_of_cell? _ _ cx
          have HC := Lib.hid (fun W (hW : Below B6 wx W) => (hW.cell (p := ⟨bh, oh + j, none⟩) hbx).trans cx)
          have HO2 := Lib.hid (World.ownsRow.drew ho')
          clear ho ho' hlo
          go_upto_region 11 with (fail)
          refine wp_region_noPanic ?_
          refine wp_region_held_drew (S := (fun w' => Below B6 wx w' ∧ w'.cell? ⟨bh, oh + j, none⟩ = some (.int .u32 x))) (by kernel_rfl) ⟨hB.drew, HC.out _ hB.drew⟩ (fun hHeld => ?_)
          refine wpAnyH_take (i := 0) (oi := { dst := some 28, op := Op.move (Operand.tmp 6), type := 39, pos := "ref.go:76", after := #[], guard := none }) (v := ?_) rfl (by kernel_rfl) (by kernel_rfl) (by kernel_rfl) (fun _ _ _ h => h) (Or.inl ⟨by kernel_rfl, ?_⟩) (by assumption) ?_
          rotate_left
          · intro w hSw
            (try dsimp only at hSw)
            go_simp
            all_goals (with_reducible rfl)
          (try simp only [Act.put, List.setIfInBounds_toArray, List.set_cons_zero, List.set_cons_succ])
          refine wpAnyH_take (i := 1) (oi := { dst := some 29, op := Op.move (Operand.tmp 3), type := 110, pos := "ref.go:76", after := #[], guard := none }) (v := ?_) rfl (by kernel_rfl) (by kernel_rfl) (by kernel_rfl) (fun _ _ _ h => h) (Or.inl ⟨by kernel_rfl, ?_⟩) (by assumption) ?_
          rotate_left
          · intro w hSw
            (try dsimp only at hSw)
            go_simp
            all_goals (with_reducible rfl)
          (try simp only [Act.put, List.setIfInBounds_toArray, List.set_cons_zero, List.set_cons_succ])
          refine wpAnyH_take (i := 2) (oi := { dst := some 30, op := Op.move (Operand.tmp 7), type := 3, pos := "ref.go:76", after := #[], guard := none }) (v := ?_) rfl (by kernel_rfl) (by kernel_rfl) (by kernel_rfl) (fun _ _ _ h => h) (Or.inl ⟨by kernel_rfl, ?_⟩) (by assumption) ?_
          rotate_left
          · intro w hSw
            (try dsimp only at hSw)
            go_simp
            all_goals (with_reducible rfl)
          (try simp only [Act.put, List.setIfInBounds_toArray, List.set_cons_zero, List.set_cons_succ])
          refine wpAnyH_take (i := 3) (oi := { dst := some 31, op := Op.indexAddr 110 (Operand.tmp 29) (Operand.tmp 30), type := 0, pos := "ref.go:76", after := #[{ on := 1, ground := Ground.data }, { on := 2, ground := Ground.data }], guard := none }) (v := ?_) rfl (by kernel_rfl) (by kernel_rfl) (by kernel_rfl) (fun _ _ _ h => h) (Or.inl ⟨by kernel_rfl, ?_⟩) (by assumption) ?_
          rotate_left
          · intro w hSw
            (try dsimp only at hSw)
            go_simp
            all_goals (with_reducible rfl)
          (try simp only [Act.put, List.setIfInBounds_toArray, List.set_cons_zero, List.set_cons_succ])
          refine wpAnyH_take (i := 4) (oi := { dst := some 32, op := Op.load 109 (Operand.tmp 31), type := 109, pos := "ref.go:76", after := #[{ on := 3, ground := Ground.data }], guard := none }) (v := ?_) rfl (by kernel_rfl) (by kernel_rfl) (by kernel_rfl) (fun _ _ _ h => h) (Or.inl ⟨by kernel_rfl, ?_⟩) (by assumption) ?_
          rotate_left
          · intro w hSw
            (try dsimp only at hSw)
            go_simp
            all_goals (with_reducible rfl)
          (try simp only [Act.put, List.setIfInBounds_toArray, List.set_cons_zero, List.set_cons_succ])
          refine wpAnyH_take (i := 5) (oi := { dst := some 33, op := Op.binOp BinOp.shr 109 (Operand.tmp 32) (Operand.const (Value.int IntKind.u64 24)) 113, type := 109, pos := "ref.go:76", after := #[{ on := 4, ground := Ground.data }], guard := none }) (v := ?_) rfl (by kernel_rfl) (by kernel_rfl) (by kernel_rfl) (fun _ _ _ h => h) (Or.inl ⟨by kernel_rfl, ?_⟩) (by assumption) ?_
          rotate_left
          · intro w hSw
            (try dsimp only at hSw)
            go_simp
            all_goals (with_reducible rfl)
          (try simp only [Act.put, List.setIfInBounds_toArray, List.set_cons_zero, List.set_cons_succ])
          refine wpAnyH_take (i := 6) (oi := { dst := some 34, op := Op.convert 109 5 (Operand.tmp 33), type := 5, pos := "ref.go:76", after := #[{ on := 5, ground := Ground.data }], guard := none }) (v := ?_) rfl (by kernel_rfl) (by kernel_rfl) (by kernel_rfl) (fun _ _ _ h => h) (Or.inl ⟨by kernel_rfl, ?_⟩) (by assumption) ?_
          rotate_left
          · intro w hSw
            (try dsimp only at hSw)
            go_simp
            all_goals (with_reducible rfl)
          (try simp only [Act.put, List.setIfInBounds_toArray, List.set_cons_zero, List.set_cons_succ])
          refine wpAnyH_take (i := 7) (oi := { dst := some 35, op := Op.move (Operand.tmp 3), type := 110, pos := "ref.go:76", after := #[], guard := none }) (v := ?_) rfl (by kernel_rfl) (by kernel_rfl) (by kernel_rfl) (fun _ _ _ h => h) (Or.inl ⟨by kernel_rfl, ?_⟩) (by assumption) ?_
          rotate_left
          · intro w hSw
            (try dsimp only at hSw)
            go_simp
            all_goals (with_reducible rfl)
          (try simp only [Act.put, List.setIfInBounds_toArray, List.set_cons_zero, List.set_cons_succ])
          refine wpAnyH_take (i := 8) (oi := { dst := some 36, op := Op.move (Operand.tmp 7), type := 3, pos := "ref.go:76", after := #[], guard := none }) (v := ?_) rfl (by kernel_rfl) (by kernel_rfl) (by kernel_rfl) (fun _ _ _ h => h) (Or.inl ⟨by kernel_rfl, ?_⟩) (by assumption) ?_
          rotate_left
          · intro w hSw
            (try dsimp only at hSw)
            go_simp
            all_goals (with_reducible rfl)
          (try simp only [Act.put, List.setIfInBounds_toArray, List.set_cons_zero, List.set_cons_succ])
          refine wpAnyH_take (i := 9) (oi := { dst := some 37, op := Op.indexAddr 110 (Operand.tmp 35) (Operand.tmp 36), type := 0, pos := "ref.go:76", after := #[{ on := 7, ground := Ground.data }, { on := 8, ground := Ground.data }], guard := none }) (v := ?_) rfl (by kernel_rfl) (by kernel_rfl) (by kernel_rfl) (fun _ _ _ h => h) (Or.inl ⟨by kernel_rfl, ?_⟩) (by assumption) ?_
          rotate_left
          · intro w hSw
            (try dsimp only at hSw)
            go_simp
            all_goals (with_reducible rfl)
          (try simp only [Act.put, List.setIfInBounds_toArray, List.set_cons_zero, List.set_cons_succ])
          refine wpAnyH_take (i := 10) (oi := { dst := some 38, op := Op.load 109 (Operand.tmp 37), type := 109, pos := "ref.go:76", after := #[{ on := 9, ground := Ground.data }], guard := none }) (v := ?_) rfl (by kernel_rfl) (by kernel_rfl) (by kernel_rfl) (fun _ _ _ h => h) (Or.inl ⟨by kernel_rfl, ?_⟩) (by assumption) ?_
          rotate_left
          · intro w hSw
            (try dsimp only at hSw)
            go_simp
            all_goals (with_reducible rfl)
          (try simp only [Act.put, List.setIfInBounds_toArray, List.set_cons_zero, List.set_cons_succ])
          refine wpAnyH_take (i := 11) (oi := { dst := some 39, op := Op.binOp BinOp.shr 109 (Operand.tmp 38) (Operand.const (Value.int IntKind.u64 16)) 113, type := 109, pos := "ref.go:76", after := #[{ on := 10, ground := Ground.data }], guard := none }) (v := ?_) rfl (by kernel_rfl) (by kernel_rfl) (by kernel_rfl) (fun _ _ _ h => h) (Or.inl ⟨by kernel_rfl, ?_⟩) (by assumption) ?_
          rotate_left
          · intro w hSw
            (try dsimp only at hSw)
            go_simp
            all_goals (with_reducible rfl)
          (try simp only [Act.put, List.setIfInBounds_toArray, List.set_cons_zero, List.set_cons_succ])
          refine wpAnyH_take (i := 12) (oi := { dst := some 40, op := Op.convert 109 5 (Operand.tmp 39), type := 5, pos := "ref.go:76", after := #[{ on := 11, ground := Ground.data }], guard := none }) (v := ?_) rfl (by kernel_rfl) (by kernel_rfl) (by kernel_rfl) (fun _ _ _ h => h) (Or.inl ⟨by kernel_rfl, ?_⟩) (by assumption) ?_
          rotate_left
          · intro w hSw
            (try dsimp only at hSw)
            go_simp
            all_goals (with_reducible rfl)
          (try simp only [Act.put, List.setIfInBounds_toArray, List.set_cons_zero, List.set_cons_succ])
          refine wpAnyH_take (i := 13) (oi := { dst := some 41, op := Op.move (Operand.tmp 3), type := 110, pos := "ref.go:76", after := #[], guard := none }) (v := ?_) rfl (by kernel_rfl) (by kernel_rfl) (by kernel_rfl) (fun _ _ _ h => h) (Or.inl ⟨by kernel_rfl, ?_⟩) (by assumption) ?_
          rotate_left
          · intro w hSw
            (try dsimp only at hSw)
            go_simp
            all_goals (with_reducible rfl)
          (try simp only [Act.put, List.setIfInBounds_toArray, List.set_cons_zero, List.set_cons_succ])
          refine wpAnyH_take (i := 14) (oi := { dst := some 42, op := Op.move (Operand.tmp 7), type := 3, pos := "ref.go:76", after := #[], guard := none }) (v := ?_) rfl (by kernel_rfl) (by kernel_rfl) (by kernel_rfl) (fun _ _ _ h => h) (Or.inl ⟨by kernel_rfl, ?_⟩) (by assumption) ?_
          rotate_left
          · intro w hSw
            (try dsimp only at hSw)
            go_simp
            all_goals (with_reducible rfl)
          (try simp only [Act.put, List.setIfInBounds_toArray, List.set_cons_zero, List.set_cons_succ])
          refine wpAnyH_take (i := 15) (oi := { dst := some 43, op := Op.indexAddr 110 (Operand.tmp 41) (Operand.tmp 42), type := 0, pos := "ref.go:76", after := #[{ on := 13, ground := Ground.data }, { on := 14, ground := Ground.data }], guard := none }) (v := ?_) rfl (by kernel_rfl) (by kernel_rfl) (by kernel_rfl) (fun _ _ _ h => h) (Or.inl ⟨by kernel_rfl, ?_⟩) (by assumption) ?_
          rotate_left
          · intro w hSw
            (try dsimp only at hSw)
            go_simp
            all_goals (with_reducible rfl)
          (try simp only [Act.put, List.setIfInBounds_toArray, List.set_cons_zero, List.set_cons_succ])
          refine wpAnyH_take (i := 16) (oi := { dst := some 44, op := Op.load 109 (Operand.tmp 43), type := 109, pos := "ref.go:76", after := #[{ on := 15, ground := Ground.data }], guard := none }) (v := ?_) rfl (by kernel_rfl) (by kernel_rfl) (by kernel_rfl) (fun _ _ _ h => h) (Or.inl ⟨by kernel_rfl, ?_⟩) (by assumption) ?_
          rotate_left
          · intro w hSw
            (try dsimp only at hSw)
            go_simp
            all_goals (with_reducible rfl)
          (try simp only [Act.put, List.setIfInBounds_toArray, List.set_cons_zero, List.set_cons_succ])
          refine wpAnyH_take (i := 17) (oi := { dst := some 45, op := Op.binOp BinOp.shr 109 (Operand.tmp 44) (Operand.const (Value.int IntKind.u64 8)) 113, type := 109, pos := "ref.go:76", after := #[{ on := 16, ground := Ground.data }], guard := none }) (v := ?_) rfl (by kernel_rfl) (by kernel_rfl) (by kernel_rfl) (fun _ _ _ h => h) (Or.inl ⟨by kernel_rfl, ?_⟩) (by assumption) ?_
          rotate_left
          · intro w hSw
            (try dsimp only at hSw)
            go_simp
            all_goals (with_reducible rfl)
          (try simp only [Act.put, List.setIfInBounds_toArray, List.set_cons_zero, List.set_cons_succ])
          refine wpAnyH_take (i := 18) (oi := { dst := some 46, op := Op.convert 109 5 (Operand.tmp 45), type := 5, pos := "ref.go:76", after := #[{ on := 17, ground := Ground.data }], guard := none }) (v := ?_) rfl (by kernel_rfl) (by kernel_rfl) (by kernel_rfl) (fun _ _ _ h => h) (Or.inl ⟨by kernel_rfl, ?_⟩) (by assumption) ?_
          rotate_left
          · intro w hSw
            (try dsimp only at hSw)
            go_simp
            all_goals (with_reducible rfl)
          (try simp only [Act.put, List.setIfInBounds_toArray, List.set_cons_zero, List.set_cons_succ])
          refine wpAnyH_take (i := 19) (oi := { dst := some 47, op := Op.move (Operand.tmp 3), type := 110, pos := "ref.go:76", after := #[], guard := none }) (v := ?_) rfl (by kernel_rfl) (by kernel_rfl) (by kernel_rfl) (fun _ _ _ h => h) (Or.inl ⟨by kernel_rfl, ?_⟩) (by assumption) ?_
          rotate_left
          · intro w hSw
            (try dsimp only at hSw)
            go_simp
            all_goals (with_reducible rfl)
          (try simp only [Act.put, List.setIfInBounds_toArray, List.set_cons_zero, List.set_cons_succ])
          refine wpAnyH_take (i := 20) (oi := { dst := some 48, op := Op.move (Operand.tmp 7), type := 3, pos := "ref.go:76", after := #[], guard := none }) (v := ?_) rfl (by kernel_rfl) (by kernel_rfl) (by kernel_rfl) (fun _ _ _ h => h) (Or.inl ⟨by kernel_rfl, ?_⟩) (by assumption) ?_
          rotate_left
          · intro w hSw
            (try dsimp only at hSw)
            go_simp
            all_goals (with_reducible rfl)
          (try simp only [Act.put, List.setIfInBounds_toArray, List.set_cons_zero, List.set_cons_succ])
          refine wpAnyH_take (i := 21) (oi := { dst := some 49, op := Op.indexAddr 110 (Operand.tmp 47) (Operand.tmp 48), type := 0, pos := "ref.go:76", after := #[{ on := 19, ground := Ground.data }, { on := 20, ground := Ground.data }], guard := none }) (v := ?_) rfl (by kernel_rfl) (by kernel_rfl) (by kernel_rfl) (fun _ _ _ h => h) (Or.inl ⟨by kernel_rfl, ?_⟩) (by assumption) ?_
          rotate_left
          · intro w hSw
            (try dsimp only at hSw)
            go_simp
            all_goals (with_reducible rfl)
          (try simp only [Act.put, List.setIfInBounds_toArray, List.set_cons_zero, List.set_cons_succ])
          refine wpAnyH_take (i := 22) (oi := { dst := some 50, op := Op.load 109 (Operand.tmp 49), type := 109, pos := "ref.go:76", after := #[{ on := 21, ground := Ground.data }], guard := none }) (v := ?_) rfl (by kernel_rfl) (by kernel_rfl) (by kernel_rfl) (fun _ _ _ h => h) (Or.inl ⟨by kernel_rfl, ?_⟩) (by assumption) ?_
          rotate_left
          · intro w hSw
            (try dsimp only at hSw)
            go_simp
            all_goals (with_reducible rfl)
          (try simp only [Act.put, List.setIfInBounds_toArray, List.set_cons_zero, List.set_cons_succ])
          refine wpAnyH_take (i := 23) (oi := { dst := some 51, op := Op.convert 109 5 (Operand.tmp 50), type := 5, pos := "ref.go:76", after := #[{ on := 22, ground := Ground.data }], guard := none }) (v := ?_) rfl (by kernel_rfl) (by kernel_rfl) (by kernel_rfl) (fun _ _ _ h => h) (Or.inl ⟨by kernel_rfl, ?_⟩) (by assumption) ?_
          rotate_left
          · intro w hSw
            (try dsimp only at hSw)
            go_simp
            all_goals (with_reducible rfl)
          (try simp only [Act.put, List.setIfInBounds_toArray, List.set_cons_zero, List.set_cons_succ])
          refine wpAnyH_one1 (i := 24) (o := { dst := some 52, op := Op.buildSlice 39 4 #[(0, Operand.tmp 34), (1, Operand.tmp 40), (2, Operand.tmp 46), (3, Operand.tmp 51)], type := 39, pos := "ref.go:76", after := #[{ on := 6, ground := Ground.data }, { on := 12, ground := Ground.data }, { on := 18, ground := Ground.data }, { on := 23, ground := Ground.data }], guard := none }) (by kernel_rfl) rfl (fun K hK => ?_)
          go_simp
          refine hK.out _ _ ?_ (fun hHeld2 => ?_)
          · exact ⟨hHeld.1.alloc hB6 _, HC.out _ (hHeld.1.alloc hB6 _)⟩
          clear hHeld
          have hHeld := hHeld2
          clear hHeld2
          clear hK K
          (try simp only [Act.put, List.setIfInBounds_toArray, List.set_cons_zero, List.set_cons_succ])
          refine wpAnyH_one1 (i := 25) (o := { dst := some 53, op := Op.call { callee := Callee.builtin Builtin.append, args := #[Operand.tmp 28, Operand.tmp 52], argTypes := #[39, 39] }, type := 39, pos := "ref.go:76", after := #[{ on := 0, ground := Ground.data }, { on := 24, ground := Ground.data }], guard := none }) (by kernel_rfl) rfl (fun K hK => ?_)
          refine step_pushM E40 rfl (.tmp 28) (.tmp 52) rfl B6 HO2.out rfl (m := 4) rfl rfl (by intro u hu; simp at hu; rcases hu with rfl | rfl | rfl | rfl <;> rfl) (by unfold maxLen; omega) (by omega) hB6 (fun v' wq n1 n2 => ?_)
          refine hK.out _ _ ?_ (fun hHeld2 => ?_)
          · exact ⟨hB.drew.trans n2, HC.out _ (hB.drew.trans n2)⟩
          clear hHeld
          have hHeld := hHeld2
          clear hHeld2
          clear hK K
          (try simp only [Act.put, List.setIfInBounds_toArray, List.set_cons_zero, List.set_cons_succ])
          refine wpAnyH_take (i := 26) (oi := { dst := some 6, op := Op.assign (Operand.tmp 53), type := 39, pos := "ref.go:76", after := #[{ on := 25, ground := Ground.data }, { on := 25, ground := Ground.chain }, { on := 0, ground := Ground.phase }, { on := 1, ground := Ground.phase }, { on := 2, ground := Ground.phase }, { on := 3, ground := Ground.phase }, { on := 4, ground := Ground.phase }, { on := 5, ground := Ground.phase }, { on := 6, ground := Ground.phase }, { on := 7, ground := Ground.phase }, { on := 8, ground := Ground.phase }, { on := 9, ground := Ground.phase }, { on := 10, ground := Ground.phase }, { on := 11, ground := Ground.phase }, { on := 12, ground := Ground.phase }, { on := 13, ground := Ground.phase }, { on := 14, ground := Ground.phase }, { on := 15, ground := Ground.phase }, { on := 16, ground := Ground.phase }, { on := 17, ground := Ground.phase }, { on := 18, ground := Ground.phase }, { on := 19, ground := Ground.phase }, { on := 20, ground := Ground.phase }, { on := 21, ground := Ground.phase }, { on := 22, ground := Ground.phase }, { on := 23, ground := Ground.phase }, { on := 24, ground := Ground.phase }, { on := 25, ground := Ground.phase }], guard := none }) (v := ?_) rfl (by kernel_rfl) (by kernel_rfl) (by kernel_rfl) (fun _ _ _ h => h) (Or.inl ⟨by kernel_rfl, ?_⟩) (by assumption) ?_
          rotate_left
          · intro w hSw
            (try dsimp only at hSw)
            go_simp
            all_goals (with_reducible rfl)
          (try simp only [Act.put, List.setIfInBounds_toArray, List.set_cons_zero, List.set_cons_succ])
          refine wpAnyH_done (by kernel_rfl) ?_ _
          refine NoPanic.normal ?_
          have n4 := hB.drew.trans n2
          have HN := Lib.hid (show OwnBy wq B6 v' (digL H (4 * (j + 1))) from by
            unfold OwnBy
            rw [show 4 * (j + 1) = 4 * j + 4 from rfl, HD.out]
            have b0 : byteD x 0 = IntKind.u8.wrap (x / 16777216) := (IntKind.wrap_u8 _).symm
            have b1 : byteD x 1 = IntKind.u8.wrap (x / 65536) := (IntKind.wrap_u8 _).symm
            have b2 : byteD x 2 = IntKind.u8.wrap (x / 256) := (IntKind.wrap_u8 _).symm
            have b3 : byteD x 3 = IntKind.u8.wrap x := by rw [IntKind.wrap_u8]; unfold byteD; simp
            rw [b0, b1, b2, b3]
            simpa [digL_len] using n1)
          have HB := Lib.hid n4
          clear n1 n2 n4 hHeld HO2 HC HD cx
          go_wp2
          go_roundw
          case rel => exact ⟨j + 1, by omega, by go_num, HN.out, HB.out⟩
          case measure => simp [intOf]; omega
        · have he : j = 8 := by omega
          rw [he] at ho
          have e1 : decide ((j : Int) < 8) = false := decide_eq_false (by omega)
          have e1b : decide (j < 8) = false := decide_eq_false (by omega)
          have ho' := ho
          unfold OwnBy at ho'
          rw [digL_len] at ho'
          have hcv := run_convert_owned (P := Tryz.prog) 39 9 Tryz.underlying39 Tryz.underlying5 Tryz.underlying9 ho'
          have HE := Lib.hid (show Below w.heap.size w wr from hBw.trans (hB.mono (hB6e ▸ hBw.size)))
          clear he ho ho' hB hj8 hj
          go_wp2
          go_ret
          exact ⟨by rw [HS.out]; rfl, HE.out⟩
end Go.Proofs.YtnckpnbecmmcpaaGreatDoor
