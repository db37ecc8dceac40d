/- package digest: (*words).add. -/
import Derived.Test.YtnckpnbecmmcpaaGreatDoorS3
namespace Go.Proofs.YtnckpnbecmmcpaaGreatDoor
open Go.RowKit
theorem ints3 {W : World} {g : Nat} {a b c : Nat} (h : Blk W g #[.int .i64 (a : Int), .int .i64 (b : Int), .int .i64 (c : Int)] 3) : SliceOf (Value.int .i64) W (.slice (some ⟨g, 0, none⟩) 3 3) ([a, b, c].map fun n : Nat => (n : Int)) := by
  refine ⟨_, _, rfl, Nat.le_refl _, by unfold maxLen; decide, fun _ => ⟨g, 0, rfl, fun j y hj => ?_⟩⟩
  rw [h.cell]
  match j with
  | 0 => simp at hj; subst hj; rfl
  | 1 => simp at hj; subst hj; rfl
  | 2 => simp at hj; subst hj; rfl
  | _ + 3 => simp at hj
abbrev c7V (v : V8) : List Value := [Value.int .u32 v.a, .int .u32 v.b, .int .u32 v.c, .int .u32 v.d, .int .u32 v.e, .int .u32 v.f, .int .u32 v.g]
def getV (v : V8) : Nat → Int
  | 0 => v.a
  | 1 => v.b
  | 2 => v.c
  | 3 => v.d
  | 4 => v.e
  | 5 => v.f
  | 6 => v.g
  | _ => v.h
theorem cellsV_get {v : V8} {j : Nat} (hj : j < 8) : (cellsV v)[j]? = some (.int .u32 (getV v j)) := by
  match j, hj with
  | 0, _ => rfl
  | 1, _ => rfl
  | 2, _ => rfl
  | 3, _ => rfl
  | 4, _ => rfl
  | 5, _ => rfl
  | 6, _ => rfl
  | 7, _ => rfl
/-- The sums as they are written one by one. -/
def pS (h v : V8) (j : Nat) : V8 := ⟨if 0 < j then addU h.a v.a else h.a, if 1 < j then addU h.b v.b else h.b, if 2 < j then addU h.c v.c else h.c, if 3 < j then addU h.d v.d else h.d, if 4 < j then addU h.e v.e else h.e, if 5 < j then addU h.f v.f else h.f, if 6 < j then addU h.g v.g else h.g, if 7 < j then addU h.h v.h else h.h⟩
theorem pS_get (h v : V8) {j : Nat} (hj : j < 8) : getV (pS h v j) j = getV h j := by
  match j, hj with
  | 0, _ => rfl
  | 1, _ => rfl
  | 2, _ => rfl
  | 3, _ => rfl
  | 4, _ => rfl
  | 5, _ => rfl
  | 6, _ => rfl
  | 7, _ => rfl
theorem pS_set (h v : V8) {j : Nat} (hj : j < 8) : (cellsV (pS h v j)).setIfInBounds j (.int .u32 (addU (getV h j) (getV v j))) = cellsV (pS h v (j + 1)) := by
  match j, hj with
  | 0, _ => rfl
  | 1, _ => rfl
  | 2, _ => rfl
  | 3, _ => rfl
  | 4, _ => rfl
  | 5, _ => rfl
  | 6, _ => rfl
  | 7, _ => rfl
theorem cV {W : World} {E : Nat} {v : V8} {t : TypeId} (h : Blk W E (cellsV v) t) : W.cell? ⟨E, 0, none⟩ = some (.int .u32 v.a) ∧ W.cell? ⟨E, 1, none⟩ = some (.int .u32 v.b) ∧ W.cell? ⟨E, 2, none⟩ = some (.int .u32 v.c) ∧ W.cell? ⟨E, 3, none⟩ = some (.int .u32 v.d) ∧ W.cell? ⟨E, 4, none⟩ = some (.int .u32 v.e) ∧ W.cell? ⟨E, 5, none⟩ = some (.int .u32 v.f) ∧ W.cell? ⟨E, 6, none⟩ = some (.int .u32 v.g) ∧ W.cell? ⟨E, 7, none⟩ = some (.int .u32 v.h) :=
  ⟨h.cell 0, h.cell 1, h.cell 2, h.cell 3, h.cell 4, h.cell 5, h.cell 6, h.cell 7⟩
set_option maxRecDepth 100000 in
set_option maxHeartbeats 4000000 in
theorem add129 (Hb : Nat) (h : V8) (v : Value) (l : List UInt8) (w : World) (hh : Blk w Hb (cellsV h) 193) (hv : BytesAt w v l) (hl : l.length = 64) (hT : RoundT w) :
    Calls Tryz.prog 129 #[.pointer (some ⟨Hb, 0, none⟩), v] w fun e w' => e = .returned (.tuple #[]) ∧ Blk w' Hb (cellsV (addB h l)) 193 ∧ Frm (fun k => k = Hb) w w' := by
  have HV := Lib.hid hv
  have HH := Lib.hid hh
  have HT := Lib.hid hT
  have HL := Lib.hid hl
  have lH := hh.lt
  have lT := hT.1
  clear hv hh hT hl
  go_enter Tryz.func129, Tryz.ntmps129
  go_wp2_with fail
  refine (sched144 _ l w HV.out HL.out).mono ?_
  rintro e w1 ⟨rfl, b1⟩
  have hw48 : (schedW l).length = 64 := by unfold schedW; rw [extW_len, words16_len]
  have HADD := Lib.hid (show addB h l = sumV h (runV (schedW l) h 64) from rfl)
  obtain ⟨ws, hws⟩ : ∃ ws, schedW l = ws := ⟨_, rfl⟩
  rw [hws] at hw48 HADD ⊢
  clear hws
  have k0 := Blk.new w1 (cells64 []) 214
  have hb0 := (Below.refl w1.heap.size w1).alloc (Nat.le_refl _) (.cells (cells64 []) 214)
  have hsz0 : (c64 ws).toArray.size = 64 := by rw [List.size_toArray]; exact c64_len (by omega)
  have hth : (w1.alloc (.cells (cells64 []) 214)).there w1.heap.size 0 (c64 ws).toArray.size := by
    have h1 := blk_there k0
    have e1 : (cells64 []).size = 64 := rfl
    rw [e1] at h1
    rw [hsz0]; exact h1
  have hsz : (Tryz.prog.info? 214).map (·.size) = some (c64 ws).toArray.size := by rw [hsz0]; kernel_rfl
  have hone := all_oneCell_toArray (cs := c64 ws) c64_one
  have hbs := below_setCells (c64 ws) 0 hb0
  have hrs := World.rangeAt_setCells_same (w1.alloc (.cells (cells64 []) 214)) w1.heap.size 0 (c64 ws) (by simpa using hth)
  have hG : w1.heap.size < ((w1.alloc (.cells (cells64 []) 214)).setCells w1.heap.size 0 (c64 ws)).heap.size := Nat.lt_of_lt_of_le k0.lt (below_setCells (c64 ws) 0 (Below.refl w1.heap.size (w1.alloc (.cells (cells64 []) 214)))).size
  have hcw : cells64 ws = (c64 ws).toArray := rfl
  rw [hcw]
  go_upto_region 1 with (rw [cells64_nil]; refine wpList_store_mid rfl 214 _ _ rfl w1.heap.size 0 (c64 ws).toArray rfl rfl hth hsz hone ?_)
  (try rw [show (c64 ws).toArray.toList = c64 ws from rfl])
  clear hth hsz hone hcw k0 hb0 hsz0
  have b12 := b1.trans (hbs.mono b1.size)
  have hh2 := HH.out.below b12 lH
  have ht2 := HT.out.below lT b12
  have HW2 := Lib.hid hrs
  generalize (w1.alloc (.cells (cells64 []) 214)).setCells w1.heap.size 0 (c64 ws) = w2 at b12 hh2 ht2 HW2 hG ⊢
  clear hbs hrs HH HT HV
  generalize w1.heap.size = G at HW2 hG ⊢
  clear b1
  obtain ⟨u0, u1, u2, u3, u4, u5, u6, u7⟩ := cV hh2
  have HH2 := Lib.hid hh2
  have HT2 := Lib.hid ht2
  clear hh2 ht2
  (try simp only [Act.put])
  go_upto_region 2 with (fail)
  have kE := Blk.new w2 (cellsV h) 193
  have hbE := (Below.refl w2.heap.size w2).alloc (Nat.le_refl _) (.cells (cellsV h) 193)
  obtain ⟨w3, hw3⟩ : ∃ w3, w3 = w2.alloc (.cells (cellsV h) 193) := ⟨_, rfl⟩
  have hw3' := hw3
  unfold cellsV at hw3'
  rw [← hw3']
  rw [← hw3] at kE hbE
  clear hw3 hw3' u0 u1 u2 u3 u4 u5 u6 u7
  have lHE : Hb < w2.heap.size := HH2.out.lt
  have lTE : 3 < w2.heap.size := HT2.out.1
  have HH3 := Lib.hid (HH2.out.below hbE lHE)
  have HW3 := Lib.hid (fun j x (hj : (c64 ws)[j]? = some x) => (hbE.cell (p := ⟨G, 0 + j, none⟩) hG).trans (HW2.out j x hj))
  have hT3 := (HT2.out.below lTE hbE).2
  have b13 := b12.trans (hbE.mono b12.size)
  clear HH2 HT2 HW2 hbE
  have hwE : w.heap.size ≤ w2.heap.size := b12.size
  generalize w2.heap.size = E at kE lHE lTE hG hwE ⊢
  have KE := Lib.hid kE
  clear kE
  go_wp2_with (refine wpList_load_mid rfl 214 _ rfl 3 0 rfl (KR.map (Value.int .u32)) _ hT3 Tryz.underlying214 rfl (by kernel_rfl) ?_)
  have HIX := Lib.hid index214
  generalize (KR.map (Value.int .u32)).toArray = kt at HIX ⊢
  clear hT3
  go_loopw [6, 7, 8, 9, 10, 11, 19] (fun _ _ _ _ _ _ u19 wr => ∃ i : Nat, i ≤ 64 ∧ u19 = .int .i64 (i : Int) ∧ Blk wr E (cellsV (runV ws h i)) 193 ∧ Below E w3 wr) (fun _ _ _ _ _ _ u19 _ => (64 - intOf u19).toNat)
  case atStart => exact ⟨0, by omega, rfl, KE.out, Below.refl _ _⟩
  case round =>
    obtain ⟨w5, hren⟩ : ∃ z, z = wr := ⟨_, rfl⟩
    subst hren
    obtain ⟨i, hi, rfl, kv, hB⟩ := hrel
    by_cases hlt : i < 64
    · have d1 : decide ((i : Int) < 64) = true := decide_eq_true (by omega)
      have ii : (0 : Int) ≤ (i : Int) ∧ (i : Int) < 64 := by omega
      have hix := HIX.out i hlt
      have HRV := Lib.hid (show runV ws h (i + 1) = rndV (KR.getD i 0) (ws.getD i 0) (runV ws h i) from rfl)
      have hwi := HW3.out i _ (c64_at (ws := ws) (i := i) (by omega))
      rw [Nat.zero_add] at hwi
      have HWI := Lib.hid (fun W (hW : Below E w3 W) => (hW.cell (p := ⟨G, i, none⟩) hG).trans hwi)
      generalize KR.getD i 0 = k at hix HRV
      generalize ws.getD i 0 = x at HWI HRV
      generalize runV ws h i = v at kv HRV
      clear hwi
      obtain ⟨c0, c1, c2, c3, c4, c5, c6, c7⟩ := cV kv
      have KV := Lib.hid kv
      clear kv
      go_upto_region 5 with (fail)
      go_quiet (skip)
      generalize hq : World.drewN _ _ = V
      have hBV := hq ▸ below_drewN (Below.refl w5.heap.size w5) _
      have KV2 := Lib.hid (KV.out.below hBV KV.out.lt)
      have hB := hB.trans (hBV.mono (Nat.le_of_lt KV.out.lt))
      clear hq c0 c1 c2 c3 c4 c5 c6 c7 hBV KV
      have KV := KV2
      clear KV2
      have lEV := KV.out.lt
      go_upto_region 6 with (fail)
      have KD := Lib.hid (KV.out.below (Below.refl V.heap.size V).drew KV.out.lt)
      refine wp_region_noPanic ?_
      refine wp_region_held_drew (S := (fun w' => (Below E V w' ∧ w'.cell? ⟨G, i, none⟩ = some (.int .u32 x)) ∧ w'.cell? ⟨E, 0, none⟩ = some (.int .u32 v.a) ∧ w'.cell? ⟨E, 1, none⟩ = some (.int .u32 v.b) ∧ w'.cell? ⟨E, 2, none⟩ = some (.int .u32 v.c) ∧ w'.cell? ⟨E, 3, none⟩ = some (.int .u32 v.d) ∧ w'.cell? ⟨E, 4, none⟩ = some (.int .u32 v.e) ∧ w'.cell? ⟨E, 5, none⟩ = some (.int .u32 v.f) ∧ w'.cell? ⟨E, 6, none⟩ = some (.int .u32 v.g) ∧ w'.cell? ⟨E, 7, none⟩ = some (.int .u32 v.h))) (by kernel_rfl) ⟨⟨(Below.refl _ _).drew, HWI.out _ (hB.trans (Below.refl _ _).drew)⟩, cV KD.out⟩ (fun hHeld => ?_)
      refine wpAnyH_take (i := 0) (oi := { dst := some 27, op := Op.indexAddr 193 (Operand.tmp 5) (Operand.const (Value.int IntKind.i64 7)), type := 0, pos := "digest.go:64", after := #[], guard := none }) (v := ?_) rfl (by kernel_rfl) (by kernel_rfl) (by kernel_rfl) (fun _ _ _ h => h) (Or.inl ⟨by kernel_rfl, ?_⟩) (by assumption) ?_
      rotate_left
      · intro w hSw
        (try dsimp only at hSw)
        go_simp
        all_goals (with_reducible rfl)
      (try simp only [Act.put, List.setIfInBounds_toArray, List.set_cons_zero, List.set_cons_succ])
      refine wpAnyH_take (i := 1) (oi := { dst := some 28, op := Op.load 109 (Operand.tmp 27), type := 109, pos := "digest.go:64", after := #[{ on := 0, ground := Ground.data }], guard := none }) (v := ?_) rfl (by kernel_rfl) (by kernel_rfl) (by kernel_rfl) (fun _ _ _ h => h) (Or.inl ⟨by kernel_rfl, ?_⟩) (by assumption) ?_
      rotate_left
      · intro w hSw
        (try dsimp only at hSw)
        go_simp
        all_goals (with_reducible rfl)
      (try simp only [Act.put, List.setIfInBounds_toArray, List.set_cons_zero, List.set_cons_succ])
      refine wpAnyH_take (i := 2) (oi := { dst := some 29, op := Op.move (Operand.tmp 9), type := 109, pos := "digest.go:64", after := #[], guard := none }) (v := ?_) rfl (by kernel_rfl) (by kernel_rfl) (by kernel_rfl) (fun _ _ _ h => h) (Or.inl ⟨by kernel_rfl, ?_⟩) (by assumption) ?_
      rotate_left
      · intro w hSw
        (try dsimp only at hSw)
        go_simp
        all_goals (with_reducible rfl)
      (try simp only [Act.put, List.setIfInBounds_toArray, List.set_cons_zero, List.set_cons_succ])
      refine wpAnyH_take (i := 6) (oi := { dst := some 33, op := Op.move (Operand.tmp 9), type := 109, pos := "digest.go:64", after := #[], guard := none }) (v := ?_) rfl (by kernel_rfl) (by kernel_rfl) (by kernel_rfl) (fun _ _ _ h => h) (Or.inl ⟨by kernel_rfl, ?_⟩) (by assumption) ?_
      rotate_left
      · intro w hSw
        (try dsimp only at hSw)
        go_simp
        all_goals (with_reducible rfl)
      (try simp only [Act.put, List.setIfInBounds_toArray, List.set_cons_zero, List.set_cons_succ])
      refine wpAnyH_take (i := 7) (oi := { dst := some 34, op := Op.indexAddr 193 (Operand.tmp 5) (Operand.const (Value.int IntKind.i64 5)), type := 0, pos := "digest.go:64", after := #[], guard := none }) (v := ?_) rfl (by kernel_rfl) (by kernel_rfl) (by kernel_rfl) (fun _ _ _ h => h) (Or.inl ⟨by kernel_rfl, ?_⟩) (by assumption) ?_
      rotate_left
      · intro w hSw
        (try dsimp only at hSw)
        go_simp
        all_goals (with_reducible rfl)
      (try simp only [Act.put, List.setIfInBounds_toArray, List.set_cons_zero, List.set_cons_succ])
      refine wpAnyH_take (i := 8) (oi := { dst := some 35, op := Op.load 109 (Operand.tmp 34), type := 109, pos := "digest.go:64", after := #[{ on := 7, ground := Ground.data }], guard := none }) (v := ?_) rfl (by kernel_rfl) (by kernel_rfl) (by kernel_rfl) (fun _ _ _ h => h) (Or.inl ⟨by kernel_rfl, ?_⟩) (by assumption) ?_
      rotate_left
      · intro w hSw
        (try dsimp only at hSw)
        go_simp
        all_goals (with_reducible rfl)
      (try simp only [Act.put, List.setIfInBounds_toArray, List.set_cons_zero, List.set_cons_succ])
      refine wpAnyH_take (i := 9) (oi := { dst := some 36, op := Op.binOp BinOp.and 109 (Operand.tmp 33) (Operand.tmp 35) 109, type := 109, pos := "digest.go:64", after := #[{ on := 6, ground := Ground.data }, { on := 8, ground := Ground.data }], guard := none }) (v := ?_) rfl (by kernel_rfl) (by kernel_rfl) (by kernel_rfl) (fun _ _ _ h => h) (Or.inl ⟨by kernel_rfl, ?_⟩) (by assumption) ?_
      rotate_left
      · intro w hSw
        (try dsimp only at hSw)
        go_simp
        all_goals (with_reducible rfl)
      (try simp only [Act.put, List.setIfInBounds_toArray, List.set_cons_zero, List.set_cons_succ])
      refine wpAnyH_take (i := 10) (oi := { dst := some 37, op := Op.move (Operand.tmp 9), type := 109, pos := "digest.go:64", after := #[], guard := none }) (v := ?_) rfl (by kernel_rfl) (by kernel_rfl) (by kernel_rfl) (fun _ _ _ h => h) (Or.inl ⟨by kernel_rfl, ?_⟩) (by assumption) ?_
      rotate_left
      · intro w hSw
        (try dsimp only at hSw)
        go_simp
        all_goals (with_reducible rfl)
      (try simp only [Act.put, List.setIfInBounds_toArray, List.set_cons_zero, List.set_cons_succ])
      refine wpAnyH_take (i := 11) (oi := { dst := some 38, op := Op.unOp UnOp.xor 109 (Operand.tmp 37), type := 109, pos := "digest.go:64", after := #[{ on := 10, ground := Ground.data }], guard := none }) (v := ?_) rfl (by kernel_rfl) (by kernel_rfl) (by kernel_rfl) (fun _ _ _ h => h) (Or.inl ⟨by kernel_rfl, ?_⟩) (by assumption) ?_
      rotate_left
      · intro w hSw
        (try dsimp only at hSw)
        go_simp
        all_goals (with_reducible rfl)
      (try simp only [Act.put, List.setIfInBounds_toArray, List.set_cons_zero, List.set_cons_succ])
      refine wpAnyH_take (i := 12) (oi := { dst := some 39, op := Op.indexAddr 193 (Operand.tmp 5) (Operand.const (Value.int IntKind.i64 6)), type := 0, pos := "digest.go:64", after := #[], guard := none }) (v := ?_) rfl (by kernel_rfl) (by kernel_rfl) (by kernel_rfl) (fun _ _ _ h => h) (Or.inl ⟨by kernel_rfl, ?_⟩) (by assumption) ?_
      rotate_left
      · intro w hSw
        (try dsimp only at hSw)
        go_simp
        all_goals (with_reducible rfl)
      (try simp only [Act.put, List.setIfInBounds_toArray, List.set_cons_zero, List.set_cons_succ])
      refine wpAnyH_take (i := 13) (oi := { dst := some 40, op := Op.load 109 (Operand.tmp 39), type := 109, pos := "digest.go:64", after := #[{ on := 12, ground := Ground.data }], guard := none }) (v := ?_) rfl (by kernel_rfl) (by kernel_rfl) (by kernel_rfl) (fun _ _ _ h => h) (Or.inl ⟨by kernel_rfl, ?_⟩) (by assumption) ?_
      rotate_left
      · intro w hSw
        (try dsimp only at hSw)
        go_simp
        all_goals (with_reducible rfl)
      (try simp only [Act.put, List.setIfInBounds_toArray, List.set_cons_zero, List.set_cons_succ])
      refine wpAnyH_take (i := 14) (oi := { dst := some 41, op := Op.binOp BinOp.and 109 (Operand.tmp 38) (Operand.tmp 40) 109, type := 109, pos := "digest.go:64", after := #[{ on := 11, ground := Ground.data }, { on := 13, ground := Ground.data }], guard := none }) (v := ?_) rfl (by kernel_rfl) (by kernel_rfl) (by kernel_rfl) (fun _ _ _ h => h) (Or.inl ⟨by kernel_rfl, ?_⟩) (by assumption) ?_
      rotate_left
      · intro w hSw
        (try dsimp only at hSw)
        go_simp
        all_goals (with_reducible rfl)
      (try simp only [Act.put, List.setIfInBounds_toArray, List.set_cons_zero, List.set_cons_succ])
      refine wpAnyH_take (i := 15) (oi := { dst := some 42, op := Op.binOp BinOp.xor 109 (Operand.tmp 36) (Operand.tmp 41) 109, type := 109, pos := "digest.go:64", after := #[{ on := 9, ground := Ground.data }, { on := 14, ground := Ground.data }], guard := none }) (v := ?_) rfl (by kernel_rfl) (by kernel_rfl) (by kernel_rfl) (fun _ _ _ h => h) (Or.inl ⟨by kernel_rfl, ?_⟩) (by assumption) ?_
      rotate_left
      · intro w hSw
        (try dsimp only at hSw)
        go_simp
        all_goals (with_reducible rfl)
      (try simp only [Act.put, List.setIfInBounds_toArray, List.set_cons_zero, List.set_cons_succ])
      refine wpAnyH_take (i := 17) (oi := { dst := some 44, op := Op.move (Operand.tmp 7), type := 109, pos := "digest.go:64", after := #[], guard := none }) (v := ?_) rfl (by kernel_rfl) (by kernel_rfl) (by kernel_rfl) (fun _ _ _ h => h) (Or.inl ⟨by kernel_rfl, ?_⟩) (by assumption) ?_
      rotate_left
      · intro w hSw
        (try dsimp only at hSw)
        go_simp
        all_goals (with_reducible rfl)
      (try simp only [Act.put, List.setIfInBounds_toArray, List.set_cons_zero, List.set_cons_succ])
      refine wpAnyH_take (i := 19) (oi := { dst := some 46, op := Op.move (Operand.tmp 6), type := 3, pos := "digest.go:64", after := #[], guard := none }) (v := ?_) rfl (by kernel_rfl) (by kernel_rfl) (by kernel_rfl) (fun _ _ _ h => h) (Or.inl ⟨by kernel_rfl, ?_⟩) (by assumption) ?_
      rotate_left
      · intro w hSw
        (try dsimp only at hSw)
        go_simp
        all_goals (with_reducible rfl)
      (try simp only [Act.put, List.setIfInBounds_toArray, List.set_cons_zero, List.set_cons_succ])
      refine wpAnyH_take (i := 20) (oi := { dst := some 47, op := Op.indexAddr 214 (Operand.tmp 4) (Operand.tmp 46), type := 0, pos := "digest.go:64", after := #[{ on := 19, ground := Ground.data }], guard := none }) (v := ?_) rfl (by kernel_rfl) (by kernel_rfl) (by kernel_rfl) (fun _ _ _ h => h) (Or.inl ⟨by kernel_rfl, ?_⟩) (by assumption) ?_
      rotate_left
      · intro w hSw
        (try dsimp only at hSw)
        go_simp
        all_goals (with_reducible rfl)
      (try simp only [Act.put, List.setIfInBounds_toArray, List.set_cons_zero, List.set_cons_succ])
      refine wpAnyH_take (i := 21) (oi := { dst := some 48, op := Op.load 109 (Operand.tmp 47), type := 109, pos := "digest.go:64", after := #[{ on := 20, ground := Ground.data }], guard := none }) (v := ?_) rfl (by kernel_rfl) (by kernel_rfl) (by kernel_rfl) (fun _ _ _ h => h) (Or.inl ⟨by kernel_rfl, ?_⟩) (by assumption) ?_
      rotate_left
      · intro w hSw
        (try dsimp only at hSw)
        go_simp
        all_goals (with_reducible rfl)
      (try simp only [Act.put, List.setIfInBounds_toArray, List.set_cons_zero, List.set_cons_succ])
      refine wpAnyH_one1 (i := 3) (o := { dst := some 30, op := Op.buildSlice 56 3 #[(0, Operand.const (Value.int IntKind.i64 6)), (1, Operand.const (Value.int IntKind.i64 11)), (2, Operand.const (Value.int IntKind.i64 25))], type := 56, pos := "digest.go:64", after := #[], guard := none }) (by kernel_rfl) rfl (fun K hK => ?_)
      go_simp
      have hb6 := hHeld.1.1.alloc (by simp; omega) (.cells #[.int .i64 6, .int .i64 11, .int .i64 25] 3)
      refine hK.out _ _ ?_ (fun hHeld2 => ?_)
      · exact ⟨⟨hb6, HWI.out _ (hB.trans hb6)⟩, cV (KD.out.alloc _)⟩
      clear hHeld
      have hHeld := hHeld2
      clear hHeld2
      clear hK K
      (try simp only [Act.put, List.setIfInBounds_toArray, List.set_cons_zero, List.set_cons_succ])
      refine wpAnyH_one1 (i := 4) (o := { dst := some 31, op := Op.call { callee := Callee.value (Operand.func 145), args := #[Operand.tmp 29, Operand.tmp 30], argTypes := #[109, 56] }, type := 109, pos := "digest.go:64", after := #[{ on := 2, ground := Ground.data }, { on := 3, ground := Ground.data }], guard := none }) (by kernel_rfl) rfl (fun K hK => ?_)
      go_simp
      go_at_call 145
      refine (mixed145 v.e _ [6, 11, 25] _ (by decide) (ints3 (Blk.newAt V.drew #[.int .i64 6, .int .i64 11, .int .i64 25] 3 (n := V.heap.size) rfl))).mono ?_
      rintro e wq ⟨rfl, rfl⟩
      refine hK.out _ _ ?_ (fun hHeld2 => ?_)
      · exact hHeld
      clear hHeld
      have hHeld := hHeld2
      clear hHeld2
      clear hK K
      (try simp only [Act.put, List.setIfInBounds_toArray, List.set_cons_zero, List.set_cons_succ])
      refine wpAnyH_take (i := 5) (oi := { dst := some 32, op := Op.binOp BinOp.add 109 (Operand.tmp 28) (Operand.tmp 31) 109, type := 109, pos := "digest.go:64", after := #[{ on := 1, ground := Ground.data }, { on := 4, ground := Ground.data }], guard := none }) (v := ?_) rfl (by kernel_rfl) (by kernel_rfl) (by kernel_rfl) (fun _ _ _ h => h) (Or.inl ⟨by kernel_rfl, ?_⟩) (by assumption) ?_
      rotate_left
      · intro w hSw
        (try dsimp only at hSw)
        go_simp
        all_goals (with_reducible rfl)
      (try simp only [Act.put, List.setIfInBounds_toArray, List.set_cons_zero, List.set_cons_succ])
      refine wpAnyH_take (i := 16) (oi := { dst := some 43, op := Op.binOp BinOp.add 109 (Operand.tmp 32) (Operand.tmp 42) 109, type := 109, pos := "digest.go:64", after := #[{ on := 5, ground := Ground.data }, { on := 15, ground := Ground.data }], guard := none }) (v := ?_) rfl (by kernel_rfl) (by kernel_rfl) (by kernel_rfl) (fun _ _ _ h => h) (Or.inl ⟨by kernel_rfl, ?_⟩) (by assumption) ?_
      rotate_left
      · intro w hSw
        (try dsimp only at hSw)
        go_simp
        all_goals (with_reducible rfl)
      (try simp only [Act.put, List.setIfInBounds_toArray, List.set_cons_zero, List.set_cons_succ])
      refine wpAnyH_take (i := 18) (oi := { dst := some 45, op := Op.binOp BinOp.add 109 (Operand.tmp 43) (Operand.tmp 44) 109, type := 109, pos := "digest.go:64", after := #[{ on := 16, ground := Ground.data }, { on := 17, ground := Ground.data }], guard := none }) (v := ?_) rfl (by kernel_rfl) (by kernel_rfl) (by kernel_rfl) (fun _ _ _ h => h) (Or.inl ⟨by kernel_rfl, ?_⟩) (by assumption) ?_
      rotate_left
      · intro w hSw
        (try dsimp only at hSw)
        go_simp
        all_goals (with_reducible rfl)
      (try simp only [Act.put, List.setIfInBounds_toArray, List.set_cons_zero, List.set_cons_succ])
      refine wpAnyH_take (i := 22) (oi := { dst := some 49, op := Op.binOp BinOp.add 109 (Operand.tmp 45) (Operand.tmp 48) 109, type := 109, pos := "digest.go:64", after := #[{ on := 18, ground := Ground.data }, { on := 21, ground := Ground.data }], guard := none }) (v := ?_) rfl (by kernel_rfl) (by kernel_rfl) (by kernel_rfl) (fun _ _ _ h => h) (Or.inl ⟨by kernel_rfl, ?_⟩) (by assumption) ?_
      rotate_left
      · intro w hSw
        (try dsimp only at hSw)
        go_simp
        all_goals (with_reducible rfl)
      (try simp only [Act.put, List.setIfInBounds_toArray, List.set_cons_zero, List.set_cons_succ])
      refine wpAnyH_take (i := 23) (oi := { dst := some 10, op := Op.assign (Operand.tmp 49), type := 109, pos := "digest.go:64", after := #[{ on := 22, ground := Ground.data }, { on := 4, ground := Ground.chain }, { on := 0, ground := Ground.phase }, { on := 1, ground := Ground.phase }, { on := 2, ground := Ground.phase }, { on := 3, ground := Ground.phase }, { on := 4, ground := Ground.phase }, { on := 5, ground := Ground.phase }, { on := 6, ground := Ground.phase }, { on := 7, ground := Ground.phase }, { on := 8, ground := Ground.phase }, { on := 9, ground := Ground.phase }, { on := 10, ground := Ground.phase }, { on := 11, ground := Ground.phase }, { on := 12, ground := Ground.phase }, { on := 13, ground := Ground.phase }, { on := 14, ground := Ground.phase }, { on := 15, ground := Ground.phase }, { on := 16, ground := Ground.phase }, { on := 17, ground := Ground.phase }, { on := 18, ground := Ground.phase }, { on := 19, ground := Ground.phase }, { on := 20, ground := Ground.phase }, { on := 21, ground := Ground.phase }, { on := 22, ground := Ground.phase }], guard := none }) (v := ?_) rfl (by kernel_rfl) (by kernel_rfl) (by kernel_rfl) (fun _ _ _ h => h) (Or.inl ⟨by kernel_rfl, ?_⟩) (by assumption) ?_
      rotate_left
      · intro w hSw
        (try dsimp only at hSw)
        go_simp
        all_goals (with_reducible rfl)
      (try simp only [Act.put, List.setIfInBounds_toArray, List.set_cons_zero, List.set_cons_succ])
      refine wpAnyH_done (by kernel_rfl) ?_ _
      refine NoPanic.normal ?_
      have hX := hHeld.1.1
      clear hHeld
      have KV2 := Lib.hid (KD.out.alloc (.cells #[.int .i64 6, .int .i64 11, .int .i64 25] 3))
      have hB := hB.trans hX
      clear hX KD KV lEV
      generalize (V.drew).alloc (.cells #[.int .i64 6, .int .i64 11, .int .i64 25] 3) = V6 at KV2 hB ⊢
      have KV := KV2
      clear KV2
      generalize hT : IntKind.u32.wrap (IntKind.u32.wrap (IntKind.u32.wrap (IntKind.u32.wrap (v.h + mixV v.e [6, 11, 25]) + bits .xor .u32 (bits .and .u32 v.e v.f) (bits .and .u32 (bits .xor .u32 (if IntKind.u32.signed = true then -1 else IntKind.u32.max) v.e) v.g)) + k) + x) = tv
      have HTV := Lib.hid (show tV v k x = tv from hT)
      clear hT
      have lEV := KV.out.lt
      go_upto_region 7 with (fail)
      have KD := Lib.hid (KV.out.below (Below.refl V6.heap.size V6).drew KV.out.lt)
      refine wp_region_noPanic ?_
      refine wp_region_held_drew (S := (fun w' => Below E V6 w' ∧ w'.cell? ⟨E, 0, none⟩ = some (.int .u32 v.a) ∧ w'.cell? ⟨E, 1, none⟩ = some (.int .u32 v.b) ∧ w'.cell? ⟨E, 2, none⟩ = some (.int .u32 v.c) ∧ w'.cell? ⟨E, 3, none⟩ = some (.int .u32 v.d) ∧ w'.cell? ⟨E, 4, none⟩ = some (.int .u32 v.e) ∧ w'.cell? ⟨E, 5, none⟩ = some (.int .u32 v.f) ∧ w'.cell? ⟨E, 6, none⟩ = some (.int .u32 v.g) ∧ w'.cell? ⟨E, 7, none⟩ = some (.int .u32 v.h))) (by kernel_rfl) ⟨(Below.refl _ _).drew, cV KD.out⟩ (fun hHeld => ?_)
      refine wpAnyH_take (i := 0) (oi := { dst := some 50, op := Op.move (Operand.tmp 8), type := 109, pos := "digest.go:65", after := #[], guard := none }) (v := ?_) rfl (by kernel_rfl) (by kernel_rfl) (by kernel_rfl) (fun _ _ _ h => h) (Or.inl ⟨by kernel_rfl, ?_⟩) (by assumption) ?_
      rotate_left
      · intro w hSw
        (try dsimp only at hSw)
        go_simp
        all_goals (with_reducible rfl)
      (try simp only [Act.put, List.setIfInBounds_toArray, List.set_cons_zero, List.set_cons_succ])
      refine wpAnyH_take (i := 3) (oi := { dst := some 53, op := Op.move (Operand.tmp 8), type := 109, pos := "digest.go:65", after := #[], guard := none }) (v := ?_) rfl (by kernel_rfl) (by kernel_rfl) (by kernel_rfl) (fun _ _ _ h => h) (Or.inl ⟨by kernel_rfl, ?_⟩) (by assumption) ?_
      rotate_left
      · intro w hSw
        (try dsimp only at hSw)
        go_simp
        all_goals (with_reducible rfl)
      (try simp only [Act.put, List.setIfInBounds_toArray, List.set_cons_zero, List.set_cons_succ])
      refine wpAnyH_take (i := 4) (oi := { dst := some 54, op := Op.indexAddr 193 (Operand.tmp 5) (Operand.const (Value.int IntKind.i64 1)), type := 0, pos := "digest.go:65", after := #[], guard := none }) (v := ?_) rfl (by kernel_rfl) (by kernel_rfl) (by kernel_rfl) (fun _ _ _ h => h) (Or.inl ⟨by kernel_rfl, ?_⟩) (by assumption) ?_
      rotate_left
      · intro w hSw
        (try dsimp only at hSw)
        go_simp
        all_goals (with_reducible rfl)
      (try simp only [Act.put, List.setIfInBounds_toArray, List.set_cons_zero, List.set_cons_succ])
      refine wpAnyH_take (i := 5) (oi := { dst := some 55, op := Op.load 109 (Operand.tmp 54), type := 109, pos := "digest.go:65", after := #[{ on := 4, ground := Ground.data }], guard := none }) (v := ?_) rfl (by kernel_rfl) (by kernel_rfl) (by kernel_rfl) (fun _ _ _ h => h) (Or.inl ⟨by kernel_rfl, ?_⟩) (by assumption) ?_
      rotate_left
      · intro w hSw
        (try dsimp only at hSw)
        go_simp
        all_goals (with_reducible rfl)
      (try simp only [Act.put, List.setIfInBounds_toArray, List.set_cons_zero, List.set_cons_succ])
      refine wpAnyH_take (i := 6) (oi := { dst := some 56, op := Op.binOp BinOp.and 109 (Operand.tmp 53) (Operand.tmp 55) 109, type := 109, pos := "digest.go:65", after := #[{ on := 3, ground := Ground.data }, { on := 5, ground := Ground.data }], guard := none }) (v := ?_) rfl (by kernel_rfl) (by kernel_rfl) (by kernel_rfl) (fun _ _ _ h => h) (Or.inl ⟨by kernel_rfl, ?_⟩) (by assumption) ?_
      rotate_left
      · intro w hSw
        (try dsimp only at hSw)
        go_simp
        all_goals (with_reducible rfl)
      (try simp only [Act.put, List.setIfInBounds_toArray, List.set_cons_zero, List.set_cons_succ])
      refine wpAnyH_take (i := 7) (oi := { dst := some 57, op := Op.move (Operand.tmp 8), type := 109, pos := "digest.go:65", after := #[], guard := none }) (v := ?_) rfl (by kernel_rfl) (by kernel_rfl) (by kernel_rfl) (fun _ _ _ h => h) (Or.inl ⟨by kernel_rfl, ?_⟩) (by assumption) ?_
      rotate_left
      · intro w hSw
        (try dsimp only at hSw)
        go_simp
        all_goals (with_reducible rfl)
      (try simp only [Act.put, List.setIfInBounds_toArray, List.set_cons_zero, List.set_cons_succ])
      refine wpAnyH_take (i := 8) (oi := { dst := some 58, op := Op.indexAddr 193 (Operand.tmp 5) (Operand.const (Value.int IntKind.i64 2)), type := 0, pos := "digest.go:65", after := #[], guard := none }) (v := ?_) rfl (by kernel_rfl) (by kernel_rfl) (by kernel_rfl) (fun _ _ _ h => h) (Or.inl ⟨by kernel_rfl, ?_⟩) (by assumption) ?_
      rotate_left
      · intro w hSw
        (try dsimp only at hSw)
        go_simp
        all_goals (with_reducible rfl)
      (try simp only [Act.put, List.setIfInBounds_toArray, List.set_cons_zero, List.set_cons_succ])
      refine wpAnyH_take (i := 9) (oi := { dst := some 59, op := Op.load 109 (Operand.tmp 58), type := 109, pos := "digest.go:65", after := #[{ on := 8, ground := Ground.data }], guard := none }) (v := ?_) rfl (by kernel_rfl) (by kernel_rfl) (by kernel_rfl) (fun _ _ _ h => h) (Or.inl ⟨by kernel_rfl, ?_⟩) (by assumption) ?_
      rotate_left
      · intro w hSw
        (try dsimp only at hSw)
        go_simp
        all_goals (with_reducible rfl)
      (try simp only [Act.put, List.setIfInBounds_toArray, List.set_cons_zero, List.set_cons_succ])
      refine wpAnyH_take (i := 10) (oi := { dst := some 60, op := Op.binOp BinOp.and 109 (Operand.tmp 57) (Operand.tmp 59) 109, type := 109, pos := "digest.go:65", after := #[{ on := 7, ground := Ground.data }, { on := 9, ground := Ground.data }], guard := none }) (v := ?_) rfl (by kernel_rfl) (by kernel_rfl) (by kernel_rfl) (fun _ _ _ h => h) (Or.inl ⟨by kernel_rfl, ?_⟩) (by assumption) ?_
      rotate_left
      · intro w hSw
        (try dsimp only at hSw)
        go_simp
        all_goals (with_reducible rfl)
      (try simp only [Act.put, List.setIfInBounds_toArray, List.set_cons_zero, List.set_cons_succ])
      refine wpAnyH_take (i := 11) (oi := { dst := some 61, op := Op.binOp BinOp.xor 109 (Operand.tmp 56) (Operand.tmp 60) 109, type := 109, pos := "digest.go:65", after := #[{ on := 6, ground := Ground.data }, { on := 10, ground := Ground.data }], guard := none }) (v := ?_) rfl (by kernel_rfl) (by kernel_rfl) (by kernel_rfl) (fun _ _ _ h => h) (Or.inl ⟨by kernel_rfl, ?_⟩) (by assumption) ?_
      rotate_left
      · intro w hSw
        (try dsimp only at hSw)
        go_simp
        all_goals (with_reducible rfl)
      (try simp only [Act.put, List.setIfInBounds_toArray, List.set_cons_zero, List.set_cons_succ])
      refine wpAnyH_take (i := 12) (oi := { dst := some 62, op := Op.indexAddr 193 (Operand.tmp 5) (Operand.const (Value.int IntKind.i64 1)), type := 0, pos := "digest.go:65", after := #[], guard := none }) (v := ?_) rfl (by kernel_rfl) (by kernel_rfl) (by kernel_rfl) (fun _ _ _ h => h) (Or.inl ⟨by kernel_rfl, ?_⟩) (by assumption) ?_
      rotate_left
      · intro w hSw
        (try dsimp only at hSw)
        go_simp
        all_goals (with_reducible rfl)
      (try simp only [Act.put, List.setIfInBounds_toArray, List.set_cons_zero, List.set_cons_succ])
      refine wpAnyH_take (i := 13) (oi := { dst := some 63, op := Op.load 109 (Operand.tmp 62), type := 109, pos := "digest.go:65", after := #[{ on := 12, ground := Ground.data }], guard := none }) (v := ?_) rfl (by kernel_rfl) (by kernel_rfl) (by kernel_rfl) (fun _ _ _ h => h) (Or.inl ⟨by kernel_rfl, ?_⟩) (by assumption) ?_
      rotate_left
      · intro w hSw
        (try dsimp only at hSw)
        go_simp
        all_goals (with_reducible rfl)
      (try simp only [Act.put, List.setIfInBounds_toArray, List.set_cons_zero, List.set_cons_succ])
      refine wpAnyH_take (i := 14) (oi := { dst := some 64, op := Op.indexAddr 193 (Operand.tmp 5) (Operand.const (Value.int IntKind.i64 2)), type := 0, pos := "digest.go:65", after := #[], guard := none }) (v := ?_) rfl (by kernel_rfl) (by kernel_rfl) (by kernel_rfl) (fun _ _ _ h => h) (Or.inl ⟨by kernel_rfl, ?_⟩) (by assumption) ?_
      rotate_left
      · intro w hSw
        (try dsimp only at hSw)
        go_simp
        all_goals (with_reducible rfl)
      (try simp only [Act.put, List.setIfInBounds_toArray, List.set_cons_zero, List.set_cons_succ])
      refine wpAnyH_take (i := 15) (oi := { dst := some 65, op := Op.load 109 (Operand.tmp 64), type := 109, pos := "digest.go:65", after := #[{ on := 14, ground := Ground.data }], guard := none }) (v := ?_) rfl (by kernel_rfl) (by kernel_rfl) (by kernel_rfl) (fun _ _ _ h => h) (Or.inl ⟨by kernel_rfl, ?_⟩) (by assumption) ?_
      rotate_left
      · intro w hSw
        (try dsimp only at hSw)
        go_simp
        all_goals (with_reducible rfl)
      (try simp only [Act.put, List.setIfInBounds_toArray, List.set_cons_zero, List.set_cons_succ])
      refine wpAnyH_take (i := 16) (oi := { dst := some 66, op := Op.binOp BinOp.and 109 (Operand.tmp 63) (Operand.tmp 65) 109, type := 109, pos := "digest.go:65", after := #[{ on := 13, ground := Ground.data }, { on := 15, ground := Ground.data }], guard := none }) (v := ?_) rfl (by kernel_rfl) (by kernel_rfl) (by kernel_rfl) (fun _ _ _ h => h) (Or.inl ⟨by kernel_rfl, ?_⟩) (by assumption) ?_
      rotate_left
      · intro w hSw
        (try dsimp only at hSw)
        go_simp
        all_goals (with_reducible rfl)
      (try simp only [Act.put, List.setIfInBounds_toArray, List.set_cons_zero, List.set_cons_succ])
      refine wpAnyH_take (i := 17) (oi := { dst := some 67, op := Op.binOp BinOp.xor 109 (Operand.tmp 61) (Operand.tmp 66) 109, type := 109, pos := "digest.go:65", after := #[{ on := 11, ground := Ground.data }, { on := 16, ground := Ground.data }], guard := none }) (v := ?_) rfl (by kernel_rfl) (by kernel_rfl) (by kernel_rfl) (fun _ _ _ h => h) (Or.inl ⟨by kernel_rfl, ?_⟩) (by assumption) ?_
      rotate_left
      · intro w hSw
        (try dsimp only at hSw)
        go_simp
        all_goals (with_reducible rfl)
      (try simp only [Act.put, List.setIfInBounds_toArray, List.set_cons_zero, List.set_cons_succ])
      refine wpAnyH_one1 (i := 1) (o := { dst := some 51, op := Op.buildSlice 56 3 #[(0, Operand.const (Value.int IntKind.i64 2)), (1, Operand.const (Value.int IntKind.i64 13)), (2, Operand.const (Value.int IntKind.i64 22))], type := 56, pos := "digest.go:65", after := #[], guard := none }) (by kernel_rfl) rfl (fun K hK => ?_)
      go_simp
      refine hK.out _ _ ?_ (fun hHeld2 => ?_)
      · exact ⟨hHeld.1.alloc (by simp; omega) _, cV (KD.out.alloc _)⟩
      clear hHeld
      have hHeld := hHeld2
      clear hHeld2
      clear hK K
      (try simp only [Act.put, List.setIfInBounds_toArray, List.set_cons_zero, List.set_cons_succ])
      refine wpAnyH_one1 (i := 2) (o := { dst := some 52, op := Op.call { callee := Callee.value (Operand.func 145), args := #[Operand.tmp 50, Operand.tmp 51], argTypes := #[109, 56] }, type := 109, pos := "digest.go:65", after := #[{ on := 0, ground := Ground.data }, { on := 1, ground := Ground.data }], guard := none }) (by kernel_rfl) rfl (fun K hK => ?_)
      go_simp
      go_at_call 145
      refine (mixed145 v.a _ [2, 13, 22] _ (by decide) (ints3 (Blk.newAt V6.drew #[.int .i64 2, .int .i64 13, .int .i64 22] 3 (n := V6.heap.size) rfl))).mono ?_
      rintro e wq ⟨rfl, rfl⟩
      refine hK.out _ _ ?_ (fun hHeld2 => ?_)
      · exact hHeld
      clear hHeld
      have hHeld := hHeld2
      clear hHeld2
      clear hK K
      (try simp only [Act.put, List.setIfInBounds_toArray, List.set_cons_zero, List.set_cons_succ])
      refine wpAnyH_take (i := 18) (oi := { dst := some 68, op := Op.binOp BinOp.add 109 (Operand.tmp 52) (Operand.tmp 67) 109, type := 109, pos := "digest.go:65", after := #[{ on := 2, ground := Ground.data }, { on := 17, ground := Ground.data }], guard := none }) (v := ?_) rfl (by kernel_rfl) (by kernel_rfl) (by kernel_rfl) (fun _ _ _ h => h) (Or.inl ⟨by kernel_rfl, ?_⟩) (by assumption) ?_
      rotate_left
      · intro w hSw
        (try dsimp only at hSw)
        go_simp
        all_goals (with_reducible rfl)
      (try simp only [Act.put, List.setIfInBounds_toArray, List.set_cons_zero, List.set_cons_succ])
      refine wpAnyH_take (i := 19) (oi := { dst := some 11, op := Op.assign (Operand.tmp 68), type := 109, pos := "digest.go:65", after := #[{ on := 18, ground := Ground.data }, { on := 2, ground := Ground.chain }, { on := 0, ground := Ground.phase }, { on := 1, ground := Ground.phase }, { on := 2, ground := Ground.phase }, { on := 3, ground := Ground.phase }, { on := 4, ground := Ground.phase }, { on := 5, ground := Ground.phase }, { on := 6, ground := Ground.phase }, { on := 7, ground := Ground.phase }, { on := 8, ground := Ground.phase }, { on := 9, ground := Ground.phase }, { on := 10, ground := Ground.phase }, { on := 11, ground := Ground.phase }, { on := 12, ground := Ground.phase }, { on := 13, ground := Ground.phase }, { on := 14, ground := Ground.phase }, { on := 15, ground := Ground.phase }, { on := 16, ground := Ground.phase }, { on := 17, ground := Ground.phase }, { on := 18, ground := Ground.phase }], guard := none }) (v := ?_) rfl (by kernel_rfl) (by kernel_rfl) (by kernel_rfl) (fun _ _ _ h => h) (Or.inl ⟨by kernel_rfl, ?_⟩) (by assumption) ?_
      rotate_left
      · intro w hSw
        (try dsimp only at hSw)
        go_simp
        all_goals (with_reducible rfl)
      (try simp only [Act.put, List.setIfInBounds_toArray, List.set_cons_zero, List.set_cons_succ])
      refine wpAnyH_done (by kernel_rfl) ?_ _
      refine NoPanic.normal ?_
      have hX := hHeld.1
      clear hHeld
      have KV2 := Lib.hid (KD.out.alloc (.cells #[.int .i64 2, .int .i64 13, .int .i64 22] 3))
      have hB := hB.trans hX
      clear hX KD KV
      generalize (V6.drew).alloc (.cells #[.int .i64 2, .int .i64 13, .int .i64 22] 3) = V7 at KV2 hB ⊢
      have KV := KV2
      clear KV2
      generalize hU : IntKind.u32.wrap (mixV v.a [2, 13, 22] + bits .xor .u32 (bits .xor .u32 (bits .and .u32 v.a v.b) (bits .and .u32 v.a v.c)) (bits .and .u32 v.b v.c)) = uv
      have HUV := Lib.hid (show uV v = uv from hU)
      clear hU
      have KD := Lib.hid (KV.out.below (Below.refl V7.heap.size V7).drew KV.out.lt)
      have lEV := KV.out.lt
      have hcs : ∀ j y, (c7V v)[j]? = some y → V7.drew.cell? ((⟨E, 0, none⟩ : Addr).add j) = some y := by
        intro j y hj
        rw [add_zero_off, KD.out.cell]
        match j with
        | 0 => exact hj
        | 1 => exact hj
        | 2 => exact hj
        | 3 => exact hj
        | 4 => exact hj
        | 5 => exact hj
        | 6 => exact hj
        | _ + 7 => simp at hj
      have hcp := run_copy_row (P := Tryz.prog) V7.drew 110 110 3 109 E 1 7 7 ⟨E, 0, none⟩ 7 8 (cellsV v) 193 (c7V v) Tryz.underlying110 (by kernel_rfl) KD.out rfl hcs (by show 1 + 7 ≤ 8; omega) (by intro y hy; simp at hy; rcases hy with rfl | rfl | rfl | rfl | rfl | rfl | rfl <;> rfl)
      have hrow : ((cellsV v).toList.take 1 ++ c7V v ++ (cellsV v).toList.drop (1 + 7)).toArray = cellsV ⟨v.a, v.a, v.b, v.c, v.d, v.e, v.f, v.g⟩ := rfl
      have hcp2 : (Builtin.copy_ #[110, 110] 3 #[.slice (some ⟨E, 1, none⟩) 7 7, .slice (some ⟨E, 0, none⟩) 7 8]).run Tryz.prog V7.drew = .ok (.int .i64 7) (V7.drew.setRow E (cellsV ⟨v.a, v.a, v.b, v.c, v.d, v.e, v.f, v.g⟩)) := hcp
      clear hcp hcs hrow
      have k8 := KD.out.row (cellsV ⟨v.a, v.a, v.b, v.c, v.d, v.e, v.f, v.g⟩)
      have hB8 : Below E V7 (V7.drew.setRow E (cellsV ⟨v.a, v.a, v.b, v.c, v.d, v.e, v.f, v.g⟩)) := by
        have := ((Frm.refl (fun k => k = E) V7).drew.setRow (b := E) (fun _ => rfl) (cellsV ⟨v.a, v.a, v.b, v.c, v.d, v.e, v.f, v.g⟩))
        exact this.below (Nat.le_of_lt lEV) (fun k hk => by omega)
      have hB := hB.trans hB8
      clear hB8
      go_upto_region 8 with (fail)
      go_still_tail 2, (by kernel_rfl)
      change wpList _ _ _ _ _ V7.drew
      go_upto_region 9 with (fail)
      generalize V7.drew.setRow E (cellsV ⟨v.a, v.a, v.b, v.c, v.d, v.e, v.f, v.g⟩) = V8' at k8 hB ⊢
      have hset : ((cellsV ⟨v.a, v.a, v.b, v.c, v.d, v.e, v.f, v.g⟩).setIfInBounds 0 (.int .u32 (addU tv uv))).setIfInBounds 4 (.int .u32 (addU v.d tv)) = cellsV (rndV k x v) := by
        rw [← HTV.out, ← HUV.out]; rfl
      have HSET := Lib.hid hset
      have c0 := k8.cell 0
      have c4 := k8.cell 4
      have f0 := k8.frozen 0
      have f4 := k8.frozen 4
      simp only [cellsV, List.getElem?_toArray, List.getElem?_cons_zero, List.getElem?_cons_succ] at c0 c4
      have K8 := Lib.hid ((k8.set 0 (.int .u32 (addU tv uv))).set 4 (.int .u32 (addU v.d tv)))
      have hB9 := (hB.setCell (p := ⟨E, 0, none⟩) (Nat.le_refl _) (.int .u32 (addU tv uv))).setCell (p := ⟨E, 4, none⟩) (Nat.le_refl _) (.int .u32 (addU v.d tv))
      have HB9 := Lib.hid hB9
      clear hB9 hset hcp2 KD KV lEV k8
      go_wp2
      go_roundw
      case rel => exact ⟨i + 1, by omega, by go_num, by rw [HRV.out, ← HSET.out]; exact K8.out, HB9.out⟩
      case measure => simp [intOf]; omega
    · have he : i = 64 := by omega
      have kv64 : Blk w5 E (cellsV (runV ws h 64)) 193 := he ▸ kv
      have d1 : decide ((i : Int) < 64) = false := decide_eq_false (by omega)
      have d1b : decide (i < 64) = false := decide_eq_false (by omega)
      clear he kv
      have hF := Frm.of_below (F := fun k => k = Hb) (b13.trans (hB.mono hwE))
      have kh := HH3.out.below hB lHE
      obtain ⟨v, hv⟩ : ∃ v, runV ws h 64 = v := ⟨_, rfl⟩
      rw [hv] at kv64 HADD
      have KV := Lib.hid kv64
      have KH := Lib.hid (show Blk w5 Hb (cellsV (pS h v 0)) 193 from kh)
      have HF := Lib.hid hF
      clear hv kv64 kh hF hB
      go_wp2
      go_loopw [12, 82] (fun _ u82 wr => ∃ j : Nat, j ≤ 8 ∧ u82 = .int .i64 (j : Int) ∧ Blk wr Hb (cellsV (pS h v j)) 193 ∧ Blk wr E (cellsV v) 193 ∧ Frm (fun k => k = Hb) w wr) (fun _ u82 _ => (8 - intOf u82).toNat)
      case atStart => exact ⟨0, by omega, rfl, KH.out, KV.out, HF.out⟩
      case round =>
        obtain ⟨j, hj, rfl, kh, ke, hF⟩ := hrel
        by_cases hj8 : j < 8
        · have e1 : decide ((j : Int) < 8) = true := decide_eq_true (by omega)
          have jj : (0 : Int) ≤ (j : Int) ∧ (j : Int) < 8 := by omega
          have ch := (kh.cell j).trans (cellsV_get hj8)
          rw [pS_get h v hj8] at ch
          have cv := (ke.cell j).trans (cellsV_get hj8)
          have kd := kh.below (Below.refl wr.heap.size wr).drew kh.lt
          have ch2 := (kd.cell j).trans (cellsV_get hj8)
          rw [pS_get h v hj8] at ch2
          have fh2 := kd.frozen j
          have hne : Hb ≠ E := by omega
          have ks := kd.set j (.int .u32 (addU (getV h j) (getV v j)))
          rw [pS_set h v hj8] at ks
          have KS := Lib.hid ks
          have KE2 := Lib.hid ((ke.below (Below.refl wr.heap.size wr).drew ke.lt).other (a := ⟨Hb, j, none⟩) (.int .u32 (addU (getV h j) (getV v j))) (show (⟨Hb, j, none⟩ : Addr).block ≠ E from hne).symm)
          have HF2 := Lib.hid (hF.drew.setCell (b := Hb) (o := j) (fun _ => rfl) (.int .u32 (addU (getV h j) (getV v j))))
          have HC := Lib.hid (And.intro ch2 fh2)
          generalize getV h j = hj1 at ch cv KS KE2 HF2 HC
          generalize getV v j = vj1 at ch cv KS KE2 HF2 HC
          clear ks kd ch2 fh2 kh ke
          go_upto_region 14 with (fail)
          go_still_tail 11, (by kernel_rfl)
          change wpList _ _ _ _ _ wr.drew
          obtain ⟨ch2, fh2⟩ := HC.out
          generalize wr.drew = WD at ch2 fh2 KS KE2 HF2 ⊢
          clear ch cv HC
          go_wp2
          go_roundw
          case rel => exact ⟨j + 1, by omega, by go_num, KS.out, KE2.out, HF2.out⟩
          case measure => simp [intOf]; omega
        · have he : j = 8 := by omega
          have kh8 : Blk wr Hb (cellsV (sumV h v)) 193 := by rw [he] at kh; exact kh
          have e1 : decide ((j : Int) < 8) = false := decide_eq_false (by omega)
          have e1b : decide (j < 8) = false := decide_eq_false (by omega)
          clear he kh ke
          go_wp2
          go_end0
          exact ⟨rfl, by rw [HADD.out]; exact kh8, hF⟩
end Go.Proofs.YtnckpnbecmmcpaaGreatDoor
