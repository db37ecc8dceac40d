/- package journal: a record is added to a tape. -/
import Derived.Test.YtnckpnbecmmcpaaGreatDoorSD
namespace Go.Proofs.YtnckpnbecmmcpaaGreatDoor
open Go.RowKit
open W01 (putsT putsE)
theorem E22 : ElemOK Tryz.prog 22 9 (.string ⟨#[]⟩) 1 16 := ⟨Tryz.underlying22, by kernel_rfl, rfl, by decide⟩
theorem one_conv {W : World} {g : Nat} (h : W.cell? ⟨g, 0, none⟩ = some (.int .u8 1)) : (convert 39 9 (.slice (some ⟨g, 0, none⟩) 1 1)).run Tryz.prog W = .ok (.string m1) W :=
  run_convert_bytes_arg (P := Tryz.prog) W 39 5 Tryz.underlying39 Tryz.underlying5 g 0 1 1 [1] rfl (fun j hj => by
    obtain rfl : j = 0 := by omega
    exact h) 9 Tryz.underlying9
attribute [local irreducible] wpStill
set_option maxRecDepth 100000 in
set_option maxHeartbeats 4000000 in
theorem add38 (base Tb : Nat) (t : TypeId) (vr : Value) (L : List ByteArray) (rest : List Value) (sz : Nat) (r : ByteArray) (w : World)
    (hb : Blk w Tb (([vr, .string (headS L), .int .i64 (sz : Int)] ++ rest).toArray) t) (ht : t ≠ 9) (ho : w.ownsRow base 9 1 vr L.length (L.map Value.string)) (hbase : base ≤ w.heap.size)
    (hL : L.length ≤ 100000) (hsz : sz ≤ 1000000000) (hr : r.size ≤ 65536) (hT : RoundT w) :
    Calls Tryz.prog 38 #[.pointer (some ⟨Tb, 0, none⟩), .string r] w fun e w' => e = .returned (.string (storedS (headS L) r)) ∧
      ∃ vr', Blk w' Tb (([vr', .string (headS (L ++ [r])), .int .i64 ((sz + (storedS (headS L) r).size : Nat) : Int)] ++ rest).toArray) t ∧ w'.ownsRow base 9 1 vr' (L.length + 1) ((L ++ [r]).map Value.string) ∧
        Frm (fun k => k = Tb ∨ vr.ownBlock = some k) w w' ∧ (vr'.ownBlock = vr.ownBlock ∨ ∃ g, vr'.ownBlock = some g ∧ w.heap.size ≤ g) := by
  have hlt := hb.lt
  have hps := putsT_size r hr
  have hsd := storedS_size (headS L) r
  have hcs := chainS_size (headS L) r
  have HS := Lib.hid (show storedS (headS L) r = m1 ++ putsT r ++ chainS (headS L) r from rfl)
  have HN := Lib.hid (headS_snoc L r)
  have hne : ∀ k, vr.ownBlock = some k → k ≠ Tb := fun k hk e => by
    obtain ⟨cur, hc, -⟩ := owned_block ho hk
    exact hc.ne hb (fun h => ht h.symm) e
  have c1 : ¬ 9223372036854775807 < m1.size + (putsT r).size := by have : m1.size = 1 := rfl; omega
  have c2 : ¬ 9223372036854775807 < (m1 ++ putsT r).size + (chainS (headS L) r).size := by rw [ByteArray.size_append]; have : m1.size = 1 := rfl; omega
  have c3 : ¬ 9223372036854775807 < m1.size + (putsT r).size + (chainS (headS L) r).size := by have : m1.size = 1 := rfl; omega
  have hsum : IntKind.i64.wrap ((sz : Int) + ((storedS (headS L) r).size : Int)) = ((sz + (storedS (headS L) r).size : Nat) : Int) := by rw [wrapS _ (by omega) (by omega)]; omega
  have hch := chain70 (headS L) r w (headS_size L) hr hT
  have HPU := Lib.hid (fun W => W01.putsU r W (by unfold maxLen; omega))
  have hLm : L.length + 1 ≤ maxLen := by unfold maxLen; omega
  have HHE := Lib.hid (And.intro (headS_size L) hr)
  generalize hst : storedS (headS L) r = st at *
  have HST := Lib.hid hst
  clear hst hsd hcs hps
  generalize headS (L ++ [r]) = hn at HN ⊢
  rw [← HN.out] at hch HS c2 c3
  generalize chainS (headS L) r = hn' at HN
  generalize headS L = h0 at *
  have d0 := hb.cell 0
  have d1 := hb.cell 1
  have d2 := hb.cell 2
  simp only [List.getElem?_toArray, List.cons_append, List.nil_append, List.getElem?_cons_zero, List.getElem?_cons_succ] at d0 d1 d2
  have HO := Lib.hid ho
  have HB := Lib.hid hb
  obtain ⟨a, cap, rfl, ha1, ha2⟩ := owned_len ho
  clear ho hb d0 d2 HN
  go_enter Tryz.func38, Tryz.ntmps38
  go_upto_region 2 with (go_at_call 70; refine hch.mono ?_; rintro e w1 ⟨rfl, hb1⟩; have k1 := HB.out.below hb1 hlt; have f1 := k1.frozen 1; have c01 := k1.cell 1; simp only [List.getElem?_toArray, List.cons_append, List.nil_append, List.getElem?_cons_zero, List.getElem?_cons_succ] at c01)
  have k2 : Blk (w1.setCell ⟨Tb, 1, none⟩ (.string hn)) Tb (([Value.slice a L.length cap, Value.string hn, Value.int .i64 (sz : Int)] ++ rest).toArray) t := by
    have := k1.set 1 (.string hn)
    simpa using this
  have ho2 : (w1.setCell ⟨Tb, 1, none⟩ (.string hn)).ownsRow base 9 1 (.slice a L.length cap) L.length (L.map Value.string) := by
    refine owned_kept (owned_below HO.out hb1) (fun g hg => Below.heap_setCell _ _ _ _ (fun e => hne g hg e))
  have hf2 : Frm (fun k => k = Tb ∨ (Value.slice a L.length cap).ownBlock = some k) w (w1.setCell ⟨Tb, 1, none⟩ (.string hn)) := (Frm.of_below hb1).setCell (fun _ => .inl rfl) _
  clear c01 f1 k1 hb1 d1
  generalize w1.setCell ⟨Tb, 1, none⟩ (.string hn) = w2 at k2 ho2 hf2 ⊢
  have hlt2 := k2.lt
  have e0 := k2.cell 0
  have e1 := k2.cell 1
  have e2 := k2.cell 2
  simp only [List.getElem?_toArray, List.cons_append, List.nil_append, List.getElem?_cons_zero, List.getElem?_cons_succ] at e0 e1 e2
  have HO2 := Lib.hid ho2
  have HK2 := Lib.hid k2
  have HF2 := Lib.hid hf2
  have hs2 := hf2.size
  clear ho2 k2 hf2 HO HB
  go_upto_region 4 with (first
    | (at_builtin; refine wpList_pushL E22 rfl _ _ rfl base HO2.out rfl rfl rfl (by intro u hu; simp at hu; rw [hu]; rfl) hLm (by omega) (Nat.le_trans hbase hs2) ?_; intro v' w3 hown' hb3 hk3 hv3; obtain ⟨g', cap', rfl⟩ := ownsRow_succ hown'; have k3 : Blk w3 Tb _ t := (hk3 Tb hlt2 (fun h => hne _ h rfl)).trans HK2.out; have f3 := k3.frozen 0; have g0 := k3.cell 0; have g2 := k3.cell 2; simp only [List.getElem?_toArray, List.cons_append, List.nil_append, List.getElem?_cons_zero, List.getElem?_cons_succ] at g0 g2)
    | (go_at_call 71; refine (HPU.out _).mono ?_; rintro e w5 ⟨rfl, hb5⟩))
  obtain ⟨v', hv'⟩ : ∃ v', v' = Value.slice (some ⟨g', 0, none⟩) (L.length + 1) cap' := ⟨_, rfl⟩
  have hne3 : ∀ k, v'.ownBlock = some k → k ≠ Tb := fun k hk e => by
    rw [hv'] at hk
    obtain ⟨cur, hc, -⟩ := owned_block hown' hk
    exact hc.ne k3 (fun h => ht h.symm) e
  have k4 : Blk (w3.setCell ⟨Tb, 0, none⟩ v') Tb (([v', Value.string hn, Value.int .i64 (sz : Int)] ++ rest).toArray) t := by
    have := k3.set 0 v'
    simpa using this
  have ho4 : (w3.setCell ⟨Tb, 0, none⟩ v').ownsRow base 9 1 v' (L.length + 1) ((L ++ [r]).map Value.string) := by
    rw [List.map_append]
    rw [← hv'] at hown'
    exact owned_kept hown' (fun g hg => Below.heap_setCell _ _ _ _ (fun e => hne3 g hg e))
  have hf3 : Frm (fun k => k = Tb ∨ (Value.slice a L.length cap).ownBlock = some k) w w3 := by
    refine HF2.out.trans (G := fun k => (Value.slice a L.length cap).ownBlock = some k ∨ w2.heap.size ≤ k) ⟨hb3.os, hb3.tape, hb3.output, hb3.size, fun k hk hn => hk3 k hk (fun h => hn (.inl h))⟩ (fun k hk h => ?_)
    rcases h with h | h
    · exact .inr h
    · omega
  have hf4 : Frm (fun k => k = Tb ∨ (Value.slice a L.length cap).ownBlock = some k) w (w3.setCell ⟨Tb, 0, none⟩ v') := hf3.setCell (fun _ => .inl rfl) _
  rw [← hv'] at hv3 hb5 ⊢
  clear hown' hb3 hk3 k3 f3 g0 g2 hf3 HO2 HK2 HF2 hv' e0 e1 e2 hch
  generalize w3.setCell ⟨Tb, 0, none⟩ v' = w4 at k4 ho4 hf4 hb5 ⊢
  have k5 := k4.below hb5 k4.lt
  have ho5 := owned_below ho4 hb5
  have hf5 : Frm (fun k => k = Tb ∨ (Value.slice a L.length cap).ownBlock = some k) w w5 := hf4.trans (Frm.of_below (F := fun _ => False) hb5) (fun _ _ h => h.elim)
  clear k4 ho4 hf4 hb5
  have d1 := k5.cell 1
  have d2 := k5.cell 2
  simp only [List.getElem?_toArray, List.cons_append, List.nil_append, List.getElem?_cons_zero, List.getElem?_cons_succ] at d1 d2
  have hl5 := k5.lt
  have HC := Lib.hid (fun W (hW : Below w5.heap.size w5 W) => (hW.cell (p := ⟨Tb, 1, none⟩) hl5).trans d1)
  have hcv := one_conv (W := (w5.alloc (.cells #[.int .u8 1] 5)).drew) (g := w5.heap.size) (by exact (Blk.new w5 #[.int .u8 1] 5).cell 0)
  refine wp_region_noPanic ?_
  refine wp_region_held_drew (S := (fun w' => w'.cell? ⟨Tb, 1, none⟩ = some (.string hn))) (by kernel_rfl) d1 (fun hHeld => ?_)
  refine wpAnyH_take (i := 2) (oi := { dst := some 34, op := Op.move (Operand.tmp 5), type := 9, pos := "journal.go:30", after := #[], guard := none }) (v := ?_) rfl (by kernel_rfl) (by kernel_rfl) (by kernel_rfl) (fun _ _ _ h => h) (Or.inl ⟨by kernel_rfl, ?_⟩) (by assumption) ?_
  rotate_left
  · intro w hSw
    (try dsimp only at hSw)
    go_simp
    all_goals (with_reducible rfl)
  (try simp only [Act.put, List.setIfInBounds_toArray, List.set_cons_zero, List.set_cons_succ])
  refine wpAnyH_take (i := 4) (oi := { dst := some 36, op := Op.move (Operand.tmp 0), type := 124, pos := "journal.go:30", after := #[], guard := none }) (v := ?_) rfl (by kernel_rfl) (by kernel_rfl) (by kernel_rfl) (fun _ _ _ h => h) (Or.inl ⟨by kernel_rfl, ?_⟩) (by assumption) ?_
  rotate_left
  · intro w hSw
    (try dsimp only at hSw)
    go_simp
    all_goals (with_reducible rfl)
  (try simp only [Act.put, List.setIfInBounds_toArray, List.set_cons_zero, List.set_cons_succ])
  refine wpAnyH_take (i := 5) (oi := { dst := some 37, op := Op.nilCheck (Operand.tmp 36), type := 0, pos := "journal.go:30", after := #[{ on := 4, ground := Ground.data }], guard := none }) (v := ?_) rfl (by kernel_rfl) (by kernel_rfl) (by kernel_rfl) (fun _ _ _ h => h) (Or.inl ⟨by kernel_rfl, ?_⟩) (by assumption) ?_
  rotate_left
  · intro w hSw
    (try dsimp only at hSw)
    go_simp
    all_goals (with_reducible rfl)
  (try simp only [Act.put, List.setIfInBounds_toArray, List.set_cons_zero, List.set_cons_succ])
  refine wpAnyH_take (i := 6) (oi := { dst := some 38, op := Op.fieldAddr 72 (Operand.tmp 37) 1, type := 0, pos := "journal.go:30", after := #[{ on := 5, ground := Ground.data }], guard := none }) (v := ?_) rfl (by kernel_rfl) (by kernel_rfl) (by kernel_rfl) (fun _ _ _ h => h) (Or.inl ⟨by kernel_rfl, ?_⟩) (by assumption) ?_
  rotate_left
  · intro w hSw
    (try dsimp only at hSw)
    go_simp
    all_goals (with_reducible rfl)
  (try simp only [Act.put, List.setIfInBounds_toArray, List.set_cons_zero, List.set_cons_succ])
  refine wpAnyH_take (i := 7) (oi := { dst := some 39, op := Op.load 9 (Operand.tmp 38), type := 9, pos := "journal.go:30", after := #[{ on := 6, ground := Ground.data }], guard := none }) (v := ?_) rfl (by kernel_rfl) (by kernel_rfl) (by kernel_rfl) (fun _ _ _ h => h) (Or.inl ⟨by kernel_rfl, ?_⟩) (by assumption) ?_
  rotate_left
  · intro w hSw
    (try dsimp only at hSw)
    go_simp
    all_goals (with_reducible rfl)
  (try simp only [Act.put, List.setIfInBounds_toArray, List.set_cons_zero, List.set_cons_succ])
  refine wpAnyH_one1 (i := 0) (o := { dst := some 32, op := Op.buildSlice 39 1 #[(0, Operand.const (Value.int IntKind.u8 1))], type := 39, pos := "journal.go:30", after := #[], guard := none }) (by kernel_rfl) rfl (fun K hK => ?_)
  go_simp
  refine hK.out _ _ ?_ (fun hHeld2 => ?_)
  · exact HC.out _ ((Below.refl _ _).drew.alloc (Nat.le_refl _) _)
  clear hHeld
  have hHeld := hHeld2
  clear hHeld2
  clear hK K
  (try simp only [Act.put, List.setIfInBounds_toArray, List.set_cons_zero, List.set_cons_succ])
  refine wpAnyH_one1 (i := 1) (o := { dst := some 33, op := Op.convert 39 9 (Operand.tmp 32), type := 9, pos := "journal.go:30", after := #[{ on := 0, ground := Ground.data }], guard := none }) (by kernel_rfl) rfl (fun K hK => ?_)
  go_simp
  refine hK.out _ _ ?_ (fun hHeld2 => ?_)
  · exact HC.out _ ((Below.refl _ _).drew.alloc (Nat.le_refl _) _)
  clear hHeld
  have hHeld := hHeld2
  clear hHeld2
  clear hK K
  (try simp only [Act.put, List.setIfInBounds_toArray, List.set_cons_zero, List.set_cons_succ])
  refine wpAnyH_take (i := 3) (oi := { dst := some 35, op := Op.binOp BinOp.add 9 (Operand.tmp 33) (Operand.tmp 34) 9, type := 9, pos := "journal.go:30", after := #[{ on := 1, ground := Ground.data }, { on := 2, ground := Ground.data }], guard := none }) (v := ?_) rfl (by kernel_rfl) (by kernel_rfl) (by kernel_rfl) (fun _ _ _ h => h) (Or.inl ⟨by kernel_rfl, ?_⟩) (by assumption) ?_
  rotate_left
  · intro w hSw
    (try dsimp only at hSw)
    go_simp
    all_goals (with_reducible rfl)
  (try simp only [Act.put, List.setIfInBounds_toArray, List.set_cons_zero, List.set_cons_succ])
  refine wpAnyH_take (i := 8) (oi := { dst := some 40, op := Op.binOp BinOp.add 9 (Operand.tmp 35) (Operand.tmp 39) 9, type := 9, pos := "journal.go:30", after := #[{ on := 3, ground := Ground.data }, { on := 7, ground := Ground.data }], guard := none }) (v := ?_) rfl (by kernel_rfl) (by kernel_rfl) (by kernel_rfl) (fun _ _ _ h => h) (Or.inl ⟨by kernel_rfl, ?_⟩) (by assumption) ?_
  rotate_left
  · intro w hSw
    (try dsimp only at hSw)
    go_simp
    all_goals (with_reducible rfl)
  (try simp only [Act.put, List.setIfInBounds_toArray, List.set_cons_zero, List.set_cons_succ])
  refine wpAnyH_take (i := 9) (oi := { dst := some 7, op := Op.assign (Operand.tmp 40), type := 9, pos := "journal.go:30", after := #[{ on := 8, ground := Ground.data }, { on := 0, ground := Ground.phase }, { on := 1, ground := Ground.phase }, { on := 2, ground := Ground.phase }, { on := 3, ground := Ground.phase }, { on := 4, ground := Ground.phase }, { on := 5, ground := Ground.phase }, { on := 6, ground := Ground.phase }, { on := 7, ground := Ground.phase }, { on := 8, ground := Ground.phase }], guard := none }) (v := ?_) rfl (by kernel_rfl) (by kernel_rfl) (by kernel_rfl) (fun _ _ _ h => h) (Or.inl ⟨by kernel_rfl, ?_⟩) (by assumption) ?_
  rotate_left
  · intro w hSw
    (try dsimp only at hSw)
    go_simp
    all_goals (with_reducible rfl)
  (try simp only [Act.put, List.setIfInBounds_toArray, List.set_cons_zero, List.set_cons_succ])
  refine wpAnyH_done (by kernel_rfl) ?_ _
  refine NoPanic.normal ?_
  clear hHeld
  have hb6 : Below w5.heap.size w5 (w5.alloc (.cells #[.int .u8 1] 5)).drew := ((Below.refl _ _).alloc (Nat.le_refl _) _).drew
  have k6 := k5.below hb6 hl5
  have ho6 := owned_below ho5 hb6
  have hf6 := (hf5.alloc (.cells #[.int .u8 1] 5)).drew
  clear k5 ho5 hf5 hb6 HC hcv d1
  generalize (w5.alloc (.cells #[.int .u8 1] 5)).drew = w6 at k6 ho6 hf6 ⊢
  have e2 := k6.cell 2
  have f2 := k6.frozen 2
  simp only [List.getElem?_toArray, List.cons_append, List.nil_append, List.getElem?_cons_zero, List.getElem?_cons_succ] at e2
  rw [← HS.out] 
  have k7 : Blk (w6.setCell ⟨Tb, 2, none⟩ (.int .i64 ((sz + st.size : Nat) : Int))) Tb (([v', Value.string hn, Value.int .i64 ((sz + st.size : Nat) : Int)] ++ rest).toArray) t := by
    have := k6.set 2 (.int .i64 ((sz + st.size : Nat) : Int))
    simpa using this
  have ho7 : (w6.setCell ⟨Tb, 2, none⟩ (.int .i64 ((sz + st.size : Nat) : Int))).ownsRow base 9 1 v' (L.length + 1) ((L ++ [r]).map Value.string) := owned_kept ho6 (fun g hg => Below.heap_setCell _ _ _ _ (fun e => hne3 g hg e))
  have hf7 := hf6.setCell (b := Tb) (o := 2) (fun _ => .inl rfl) (.int .i64 ((sz + st.size : Nat) : Int))
  have HE := Lib.hid (And.intro k7 (And.intro ho7 hf7))
  clear k7 ho7 hf7 k6 ho6 hf6
  go_wp2
  go_ret
  refine ⟨rfl, v', HE.out.1, HE.out.2.1, HE.out.2.2, ?_⟩
  rcases hv3 with h | ⟨g, h1, h2⟩
  · exact .inl h
  · exact .inr ⟨g, h1, Nat.le_trans hs2 h2⟩
end Go.Proofs.YtnckpnbecmmcpaaGreatDoor
