/- package journal: load. -/
import Derived.Test.YtnckpnbecmmcpaaGreatDoorJB
namespace Go.Proofs.YtnckpnbecmmcpaaGreatDoor
open Go.RowKit
open W01 (putsT putsE strN strE strC)
/-- Q, with what is owed at a panic told apart from the frame. -/
def PanicP (R : List PanicEntry → World → Prop) (Q : Exit → Act → World → Prop) : Exit → Act → World → Prop
  | .panic c, a, w => a.defers = [] ∧ R c w
  | e, a, w => Q e a w
theorem PanicP.normal {R : List PanicEntry → World → Prop} {Q : Exit → Act → World → Prop} {a : Act} {w : World} (h : Q .normal a w) : PanicP R Q .normal a w := h
theorem wp_region_panic {P : Program} {id : Nat} {ops : Array Oper} {b : Bool} {R : List PanicEntry → World → Prop} {Q : Exit → Act → World → Prop} {a : Act} {w : World} (hR : ∀ c (a : Act) w, a.defers = [] → R c w → Q (.panic c) a w)
    (h : (Code.region id ops b).wp P (PanicP R Q) a w) : (Code.region id ops b).wp P Q a w :=
  Code.wp_mono (fun e a w h => by cases e <;> first | exact h | exact hR _ _ _ h.1 h.2) h
theorem stored_iff {s head : ByteArray} {a e : Nat} (ha : a < s.size) (hm : byA s a = 1) (hp : putsT (strN s ((a : Int) + 1)) = s.extract (a + 1) e) (h1 : a + 1 < e) :
    s.extract a (e + 32) = storedS head (strN s ((a : Int) + 1)) ↔ s.extract e (e + 32) = chainS head (strN s ((a : Int) + 1)) := by
  have hmm : m1 = s.extract a (a + 1) := by
    apply W01.str_ext
    rw [Lib.extract_data]
    show [1] = _
    rw [W01.drop_cons s a ha, show a + 1 - a = 1 by omega]
    rw [byA_get ha] at hm
    simp only [List.take_succ_cons, List.take_zero]
    rw [show s[a] = 1 from UInt8.toNat_inj.1 hm]
  unfold storedS
  rw [hp, hmm, W01.extract_add s a (a + 1) e (by omega) (by omega)]
  rw [show s.extract a (e + 32) = s.extract a e ++ s.extract e (e + 32) from (W01.extract_add s a e (e + 32) (by omega) (by omega)).symm]
  constructor
  · intro h
    have := congrArg bts h
    rw [bts_append, bts_append] at this
    exact W01.str_ext (List.append_cancel_left this)
  · intro h; rw [h]
def tsz (w : World) (B : Nat) : Nat := match w.cell? ⟨B, 2, none⟩ with | some v => (intOf v).toNat | none => 0
theorem tapeN_snoc (L : List ByteArray) (r : ByteArray) : tapeN (L ++ [r]) = tapeN L + (storedS (headS L) r).size := by
  rw [tapeN_append, tapeN_one, storedS_size]
attribute [local irreducible] wpStill
set_option maxRecDepth 100000 in
set_option maxHeartbeats 4000000 in
theorem load78 (Tb : Nat) (t : TypeId) (rest : List Value) (s : ByteArray) (ea : Addr) (w : World)
    (hb : Blk w Tb (([Value.slice none 0 0, .string z32, .int .i64 ((0 : Nat) : Int)] ++ rest : List Value).toArray) t) (ht : t ≠ 9) (hs : s.size ≤ 100000) (hT : RoundT w) (hE : w.cell? ⟨0, 0, none⟩ = some (.iface 222 (.pointer (some ea)))) (h3 : 3 < Tb) :
    Calls Tryz.prog 78 #[.pointer (some ⟨Tb, 0, none⟩), .string s] w fun e w' => Frm (fun k => k = Tb) w w' ∧
      ((loadS s = none ∧ e = .panicked [dmg ea]) ∨ ∃ L, loadS s = some (L, tapeN L) ∧ e = .returned (.tuple #[]) ∧
        ∃ vr, Blk w' Tb (([vr, .string (headS L), .int .i64 (tapeN L : Int)] ++ rest : List Value).toArray) t ∧ w'.ownsRow w.heap.size 9 1 vr L.length (L.map Value.string)) := by
  have hlt := hb.lt
  have HT := Lib.hid hT
  have HE := Lib.hid hE
  clear hT hE
  go_enter Tryz.func78, Tryz.ntmps78
  go_wp2
  go_loopw [4, 5, 6, 7] (fun _ _ _ _ wr => ∃ (L : List ByteArray) (vr : Value), Blk wr Tb (([vr, .string (headS L), .int .i64 (tapeN L : Int)] ++ rest : List Value).toArray) t ∧ wr.ownsRow w.heap.size 9 1 vr L.length (L.map Value.string) ∧
      Frm (fun k => k = Tb) w wr ∧ tapeN L ≤ s.size ∧ loadS s = (loadA s (headS L) (tapeN L)).map fun x => (L ++ x.1, x.2)) (fun _ _ _ _ wr => s.size - tsz wr Tb)
  case atStart => exact ⟨[], _, hb, World.ownsRow_nil _ _ _ _, Frm.refl _ _, Nat.zero_le _, by
    show loadA s z32 0 = (loadA s z32 0).map _
    cases loadA s z32 0 <;> rfl⟩
  case round =>
    clear hb
    obtain ⟨L, vr, hb, ho, hf, hle, hld⟩ := hrel
    have c2 := hb.cell 2
    simp only [List.getElem?_toArray, List.cons_append, List.nil_append, List.getElem?_cons_zero, List.getElem?_cons_succ] at c2
    have hLn := tapeN_len L
    have hms : tsz wr Tb = tapeN L := by unfold tsz; rw [c2]; simp [intOf]
    have hTr : RoundT wr := ⟨Nat.lt_of_lt_of_le HT.out.1 hf.size, fun j v hj => (by
      have hc := HT.out.2 j v hj
      have hbk := hf.block 3 HT.out.1 (by omega)
      unfold World.cell? at hc ⊢
      simp only at hc ⊢
      rw [hbk]; exact hc)⟩
    obtain ⟨a, ha⟩ : ∃ a, tapeN L = a := ⟨_, rfl⟩
    rw [ha] at c2 hle hLn hld hb hms
    have HMS := Lib.hid hms
    clear hms
    have HA := Lib.hid ha
    have HLD := Lib.hid hld
    clear ha hld
    by_cases hlta : a < s.size
    · have d1 : decide ((a : Int) < (s.size : Int)) = true := decide_eq_true (by omega)
      have d1b : decide (a < s.size) = true := decide_eq_true hlta
      have ii : (0 : Int) ≤ (a : Int) ∧ (a : Int) < (s.size : Int) := by omega
      have hgi : s[a]? = some s[a] := getElem?_pos s a hlta
      have hby := byA_get hlta
      have HBY := Lib.hid hby
      clear hby
      by_cases hb0 : s[a].toNat = 0
      · have q0 : ((s[a].toNat : Int) == 0) = true := beq_iff_eq.2 (by omega)
        have q0n : ((s[a].toNat : Int) != 0) = false := by rw [bne, q0]; rfl
        have hst := loadA_stop (s := s) (head := headS L) (a := a) (by rintro ⟨-, h⟩; exact h (HBY.out.trans hb0))
        have hfin : loadS s = some (L, a) := by rw [HLD.out, hst]; simp
        rw [← HA.out] at hfin hb
        have HX := Lib.hid (And.intro hfin (And.intro hb (And.intro ho hf)))
        clear hfin hb ho hf hst hb0
        go_wp2
        exact ⟨rfl, _, results_none rfl _ _ _, HX.out.2.2.2, .inr ⟨L, HX.out.1, rfl, vr, HX.out.2.1, HX.out.2.2.1⟩⟩
      · have q0 : ((s[a].toNat : Int) == 0) = false := beq_eq_false_iff_ne.2 (by omega)
        have q0n : ((s[a].toNat : Int) != 0) = true := by rw [bne, q0]; rfl
        have hc0 : a < s.size ∧ byA s a ≠ 0 := ⟨hlta, by rw [HBY.out]; exact hb0⟩
        have HC0 := Lib.hid hc0
        have HF := Lib.hid hf
        have hEr : wr.cell? ⟨0, 0, none⟩ = some (.iface 222 (.pointer (some ea))) := by
          have hc := HE.out
          have hlt0 := World.block_lt_of_cell? _ _ hc
          have hbk := hf.block 0 hlt0 (by omega)
          unfold World.cell? at hc ⊢
          simp only at hc ⊢
          rw [hbk]; exact hc
        clear hc0 hb0 hf
        by_cases hb1 : s[a].toNat = 1
        · have q1 : ((s[a].toNat : Int) == 1) = true := beq_iff_eq.2 (by omega)
          have hmark : byA s a = 1 := HBY.out.trans hb1
          have wa : IntKind.i64.wrap ((a : Int) + 1) = (a : Int) + 1 := by rw [wrapS _ (by omega) (by omega)]
          have hstr := W01.strU s ((a : Int) + 1) wr (by unfold maxLen; omega) (by omega) (by omega)
          have HSTR := Lib.hid hstr
          have HMK := Lib.hid hmark
          clear hstr hmark hb1
          rcases W01.str_unique s (a + 1) (by omega) with ⟨-, -, h10⟩ | ⟨v, e, e1, e2, e3, e4, e5, -, e7, e8⟩
          · rw [← show ((a : Int) + 1) = ((a + 1 : Nat) : Int) by omega] at h10
            have z1 : (strC s ((a : Int) + 1) == 0) = false := by rw [h10]; decide
            have hbad := loadA_bad (head := headS L) HC0.out (fun hr => by have := hr.str; rw [h10] at this; cases this)
            have HBAD := Lib.hid (show loadS s = none by rw [HLD.out, hbad]; rfl)
            clear h10 hbad
            go_wp2_with (first
              | (go_at_call 100; refine (check_ok _).mono ?_; rintro e w9 ⟨rfl, rfl⟩)
              | (go_at_call 101; refine HSTR.out.mono ?_; rintro e w9 ⟨rfl, rfl⟩)
              | (go_at_call 100; refine (check_bad ea _ hEr).mono ?_; rintro e w9 ⟨rfl, rfl⟩))
            exact ⟨rfl, HF.out, .inl ⟨HBAD.out, rfl⟩⟩
          · rw [← show ((a : Int) + 1) = ((a + 1 : Nat) : Int) by omega] at e1 e2 e3
            have z1 : (strC s ((a : Int) + 1) == 0) = true := by rw [e3]; decide
            obtain ⟨e32, he32⟩ : ∃ m, e + 32 = m := ⟨_, rfl⟩
            have we : IntKind.i64.wrap ((e : Int) + 32) = (e32 : Int) := by rw [wrapS _ (by omega) (by omega)]; omega
            have hv : strN s ((a : Int) + 1) = v := e1
            rw [e1, e2, e3] at HSTR
            by_cases hfit : e32 ≤ s.size
            · have z2 : decide ((e32 : Int) ≤ (s.size : Int)) = true := decide_eq_true (by omega)
              have z2b : decide (e32 ≤ s.size) = true := decide_eq_true hfit
              have hsi := stored_iff (head := headS L) hlta HMK.out (by rw [hv]; exact e7) e4
              rw [hv, he32] at hsi
              have hwr : Below wr.heap.size wr wr.drew := (Below.refl _ _).drew
              have hEQ := add38 w.heap.size Tb t vr L rest a v wr.drew (hb.below hwr hb.lt) ht (owned_below ho hwr) (Nat.le_trans HF.out.size hwr.size) (by omega) (by omega) e8 (hTr.below hTr.1 hwr)
              have HADD := Lib.hid hEQ
              have HSI := Lib.hid hsi
              have HE32 := Lib.hid he32
              have HD8 := Lib.hid (fun V (hV : Frm (fun k => k = Tb) w V) => (show V.cell? ⟨0, 0, none⟩ = some (.iface 222 (.pointer (some ea))) from by
                have hc := HE.out
                have hlt0 := World.block_lt_of_cell? _ _ hc
                have hbk := hV.block 0 hlt0 (by omega)
                unfold World.cell? at hc ⊢
                simp only at hc ⊢
                rw [hbk]; exact hc))
              have HVR := Lib.hid (show ∀ k, k < w.heap.size → vr.ownBlock = some k → k = Tb from fun k hk hv => by
                obtain ⟨cur, -, hg⟩ := owned_block ho hv
                omega)
              have HF8 := Lib.hid (fun V (hV : Frm (fun k => k = Tb ∨ vr.ownBlock = some k) wr.drew V) => HF.out.drew.trans hV (fun k hk h => by rcases h with h | h; exact h; exact HVR.out k hk h))
              have q32 : (a : Int) ≤ (e32 : Int) := by omega
              have q33 : a ≤ e32 := by omega
              have HV := Lib.hid hv
              have HE2 := Lib.hid e2
              have HE3 := Lib.hid e3
              clear hsi hEQ hwr he32 e7 hv e1 e2 e3 e5
              by_cases hdig : s.extract e e32 = chainS (headS L) v
              · have hsame := HSI.out.2 hdig
                have hrec : RecOK s (headS L) a := ⟨HMK.out, HE3.out, by rw [HE2.out]; have := HE32.out; omega, by rw [HE2.out, HV.out, Int.toNat_natCast, HE32.out]; exact hdig⟩
                have hnext := load_snoc hlta hrec (by rw [HLD.out])
                rw [HV.out, HE2.out, Int.toNat_natCast, HE32.out] at hnext
                have hsz : a + (storedS (headS L) v).size = e32 := by
                  rw [← hsame, ByteArray.size_extract]; omega
                have htn : tapeN (L ++ [v]) = e32 := by rw [tapeN_snoc, HA.out, hsz]
                have hmeas : s.size - e32 < s.size - a := by have := HE32.out; omega
                have HNX := Lib.hid (And.intro hnext (And.intro hsz (And.intro htn hmeas)))
                have z3 : ((storedS (headS L) v).toList == (s.extract a e32).toList) = true := beq_iff_eq.2 (by rw [hsame])
                clear hsame hdig hrec hnext hsz htn hmeas
                go_upto_region 5 with (first
                  | (go_at_call 100; refine (check_ok _).mono ?_; rintro e w9 ⟨rfl, rfl⟩)
                  | (go_at_call 101; refine HSTR.out.mono ?_; rintro e w9 ⟨rfl, rfl⟩))
                refine wp_region_panic (R := (fun c V => loadS s = none ∧ c = [dmg ea] ∧ Frm (fun k => k = Tb) w V)) (fun c V' V hd h => ⟨hd, h.2.2, .inl ⟨h.1, by rw [h.2.1]⟩⟩) ?_
                refine wp_region_held_drew (S := (fun _ => True)) (by kernel_rfl) trivial (fun hHeld => ?_)
                refine wpAnyH_take (i := 0) (oi := { dst := some 51, op := Op.move (Operand.tmp 0), type := 124, pos := "journal.go:59", after := #[], guard := none }) (v := ?_) rfl (by kernel_rfl) (by kernel_rfl) (by kernel_rfl) (fun _ _ _ h => h) (Or.inl ⟨by kernel_rfl, ?_⟩) (by assumption) ?_
                rotate_left
                · intro w hSw
                  (try dsimp only at hSw)
                  go_simp
                  all_goals (with_reducible rfl)
                (try simp only [Act.put, List.setIfInBounds_toArray, List.set_cons_zero, List.set_cons_succ])
                refine wpAnyH_take (i := 1) (oi := { dst := some 52, op := Op.move (Operand.tmp 5), type := 9, pos := "journal.go:59", after := #[], guard := none }) (v := ?_) rfl (by kernel_rfl) (by kernel_rfl) (by kernel_rfl) (fun _ _ _ h => h) (Or.inl ⟨by kernel_rfl, ?_⟩) (by assumption) ?_
                rotate_left
                · intro w hSw
                  (try dsimp only at hSw)
                  go_simp
                  all_goals (with_reducible rfl)
                (try simp only [Act.put, List.setIfInBounds_toArray, List.set_cons_zero, List.set_cons_succ])
                refine wpAnyH_take (i := 3) (oi := { dst := some 54, op := Op.move (Operand.tmp 1), type := 9, pos := "journal.go:59", after := #[], guard := none }) (v := ?_) rfl (by kernel_rfl) (by kernel_rfl) (by kernel_rfl) (fun _ _ _ h => h) (Or.inl ⟨by kernel_rfl, ?_⟩) (by assumption) ?_
                rotate_left
                · intro w hSw
                  (try dsimp only at hSw)
                  go_simp
                  all_goals (with_reducible rfl)
                (try simp only [Act.put, List.setIfInBounds_toArray, List.set_cons_zero, List.set_cons_succ])
                refine wpAnyH_take (i := 4) (oi := { dst := some 55, op := Op.move (Operand.tmp 4), type := 3, pos := "journal.go:59", after := #[], guard := none }) (v := ?_) rfl (by kernel_rfl) (by kernel_rfl) (by kernel_rfl) (fun _ _ _ h => h) (Or.inl ⟨by kernel_rfl, ?_⟩) (by assumption) ?_
                rotate_left
                · intro w hSw
                  (try dsimp only at hSw)
                  go_simp
                  all_goals (with_reducible rfl)
                (try simp only [Act.put, List.setIfInBounds_toArray, List.set_cons_zero, List.set_cons_succ])
                refine wpAnyH_take (i := 5) (oi := { dst := some 56, op := Op.move (Operand.tmp 6), type := 3, pos := "journal.go:59", after := #[], guard := none }) (v := ?_) rfl (by kernel_rfl) (by kernel_rfl) (by kernel_rfl) (fun _ _ _ h => h) (Or.inl ⟨by kernel_rfl, ?_⟩) (by assumption) ?_
                rotate_left
                · intro w hSw
                  (try dsimp only at hSw)
                  go_simp
                  all_goals (with_reducible rfl)
                (try simp only [Act.put, List.setIfInBounds_toArray, List.set_cons_zero, List.set_cons_succ])
                refine wpAnyH_take (i := 6) (oi := { dst := some 57, op := Op.binOp BinOp.add 3 (Operand.tmp 56) (Operand.const (Value.int IntKind.i64 32)) 3, type := 3, pos := "journal.go:59", after := #[{ on := 5, ground := Ground.data }], guard := none }) (v := ?_) rfl (by kernel_rfl) (by kernel_rfl) (by kernel_rfl) (fun _ _ _ h => h) (Or.inl ⟨by kernel_rfl, ?_⟩) (by assumption) ?_
                rotate_left
                · intro w hSw
                  (try dsimp only at hSw)
                  go_simp
                  all_goals (with_reducible rfl)
                (try simp only [Act.put, List.setIfInBounds_toArray, List.set_cons_zero, List.set_cons_succ])
                refine wpAnyH_take (i := 7) (oi := { dst := some 58, op := Op.slice 9 (Operand.tmp 54) (some (Operand.tmp 55)) (some (Operand.tmp 57)) none, type := 9, pos := "journal.go:59", after := #[{ on := 3, ground := Ground.data }, { on := 4, ground := Ground.data }, { on := 6, ground := Ground.data }], guard := none }) (v := ?_) rfl (by kernel_rfl) (by kernel_rfl) (by kernel_rfl) (fun _ _ _ h => h) (Or.inl ⟨by kernel_rfl, ?_⟩) (by assumption) ?_
                rotate_left
                · intro w hSw
                  (try dsimp only at hSw)
                  go_simp
                  all_goals (with_reducible rfl)
                (try simp only [Act.put, List.setIfInBounds_toArray, List.set_cons_zero, List.set_cons_succ])
                refine wpAnyH_one1 (i := 2) (o := { dst := some 53, op := Op.call { callee := Callee.value (Operand.func 38), args := #[Operand.tmp 51, Operand.tmp 52], argTypes := #[124, 9] }, type := 9, pos := "journal.go:59", after := #[{ on := 0, ground := Ground.data }, { on := 1, ground := Ground.data }], guard := none }) (by kernel_rfl) rfl (fun K hK => ?_)
                go_simp
                go_at_call 38
                refine HADD.out.mono ?_
                rintro e w8 ⟨rfl, vr', k8, o8, f8, v8⟩
                have F8 := HF8.out w8 f8
                refine hK.out _ _ ?_ (fun hHeld2 => ?_)
                · exact trivial
                clear hHeld
                have hHeld := hHeld2
                clear hHeld2
                clear hK K
                (try simp only [Act.put, List.setIfInBounds_toArray, List.set_cons_zero, List.set_cons_succ])
                refine wpAnyH_take (i := 8) (oi := { dst := some 59, op := Op.binOp BinOp.eql 9 (Operand.tmp 53) (Operand.tmp 58) 9, type := 4, pos := "journal.go:59", after := #[{ on := 2, ground := Ground.data }, { on := 7, ground := Ground.data }], guard := none }) (v := ?_) rfl (by kernel_rfl) (by kernel_rfl) (by kernel_rfl) (fun _ _ _ h => h) (Or.inl ⟨by kernel_rfl, ?_⟩) (by assumption) ?_
                rotate_left
                · intro w hSw
                  (try dsimp only at hSw)
                  go_simp
                  all_goals (with_reducible rfl)
                (try simp only [Act.put, List.setIfInBounds_toArray, List.set_cons_zero, List.set_cons_succ])
                refine wpAnyH_one1 (i := 9) (o := { dst := some 60, op := Op.call { callee := Callee.value (Operand.func 100), args := #[Operand.tmp 59], argTypes := #[4] }, type := 0, pos := "journal.go:59", after := #[{ on := 8, ground := Ground.data }, { on := 2, ground := Ground.chain }], guard := none }) (by kernel_rfl) rfl (fun K hK => ?_)
                go_simp
                go_at_call 100
                refine (check_ok _).mono ?_
                rintro e w9 ⟨rfl, rfl⟩
                refine hK.out _ _ ?_ (fun hHeld2 => ?_)
                · exact trivial
                clear hHeld
                have hHeld := hHeld2
                clear hHeld2
                clear hK K
                (try simp only [Act.put, List.setIfInBounds_toArray, List.set_cons_zero, List.set_cons_succ])
                refine wpAnyH_done (by kernel_rfl) ?_ _
                refine PanicP.normal ?_
                
                rw [HNX.out.2.1, ← HNX.out.2.2.1] at k8
                have o9 : w9.ownsRow w.heap.size 9 1 vr' (L ++ [v]).length ((L ++ [v]).map Value.string) := by rw [List.length_append]; exact o8
                have hms9 : tsz w9 Tb = e32 := by
                  unfold tsz
                  rw [k8.cell 2, HNX.out.2.2.1]; simp [intOf]
                clear o8 f8 hHeld v8
                go_roundw
                case rel =>
                  (repeat apply Exists.intro)
                  exact ⟨⟨L ++ [v], vr', k8, o9, F8, by rw [HNX.out.2.2.1]; exact hfit, by rw [HNX.out.2.2.1]; exact HNX.out.1⟩, rfl⟩
                case measure => rw [hms9, HMS.out]; exact HNX.out.2.2.2
              · have hdiff : ¬ s.extract a e32 = storedS (headS L) v := fun h => hdig (HSI.out.1 h)
                have hbad := loadA_bad (head := headS L) HC0.out (fun hr => by
                  have hd := hr.dig
                  rw [HE2.out, HV.out, Int.toNat_natCast, HE32.out] at hd
                  exact hdig hd)
                have HBAD := Lib.hid (show loadS s = none by rw [HLD.out, hbad]; rfl)
                have z3 : ((storedS (headS L) v).toList == (s.extract a e32).toList) = false := beq_eq_false_iff_ne.2 (fun h => hdiff (W01.str_toList h).symm)
                clear hbad hdig hdiff
                generalize storedS (headS L) v = st at HADD z3
                go_upto_region 5 with (first
                  | (go_at_call 100; refine (check_ok _).mono ?_; rintro e w9 ⟨rfl, rfl⟩)
                  | (go_at_call 101; refine HSTR.out.mono ?_; rintro e w9 ⟨rfl, rfl⟩))
                refine wp_region_panic (R := (fun c V => loadS s = none ∧ c = [dmg ea] ∧ Frm (fun k => k = Tb) w V)) (fun c V' V hd h => ⟨hd, h.2.2, .inl ⟨h.1, by rw [h.2.1]⟩⟩) ?_
                refine wp_region_held_drew (S := (fun _ => True)) (by kernel_rfl) trivial (fun hHeld => ?_)
                refine wpAnyH_take (i := 0) (oi := { dst := some 51, op := Op.move (Operand.tmp 0), type := 124, pos := "journal.go:59", after := #[], guard := none }) (v := ?_) rfl (by kernel_rfl) (by kernel_rfl) (by kernel_rfl) (fun _ _ _ h => h) (Or.inl ⟨by kernel_rfl, ?_⟩) (by assumption) ?_
                rotate_left
                · intro w hSw
                  (try dsimp only at hSw)
                  go_simp
                  all_goals (with_reducible rfl)
                (try simp only [Act.put, List.setIfInBounds_toArray, List.set_cons_zero, List.set_cons_succ])
                refine wpAnyH_take (i := 1) (oi := { dst := some 52, op := Op.move (Operand.tmp 5), type := 9, pos := "journal.go:59", after := #[], guard := none }) (v := ?_) rfl (by kernel_rfl) (by kernel_rfl) (by kernel_rfl) (fun _ _ _ h => h) (Or.inl ⟨by kernel_rfl, ?_⟩) (by assumption) ?_
                rotate_left
                · intro w hSw
                  (try dsimp only at hSw)
                  go_simp
                  all_goals (with_reducible rfl)
                (try simp only [Act.put, List.setIfInBounds_toArray, List.set_cons_zero, List.set_cons_succ])
                refine wpAnyH_take (i := 3) (oi := { dst := some 54, op := Op.move (Operand.tmp 1), type := 9, pos := "journal.go:59", after := #[], guard := none }) (v := ?_) rfl (by kernel_rfl) (by kernel_rfl) (by kernel_rfl) (fun _ _ _ h => h) (Or.inl ⟨by kernel_rfl, ?_⟩) (by assumption) ?_
                rotate_left
                · intro w hSw
                  (try dsimp only at hSw)
                  go_simp
                  all_goals (with_reducible rfl)
                (try simp only [Act.put, List.setIfInBounds_toArray, List.set_cons_zero, List.set_cons_succ])
                refine wpAnyH_take (i := 4) (oi := { dst := some 55, op := Op.move (Operand.tmp 4), type := 3, pos := "journal.go:59", after := #[], guard := none }) (v := ?_) rfl (by kernel_rfl) (by kernel_rfl) (by kernel_rfl) (fun _ _ _ h => h) (Or.inl ⟨by kernel_rfl, ?_⟩) (by assumption) ?_
                rotate_left
                · intro w hSw
                  (try dsimp only at hSw)
                  go_simp
                  all_goals (with_reducible rfl)
                (try simp only [Act.put, List.setIfInBounds_toArray, List.set_cons_zero, List.set_cons_succ])
                refine wpAnyH_take (i := 5) (oi := { dst := some 56, op := Op.move (Operand.tmp 6), type := 3, pos := "journal.go:59", after := #[], guard := none }) (v := ?_) rfl (by kernel_rfl) (by kernel_rfl) (by kernel_rfl) (fun _ _ _ h => h) (Or.inl ⟨by kernel_rfl, ?_⟩) (by assumption) ?_
                rotate_left
                · intro w hSw
                  (try dsimp only at hSw)
                  go_simp
                  all_goals (with_reducible rfl)
                (try simp only [Act.put, List.setIfInBounds_toArray, List.set_cons_zero, List.set_cons_succ])
                refine wpAnyH_take (i := 6) (oi := { dst := some 57, op := Op.binOp BinOp.add 3 (Operand.tmp 56) (Operand.const (Value.int IntKind.i64 32)) 3, type := 3, pos := "journal.go:59", after := #[{ on := 5, ground := Ground.data }], guard := none }) (v := ?_) rfl (by kernel_rfl) (by kernel_rfl) (by kernel_rfl) (fun _ _ _ h => h) (Or.inl ⟨by kernel_rfl, ?_⟩) (by assumption) ?_
                rotate_left
                · intro w hSw
                  (try dsimp only at hSw)
                  go_simp
                  all_goals (with_reducible rfl)
                (try simp only [Act.put, List.setIfInBounds_toArray, List.set_cons_zero, List.set_cons_succ])
                refine wpAnyH_take (i := 7) (oi := { dst := some 58, op := Op.slice 9 (Operand.tmp 54) (some (Operand.tmp 55)) (some (Operand.tmp 57)) none, type := 9, pos := "journal.go:59", after := #[{ on := 3, ground := Ground.data }, { on := 4, ground := Ground.data }, { on := 6, ground := Ground.data }], guard := none }) (v := ?_) rfl (by kernel_rfl) (by kernel_rfl) (by kernel_rfl) (fun _ _ _ h => h) (Or.inl ⟨by kernel_rfl, ?_⟩) (by assumption) ?_
                rotate_left
                · intro w hSw
                  (try dsimp only at hSw)
                  go_simp
                  all_goals (with_reducible rfl)
                (try simp only [Act.put, List.setIfInBounds_toArray, List.set_cons_zero, List.set_cons_succ])
                refine wpAnyH_one1 (i := 2) (o := { dst := some 53, op := Op.call { callee := Callee.value (Operand.func 38), args := #[Operand.tmp 51, Operand.tmp 52], argTypes := #[124, 9] }, type := 9, pos := "journal.go:59", after := #[{ on := 0, ground := Ground.data }, { on := 1, ground := Ground.data }], guard := none }) (by kernel_rfl) rfl (fun K hK => ?_)
                go_simp
                go_at_call 38
                refine HADD.out.mono ?_
                rintro e w8 ⟨rfl, vr', k8, o8, f8, v8⟩
                have F8 := HF8.out w8 f8
                refine hK.out _ _ ?_ (fun hHeld2 => ?_)
                · exact trivial
                clear hHeld
                have hHeld := hHeld2
                clear hHeld2
                clear hK K
                (try simp only [Act.put, List.setIfInBounds_toArray, List.set_cons_zero, List.set_cons_succ])
                refine wpAnyH_take (i := 8) (oi := { dst := some 59, op := Op.binOp BinOp.eql 9 (Operand.tmp 53) (Operand.tmp 58) 9, type := 4, pos := "journal.go:59", after := #[{ on := 2, ground := Ground.data }, { on := 7, ground := Ground.data }], guard := none }) (v := ?_) rfl (by kernel_rfl) (by kernel_rfl) (by kernel_rfl) (fun _ _ _ h => h) (Or.inl ⟨by kernel_rfl, ?_⟩) (by assumption) ?_
                rotate_left
                · intro w hSw
                  (try dsimp only at hSw)
                  go_simp
                  all_goals (with_reducible rfl)
                (try simp only [Act.put, List.setIfInBounds_toArray, List.set_cons_zero, List.set_cons_succ])
                refine wpAnyH_one1 (i := 9) (o := { dst := some 60, op := Op.call { callee := Callee.value (Operand.func 100), args := #[Operand.tmp 59], argTypes := #[4] }, type := 0, pos := "journal.go:59", after := #[{ on := 8, ground := Ground.data }, { on := 2, ground := Ground.chain }], guard := none }) (by kernel_rfl) rfl (fun K hK => ?_)
                go_simp
                go_at_call 100
                refine (check_bad ea _ (HD8.out w8 F8)).mono ?_
                rintro e w9 ⟨rfl, rfl⟩
                exact ⟨rfl, HBAD.out, rfl, F8⟩
            · have z2 : decide ((e32 : Int) ≤ (s.size : Int)) = false := decide_eq_false (by omega)
              have z2b : decide (e32 ≤ s.size) = false := decide_eq_false hfit
              have hbad := loadA_bad (head := headS L) HC0.out (fun hr => by have := hr.fit; rw [e2] at this; omega)
              have HBAD := Lib.hid (show loadS s = none by rw [HLD.out, hbad]; rfl)
              clear hbad hfit he32 e1 e2 e3 e7 hv
              go_wp2_with (first
                | (go_at_call 100; refine (check_ok _).mono ?_; rintro e w9 ⟨rfl, rfl⟩)
                | (go_at_call 101; refine HSTR.out.mono ?_; rintro e w9 ⟨rfl, rfl⟩)
                | (go_at_call 100; refine (check_bad ea _ hEr).mono ?_; rintro e w9 ⟨rfl, rfl⟩))
              exact ⟨rfl, HF.out, .inl ⟨HBAD.out, rfl⟩⟩
        · have q1 : ((s[a].toNat : Int) == 1) = false := beq_eq_false_iff_ne.2 (by omega)
          have hbad := loadA_bad (head := headS L) HC0.out (fun hr => hb1 (HBY.out.symm.trans hr.mark))
          have HBAD := Lib.hid (show loadS s = none by rw [HLD.out, hbad]; rfl)
          clear hbad hb1
          go_wp2_with (go_at_call 100; refine (check_bad ea _ hEr).mono ?_; rintro e w9 ⟨rfl, rfl⟩)
          exact ⟨rfl, HF.out, .inl ⟨HBAD.out, rfl⟩⟩
    · have d1 : decide ((a : Int) < (s.size : Int)) = false := decide_eq_false (by omega)
      have d1b : decide (a < s.size) = false := decide_eq_false hlta
      have hst := loadA_stop (s := s) (head := headS L) (a := a) (by rintro ⟨h, -⟩; exact hlta h)
      have hfin : loadS s = some (L, a) := by rw [HLD.out, hst]; simp
      rw [← HA.out] at hfin hb
      have HX := Lib.hid (And.intro hfin (And.intro hb (And.intro ho hf)))
      clear hfin hb ho hf hst
      go_wp2
      exact ⟨rfl, _, results_none rfl _ _ _, HX.out.2.2.2, .inr ⟨L, HX.out.1, rfl, vr, HX.out.2.1, HX.out.2.2.1⟩⟩
end Go.Proofs.YtnckpnbecmmcpaaGreatDoor
