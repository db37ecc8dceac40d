/- package nadirref18: Put, own; own of the laws. -/
import Derived.Test.YtmajkagmcdlncaaC5
import Derived.Deep.AppendSrc
namespace Go.Proofs.Ytmajkagmcdlncaa
open Go.RowKit
open L18 (Pass Slot noPass noSlot putV ownI passesV ownV)

/-- append to a slice without room makes a new row. -/
theorem run_app_full (w : World) (base : Option Addr) (ty : TypeId) {x : Value} {xs ys : List Int} (hv : IntsAt w (.slice base xs.length xs.length) xs) (hx : IntsAt w x ys) (hy : 0 < ys.length) (hs : xs.length + ys.length ≤ 100000) :
    ∃ v' w', (Builtin.append_ #[23, 23] ty #[.slice base xs.length xs.length, x]).run Try.prog w = .ok v' w' ∧ IntsAt w' v' (xs ++ ys) ∧ Below w.heap.size w w' ∧ ∃ cap, v' = .slice (some ⟨w.heap.size, 0, none⟩) (xs ++ ys).length cap := by
  obtain ⟨i, hi, hz0, hz1, hz2⟩ := info_parts E37.info
  obtain ⟨xa, xc, rfl, hx1, hx2, hx3⟩ := hx
  obtain ⟨b2, off2, rfl, hx4⟩ := hx3 hy
  have hold : (Builtin.firstCells i.size xs.length (.slice base xs.length xs.length)).run Try.prog w.drew = .ok (xs.map (Value.int .i64)).toArray w.drew := by
    obtain ⟨va, vc, e, hv1, hv2, hv3⟩ := hv
    cases e
    rw [hz1]
    by_cases h0 : 0 < xs.length
    · obtain ⟨b, off, rfl, h4⟩ := hv3 h0
      refine run_firstCells_some _ _ _ _ _ _ _ (by simp) fun j v hj => ?_
      rw [List.getElem?_map] at hj
      obtain ⟨y, hy1, rfl⟩ := Option.map_eq_some_iff.1 hj
      rw [addr_add]
      exact h4 j y hy1
    · have hxs : xs = [] := List.eq_nil_of_length_eq_zero (by omega)
      subst hxs
      cases base with
      | none => exact run_firstCells_none _ _ _ _ _
      | some ad => exact run_firstCells_some _ _ _ _ _ _ _ (by simp) (fun j v hj => by simp at hj)
  have hsrc : Src Try.prog i.size 23 (.slice (some ⟨b2, off2, none⟩) ys.length xc) ys.length (ys.map (Value.int .i64)) w := by
    refine Src.ofSlice w Try.underlying23 _ _ _ _ (by rw [hz1]; simp) (fun j u hj => ?_) (fun u hu => ?_)
    · rw [List.getElem?_map] at hj
      obtain ⟨y, hy1, rfl⟩ := Option.map_eq_some_iff.1 hj
      rw [addr_add]
      exact hx4 j y hy1
    · obtain ⟨y, -, rfl⟩ := List.mem_map.1 hu; rfl
  have hr := run_append_grow_src w 23 23 ty 3 i _ Try.underlying23 hi hz0 base xs.length xs.length _ hold _ _ _ hsrc (by omega) (by omega) (by rw [hz2]; exact growslice_fits (by omega) (by omega))
  refine ⟨_, _, hr, ?_, ((Below.refl _ _).drew).alloc (Nat.le_refl _) _, _, by rw [List.length_append]⟩
  have hcap := grownCap_ge w (xs.length + ys.length) xs.length 3
  have hcap2 := grownCap_le_maxLen w (xs.length + ys.length) xs.length 3 (by unfold maxLen; omega)
  refine ⟨_, _, by rw [List.length_append], by rw [List.length_append]; exact hcap, hcap2, fun _ => ⟨_, _, rfl, fun j y hj => ?_⟩⟩
  rw [(Blk.newAt w.drew _ 3 (rfl : w.heap.size = w.drew.heap.size)).cell, Nat.zero_add, ← List.map_append]
  have hjl : j < (xs ++ ys).length := by
    refine Classical.byContradiction fun hc => ?_
    rw [List.getElem?_eq_none (by omega)] at hj; cases hj
  rw [Array.getElem?_append_left (by simpa using hjl)]
  rw [List.getElem?_toArray, List.getElem?_map, hj]; rfl
/-- .. of nothing to a row that lies somewhere: the row. -/
theorem run_app_none (w : World) (b off : Nat) (ty : TypeId) (n c : Nat) {x : Value} (hx : IntsAt w x []) (hc : n ≤ c) : (Builtin.append_ #[23, 23] ty #[.slice (some ⟨b, off, none⟩) n c, x]).run Try.prog w = .ok (.slice (some ⟨b, off, none⟩) n c) w := by
  obtain ⟨i, hi, hz0, hz1, hz2⟩ := info_parts E37.info
  obtain ⟨xa, xc, rfl, -⟩ := hx
  have hsrc : Src Try.prog i.size 23 (.slice xa 0 xc) 0 [] w := by
    cases xa with
    | none => exact Src.ofNil w Try.underlying23 _
    | some a => exact Src.ofSlice w Try.underlying23 _ _ _ _ (by simp) (fun j u hj => by simp at hj) (fun u hu => by cases hu)
  have := run_append_room_src w 23 23 ty 3 i Try.underlying23 hi b off n c _ _ _ hsrc (by omega) (fun j hj => by simp at hj) (fun j hj => by simp at hj)
  exact this
theorem step_app {ops : Array Oper} {o : Oper} {a : Act} {w : World} {K : Act → World → Prop} {Q : Exit → Act → World → Prop} {E : Prop} (hg : o.guard = none) (s x : Operand)
    (hop : o.op = Op.call { callee := Callee.builtin Builtin.append, args := #[s, x], argTypes := #[23, 23] }) {base : Option Addr} {xs ys : List Int} {v : Value} (hs : a.eval s = .slice base xs.length xs.length) (hx : a.eval x = v)
    (hv : IntsAt w (.slice base xs.length xs.length) xs) (hy : IntsAt w v ys) (hne : 0 < ys.length ∨ ∃ b off, base = some ⟨b, off, none⟩) (hsz : xs.length + ys.length ≤ 100000)
    (hK : ∀ v' w', IntsAt w' v' (xs ++ ys) → Below w.heap.size w w' → K (a.put o.dst v') w') :
    if Region.wanted o (yielded ops a.tmps) = true then Oper.wp Try.prog o a w K Q else E := by
  have hw : Region.wanted o (yielded ops a.tmps) = true := by simp [Region.wanted, hg]
  rw [if_pos hw]
  by_cases h0 : 0 < ys.length
  · obtain ⟨v', w', hrun, r1, r2, -⟩ := run_app_full w base o.type hv hy h0 hsz
    unfold Oper.wp
    simp [execOp, hop, resolve, invoke, builtin, hs, hx, hrun, Result.andThen]
    exact hK v' w' r1 r2
  · have hn : ys = [] := List.eq_nil_of_length_eq_zero (by omega)
    subst hn
    rcases hne with h | ⟨b, off, rfl⟩
    · exact absurd h h0
    · have hrun := run_app_none w b off o.type xs.length xs.length hy (Nat.le_refl _)
      unfold Oper.wp
      simp [execOp, hop, resolve, invoke, builtin, hs, hx, hrun, Result.andThen]
      exact hK _ _ (by rw [List.append_nil]; exact hv) (Below.refl _ _)
/-- A slice of integers that is nil if it is empty. -/
def IntsF (W : World) (v : Value) (l : List Int) : Prop := (v = .slice none 0 0 ∧ l = []) ∨ (0 < l.length ∧ IntsAt W v l)
theorem IntsF.ints {W : World} {v : Value} {l : List Int} (h : IntsF W v l) : IntsAt W v l := by
  rcases h with ⟨rfl, rfl⟩ | ⟨-, h⟩
  · exact ⟨none, 0, rfl, Nat.le_refl _, Nat.zero_le _, fun h => absurd h (Nat.lt_irrefl 0)⟩
  · exact h
theorem IntsF.below {W W' : World} {v : Value} {l : List Int} (h : IntsF W v l) (hb : Below W.heap.size W W') : IntsF W' v l := by
  rcases h with h | ⟨h1, h2⟩
  · exact .inl h
  · exact .inr ⟨h1, h2.below hb⟩
theorem IntsF.nil (W : World) : IntsF W (.slice none 0 0) [] := .inl ⟨rfl, rfl⟩
theorem ints_take {W : World} {b off n cap k : Nat} {l : List Int} (h : IntsAt W (.slice (some ⟨b, off, none⟩) n cap) l) (hk : k ≤ l.length) : IntsAt W (.slice (some ⟨b, off, none⟩) (l.take k).length (l.take k).length) (l.take k) := by
  obtain ⟨a, c, e, h1, h2, h3⟩ := h
  cases e
  have hl : (l.take k).length = k := by rw [List.length_take]; omega
  refine ⟨_, _, rfl, Nat.le_refl _, by omega, fun h0 => ?_⟩
  obtain ⟨b', off', e2, h4⟩ := h3 (by omega)
  cases e2
  refine ⟨_, _, rfl, fun j y hj => h4 j y ?_⟩
  rw [List.getElem?_take] at hj
  split at hj
  · exact hj
  · cases hj
theorem ints_drop {W : World} {b off n cap k c2 : Nat} {l : List Int} (h : IntsAt W (.slice (some ⟨b, off, none⟩) n cap) l) (hk : k ≤ l.length) (hc : l.length - k ≤ c2) (hc2 : c2 ≤ maxLen) : IntsAt W (.slice (some ⟨b, off + k, none⟩) (l.length - k) c2) (l.drop k) := by
  obtain ⟨a, c, e, h1, h2, h3⟩ := h
  cases e
  refine ⟨_, _, by rw [List.length_drop], by rw [List.length_drop]; exact hc, hc2, fun h0 => ?_⟩
  rw [List.length_drop] at h0
  obtain ⟨b', off', e2, h4⟩ := h3 (by omega)
  cases e2
  refine ⟨_, _, rfl, fun j y hj => ?_⟩
  rw [List.getElem?_drop] at hj
  rw [Nat.add_assoc]
  exact h4 _ y hj
theorem put_stop {l : List Int} {n : Int} {k : Nat} (hk : k ≤ l.length) (h1 : ∀ j, j < k → l.getD j 0 < n) (h2 : k < l.length → ¬ l.getD k 0 < n) (h3 : ¬ (k < l.length ∧ l.getD k 0 = n)) : putV l n = l.take k ++ ([n] ++ l.drop k) := by
  rw [L18.put_at hk h1 h2, if_neg h3]; rfl
theorem put_same {l : List Int} {n : Int} {k : Nat} (hk : k < l.length) (h1 : ∀ j, j < k → l.getD j 0 < n) (h2 : ¬ l.getD k 0 < n) (h3 : l.getD k 0 = n) : putV l n = l := by
  rw [L18.put_at (Nat.le_of_lt hk) h1 (fun _ => h2), if_pos ⟨hk, h3⟩]
theorem ints_one {W : World} {B : Nat} {n : Int} (h : Blk W B #[.int .i64 n] 3) : IntsAt W (.slice (some ⟨B, 0, none⟩) 1 1) [n] := by
  refine ⟨_, _, rfl, Nat.le_refl _, by unfold maxLen; decide, fun _ => ⟨_, _, rfl, fun j y hj => ?_⟩⟩
  rw [Nat.zero_add, h.cell]
  match j, hj with
  | 0, hj => cases hj; rfl
set_option maxRecDepth 100000 in
set_option maxHeartbeats 2000000 in
theorem put34 (v : Value) (l : List Int) (n : Int) (w : World) (hv : IntsF w v l) (hs : l.length ≤ 1000) :
    Calls Try.prog 34 #[v, .int .i64 n] w fun e w' => ∃ v', e = .returned v' ∧ IntsF w' v' (putV l n) ∧ Below w.heap.size w w' := by
  have hcase : ∃ (a : Option Addr) (cap : Nat), v = .slice a l.length cap ∧ l.length ≤ cap ∧ cap ≤ maxLen ∧ ((a = none ∧ cap = 0 ∧ l = []) ∨ ∃ b off, a = some ⟨b, off, none⟩ ∧ 0 < l.length) := by
    rcases hv with ⟨rfl, rfl⟩ | ⟨hlp, hv⟩
    · exact ⟨none, 0, rfl, Nat.le_refl _, Nat.zero_le _, .inl ⟨rfl, rfl, rfl⟩⟩
    · obtain ⟨a, cap, rfl, h1, h2, h3⟩ := hv
      obtain ⟨b, off, rfl, -⟩ := h3 hlp
      exact ⟨_, _, rfl, h1, h2, .inr ⟨b, off, rfl, hlp⟩⟩
  have HV := Lib.hid hv.ints
  have HVF := Lib.hid hv
  obtain ⟨a, cap, rfl, hle, hcm, hcase⟩ := hcase
  have HK := Lib.hid hcase
  unfold maxLen at hcm
  clear hv hcase
  go_enter Try.func34, Try.ntmps34
  go_wp2
  go_loop [5] (fun u5 => ∃ k : Nat, k ≤ l.length ∧ u5 = .int .i64 k ∧ (∀ j, j < k → l.getD j 0 < n)) (fun u5 => (l.length - intOf u5).toNat)
  case atStart => exact ⟨0, by omega, rfl, fun j hj => absurd hj (Nat.not_lt_zero _)⟩
  case round =>
    obtain ⟨k, hk, rfl, hpre⟩ := hrel
    have HP := Lib.hid hpre
    clear hpre
    by_cases hkl : k < l.length
    · obtain ⟨b, off, rfl, c0⟩ := HV.out.get (getD_some 0 hkl)
      have HLT := Lib.hid (fun h2 h3 => put_stop (l := l) (n := n) hk HP.out h2 h3)
      have HSM := Lib.hid (fun h2 h3 => put_same (l := l) (n := n) hkl HP.out h2 h3)
      generalize hz : l.getD k 0 = z at c0
      have HZ := Lib.hid hz
      clear hz
      by_cases hlt : z < n
      · have d1 : decide (z < n) = true := decide_eq_true hlt
        clear HLT HSM
        go_wp2
        go_round
        case rel => exact ⟨k + 1, by omega, by go_num, fun j hj => by
          by_cases hjk : j < k
          · exact HP.out j hjk
          · obtain rfl : j = k := by omega
            rw [HZ.out]; exact hlt⟩
        case measure => simp [intOf]; omega
      · have d1 : decide (z < n) = false := decide_eq_false hlt
        by_cases heq : z = n
        · have d2 : (z == n) = true := beq_iff_eq.2 heq
          have HR := Lib.hid (HSM.out (by rw [HZ.out]; exact hlt) (by rw [HZ.out]; exact heq))
          clear heq hlt
          go_wp2
          go_ret
          exact ⟨_, rfl, by rw [HR.out]; exact HVF.out, Below.refl _ _⟩
        · have d2 : (z == n) = false := beq_eq_false_iff_ne.2 heq
          have HR := Lib.hid (HLT.out (fun _ => by rw [HZ.out]; exact hlt) (by rw [HZ.out]; exact fun h => heq h.2))
          clear heq hlt HLT HSM
          have hck : k < cap := by omega
          have hcn : ¬ cap = k := by omega
          have i1 : (0 : Int) ≤ (k : Int) ∧ (k : Int) ≤ (cap : Int) ∧ (k : Int) ≤ (l.length : Int) := by omega
          go_upto_region 6 with (fail)
          have hdst := fun W (hW : Below w.heap.size w W) => ints_take (k := k) (HV.out.below hW) hk
          have hsrc := fun W (hW : Below w.heap.size w W) => ints_drop (k := k) (c2 := cap - k) (HV.out.below hW) hk (by omega) (by unfold maxLen; omega)
          have hlk : (l.take k).length = k := by rw [List.length_take]; omega
          rw [hlk] at hdst
          refine wp_region_noPanic ?_
          refine wp_region_held_drew (S := (fun w' => Below w.heap.size w w')) (by kernel_rfl) (Below.refl _ _).drew (fun hHeld => ?_)
          refine wpAnyH_take (i := 0) (oi := { dst := some 33, op := Op.move (Operand.tmp 0), type := 23, pos := "ref.go:98", after := #[], guard := none }) (v := ?_) rfl (by kernel_rfl) (by kernel_rfl) (by kernel_rfl) (fun _ _ _ h => h) (Or.inl ⟨by kernel_rfl, ?_⟩) (by assumption) ?_
          rotate_left
          · intro w hSw
            (try dsimp only at hSw)
            go_simp
            all_goals (with_reducible rfl)
          (try simp only [Act.put, List.setIfInBounds_toArray, List.set_cons_zero, List.set_cons_succ])
          refine wpAnyH_take (i := 1) (oi := { dst := some 34, op := Op.move (Operand.tmp 5), type := 3, pos := "ref.go:98", after := #[], guard := none }) (v := ?_) rfl (by kernel_rfl) (by kernel_rfl) (by kernel_rfl) (fun _ _ _ h => h) (Or.inl ⟨by kernel_rfl, ?_⟩) (by assumption) ?_
          rotate_left
          · intro w hSw
            (try dsimp only at hSw)
            go_simp
            all_goals (with_reducible rfl)
          (try simp only [Act.put, List.setIfInBounds_toArray, List.set_cons_zero, List.set_cons_succ])
          refine wpAnyH_take (i := 2) (oi := { dst := some 35, op := Op.move (Operand.tmp 5), type := 3, pos := "ref.go:98", after := #[], guard := none }) (v := ?_) rfl (by kernel_rfl) (by kernel_rfl) (by kernel_rfl) (fun _ _ _ h => h) (Or.inl ⟨by kernel_rfl, ?_⟩) (by assumption) ?_
          rotate_left
          · intro w hSw
            (try dsimp only at hSw)
            go_simp
            all_goals (with_reducible rfl)
          (try simp only [Act.put, List.setIfInBounds_toArray, List.set_cons_zero, List.set_cons_succ])
          refine wpAnyH_take (i := 3) (oi := { dst := some 36, op := Op.slice 23 (Operand.tmp 33) none (some (Operand.tmp 34)) (some (Operand.tmp 35)), type := 23, pos := "ref.go:98", after := #[{ on := 0, ground := Ground.data }, { on := 1, ground := Ground.data }, { on := 2, ground := Ground.data }], guard := none }) (v := ?_) rfl (by kernel_rfl) (by kernel_rfl) (by kernel_rfl) (fun _ _ _ h => h) (Or.inl ⟨by kernel_rfl, ?_⟩) (by assumption) ?_
          rotate_left
          · intro w hSw
            (try dsimp only at hSw)
            go_simp
            all_goals (with_reducible rfl)
          (try simp only [Act.put, List.setIfInBounds_toArray, List.set_cons_zero, List.set_cons_succ])
          refine wpAnyH_take (i := 4) (oi := { dst := some 37, op := Op.move (Operand.tmp 1), type := 3, pos := "ref.go:98", after := #[], guard := none }) (v := ?_) rfl (by kernel_rfl) (by kernel_rfl) (by kernel_rfl) (fun _ _ _ h => h) (Or.inl ⟨by kernel_rfl, ?_⟩) (by assumption) ?_
          rotate_left
          · intro w hSw
            (try dsimp only at hSw)
            go_simp
            all_goals (with_reducible rfl)
          (try simp only [Act.put, List.setIfInBounds_toArray, List.set_cons_zero, List.set_cons_succ])
          refine wpAnyH_take (i := 6) (oi := { dst := some 39, op := Op.move (Operand.tmp 0), type := 23, pos := "ref.go:98", after := #[], guard := none }) (v := ?_) rfl (by kernel_rfl) (by kernel_rfl) (by kernel_rfl) (fun _ _ _ h => h) (Or.inl ⟨by kernel_rfl, ?_⟩) (by assumption) ?_
          rotate_left
          · intro w hSw
            (try dsimp only at hSw)
            go_simp
            all_goals (with_reducible rfl)
          (try simp only [Act.put, List.setIfInBounds_toArray, List.set_cons_zero, List.set_cons_succ])
          refine wpAnyH_take (i := 7) (oi := { dst := some 40, op := Op.move (Operand.tmp 5), type := 3, pos := "ref.go:98", after := #[], guard := none }) (v := ?_) rfl (by kernel_rfl) (by kernel_rfl) (by kernel_rfl) (fun _ _ _ h => h) (Or.inl ⟨by kernel_rfl, ?_⟩) (by assumption) ?_
          rotate_left
          · intro w hSw
            (try dsimp only at hSw)
            go_simp
            all_goals (with_reducible rfl)
          (try simp only [Act.put, List.setIfInBounds_toArray, List.set_cons_zero, List.set_cons_succ])
          refine wpAnyH_take (i := 8) (oi := { dst := some 41, op := Op.slice 23 (Operand.tmp 39) (some (Operand.tmp 40)) none none, type := 23, pos := "ref.go:98", after := #[{ on := 6, ground := Ground.data }, { on := 7, ground := Ground.data }], guard := none }) (v := ?_) rfl (by kernel_rfl) (by kernel_rfl) (by kernel_rfl) (fun _ _ _ h => h) (Or.inl ⟨by kernel_rfl, ?_⟩) (by assumption) ?_
          rotate_left
          · intro w hSw
            (try dsimp only at hSw)
            go_simp
            all_goals (with_reducible rfl)
          (try simp only [Act.put, List.setIfInBounds_toArray, List.set_cons_zero, List.set_cons_succ])
          refine wpAnyH_one1 (i := 5) (o := { dst := some 38, op := Op.buildSlice 23 1 #[(0, Operand.tmp 37)], type := 23, pos := "ref.go:98", after := #[{ on := 4, ground := Ground.data }], guard := none }) (by kernel_rfl) rfl (fun K hK => ?_)
          go_simp
          refine hK.out _ _ ?_ (fun hHeld2 => ?_)
          · first | exact hbq2 | exact hbq | exact (Below.refl _ _).drew.alloc (Nat.le_refl _) _
          clear hHeld
          have hHeld := hHeld2
          clear hHeld2
          clear hK K
          (try simp only [Act.put, List.setIfInBounds_toArray, List.set_cons_zero, List.set_cons_succ])
          refine wpAnyH_one1 (i := 9) (o := { dst := some 42, op := Op.call { callee := Callee.builtin Builtin.append, args := #[Operand.tmp 38, Operand.tmp 41], argTypes := #[23, 23] }, type := 23, pos := "ref.go:98", after := #[{ on := 5, ground := Ground.data }, { on := 8, ground := Ground.data }], guard := none }) (by kernel_rfl) rfl (fun K hK => ?_)
          refine step_app (xs := [n]) (ys := l.drop k) rfl _ _ rfl rfl rfl (ints_one (Blk.newAt w.drew #[.int .i64 n] 3 rfl)) (hsrc _ hHeld) (.inr ⟨_, _, rfl⟩) (by simp; omega) (fun v1 w1 hi1 hb1 => ?_)
          have hbq := hHeld.trans (hb1.mono hHeld.size)
          refine hK.out _ _ ?_ (fun hHeld2 => ?_)
          · first | exact hbq2 | exact hbq | exact (Below.refl _ _).drew.alloc (Nat.le_refl _) _
          clear hHeld
          have hHeld := hHeld2
          clear hHeld2
          clear hK K
          (try simp only [Act.put, List.setIfInBounds_toArray, List.set_cons_zero, List.set_cons_succ])
          refine wpAnyH_one1 (i := 10) (o := { dst := some 43, op := Op.call { callee := Callee.builtin Builtin.append, args := #[Operand.tmp 36, Operand.tmp 42], argTypes := #[23, 23] }, type := 23, pos := "ref.go:98", after := #[{ on := 3, ground := Ground.data }, { on := 9, ground := Ground.data }, { on := 9, ground := Ground.chain }], guard := none }) (by kernel_rfl) rfl (fun K hK => ?_)
          refine step_app (xs := l.take k) (ys := [n] ++ l.drop k) rfl _ _ rfl (by rw [hlk]; rfl) rfl (by rw [hlk]; exact hdst _ hHeld) hi1 (.inl (by simp)) (by simp; omega) (fun v2 w2 hi2 hb2 => ?_)
          have hbq2 := hHeld.trans (hb2.mono hHeld.size)
          refine hK.out _ _ ?_ (fun hHeld2 => ?_)
          · first | exact hbq2 | exact hbq | exact (Below.refl _ _).drew.alloc (Nat.le_refl _) _
          clear hHeld
          have hHeld := hHeld2
          clear hHeld2
          clear hK K
          (try simp only [Act.put, List.setIfInBounds_toArray, List.set_cons_zero, List.set_cons_succ])
          refine wpAnyH_take (i := 11) (oi := { dst := some 4, op := Op.assign (Operand.tmp 43), type := 23, pos := "ref.go:98", after := #[{ on := 10, ground := Ground.data }, { on := 10, ground := Ground.chain }, { on := 0, ground := Ground.phase }, { on := 1, ground := Ground.phase }, { on := 2, ground := Ground.phase }, { on := 3, ground := Ground.phase }, { on := 4, ground := Ground.phase }, { on := 5, ground := Ground.phase }, { on := 6, ground := Ground.phase }, { on := 7, ground := Ground.phase }, { on := 8, ground := Ground.phase }, { on := 9, ground := Ground.phase }, { on := 10, ground := Ground.phase }], guard := none }) (v := ?_) rfl (by kernel_rfl) (by kernel_rfl) (by kernel_rfl) (fun _ _ _ h => h) (Or.inl ⟨by kernel_rfl, ?_⟩) (by assumption) ?_
          rotate_left
          · intro w hSw
            (try dsimp only at hSw)
            go_simp
            all_goals (with_reducible rfl)
          (try simp only [Act.put, List.setIfInBounds_toArray, List.set_cons_zero, List.set_cons_succ])
          refine wpAnyH_done (by kernel_rfl) ?_ _
          refine NoPanic.normal ?_
          have hX := hHeld
          clear hHeld
          go_wp2_with fail
          go_ret
          exact ⟨_, rfl, .inr ⟨by rw [HR.out]; simp <;> omega, by rw [HR.out]; exact hi2⟩, hX⟩
    · have hke : k = l.length := by omega
      have HR0 := Lib.hid (put_stop (l := l) (n := n) hk HP.out (fun h => absurd h hkl) (fun h => absurd h.1 hkl))
      have HKE := Lib.hid hke
      clear hke
      rcases HK.out with ⟨rfl, rfl, rfl⟩ | ⟨b, off, rfl, hlp⟩
      · obtain rfl : k = 0 := by have := HKE.out; simpa using this
        have HR := Lib.hid (show putV [] n = [] ++ ([n] ++ []) from rfl)
        clear HR0 HKE
        skip
        go_upto_region 6 with (fail)
        skip
        refine wp_region_noPanic ?_
        refine wp_region_held_drew (S := (fun w' => Below w.heap.size w w')) (by kernel_rfl) (Below.refl _ _).drew (fun hHeld => ?_)
        refine wpAnyH_take (i := 0) (oi := { dst := some 33, op := Op.move (Operand.tmp 0), type := 23, pos := "ref.go:98", after := #[], guard := none }) (v := ?_) rfl (by kernel_rfl) (by kernel_rfl) (by kernel_rfl) (fun _ _ _ h => h) (Or.inl ⟨by kernel_rfl, ?_⟩) (by assumption) ?_
        rotate_left
        · intro w hSw
          (try dsimp only at hSw)
          go_simp
          all_goals (with_reducible rfl)
        (try simp only [Act.put, List.setIfInBounds_toArray, List.set_cons_zero, List.set_cons_succ])
        refine wpAnyH_take (i := 1) (oi := { dst := some 34, op := Op.move (Operand.tmp 5), type := 3, pos := "ref.go:98", after := #[], guard := none }) (v := ?_) rfl (by kernel_rfl) (by kernel_rfl) (by kernel_rfl) (fun _ _ _ h => h) (Or.inl ⟨by kernel_rfl, ?_⟩) (by assumption) ?_
        rotate_left
        · intro w hSw
          (try dsimp only at hSw)
          go_simp
          all_goals (with_reducible rfl)
        (try simp only [Act.put, List.setIfInBounds_toArray, List.set_cons_zero, List.set_cons_succ])
        refine wpAnyH_take (i := 2) (oi := { dst := some 35, op := Op.move (Operand.tmp 5), type := 3, pos := "ref.go:98", after := #[], guard := none }) (v := ?_) rfl (by kernel_rfl) (by kernel_rfl) (by kernel_rfl) (fun _ _ _ h => h) (Or.inl ⟨by kernel_rfl, ?_⟩) (by assumption) ?_
        rotate_left
        · intro w hSw
          (try dsimp only at hSw)
          go_simp
          all_goals (with_reducible rfl)
        (try simp only [Act.put, List.setIfInBounds_toArray, List.set_cons_zero, List.set_cons_succ])
        refine wpAnyH_take (i := 3) (oi := { dst := some 36, op := Op.slice 23 (Operand.tmp 33) none (some (Operand.tmp 34)) (some (Operand.tmp 35)), type := 23, pos := "ref.go:98", after := #[{ on := 0, ground := Ground.data }, { on := 1, ground := Ground.data }, { on := 2, ground := Ground.data }], guard := none }) (v := ?_) rfl (by kernel_rfl) (by kernel_rfl) (by kernel_rfl) (fun _ _ _ h => h) (Or.inl ⟨by kernel_rfl, ?_⟩) (by assumption) ?_
        rotate_left
        · intro w hSw
          (try dsimp only at hSw)
          go_simp
          all_goals (with_reducible rfl)
        (try simp only [Act.put, List.setIfInBounds_toArray, List.set_cons_zero, List.set_cons_succ])
        refine wpAnyH_take (i := 4) (oi := { dst := some 37, op := Op.move (Operand.tmp 1), type := 3, pos := "ref.go:98", after := #[], guard := none }) (v := ?_) rfl (by kernel_rfl) (by kernel_rfl) (by kernel_rfl) (fun _ _ _ h => h) (Or.inl ⟨by kernel_rfl, ?_⟩) (by assumption) ?_
        rotate_left
        · intro w hSw
          (try dsimp only at hSw)
          go_simp
          all_goals (with_reducible rfl)
        (try simp only [Act.put, List.setIfInBounds_toArray, List.set_cons_zero, List.set_cons_succ])
        refine wpAnyH_take (i := 6) (oi := { dst := some 39, op := Op.move (Operand.tmp 0), type := 23, pos := "ref.go:98", after := #[], guard := none }) (v := ?_) rfl (by kernel_rfl) (by kernel_rfl) (by kernel_rfl) (fun _ _ _ h => h) (Or.inl ⟨by kernel_rfl, ?_⟩) (by assumption) ?_
        rotate_left
        · intro w hSw
          (try dsimp only at hSw)
          go_simp
          all_goals (with_reducible rfl)
        (try simp only [Act.put, List.setIfInBounds_toArray, List.set_cons_zero, List.set_cons_succ])
        refine wpAnyH_take (i := 7) (oi := { dst := some 40, op := Op.move (Operand.tmp 5), type := 3, pos := "ref.go:98", after := #[], guard := none }) (v := ?_) rfl (by kernel_rfl) (by kernel_rfl) (by kernel_rfl) (fun _ _ _ h => h) (Or.inl ⟨by kernel_rfl, ?_⟩) (by assumption) ?_
        rotate_left
        · intro w hSw
          (try dsimp only at hSw)
          go_simp
          all_goals (with_reducible rfl)
        (try simp only [Act.put, List.setIfInBounds_toArray, List.set_cons_zero, List.set_cons_succ])
        refine wpAnyH_take (i := 8) (oi := { dst := some 41, op := Op.slice 23 (Operand.tmp 39) (some (Operand.tmp 40)) none none, type := 23, pos := "ref.go:98", after := #[{ on := 6, ground := Ground.data }, { on := 7, ground := Ground.data }], guard := none }) (v := ?_) rfl (by kernel_rfl) (by kernel_rfl) (by kernel_rfl) (fun _ _ _ h => h) (Or.inl ⟨by kernel_rfl, ?_⟩) (by assumption) ?_
        rotate_left
        · intro w hSw
          (try dsimp only at hSw)
          go_simp
          all_goals (with_reducible rfl)
        (try simp only [Act.put, List.setIfInBounds_toArray, List.set_cons_zero, List.set_cons_succ])
        refine wpAnyH_one1 (i := 5) (o := { dst := some 38, op := Op.buildSlice 23 1 #[(0, Operand.tmp 37)], type := 23, pos := "ref.go:98", after := #[{ on := 4, ground := Ground.data }], guard := none }) (by kernel_rfl) rfl (fun K hK => ?_)
        go_simp
        refine hK.out _ _ ?_ (fun hHeld2 => ?_)
        · first | exact hbq2 | exact hbq | exact (Below.refl _ _).drew.alloc (Nat.le_refl _) _
        clear hHeld
        have hHeld := hHeld2
        clear hHeld2
        clear hK K
        (try simp only [Act.put, List.setIfInBounds_toArray, List.set_cons_zero, List.set_cons_succ])
        refine wpAnyH_one1 (i := 9) (o := { dst := some 42, op := Op.call { callee := Callee.builtin Builtin.append, args := #[Operand.tmp 38, Operand.tmp 41], argTypes := #[23, 23] }, type := 23, pos := "ref.go:98", after := #[{ on := 5, ground := Ground.data }, { on := 8, ground := Ground.data }], guard := none }) (by kernel_rfl) rfl (fun K hK => ?_)
        refine step_app (xs := [n]) (ys := []) rfl _ _ rfl rfl rfl (ints_one (Blk.newAt w.drew #[.int .i64 n] 3 rfl)) ⟨_, _, rfl, by simp, by unfold maxLen; omega, fun h => by simp at h⟩ (.inr ⟨_, _, rfl⟩) (by simp) (fun v1 w1 hi1 hb1 => ?_)
        have hbq := hHeld.trans (hb1.mono hHeld.size)
        refine hK.out _ _ ?_ (fun hHeld2 => ?_)
        · first | exact hbq2 | exact hbq | exact (Below.refl _ _).drew.alloc (Nat.le_refl _) _
        clear hHeld
        have hHeld := hHeld2
        clear hHeld2
        clear hK K
        (try simp only [Act.put, List.setIfInBounds_toArray, List.set_cons_zero, List.set_cons_succ])
        refine wpAnyH_one1 (i := 10) (o := { dst := some 43, op := Op.call { callee := Callee.builtin Builtin.append, args := #[Operand.tmp 36, Operand.tmp 42], argTypes := #[23, 23] }, type := 23, pos := "ref.go:98", after := #[{ on := 3, ground := Ground.data }, { on := 9, ground := Ground.data }, { on := 9, ground := Ground.chain }], guard := none }) (by kernel_rfl) rfl (fun K hK => ?_)
        refine step_app (xs := []) (ys := [n] ++ []) rfl _ _ rfl rfl rfl ⟨_, _, rfl, by simp, by unfold maxLen; omega, fun h => by simp at h⟩ hi1 (.inl (by simp)) (by simp) (fun v2 w2 hi2 hb2 => ?_)
        have hbq2 := hHeld.trans (hb2.mono hHeld.size)
        refine hK.out _ _ ?_ (fun hHeld2 => ?_)
        · first | exact hbq2 | exact hbq | exact (Below.refl _ _).drew.alloc (Nat.le_refl _) _
        clear hHeld
        have hHeld := hHeld2
        clear hHeld2
        clear hK K
        (try simp only [Act.put, List.setIfInBounds_toArray, List.set_cons_zero, List.set_cons_succ])
        refine wpAnyH_take (i := 11) (oi := { dst := some 4, op := Op.assign (Operand.tmp 43), type := 23, pos := "ref.go:98", after := #[{ on := 10, ground := Ground.data }, { on := 10, ground := Ground.chain }, { on := 0, ground := Ground.phase }, { on := 1, ground := Ground.phase }, { on := 2, ground := Ground.phase }, { on := 3, ground := Ground.phase }, { on := 4, ground := Ground.phase }, { on := 5, ground := Ground.phase }, { on := 6, ground := Ground.phase }, { on := 7, ground := Ground.phase }, { on := 8, ground := Ground.phase }, { on := 9, ground := Ground.phase }, { on := 10, ground := Ground.phase }], guard := none }) (v := ?_) rfl (by kernel_rfl) (by kernel_rfl) (by kernel_rfl) (fun _ _ _ h => h) (Or.inl ⟨by kernel_rfl, ?_⟩) (by assumption) ?_
        rotate_left
        · intro w hSw
          (try dsimp only at hSw)
          go_simp
          all_goals (with_reducible rfl)
        (try simp only [Act.put, List.setIfInBounds_toArray, List.set_cons_zero, List.set_cons_succ])
        refine wpAnyH_done (by kernel_rfl) ?_ _
        refine NoPanic.normal ?_
        have hX := hHeld
        clear hHeld
        go_wp2_with fail
        go_ret
        exact ⟨_, rfl, .inr ⟨by rw [HR.out]; simp <;> omega, by rw [HR.out]; exact hi2⟩, hX⟩
      · by_cases hck : cap = k
        · have HR := Lib.hid (show putV l n = l.take k ++ ([n] ++ []) by rw [HR0.out, List.drop_eq_nil_of_le (by omega)])
          subst hck
          clear HR0
          have i1 : (0 : Int) ≤ (cap : Int) ∧ (cap : Int) ≤ (cap : Int) ∧ (cap : Int) ≤ (l.length : Int) := by omega
          go_upto_region 6 with (fail)
          have hdst := fun W (hW : Below w.heap.size w W) => ints_take (k := cap) (HV.out.below hW) hk
          have hlk : (l.take cap).length = cap := by rw [List.length_take]; omega
          rw [hlk] at hdst
          refine wp_region_noPanic ?_
          refine wp_region_held_drew (S := (fun w' => Below w.heap.size w w')) (by kernel_rfl) (Below.refl _ _).drew (fun hHeld => ?_)
          refine wpAnyH_take (i := 0) (oi := { dst := some 33, op := Op.move (Operand.tmp 0), type := 23, pos := "ref.go:98", after := #[], guard := none }) (v := ?_) rfl (by kernel_rfl) (by kernel_rfl) (by kernel_rfl) (fun _ _ _ h => h) (Or.inl ⟨by kernel_rfl, ?_⟩) (by assumption) ?_
          rotate_left
          · intro w hSw
            (try dsimp only at hSw)
            go_simp
            all_goals (with_reducible rfl)
          (try simp only [Act.put, List.setIfInBounds_toArray, List.set_cons_zero, List.set_cons_succ])
          refine wpAnyH_take (i := 1) (oi := { dst := some 34, op := Op.move (Operand.tmp 5), type := 3, pos := "ref.go:98", after := #[], guard := none }) (v := ?_) rfl (by kernel_rfl) (by kernel_rfl) (by kernel_rfl) (fun _ _ _ h => h) (Or.inl ⟨by kernel_rfl, ?_⟩) (by assumption) ?_
          rotate_left
          · intro w hSw
            (try dsimp only at hSw)
            go_simp
            all_goals (with_reducible rfl)
          (try simp only [Act.put, List.setIfInBounds_toArray, List.set_cons_zero, List.set_cons_succ])
          refine wpAnyH_take (i := 2) (oi := { dst := some 35, op := Op.move (Operand.tmp 5), type := 3, pos := "ref.go:98", after := #[], guard := none }) (v := ?_) rfl (by kernel_rfl) (by kernel_rfl) (by kernel_rfl) (fun _ _ _ h => h) (Or.inl ⟨by kernel_rfl, ?_⟩) (by assumption) ?_
          rotate_left
          · intro w hSw
            (try dsimp only at hSw)
            go_simp
            all_goals (with_reducible rfl)
          (try simp only [Act.put, List.setIfInBounds_toArray, List.set_cons_zero, List.set_cons_succ])
          refine wpAnyH_take (i := 3) (oi := { dst := some 36, op := Op.slice 23 (Operand.tmp 33) none (some (Operand.tmp 34)) (some (Operand.tmp 35)), type := 23, pos := "ref.go:98", after := #[{ on := 0, ground := Ground.data }, { on := 1, ground := Ground.data }, { on := 2, ground := Ground.data }], guard := none }) (v := ?_) rfl (by kernel_rfl) (by kernel_rfl) (by kernel_rfl) (fun _ _ _ h => h) (Or.inl ⟨by kernel_rfl, ?_⟩) (by assumption) ?_
          rotate_left
          · intro w hSw
            (try dsimp only at hSw)
            go_simp
            all_goals (with_reducible rfl)
          (try simp only [Act.put, List.setIfInBounds_toArray, List.set_cons_zero, List.set_cons_succ])
          refine wpAnyH_take (i := 4) (oi := { dst := some 37, op := Op.move (Operand.tmp 1), type := 3, pos := "ref.go:98", after := #[], guard := none }) (v := ?_) rfl (by kernel_rfl) (by kernel_rfl) (by kernel_rfl) (fun _ _ _ h => h) (Or.inl ⟨by kernel_rfl, ?_⟩) (by assumption) ?_
          rotate_left
          · intro w hSw
            (try dsimp only at hSw)
            go_simp
            all_goals (with_reducible rfl)
          (try simp only [Act.put, List.setIfInBounds_toArray, List.set_cons_zero, List.set_cons_succ])
          refine wpAnyH_take (i := 6) (oi := { dst := some 39, op := Op.move (Operand.tmp 0), type := 23, pos := "ref.go:98", after := #[], guard := none }) (v := ?_) rfl (by kernel_rfl) (by kernel_rfl) (by kernel_rfl) (fun _ _ _ h => h) (Or.inl ⟨by kernel_rfl, ?_⟩) (by assumption) ?_
          rotate_left
          · intro w hSw
            (try dsimp only at hSw)
            go_simp
            all_goals (with_reducible rfl)
          (try simp only [Act.put, List.setIfInBounds_toArray, List.set_cons_zero, List.set_cons_succ])
          refine wpAnyH_take (i := 7) (oi := { dst := some 40, op := Op.move (Operand.tmp 5), type := 3, pos := "ref.go:98", after := #[], guard := none }) (v := ?_) rfl (by kernel_rfl) (by kernel_rfl) (by kernel_rfl) (fun _ _ _ h => h) (Or.inl ⟨by kernel_rfl, ?_⟩) (by assumption) ?_
          rotate_left
          · intro w hSw
            (try dsimp only at hSw)
            go_simp
            all_goals (with_reducible rfl)
          (try simp only [Act.put, List.setIfInBounds_toArray, List.set_cons_zero, List.set_cons_succ])
          refine wpAnyH_take (i := 8) (oi := { dst := some 41, op := Op.slice 23 (Operand.tmp 39) (some (Operand.tmp 40)) none none, type := 23, pos := "ref.go:98", after := #[{ on := 6, ground := Ground.data }, { on := 7, ground := Ground.data }], guard := none }) (v := ?_) rfl (by kernel_rfl) (by kernel_rfl) (by kernel_rfl) (fun _ _ _ h => h) (Or.inl ⟨by kernel_rfl, ?_⟩) (by assumption) ?_
          rotate_left
          · intro w hSw
            (try dsimp only at hSw)
            go_simp
            all_goals (with_reducible rfl)
          (try simp only [Act.put, List.setIfInBounds_toArray, List.set_cons_zero, List.set_cons_succ])
          refine wpAnyH_one1 (i := 5) (o := { dst := some 38, op := Op.buildSlice 23 1 #[(0, Operand.tmp 37)], type := 23, pos := "ref.go:98", after := #[{ on := 4, ground := Ground.data }], guard := none }) (by kernel_rfl) rfl (fun K hK => ?_)
          go_simp
          refine hK.out _ _ ?_ (fun hHeld2 => ?_)
          · first | exact hbq2 | exact hbq | exact (Below.refl _ _).drew.alloc (Nat.le_refl _) _
          clear hHeld
          have hHeld := hHeld2
          clear hHeld2
          clear hK K
          (try simp only [Act.put, List.setIfInBounds_toArray, List.set_cons_zero, List.set_cons_succ])
          refine wpAnyH_one1 (i := 9) (o := { dst := some 42, op := Op.call { callee := Callee.builtin Builtin.append, args := #[Operand.tmp 38, Operand.tmp 41], argTypes := #[23, 23] }, type := 23, pos := "ref.go:98", after := #[{ on := 5, ground := Ground.data }, { on := 8, ground := Ground.data }], guard := none }) (by kernel_rfl) rfl (fun K hK => ?_)
          refine step_app (xs := [n]) (ys := []) rfl _ _ rfl rfl rfl (ints_one (Blk.newAt w.drew #[.int .i64 n] 3 rfl)) ⟨_, _, rfl, by simp, by unfold maxLen; omega, fun h => by simp at h⟩ (.inr ⟨_, _, rfl⟩) (by simp) (fun v1 w1 hi1 hb1 => ?_)
          have hbq := hHeld.trans (hb1.mono hHeld.size)
          refine hK.out _ _ ?_ (fun hHeld2 => ?_)
          · first | exact hbq2 | exact hbq | exact (Below.refl _ _).drew.alloc (Nat.le_refl _) _
          clear hHeld
          have hHeld := hHeld2
          clear hHeld2
          clear hK K
          (try simp only [Act.put, List.setIfInBounds_toArray, List.set_cons_zero, List.set_cons_succ])
          refine wpAnyH_one1 (i := 10) (o := { dst := some 43, op := Op.call { callee := Callee.builtin Builtin.append, args := #[Operand.tmp 36, Operand.tmp 42], argTypes := #[23, 23] }, type := 23, pos := "ref.go:98", after := #[{ on := 3, ground := Ground.data }, { on := 9, ground := Ground.data }, { on := 9, ground := Ground.chain }], guard := none }) (by kernel_rfl) rfl (fun K hK => ?_)
          refine step_app (xs := l.take cap) (ys := [n] ++ []) rfl _ _ rfl (by rw [hlk]; rfl) rfl (by rw [hlk]; exact hdst _ hHeld) hi1 (.inl (by simp)) (by simp; omega) (fun v2 w2 hi2 hb2 => ?_)
          have hbq2 := hHeld.trans (hb2.mono hHeld.size)
          refine hK.out _ _ ?_ (fun hHeld2 => ?_)
          · first | exact hbq2 | exact hbq | exact (Below.refl _ _).drew.alloc (Nat.le_refl _) _
          clear hHeld
          have hHeld := hHeld2
          clear hHeld2
          clear hK K
          (try simp only [Act.put, List.setIfInBounds_toArray, List.set_cons_zero, List.set_cons_succ])
          refine wpAnyH_take (i := 11) (oi := { dst := some 4, op := Op.assign (Operand.tmp 43), type := 23, pos := "ref.go:98", after := #[{ on := 10, ground := Ground.data }, { on := 10, ground := Ground.chain }, { on := 0, ground := Ground.phase }, { on := 1, ground := Ground.phase }, { on := 2, ground := Ground.phase }, { on := 3, ground := Ground.phase }, { on := 4, ground := Ground.phase }, { on := 5, ground := Ground.phase }, { on := 6, ground := Ground.phase }, { on := 7, ground := Ground.phase }, { on := 8, ground := Ground.phase }, { on := 9, ground := Ground.phase }, { on := 10, ground := Ground.phase }], guard := none }) (v := ?_) rfl (by kernel_rfl) (by kernel_rfl) (by kernel_rfl) (fun _ _ _ h => h) (Or.inl ⟨by kernel_rfl, ?_⟩) (by assumption) ?_
          rotate_left
          · intro w hSw
            (try dsimp only at hSw)
            go_simp
            all_goals (with_reducible rfl)
          (try simp only [Act.put, List.setIfInBounds_toArray, List.set_cons_zero, List.set_cons_succ])
          refine wpAnyH_done (by kernel_rfl) ?_ _
          refine NoPanic.normal ?_
          have hX := hHeld
          clear hHeld
          go_wp2_with fail
          go_ret
          exact ⟨_, rfl, .inr ⟨by rw [HR.out]; simp <;> omega, by rw [HR.out]; exact hi2⟩, hX⟩
        · have hcn : ¬ cap = k := hck
          have HR := HR0
          clear hck HR0
          have i1 : (0 : Int) ≤ (k : Int) ∧ (k : Int) ≤ (cap : Int) ∧ (k : Int) ≤ (l.length : Int) := by omega
          go_upto_region 6 with (fail)
          have hdst := fun W (hW : Below w.heap.size w W) => ints_take (k := k) (HV.out.below hW) hk
          have hsrc := fun W (hW : Below w.heap.size w W) => ints_drop (k := k) (c2 := cap - k) (HV.out.below hW) hk (by omega) (by unfold maxLen; omega)
          have hlk : (l.take k).length = k := by rw [List.length_take]; omega
          rw [hlk] at hdst
          refine wp_region_noPanic ?_
          refine wp_region_held_drew (S := (fun w' => Below w.heap.size w w')) (by kernel_rfl) (Below.refl _ _).drew (fun hHeld => ?_)
          refine wpAnyH_take (i := 0) (oi := { dst := some 33, op := Op.move (Operand.tmp 0), type := 23, pos := "ref.go:98", after := #[], guard := none }) (v := ?_) rfl (by kernel_rfl) (by kernel_rfl) (by kernel_rfl) (fun _ _ _ h => h) (Or.inl ⟨by kernel_rfl, ?_⟩) (by assumption) ?_
          rotate_left
          · intro w hSw
            (try dsimp only at hSw)
            go_simp
            all_goals (with_reducible rfl)
          (try simp only [Act.put, List.setIfInBounds_toArray, List.set_cons_zero, List.set_cons_succ])
          refine wpAnyH_take (i := 1) (oi := { dst := some 34, op := Op.move (Operand.tmp 5), type := 3, pos := "ref.go:98", after := #[], guard := none }) (v := ?_) rfl (by kernel_rfl) (by kernel_rfl) (by kernel_rfl) (fun _ _ _ h => h) (Or.inl ⟨by kernel_rfl, ?_⟩) (by assumption) ?_
          rotate_left
          · intro w hSw
            (try dsimp only at hSw)
            go_simp
            all_goals (with_reducible rfl)
          (try simp only [Act.put, List.setIfInBounds_toArray, List.set_cons_zero, List.set_cons_succ])
          refine wpAnyH_take (i := 2) (oi := { dst := some 35, op := Op.move (Operand.tmp 5), type := 3, pos := "ref.go:98", after := #[], guard := none }) (v := ?_) rfl (by kernel_rfl) (by kernel_rfl) (by kernel_rfl) (fun _ _ _ h => h) (Or.inl ⟨by kernel_rfl, ?_⟩) (by assumption) ?_
          rotate_left
          · intro w hSw
            (try dsimp only at hSw)
            go_simp
            all_goals (with_reducible rfl)
          (try simp only [Act.put, List.setIfInBounds_toArray, List.set_cons_zero, List.set_cons_succ])
          refine wpAnyH_take (i := 3) (oi := { dst := some 36, op := Op.slice 23 (Operand.tmp 33) none (some (Operand.tmp 34)) (some (Operand.tmp 35)), type := 23, pos := "ref.go:98", after := #[{ on := 0, ground := Ground.data }, { on := 1, ground := Ground.data }, { on := 2, ground := Ground.data }], guard := none }) (v := ?_) rfl (by kernel_rfl) (by kernel_rfl) (by kernel_rfl) (fun _ _ _ h => h) (Or.inl ⟨by kernel_rfl, ?_⟩) (by assumption) ?_
          rotate_left
          · intro w hSw
            (try dsimp only at hSw)
            go_simp
            all_goals (with_reducible rfl)
          (try simp only [Act.put, List.setIfInBounds_toArray, List.set_cons_zero, List.set_cons_succ])
          refine wpAnyH_take (i := 4) (oi := { dst := some 37, op := Op.move (Operand.tmp 1), type := 3, pos := "ref.go:98", after := #[], guard := none }) (v := ?_) rfl (by kernel_rfl) (by kernel_rfl) (by kernel_rfl) (fun _ _ _ h => h) (Or.inl ⟨by kernel_rfl, ?_⟩) (by assumption) ?_
          rotate_left
          · intro w hSw
            (try dsimp only at hSw)
            go_simp
            all_goals (with_reducible rfl)
          (try simp only [Act.put, List.setIfInBounds_toArray, List.set_cons_zero, List.set_cons_succ])
          refine wpAnyH_take (i := 6) (oi := { dst := some 39, op := Op.move (Operand.tmp 0), type := 23, pos := "ref.go:98", after := #[], guard := none }) (v := ?_) rfl (by kernel_rfl) (by kernel_rfl) (by kernel_rfl) (fun _ _ _ h => h) (Or.inl ⟨by kernel_rfl, ?_⟩) (by assumption) ?_
          rotate_left
          · intro w hSw
            (try dsimp only at hSw)
            go_simp
            all_goals (with_reducible rfl)
          (try simp only [Act.put, List.setIfInBounds_toArray, List.set_cons_zero, List.set_cons_succ])
          refine wpAnyH_take (i := 7) (oi := { dst := some 40, op := Op.move (Operand.tmp 5), type := 3, pos := "ref.go:98", after := #[], guard := none }) (v := ?_) rfl (by kernel_rfl) (by kernel_rfl) (by kernel_rfl) (fun _ _ _ h => h) (Or.inl ⟨by kernel_rfl, ?_⟩) (by assumption) ?_
          rotate_left
          · intro w hSw
            (try dsimp only at hSw)
            go_simp
            all_goals (with_reducible rfl)
          (try simp only [Act.put, List.setIfInBounds_toArray, List.set_cons_zero, List.set_cons_succ])
          refine wpAnyH_take (i := 8) (oi := { dst := some 41, op := Op.slice 23 (Operand.tmp 39) (some (Operand.tmp 40)) none none, type := 23, pos := "ref.go:98", after := #[{ on := 6, ground := Ground.data }, { on := 7, ground := Ground.data }], guard := none }) (v := ?_) rfl (by kernel_rfl) (by kernel_rfl) (by kernel_rfl) (fun _ _ _ h => h) (Or.inl ⟨by kernel_rfl, ?_⟩) (by assumption) ?_
          rotate_left
          · intro w hSw
            (try dsimp only at hSw)
            go_simp
            all_goals (with_reducible rfl)
          (try simp only [Act.put, List.setIfInBounds_toArray, List.set_cons_zero, List.set_cons_succ])
          refine wpAnyH_one1 (i := 5) (o := { dst := some 38, op := Op.buildSlice 23 1 #[(0, Operand.tmp 37)], type := 23, pos := "ref.go:98", after := #[{ on := 4, ground := Ground.data }], guard := none }) (by kernel_rfl) rfl (fun K hK => ?_)
          go_simp
          refine hK.out _ _ ?_ (fun hHeld2 => ?_)
          · first | exact hbq2 | exact hbq | exact (Below.refl _ _).drew.alloc (Nat.le_refl _) _
          clear hHeld
          have hHeld := hHeld2
          clear hHeld2
          clear hK K
          (try simp only [Act.put, List.setIfInBounds_toArray, List.set_cons_zero, List.set_cons_succ])
          refine wpAnyH_one1 (i := 9) (o := { dst := some 42, op := Op.call { callee := Callee.builtin Builtin.append, args := #[Operand.tmp 38, Operand.tmp 41], argTypes := #[23, 23] }, type := 23, pos := "ref.go:98", after := #[{ on := 5, ground := Ground.data }, { on := 8, ground := Ground.data }], guard := none }) (by kernel_rfl) rfl (fun K hK => ?_)
          refine step_app (xs := [n]) (ys := l.drop k) rfl _ _ rfl rfl rfl (ints_one (Blk.newAt w.drew #[.int .i64 n] 3 rfl)) (hsrc _ hHeld) (.inr ⟨_, _, rfl⟩) (by simp; omega) (fun v1 w1 hi1 hb1 => ?_)
          have hbq := hHeld.trans (hb1.mono hHeld.size)
          refine hK.out _ _ ?_ (fun hHeld2 => ?_)
          · first | exact hbq2 | exact hbq | exact (Below.refl _ _).drew.alloc (Nat.le_refl _) _
          clear hHeld
          have hHeld := hHeld2
          clear hHeld2
          clear hK K
          (try simp only [Act.put, List.setIfInBounds_toArray, List.set_cons_zero, List.set_cons_succ])
          refine wpAnyH_one1 (i := 10) (o := { dst := some 43, op := Op.call { callee := Callee.builtin Builtin.append, args := #[Operand.tmp 36, Operand.tmp 42], argTypes := #[23, 23] }, type := 23, pos := "ref.go:98", after := #[{ on := 3, ground := Ground.data }, { on := 9, ground := Ground.data }, { on := 9, ground := Ground.chain }], guard := none }) (by kernel_rfl) rfl (fun K hK => ?_)
          refine step_app (xs := l.take k) (ys := [n] ++ l.drop k) rfl _ _ rfl (by rw [hlk]; rfl) rfl (by rw [hlk]; exact hdst _ hHeld) hi1 (.inl (by simp)) (by simp; omega) (fun v2 w2 hi2 hb2 => ?_)
          have hbq2 := hHeld.trans (hb2.mono hHeld.size)
          refine hK.out _ _ ?_ (fun hHeld2 => ?_)
          · first | exact hbq2 | exact hbq | exact (Below.refl _ _).drew.alloc (Nat.le_refl _) _
          clear hHeld
          have hHeld := hHeld2
          clear hHeld2
          clear hK K
          (try simp only [Act.put, List.setIfInBounds_toArray, List.set_cons_zero, List.set_cons_succ])
          refine wpAnyH_take (i := 11) (oi := { dst := some 4, op := Op.assign (Operand.tmp 43), type := 23, pos := "ref.go:98", after := #[{ on := 10, ground := Ground.data }, { on := 10, ground := Ground.chain }, { on := 0, ground := Ground.phase }, { on := 1, ground := Ground.phase }, { on := 2, ground := Ground.phase }, { on := 3, ground := Ground.phase }, { on := 4, ground := Ground.phase }, { on := 5, ground := Ground.phase }, { on := 6, ground := Ground.phase }, { on := 7, ground := Ground.phase }, { on := 8, ground := Ground.phase }, { on := 9, ground := Ground.phase }, { on := 10, ground := Ground.phase }], guard := none }) (v := ?_) rfl (by kernel_rfl) (by kernel_rfl) (by kernel_rfl) (fun _ _ _ h => h) (Or.inl ⟨by kernel_rfl, ?_⟩) (by assumption) ?_
          rotate_left
          · intro w hSw
            (try dsimp only at hSw)
            go_simp
            all_goals (with_reducible rfl)
          (try simp only [Act.put, List.setIfInBounds_toArray, List.set_cons_zero, List.set_cons_succ])
          refine wpAnyH_done (by kernel_rfl) ?_ _
          refine NoPanic.normal ?_
          have hX := hHeld
          clear hHeld
          go_wp2_with fail
          go_ret
          exact ⟨_, rfl, .inr ⟨by rw [HR.out]; simp <;> omega, by rw [HR.out]; exact hi2⟩, hX⟩
end Go.Proofs.Ytmajkagmcdlncaa
