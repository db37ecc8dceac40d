/- The same searches, at rows. -/
import Derived.Test.YtblmpmapcdpaiaaP2
namespace Go.Proofs.Ytblmpmapcdpaiaa
open Go.RowKit

set_option maxRecDepth 100000 in
theorem indexR (v f : Value) (l : List RowD) (q : RowD → Bool) (w : World) (hv : RowsAt w v l) (hf : AnsR w f l q) :
    Calls Try.prog 90 #[v, f] w fun e w' => e = .returned (.int .i64 (idxI q l)) ∧ Below w.heap.size w w' := by
  have HV := Lib.hid hv
  obtain ⟨a, cap, rfl, hle, hcm, -⟩ := hv
  obtain ⟨kf, caps, rfl, hent, hans⟩ := hf
  have HA := Lib.hid hans
  clear hans
  unfold maxLen at hcm
  go_enter Try.func90, Try.ntmps90
  go_wp2
  go_loopw [5, 8] (fun _ u8 wr => ∃ k : Nat, k ≤ l.length ∧ u8 = .int .i64 k ∧ (∀ (j : Nat) (y : RowD), j < k → l[j]? = some y → q y = false) ∧ Below w.heap.size w wr) (fun _ u8 _ => (l.length - intOf u8).toNat)
  case atStart => exact ⟨0, by omega, rfl, fun j y hj => absurd hj (Nat.not_lt_zero _), Below.refl _ _⟩
  case round =>
    obtain ⟨k, hk, rfl, hpre, hBr⟩ := hrel
    have HP := Lib.hid hpre
    clear hpre
    by_cases hkl : k < l.length
    · have hsome := Lib.hid (getD_some ⟨0, 0, 0, 0, [], 0⟩ hkl)
      obtain ⟨b, off, vc, rfl, c0, c1, c2, c3, c4, c5, hco⟩ := (HV.out.below hBr).get hsome.out
      have hc := Lib.hid (HA.out k _ hsome.out wr hBr _ ⟨vc, rfl, hco⟩)
      clear hco
      generalize l.getD k _ = x at c0 c1 c2 c3 c4 c5 hsome hc
      go_wp2_with fail
      refine hc.out.mono ?_
      cases hq : q x with
      | true =>
        rintro e w2 ⟨rfl, hB2⟩
        go_wp2
        go_ret
        exact ⟨by rw [idxI_hit hsome.out hq HP.out]; rfl, hBr.trans (hB2.mono hBr.size)⟩
      | false =>
        have HQ := Lib.hid hq
        clear hq
        rintro e w2 ⟨rfl, hB2⟩
        go_wp2
        go_roundw
        case rel => exact ⟨k + 1, by omega, by go_num, fun j y hj hy => by
          by_cases hjk : j < k
          · exact HP.out j y hjk hy
          · obtain rfl : j = k := by omega
            rw [hsome.out] at hy; cases hy; exact HQ.out, hBr.trans (hB2.mono hBr.size)⟩
        case measure => simp [intOf]; omega
    · go_wp2
      go_ret
      exact ⟨by rw [idxI_none fun j y hj => HP.out j y (by
        refine Classical.byContradiction fun hc => ?_
        rw [List.getElem?_eq_none (by omega)] at hj; cases hj) hj]; rfl, hBr⟩

set_option maxRecDepth 100000 in
theorem containsR (v f : Value) (l : List RowD) (q : RowD → Bool) (w : World) (hv : RowsAt w v l) (hf : AnsR w f l q) :
    Calls Try.prog 95 #[v, f] w fun e w' => e = .returned (.bool (l.any q)) ∧ Below w.heap.size w w' := by
  rw [← idxI_any q l]
  have hb := idxI_bd q l
  have hx := indexR v f l q w hv hf
  generalize idxI q l = i at hb hx
  go_enter Try.func95, Try.ntmps95
  go_wp2_with fail
  refine hx.mono ?_
  rintro e w' ⟨rfl, hB⟩
  go_wp2
  go_ret
  exact ⟨rfl, hB⟩
set_option maxRecDepth 100000 in
theorem containsI (v f : Value) (l : List Int) (q : Int → Bool) (w : World) (hv : IntsAt w v l) (hf : AnsI w f l q) :
    Calls Try.prog 108 #[v, f] w fun e w' => e = .returned (.bool (l.any q)) ∧ Below w.heap.size w w' := by
  rw [← idxI_any q l]
  have hb := idxI_bd q l
  have hx := indexI v f l q w hv hf
  generalize idxI q l = i at hb hx
  go_enter Try.func108, Try.ntmps108
  go_wp2_with fail
  refine hx.mono ?_
  rintro e w' ⟨rfl, hB⟩
  go_wp2
  go_ret
  exact ⟨rfl, hB⟩

set_option maxRecDepth 100000 in
theorem allI1 (kf : Nat) (caps : Array Value) (x : Int) (y : Bool) (p : Addr) (w : World) (hp : w.cell? p = some (.func (.func kf) #[] caps)) (hent : ∀ args w, (callFunc kf args).run Try.prog w = .ok (.enter kf args) w)
    (hc : Calls Try.prog kf (#[.int .i64 x] ++ caps) w fun e w' => e = .returned (.bool y) ∧ Below w.heap.size w w') :
    Calls Try.prog 109 #[.int .i64 x, .pointer (some p)] w fun e w' => e = .returned (.bool (!y)) ∧ Below w.heap.size w w' := by
  go_enter Try.func109, Try.ntmps109
  go_wp2_with fail
  refine hc.mono ?_
  rintro e w' ⟨rfl, hB⟩
  go_wp2
  go_ret
  exact ⟨rfl, hB⟩
set_option maxRecDepth 100000 in
theorem allR1 (kf : Nat) (caps : Array Value) (v : Value) (r : RowD) (y : Bool) (p : Addr) (w : World) (hv : RowV w v r) (hp : w.cell? p = some (.func (.func kf) #[] caps)) (hent : ∀ args w, (callFunc kf args).run Try.prog w = .ok (.enter kf args) w)
    (hc : ∀ W, Below w.heap.size w W → Calls Try.prog kf (#[v] ++ caps) W fun e w' => e = .returned (.bool y) ∧ Below W.heap.size W w') :
    Calls Try.prog 96 #[v, .pointer (some p)] w fun e w' => e = .returned (.bool (!y)) ∧ Below w.heap.size w w' := by
  obtain ⟨vc, rfl, -⟩ := hv
  have hlt := World.block_lt_of_cell? _ _ hp
  go_enter Try.func96, Try.ntmps96
  go_wp2_with fail
  refine (hc _ ?_).mono ?_
  · exact (Below.refl _ _).alloc (Nat.le_refl _) _
  rintro e w' ⟨rfl, hB⟩
  go_wp2
  go_ret
  exact ⟨rfl, ((Below.refl _ _).alloc (Nat.le_refl _) _).trans (hB.mono (by simp))⟩

theorem AnsI.not {w : World} {f : Value} {l : List Int} {q : Int → Bool} (h : AnsI w f l q) {W : World} (hW : Below w.heap.size w W) {p : Addr} (hp : W.cell? p = some f) :
    AnsI W (.func (.func 109) #[] #[.pointer (some p)]) l (fun x => !q x) := by
  obtain ⟨k, caps, rfl, h1, h2⟩ := h
  refine ⟨109, _, rfl, Try.call109, fun j x hj V hV => ?_⟩
  exact allI1 k caps x (q x) p V ((hV.cell (World.block_lt_of_cell? _ _ hp)).trans hp) h1 (h2 j x hj V (hW.trans (hV.mono hW.size)))
theorem AnsR.not {w : World} {f : Value} {l : List RowD} {q : RowD → Bool} (h : AnsR w f l q) {W : World} (hW : Below w.heap.size w W) {p : Addr} (hp : W.cell? p = some f) :
    AnsR W (.func (.func 96) #[] #[.pointer (some p)]) l (fun x => !q x) := by
  obtain ⟨k, caps, rfl, h1, h2⟩ := h
  refine ⟨96, _, rfl, Try.call96, fun j x hj V hV v hv => ?_⟩
  exact allR1 k caps v x (q x) p V hv ((hV.cell (World.block_lt_of_cell? _ _ hp)).trans hp) h1 (fun U hU => h2 j x hj U (hW.trans ((hV.trans (hU.mono hV.size)).mono hW.size)) v (hv.below hU))
theorem any_not {α : Type} (l : List α) (q : α → Bool) : (!(l.any fun x => !q x)) = l.all q := by
  induction l with
  | nil => rfl
  | cons x l ih => simp only [List.any_cons, List.all_cons, ← ih]; cases q x <;> simp

set_option maxRecDepth 100000 in
theorem allI (v f : Value) (l : List Int) (q : Int → Bool) (w : World) (hv : IntsAt w v l) (hf : AnsI w f l q) :
    Calls Try.prog 97 #[v, f] w fun e w' => e = .returned (.bool (l.all q)) ∧ Below w.heap.size w w' := by
  rw [← any_not l q]
  obtain ⟨kf, caps, rfl⟩ : ∃ (k : Nat) (caps : Array Value), f = .func (.func k) #[] caps := ⟨hf.choose, hf.choose_spec.choose, hf.choose_spec.choose_spec.1⟩
  have hB0 : Below w.heap.size w (w.alloc (.cells #[.func (.func kf) #[] caps] 114)) := (Below.refl _ _).alloc (Nat.le_refl _) _
  have hx := containsI v _ l _ _ (hv.below hB0) (hf.not hB0 (p := ⟨w.heap.size, 0, none⟩) (World.cell?_alloc_at _ _ _ _ rfl))
  generalize l.any (fun x => !q x) = y at hx ⊢
  go_enter Try.func97, Try.ntmps97
  go_wp2_with fail
  refine hx.mono ?_
  rintro e w' ⟨rfl, hB⟩
  go_wp2
  go_ret
  exact ⟨rfl, hB0.trans (hB.mono hB0.size)⟩
set_option maxRecDepth 100000 in
theorem allR (v f : Value) (l : List RowD) (q : RowD → Bool) (w : World) (hv : RowsAt w v l) (hf : AnsR w f l q) :
    Calls Try.prog 68 #[v, f] w fun e w' => e = .returned (.bool (l.all q)) ∧ Below w.heap.size w w' := by
  rw [← any_not l q]
  obtain ⟨kf, caps, rfl⟩ : ∃ (k : Nat) (caps : Array Value), f = .func (.func k) #[] caps := ⟨hf.choose, hf.choose_spec.choose, hf.choose_spec.choose_spec.1⟩
  have hB0 : Below w.heap.size w (w.alloc (.cells #[.func (.func kf) #[] caps] 100)) := (Below.refl _ _).alloc (Nat.le_refl _) _
  have hx := containsR v _ l _ _ (hv.below hB0) (hf.not hB0 (p := ⟨w.heap.size, 0, none⟩) (World.cell?_alloc_at _ _ _ _ rfl))
  generalize l.any (fun x => !q x) = y at hx ⊢
  go_enter Try.func68, Try.ntmps68
  go_wp2_with fail
  refine hx.mono ?_
  rintro e w' ⟨rfl, hB⟩
  go_wp2
  go_ret
  exact ⟨rfl, hB0.trans (hB.mono hB0.size)⟩
end Go.Proofs.Ytblmpmapcdpaiaa
