/- package loss: lists, the iterator over lists of numbers. -/
import Derived.Test.YtmajkagmcdlncaaE3
import Derived.Test.YtmajkagmcdlncaaRangeT
namespace Go.Proofs.Ytmajkagmcdlncaa
open Go.RowKit Go.Shelf

/-- The lists that are yielded behind a list. -/
def extL (acc : List Nat → Bool) : Nat → List Nat → Nat → List (List Nat)
  | 0, _, _ => []
  | f + 1, L, i => (if acc (L ++ [i]) = true then (L ++ [i]) :: extL acc f (L ++ [i]) (i + 1) else []) ++ extL acc f L (i + 1)
theorem dfs_ext (acc : List Nat → Bool) : ∀ (f : Nat) (L : List Nat) (i : Nat) (best : List Nat), L18.dfs acc f L i best = (extL acc f L i).foldl L18.pickL best
  | 0, _, _, _ => rfl
  | f + 1, L, i, best => by
    rw [L18.dfs, extL, List.foldl_append]
    split
    · rw [List.foldl_cons, dfs_ext acc f (L ++ [i]) (i + 1), dfs_ext acc f L (i + 1)]
    · rw [dfs_ext acc f L (i + 1)]; rfl
/-- Integers in blocks from B on. -/
def IntsG (B : Nat) (W : World) (v : Value) (l : List Int) : Prop :=
  ∃ (a : Option Addr) (cap : Nat), v = .slice a l.length cap ∧ l.length ≤ cap ∧ cap ≤ maxLen ∧ ((l = [] ∧ a = none ∧ cap = 0) ∨ ∃ b off, a = some ⟨b, off, none⟩ ∧ B ≤ b ∧ 0 < l.length ∧ ∀ j y, l[j]? = some y → W.cell? ⟨b, off + j, none⟩ = some (.int .i64 y))
theorem IntsG.ints {B : Nat} {W : World} {v : Value} {l : List Int} (h : IntsG B W v l) : IntsAt W v l := by
  obtain ⟨a, cap, rfl, h1, h2, h3⟩ := h
  refine ⟨a, cap, rfl, h1, h2, fun h0 => ?_⟩
  rcases h3 with ⟨rfl, -⟩ | ⟨b, off, e, -, -, h4⟩
  · simp at h0
  · exact ⟨b, off, e, h4⟩
theorem IntsG.turn {B D : Nat} {zs : Nat → Prop} {A W : World} {v : Value} {l : List Int} (h : IntsG B A v l) (ht : Turn zs D A W) (hz : ∀ k, zs k → k < B) : IntsG B W v l := by
  obtain ⟨a, cap, rfl, h1, h2, h3⟩ := h
  refine ⟨a, cap, rfl, h1, h2, ?_⟩
  rcases h3 with h3 | ⟨b, off, e, hb, h0, h4⟩
  · exact .inl h3
  · exact .inr ⟨b, off, e, hb, h0, fun j y hj => ht.cell (h4 j y hj) (fun hk => by have := hz b hk; omega)⟩
theorem IntsG.nil (B : Nat) (W : World) : IntsG B W (.slice none 0 0) [] := ⟨none, 0, rfl, Nat.le_refl _, Nat.zero_le _, .inl ⟨rfl, rfl, rfl⟩⟩
set_option maxRecDepth 100000 in
theorem clip74 (B : Nat) (v : Value) (l : List Int) (w : World) (hv : IntsG B w v l) :
    Calls Try.prog 74 #[v] w fun e w' => ∃ a, e = .returned (.slice a l.length l.length) ∧ (∃ cap, v = .slice a l.length cap) ∧ w = w' := by
  obtain ⟨a, cap, rfl, h1, h2, h3⟩ := hv
  have j1 : (0 : Int) ≤ (l.length : Int) ∧ (l.length : Int) ≤ (cap : Int) := by omega
  unfold maxLen at h2
  rcases h3 with ⟨rfl, rfl, rfl⟩ | ⟨b, off, rfl, -, h0, -⟩
  · go_enter Try.func74, Try.ntmps74
    go_wp2
    go_ret
    exact ⟨_, rfl, ⟨_, rfl⟩, rfl⟩
  · go_enter Try.func74, Try.ntmps74
    go_wp2
    go_ret
    exact ⟨_, rfl, ⟨_, rfl⟩, rfl⟩
/-- append to a slice without room, in a walk inside a fence. -/
theorem wpListIn_app {F : Fence} {m : Nat} {ops : Array Oper} {rest : List Oper} {o : Oper} {a : Act} {Q : Exit → Act → World → Prop} {w : World} (hg : o.guard = none) (s x : Operand)
    (hop : o.op = Op.call { callee := Callee.builtin Builtin.append, args := #[s, x], argTypes := #[23, 23] }) {base : Option Addr} {n : Nat} {xs ys : List Int} {v : Value} (hn : n = xs.length) (hs : a.eval s = .slice base n n) (hx : a.eval x = v)
    (hv : IntsAt w (.slice base xs.length xs.length) xs) (hy : IntsAt w v ys) (hne : 0 < ys.length) (hsz : xs.length + ys.length ≤ 100000)
    (hK : ∀ v' w', IntsG w.heap.size w' v' (xs ++ ys) → Below w.heap.size w w' → wpListIn F m Try.prog ops Q rest (a.put o.dst v') w') :
    wpListIn F m Try.prog ops Q (o :: rest) a w := by
  subst hn
  obtain ⟨v', w', hrun, r1, r2, cap', r3⟩ := run_app_full w base o.type hv hy hne hsz
  refine wpListIn_plain hg fun K hK' => ?_
  unfold Oper.wpIn
  refine ⟨?_, ?_⟩
  · simp [Oper.about, hop, resolve, Target.leads, Sem.run_pure]
  · rw [Oper.semAt_plain F _ _ (by rw [hop]; intro c hc'; cases hc')]
    simp [execOp, hop, resolve, invoke, builtin, hs, hx, hrun, Result.andThen]
    refine hK' _ _ (hK v' w' ?_ r2)
    subst r3
    obtain ⟨a', c', e, h1, h2, h3⟩ := r1
    cases e
    obtain ⟨b', off', e2, h4⟩ := h3 (by rw [List.length_append]; omega)
    cases e2
    exact ⟨_, _, rfl, h1, h2, .inr ⟨_, _, rfl, Nat.le_refl _, by rw [List.length_append]; omega, h4⟩⟩
/-- A yielded list: where it lies, its room, its numbers. -/
abbrev LV := (Option Addr × Nat) × List Nat
abbrev encL (x : LV) : Array Value := #[.slice x.1.1 x.2.length x.1.2]
/-- What is told of a yielded list. -/
def NL (B n : Nat) (x : LV) (W : World) : Prop := IntsG B W (.slice x.1.1 x.2.length x.1.2) (nI x.2) ∧ (∀ i ∈ x.2, i < n) ∧ x.2.length ≤ 12
theorem nI_snoc (L : List Nat) (i : Nat) : nI (L ++ [i]) = nI L ++ [(i : Int)] := by unfold nI; simp
/-- The boxes of lists' closures. -/
structure ExtC (W : World) (b1 b2 b3 b4 : Nat) (n : Nat) (caps : Array Value) (l : Nat) : Prop where
  c1 : W.cell? ⟨b1, 0, none⟩ = some (.int .i64 n)
  c2 : W.cell? ⟨b2, 0, none⟩ = some (.func (.func 56) #[] caps)
  c3 : W.cell? ⟨b3, 0, none⟩ = some (.func (.yield l) #[] #[])
  c4 : W.cell? ⟨b4, 0, none⟩ = some (.func (.func 73) #[] #[.pointer (some ⟨b1, 0, none⟩), .pointer (some ⟨b2, 0, none⟩), .pointer (some ⟨b3, 0, none⟩), .pointer (some ⟨b4, 0, none⟩)])
theorem ints_full {W : World} {a : Option Addr} {n cap : Nat} {l : List Int} (h : IntsAt W (.slice a n cap) l) : IntsAt W (.slice a l.length l.length) l := by
  obtain ⟨a', c', e, h1, h2, h3⟩ := h
  cases e
  exact ⟨_, _, rfl, Nat.le_refl _, by omega, h3⟩
theorem IntsG.mono {B B' : Nat} {W : World} {v : Value} {l : List Int} (h : IntsG B W v l) (hb : B' ≤ B) : IntsG B' W v l := by
  obtain ⟨a, cap, e, h1, h2, h3⟩ := h
  refine ⟨a, cap, e, h1, h2, h3.imp_right ?_⟩
  rintro ⟨b, off, e2, h4, h5⟩
  exact ⟨b, off, e2, Nat.le_trans hb h4, h5⟩
theorem ext_step {acc : List Nat → Bool} {n i : Nat} {L : List Nat} (h : i < n) : extL acc (n - i) L i = (if acc (L ++ [i]) = true then (L ++ [i]) :: extL acc (n - (i + 1)) (L ++ [i]) (i + 1) else []) ++ extL acc (n - (i + 1)) L (i + 1) := by
  rw [show n - i = (n - (i + 1)) + 1 by omega, extL]
set_option maxRecDepth 100000 in
set_option maxHeartbeats 2000000 in
theorem ext73 (BS D Bd : Nat) (hBS : BS < Bd) (n : Nat) (hn : n ≤ 12) (b1 b2 b3 b4 : Nat) (caps : Array Value) (l : Nat) (acc : List Nat → Bool) (E : World → Prop)
    (hEt : ∀ A B, E A → Turn (fun k => k = BS) D A B → E B) (hEc : ∀ A, E A → ExtC A b1 b2 b3 b4 n caps l) (hEb : ∀ A, E A → Bd ≤ A.heap.size)
    (hacc : ∀ A v L, E A → IntsAt A v (nI L) → (∀ i ∈ L, i < n) → L.length ≤ 12 → Calls Try.prog 56 (#[v] ++ caps) A fun e w' => e = .returned (.bool (acc L)) ∧ Below A.heap.size A w')
    (J : List LV → World → Prop) (hJ : ∀ s A B, J s A → Chg (fun _ => False) A B → J s B)
    (hY : ∀ m pre x W1, J pre W1 → NL Bd n x W1 → YieldAt Fence.wide m Try.prog l (encL x) W1 fun e W' => e = .returned (.bool true) ∧ J (pre ++ [x]) W' ∧ Turn (fun k => k = BS) D W1 W') :
    ∀ (f : Nat) (from_ : Nat) (L : List Nat) (v : Value) (pre : List LV) (W : World), from_ + f = n → E W → J pre W → IntsG Bd W v (nI L) → (∀ i ∈ L, i < n) → L.length ≤ from_ →
      Calls Try.prog 73 #[v, .int .i64 (from_ : Int), .pointer (some ⟨b1, 0, none⟩), .pointer (some ⟨b2, 0, none⟩), .pointer (some ⟨b3, 0, none⟩), .pointer (some ⟨b4, 0, none⟩)] W fun e W' => e = .returned (.bool true) ∧ ∃ ys : List LV, ys.map (·.2) = extL acc f L from_ ∧ J (pre ++ ys) W' ∧ Turn (fun k => k = BS) D W W' := by
  intro f
  induction f using Nat.strongRecOn with
  | _ f ih =>
    intro from_ L v pre W hf hE hj hv hL hLl
    have HL := Lib.hid hL
    have HVG := Lib.hid hv
    have HE0 := Lib.hid hE
    have hlen : (nI L).length ≤ 12 := by rw [nI_len]; omega
    obtain ⟨a, cap, rfl, -, -, -⟩ := id hv
    clear hv hL hE
    refine (callsIn_wide (n := 5)).1 ?_
    have hro : (Fence.wide).round = none := rfl
    refine callsIn_of_wp Try.func73 rfl trivial ?_ hro
    simp only [Try.ntmps73, List.size_toArray, List.length_cons, List.length_nil, Nat.reduceAdd, Nat.reduceSub, Array.replicate_succ, Array.replicate_zero, List.push_toArray, List.append_toArray, List.nil_append, List.cons_append]
    gi_wp2
    gi_loopw [9, 10] (fun u9 _ wr => ∃ i : Nat, from_ ≤ i ∧ i ≤ n ∧ u9 = .int .i64 i ∧ E wr ∧ (∃ ys : List LV, ys.map (·.2) ++ extL acc (n - i) L i = extL acc f L from_ ∧ J (pre ++ ys) wr) ∧ Turn (fun k => k = BS) D W wr) (fun u9 _ wr => (n - intOf u9).toNat)
    case atStart => exact ⟨from_, Nat.le_refl _, by omega, rfl, HE0.out, ⟨[], by rw [show n - from_ = f by omega]; rfl, by rw [List.append_nil]; exact hj⟩, (Chg.refl _ _).turn _⟩
    case round =>
      obtain ⟨i, hi1, hi2, rfl, hEr, ⟨ys, hys, hjr⟩, htr⟩ := hrel
      have HEr := Lib.hid hEr
      have HYS := Lib.hid hys
      have HTR := Lib.hid htr
      have HJR := Lib.hid hjr
      have hcs := hEc _ hEr
      have k1 := hcs.c1
      have k2 := hcs.c2
      have k3 := hcs.c3
      have k4 := hcs.c4
      clear hEr hys htr hjr hcs hj
      by_cases hin : i < n
      · have hvr := HVG.out.turn HTR.out (fun k hk => by cases hk; exact hBS)
        have hcl := clip74 Bd _ _ wr hvr
        have HVR := Lib.hid hvr
        clear hvr
        gi_wp2_with fail
        refine ⟨trivial, ?_⟩
        refine (callsIn_wide.2 hcl).mono ?_
        rintro e w' ⟨a2, rfl, ⟨cap2, e2⟩, rfl⟩
        cases e2
        have hB1 : Below wr.heap.size wr (wr.alloc (.cells #[.int .i64 (i : Int)] 3)) := (Below.refl _ _).alloc (Nat.le_refl _) _
        have HI1 := Lib.hid ((ints_full HVR.out.ints).below hB1)
        have HI2 := Lib.hid (ints_one (Blk.new wr #[.int .i64 (i : Int)] 3))
        have HNL := Lib.hid (nI_len L)
        gi_wp2_with (gi_at_builtin; refine wpListIn_app (xs := nI L) (ys := [(i : Int)]) rfl _ _ rfl rfl rfl rfl HI1.out HI2.out (by simp) (by simp; omega) ?_; intro v2 w2 hg2 hb2; have hcs2 := hEc w2 (hEt _ _ HEr.out (Turn.of_below (hB1.trans (hb2.mono hB1.size)))); have k1 := hcs2.c1; have k2 := hcs2.c2; have k3 := hcs2.c3; have k4 := hcs2.c4; clear hcs2)
        have hB2 : Below wr.heap.size wr w2 := hB1.trans (hb2.mono hB1.size)
        rw [← nI_snoc] at hg2
        obtain ⟨M, hM⟩ : ∃ M, L ++ [i] = M := ⟨_, rfl⟩
        rw [hM] at hg2
        obtain ⟨va, vc, ev, -⟩ := id hg2
        rw [nI_len] at ev
        subst ev
        have HG2 := Lib.hid (hg2.mono (show Bd ≤ _ from by have := hEb _ HEr.out; simp; omega))
        have HE2 := Lib.hid (hEt _ _ HEr.out (Turn.of_below hB2))
        have HLI := Lib.hid (show ∀ j ∈ M, j < n from fun j hj => by
          rw [← hM] at hj
          rcases List.mem_append.1 hj with h | h
          · exact HL.out j h
          · rw [List.mem_singleton.1 h]; exact hin)
        have HLL := Lib.hid (show M.length ≤ i + 1 from by rw [← hM, List.length_append]; simp; omega)
        have hA := hacc w2 _ (M) HE2.out HG2.out.ints HLI.out (by have := HLL.out; omega)
        have hst0 := ext_step (acc := acc) (L := L) hin
        rw [hM] at hst0
        have HSTP := Lib.hid hst0
        have HMM := Lib.hid hM
        clear hg2 hb2 hst0 hM
        refine ⟨trivial, ?_⟩
        refine (callsIn_wide.2 hA).mono ?_
        cases hq : acc (M) with
        | false =>
          rw [hq] at HSTP
          have HS2 := Lib.hid (HSTP.out.trans (by rw [if_neg (by decide)]))
          clear hq HSTP
          rintro e w3 ⟨rfl, hB3⟩
          have hB23 := hB2.trans (hB3.mono hB2.size)
          gi_wp2
          refine ⟨⟨i + 1, by omega, by omega, by go_num, hEt _ _ HEr.out (Turn.of_below hB23), ⟨ys, by rw [← HYS.out, HS2.out]; rfl, hJ _ _ _ HJR.out (Chg.of_below hB23)⟩, HTR.out.trans (Turn.of_below hB23)⟩, by simp [intOf]; omega⟩
        | true =>
          rw [hq] at HSTP
          have HS2 := Lib.hid (HSTP.out.trans (by rw [if_pos rfl]))
          clear hq HSTP
          rintro e w3 ⟨rfl, hB3⟩
          have hB23 := hB2.trans (hB3.mono hB2.size)
          have HE3 := Lib.hid (hEt _ _ HEr.out (Turn.of_below (zs := fun k => k = BS) (D := D) hB23))
          have HG3 := Lib.hid (HG2.out.turn (Turn.of_below (zs := fun k => k = BS) (D := D) hB3) (fun k hk => by cases hk; exact hBS))
          have hcs := hEc _ HE3.out
          have k1 := hcs.c1
          have k2 := hcs.c2
          have k3 := hcs.c3
          have k4 := hcs.c4
          obtain ⟨fn, tmps, assign, body, hy, hR⟩ := hY (5 - 1) (pre ++ ys) ((va, vc), M) w3 (hJ _ _ _ HJR.out (Chg.of_below hB23)) ⟨HG3.out, HLI.out, show (M).length ≤ 12 from by have := HLL.out; omega⟩
          simp [encL] at hy
          have HRr := Lib.hid hR
          clear hR hcs
          gi_wp2
          refine HRr.out.mono ?_
          rintro e W4 ⟨rfl, hj4, ht4⟩
          have HJ4 := Lib.hid hj4
          have HT4 := Lib.hid ht4
          have HE4 := Lib.hid (hEt _ _ HE3.out ht4)
          have hcs := hEc _ HE4.out
          have k1 := hcs.c1
          have k2 := hcs.c2
          have k3 := hcs.c3
          have k4 := hcs.c4
          have hIH := ih (n - (i + 1)) (by omega) (i + 1) (M) _ ((pre ++ ys) ++ [((va, vc), M)]) W4 (by omega) HE4.out HJ4.out (HG3.out.turn HT4.out (fun k hk => by cases hk; exact hBS)) HLI.out HLL.out
          rw [show ((i + 1 : Nat) : Int) = (i : Int) + 1 by omega] at hIH
          clear hj4 ht4 hcs hy
          gi_wp2_with fail
          refine ⟨trivial, ?_⟩
          refine (callsIn_wide.2 hIH).mono ?_
          rintro e W5 ⟨rfl, ys2, h1, h2, h3⟩
          have HY2 := Lib.hid h1
          have HJ5 := Lib.hid h2
          have HT5 := Lib.hid h3
          clear h1 h2 h3
          gi_wp2
          refine ⟨⟨i + 1, by omega, by omega, by go_num, hEt _ _ HE4.out HT5.out, ⟨ys ++ ((va, vc), M) :: ys2, ?_, by have := HJ5.out; simpa using this⟩, (HTR.out.trans (Turn.of_below hB23)).trans (HT4.out.trans HT5.out)⟩, by simp [intOf]; omega⟩
          rw [← HYS.out, HS2.out, List.map_append, List.map_cons, HY2.out]
          simp
      · obtain rfl : i = n := by omega
        gi_wp2
        go_ret
        exact ⟨rfl, ys, by have := HYS.out; rw [Nat.sub_self] at this; simpa [extL] using this, HJR.out, HTR.out⟩
end Go.Proofs.Ytmajkagmcdlncaa
