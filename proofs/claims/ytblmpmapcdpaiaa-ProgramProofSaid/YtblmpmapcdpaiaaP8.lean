/- program.choices: the iterator's contract. -/
import Derived.Test.YtblmpmapcdpaiaaP7
namespace Go.Proofs.Ytblmpmapcdpaiaa
open Go.RowKit Go.Shelf Lib

set_option maxRecDepth 100000 in
theorem choices11 (v : Value) (r : RowD) (set : Nat) (p : Addr) (w : World) (hp : w.cell? p = some (.int .i64 set)) (hv : RowV w v r) (hl : r.coef.length ≤ 60) (hc : coefOK r.coef = true) (hs : set < 4611686018427387904) :
    Calls Try.prog 88 #[v, .pointer (some p)] w fun e w' => e = .returned (.bool (keptB r set)) ∧ Below w.heap.size w w' := by
  have hlt := World.block_lt_of_cell? _ _ hp
  obtain ⟨vc, rfl, hvc⟩ := hv
  have hB0 : Below w.heap.size w (w.alloc (.cells #[.int .i64 r.kind, .int .i64 r.a, .int .i64 r.b, .int .i64 r.at_, vc, .int .i64 r.most] 26)) := (Below.refl _ _).alloc (Nat.le_refl _) _
  have hx := kept_any _ r set _ ⟨vc, rfl, hvc.below hB0⟩ hl hc hs
  clear hvc
  go_enter Try.func88, Try.ntmps88
  go_wp2_with fail
  refine hx.mono ?_
  rintro e w' ⟨rfl, hB⟩
  go_wp2
  go_ret
  exact ⟨rfl, hB0.trans (hB.mono hB0.size)⟩
theorem choices11_ans (w : World) (l : List RowD) (set : Nat) (p : Addr) (hp : w.cell? p = some (.int .i64 set)) (h : ∀ r ∈ l, r.coef.length ≤ 60 ∧ coefOK r.coef = true) (hs : set < 4611686018427387904) :
    AnsR w (.func (.func 88) #[] #[.pointer (some p)]) l (fun r => keptB r set) :=
  ⟨88, _, rfl, Try.call88, fun _ r hr V hV v hv => choices11 v r set p V ((hV.cell (World.block_lt_of_cell? _ _ hp)).trans hp) hv (h r (List.mem_of_getElem? hr)).1 (h r (List.mem_of_getElem? hr)).2 hs⟩

/-- The choices below m that keep all rows. -/
def chL (rows : List RowD) (m : Nat) : List Nat := (List.range m).filter (keepsB rows)
theorem chL_succ (rows : List RowD) (m : Nat) : chL rows (m + 1) = chL rows m ++ if keepsB rows m then [m] else [] := by
  unfold chL
  rw [List.range_succ, List.filter_append]
  congr 1
  simp [List.filter_cons]
theorem chL_len (rows : List RowD) (m : Nat) : (chL rows m).length ≤ m := by
  unfold chL
  exact Nat.le_trans (List.length_filter_le _ _) (by simp)
/-- What a round over the choices leaves as it lay. -/
def KpC (B0 pB : Nat) (W W' : World) : Prop := Below B0 W W' ∧ W'.heap[pB]? = W.heap[pB]?
theorem KpC.trans {B0 pB : Nat} {A B C : World} (h : KpC B0 pB A B) (k : KpC B0 pB B C) : KpC B0 pB A C := ⟨h.1.trans k.1, k.2.trans h.2⟩
abbrev encN (x : Nat) : Array Value := #[.int .i64 x]

set_option maxRecDepth 100000 in
set_option maxHeartbeats 1000000 in
theorem choices_seq (n : Nat) (hn : 1 ≤ n) (pB : Nat) (p : ProgD) (w0 w : World) (vr vg : Value) (hval : validB p = true) (hrows : RowsAt w0 vr p.rows) (h0w : Below w0.heap.size w0 w)
    (hp : ∃ c fz, w.heap[pB]? = some (.cells #[.int .i64 p.vars, vr, vg] c fz)) :
    SeqM Fence.wide n Try.prog 87 #[.pointer (some ⟨pB, 0, none⟩)] encN (KpC w0.heap.size pB) (fun _ => False) (fun xs => xs = chL p.rows (2 ^ p.vars.toNat)) (fun _ => True) (fun pre x => pre.length < 4096 ∧ x < 4096) w := by
  intro l J Jx W hW hJ hJx hY h0
  obtain ⟨v1, v2, -⟩ := validB_true hval
  obtain ⟨m, hm⟩ := Int.eq_ofNat_of_zero_le v1
  have hm12 : m ≤ 12 := by omega
  have hpw := pow12 hm12
  have hpn : ((2 ^ m : Nat) : Int) = (2 : Int) ^ m := by simp
  have hrw : Hid (∀ r ∈ p.rows, r.coef.length ≤ 60 ∧ coefOK r.coef = true) := fun r hr => by
    obtain ⟨-, h2, h3, -⟩ := validB_row hval hr
    exact ⟨by omega, h3⟩
  rw [hm] at hp ⊢
  clear hval v1 v2
  obtain ⟨c, fz, hpc⟩ := hp
  have hpW : W.heap[pB]? = some (.cells #[.int .i64 (m : Int), vr, vg] c fz) := by rw [hW.block pB (Array.getElem?_eq_some_iff.1 hpc).1]; exact hpc
  have hW0 : Below w0.heap.size w0 W := h0w.trans (hW.mono h0w.size)
  have k0 : W.cell? ⟨pB, 0, none⟩ = some (.int .i64 (m : Int)) := by simp [World.cell?, hpW]
  have HR := Lib.hid hrows
  clear hrows
  rw [Int.toNat_natCast]
  have hro : (Fence.wide).round = none := rfl
  refine callsIn_of_wp Try.func87 rfl trivial ?_ hro
  simp only [Try.ntmps87, List.size_toArray, List.length_cons, List.length_nil, Nat.reduceAdd, Nat.reduceSub, Array.replicate_succ, Array.replicate_zero, List.push_toArray, List.append_toArray, List.nil_append, List.cons_append]
  gi_wp2
  gi_loopw [7] (fun u7 wr => ∃ k : Nat, k ≤ 2 ^ m ∧ u7 = .int .i64 k ∧ J (chL p.rows k) wr ∧ Below w0.heap.size w0 wr ∧ wr.heap[pB]? = some (.cells #[.int .i64 (m : Int), vr, vg] c fz)) (fun u7 wr => (2 ^ m - intOf u7).toNat)
  case atStart => exact ⟨0, by omega, rfl, by simpa [chL] using h0, hW0, hpW⟩
  case round =>
    obtain ⟨k, hk, rfl, hj, hBr, hpr⟩ := hrel
    have k1 : wr.cell? ⟨pB, 1, none⟩ = some vr := by simp [World.cell?, hpr]
    have hpl : pB < wr.heap.size := (Array.getElem?_eq_some_iff.1 hpr).1
    by_cases hkl : k < 2 ^ m
    · have hB1 : Below wr.heap.size wr (wr.alloc (.cells #[.int .i64 k] 3)) := (Below.refl _ _).alloc (Nat.le_refl _) _
      have hB2 := hBr.trans (hB1.mono hBr.size)
      have hx := allR vr _ p.rows _ _ (HR.out.below hB2) (choices11_ans _ p.rows k ⟨wr.heap.size, 0, none⟩ (World.cell?_alloc_at _ _ _ _ rfl) hrw.out (by omega))
      have hch := chL_succ p.rows k
      have hlen := chL_len p.rows k
      have hkb : keepsB p.rows k = p.rows.all fun r => keptB r k := rfl
      rw [← hkb] at hx
      clear hkb
      gi_wp2_with fail
      refine ⟨trivial, ?_⟩
      refine (callsIn_wide.2 hx).mono ?_
      cases hq : keepsB p.rows k with
      | false =>
        rw [hq] at hch
        have HC : Hid (chL p.rows (k + 1) = chL p.rows k) := by rw [hch]; exact List.append_nil _
        clear hch hq
        rintro e w2 ⟨rfl, hB3⟩
        have hB4 := hB1.trans (hB3.mono hB1.size)
        gi_wp2
        refine ⟨(fun _ h => by cases h), ?_⟩
        gi_wp2
        go_roundw
        case rel => exact ⟨k + 1, by omega, by go_num, by rw [HC.out]; exact hJ _ _ _ hj (Chg.of_below hB4), hBr.trans (hB4.mono hBr.size), by rw [hB4.block pB hpl]; exact hpr⟩
        case measure => simp [intOf]; omega
      | true =>
        rw [hq] at hch
        have HC : Hid (chL p.rows (k + 1) = chL p.rows k ++ [k]) := hch
        clear hch hq
        rintro e w2 ⟨rfl, hB3⟩
        have hB4 := hB1.trans (hB3.mono hB1.size)
        have hj2 := hJ _ _ _ hj (Chg.of_below hB4)
        have k2 : w2.cell? ⟨wr.heap.size, 0, none⟩ = some (.int .i64 k) := (hB3.cell (by simp)).trans (World.cell?_alloc_at _ _ _ _ rfl)
        obtain ⟨fn, tmps, assign, body, hy, hR⟩ := hY _ k w2 hj2 ⟨by omega, by omega⟩
        simp [encN] at hy
        have HRr := Lib.hid hR
        clear hR
        gi_wp2
        refine HRr.out.mono ?_
        rintro e W' (⟨rfl, hJ', hk1, hk2⟩ | ⟨rfl, hJx'⟩)
        · gi_wp2
          go_roundw
          case rel => exact ⟨k + 1, by omega, by go_num, by rw [HC.out]; exact hJ', (hBr.trans (hB4.mono hBr.size)).trans hk1, by rw [hk2, hB4.block pB hpl]; exact hpr⟩
          case measure => simp [intOf]; omega
        · gi_wp2
          refine bodyPost_ret (results_none rfl _ _ _) rfl ?_
          exact ⟨⟨_, rfl⟩, .inr ⟨_, trivial, hJx'⟩⟩
    · obtain rfl : k = 2 ^ m := by omega
      gi_wp2
      refine ⟨rfl, _, results_none rfl _ _ _, ?_⟩
      exact ⟨⟨_, rfl⟩, .inl ⟨_, rfl, hj⟩⟩
end Go.Proofs.Ytblmpmapcdpaiaa
