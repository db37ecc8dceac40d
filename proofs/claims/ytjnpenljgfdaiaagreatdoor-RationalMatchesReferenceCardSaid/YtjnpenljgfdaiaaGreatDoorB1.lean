/- slices.Backward over a number: the iterator's contract. -/
import Derived.Test.YtjnpenljgfdaiaaGreatDoorI1
import Derived.Test.YtjnpenljgfdaiaaGreatDoorRangeM
namespace Go.Proofs.YtjnpenljgfdaiaaGreatDoor
open Go.RowKit Go.Shelf Lib
attribute [local go_sem] Oper.semAt_some

/-- What a round over a number leaves as it lay. -/
def KpC (B0 pB : Nat) (W W' : World) : Prop := Below B0 W W' ∧ W'.heap[pB]? = W.heap[pB]?
theorem KpC.trans {B0 pB : Nat} {A B C : World} (h : KpC B0 pB A B) (k : KpC B0 pB B C) : KpC B0 pB A C := ⟨h.1.trans k.1, k.2.trans h.2⟩
theorem KpC.putObj {B0 pB : Nat} {W : World} {l : Nat} {o : Obj} (o' : Obj) (h1 : B0 ≤ l) (h2 : pB < l) (hl : W.heap[l]? = some o) : KpC B0 pB W (W.putObj l o') :=
  ⟨(Below.refl B0 W).grown (grownBy_putObj' W l o') (by have := (Array.getElem?_eq_some_iff.1 hl).1; omega) (fun k hk => by simp at hk; omega), World.putObj_heap_other (by omega)⟩
abbrev encB (x : Nat × Nat) : Array Value := #[.int .i64 (x.1 : Int), .int .i64 (x.2 : Int)]
/-- What the k-th round is told. -/
def nthB (l : List Nat) (k : Nat) : Nat × Nat := (l.length - 1 - k, l.getD (l.length - 1 - k) 0)

theorem backward_made (a : Option Addr) (m c : Nat) (w : World) : Calls Tryz.prog 114 #[.slice a m c] w fun e w' => e = .returned (.func (.func 138) #[] #[.pointer (some ⟨w.heap.size, 0, none⟩)]) ∧ w.alloc (.cells #[.slice a m c] 88) = w' := by
  have hmf : ∀ (fn : Fn) (first cap : Array Value) (w : World), (Instr.makeFunc fn first cap).run Tryz.prog w = .ok (.func fn first cap) w := fun _ _ _ _ => rfl
  go_enter Tryz.func114, Tryz.ntmps114
  go_wp2
  go_ret
  exact ⟨rfl, rfl⟩
set_option maxRecDepth 100000 in
set_option maxHeartbeats 1000000 in
theorem backward_seq (n : Nat) (hn : 1 ≤ n) (pB : Nat) (l : List Nat) (w0 w : World) (v : Value) (hl : IntsAt w0 v (castL l)) (h0w : Below w0.heap.size w0 w) (hs : l.length ≤ 1000000)
    (hp : ∃ c fz, w.heap[pB]? = some (.cells #[v] c fz)) :
    SeqM Fence.wide n Tryz.prog 138 #[.pointer (some ⟨pB, 0, none⟩)] encB (KpC w0.heap.size pB) (fun _ => False) (fun xs => xs.length = l.length) (fun _ => True) (fun pre x => pre.length < l.length ∧ x = nthB l pre.length) w := by
  intro lp J Jx W hW hJ hJx hY h0
  obtain ⟨a, cp, rfl, hl1, hl2⟩ := hl.len
  rw [castL_len] at hl1 hp
  rw [castL_len] at hl
  obtain ⟨c, fz, hpc⟩ := hp
  have hpW : W.heap[pB]? = some (.cells #[.slice a l.length cp] c fz) := by rw [hW.block pB (Array.getElem?_eq_some_iff.1 hpc).1]; exact hpc
  have hW0 : Below w0.heap.size w0 W := h0w.trans (hW.mono h0w.size)
  have k0 : W.cell? ⟨pB, 0, none⟩ = some (.slice a l.length cp) := by simp [World.cell?, hpW]
  have HL := Lib.hid hl
  have hw0 : IntKind.i64.wrap ((l.length : Int) - 1) = (l.length : Int) - 1 := by rw [IntKind.wrap_i64]; omega
  clear hl
  have hro : (Fence.wide).round = none := rfl
  refine callsIn_of_wp Tryz.func138 rfl trivial ?_ hro
  simp only [Tryz.ntmps138, List.size_toArray, List.length_cons, List.length_nil, Nat.reduceAdd, Nat.reduceSub, Array.replicate_succ, Array.replicate_zero, List.push_toArray, List.append_toArray, List.nil_append, List.cons_append]
  gi_wp2
  gi_loopw [3] (fun u3 wr => ∃ pre : List (Nat × Nat), pre.length ≤ l.length ∧ u3 = .int .i64 ((l.length : Int) - 1 - pre.length) ∧ J pre wr ∧ Below w0.heap.size w0 wr ∧ wr.heap[pB]? = some (.cells #[.slice a l.length cp] c fz)) (fun u3 wr => (Go.RowKit.intOf u3 + 1).toNat)
  case atStart => exact ⟨[], by simp, by simp, h0, hW0, hpW⟩
  case round =>
    obtain ⟨pre, hk, rfl, hj, hBr, hpr⟩ := hrel
    by_cases hkl : pre.length < l.length
    · have hki : l.length - 1 - pre.length < l.length := by omega
      obtain ⟨b, off, rfl, hcell⟩ := (HL.out.below hBr).get (castL_get hki)
      have hR1 := hY pre (nthB l pre.length) wr hj ⟨hkl, rfl⟩
      obtain ⟨fn, tmps, assign, body, hy, hR⟩ := hR1
      have hei : (l.length : Int) - 1 - (pre.length : Int) = ((l.length - 1 - pre.length : Nat) : Int) := by omega
      rw [hei]
      have hjn : Hid (l.length - 1 - pre.length = l.length - 1 - pre.length) := Lib.hid rfl
      have hw1 : IntKind.i64.wrap (((l.length - 1 - pre.length : Nat) : Int) - 1) = ((l.length - 1 - pre.length : Nat) : Int) - 1 := by rw [IntKind.wrap_i64]; omega
      have hpi : (0 : Int) ≤ ((l.length - 1 - pre.length : Nat) : Int) ∧ ((l.length - 1 - pre.length : Nat) : Int) < (l.length : Int) := by omega
      have hge : ¬ (((l.length - 1 - pre.length : Nat) : Int) < 0) := by omega
      have hidx : Hid (((l.length - 1 - pre.length : Nat) : Int) = (l.length : Int) - 1 - pre.length) := Lib.hid hei.symm
      simp only [encB, nthB] at hy
      generalize l.getD (l.length - 1 - pre.length) 0 = x at hcell hy
      generalize l.length - 1 - pre.length = i at hcell hy hw1 hpi hge hidx
      have HRr := Lib.hid hR
      have kr : wr.cell? ⟨pB, 0, none⟩ = some (.slice (some ⟨b, off, none⟩) l.length cp) := by simp [World.cell?, hpr]
      clear hR
      gi_wp2
      refine HRr.out.mono ?_
      rintro e W' (⟨rfl, hJ', hk1, hk2⟩ | ⟨rfl, hJx'⟩)
      · gi_wp2
        go_roundw
        case rel =>
          refine ⟨pre ++ [nthB l pre.length], by simp; omega, ?_, hJ', hBr.trans hk1, by rw [hk2]; exact hpr⟩
          have := hidx.out
          simp
          omega
        case measure =>
          simp [Go.RowKit.intOf]
      · gi_wp2
        refine bodyPost_ret (results_none rfl _ _ _) rfl ?_
        exact ⟨⟨_, rfl⟩, .inr ⟨_, trivial, hJx'⟩⟩
    · have hkl' : pre.length = l.length := by omega
      have hei : (l.length : Int) - 1 - (pre.length : Int) = -1 := by omega
      rw [hei]
      gi_wp2
      refine ⟨rfl, _, results_none rfl _ _ _, ?_⟩
      exact ⟨⟨_, rfl⟩, .inl ⟨pre, hkl', hj⟩⟩
end Go.Proofs.YtjnpenljgfdaiaaGreatDoor
