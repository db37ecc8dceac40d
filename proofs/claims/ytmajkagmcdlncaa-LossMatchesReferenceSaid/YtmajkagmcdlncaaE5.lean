/- package loss: lists as an iterator; slices.Clone. -/
import Derived.Test.YtmajkagmcdlncaaE4
namespace Go.Proofs.Ytmajkagmcdlncaa
open Go.RowKit Go.Shelf
open L18 (Pass Slot noPass noSlot validB ownI passesV ownV mostV goneV accW)

theorem run_store_func' {P : Program} (w : World) (a : Addr) (m : Mode) (f : Fn) (x y : Array Value) : (store a (.func f x y) m).run P w = stored P w a (.func f x y) m := run_store P w a _ m rfl
attribute [local go_sem] run_store_func'
theorem keeps_below {W W' : World} (h : Below W.heap.size W W') : KeepsOthers W W' := ⟨h.size, fun j _ hj _ => (h.block j (Array.getElem?_eq_some_iff.1 hj).1).trans hj⟩
theorem clone58 {B : Nat} {v : Value} {l : List Int} {w : World} (hv : IntsG B w v l) (h0 : 0 < l.length) (hs : l.length ≤ 1000) :
    Calls Try.prog 58 #[v] w fun e w' => ∃ v', e = .returned v' ∧ IntsG w.heap.size w' v' l ∧ Below w.heap.size w w' := by
  obtain ⟨a, cap, rfl, h1, h2, ⟨rfl, -⟩ | ⟨b, off, rfl, h4, -, h5⟩⟩ := hv
  · simp at h0
  · refine (Try.slices_Clone_int b off l.length cap l w (Nat.le_refl _) (by omega) (fun j hj => h5 j _ (getD_some 0 hj))).mono ?_
    rintro e w' ⟨v', rfl, hown, -, hb⟩
    refine ⟨v', rfl, ?_, hb⟩
    rw [List.take_length] at hown
    rcases hown.2 with ⟨rfl, hn⟩ | ⟨g, c, cur, rfl, hg, hgb, r1, r2, -⟩
    · omega
    · refine ⟨_, _, rfl, r1, r2, .inr ⟨g, 0, rfl, hg, h0, fun j y hj => ?_⟩⟩
      have := hown.cells rfl j (.int .i64 y) (by rw [List.getElem?_map, hj]; rfl)
      rwa [add_zero_off, ← Nat.zero_add j] at this
set_option maxRecDepth 100000 in
theorem lists57 (n : Nat) (caps : Array Value) (w : World) : Calls Try.prog 57 #[.int .i64 (n : Int), .func (.func 56) #[] caps] w fun e w' => e = .returned (.func (.func 72) #[] #[.pointer (some ⟨w.heap.size, 0, none⟩), .pointer (some ⟨w.heap.size + 1, 0, none⟩)]) ∧ (w.alloc (.cells #[.int .i64 (n : Int)] 3)).alloc (.cells #[.func (.func 56) #[] caps] 84) = w' := by
  go_enter Try.func57, Try.ntmps57
  go_wp2
  go_ret
  exact ⟨rfl, rfl⟩
/-- What the iterator reads. -/
structure WEnv (w0 : World) (BS : Nat) (A : World) (qP qG qK qO b1 b2 : Nat) (vp vo : Value) (n : Nat) (k : Int) : Prop where
  below : Below w0.heap.size w0 A
  cp : A.cell? ⟨qP, 0, none⟩ = some vp
  cg : A.cell? ⟨qG, 0, none⟩ = some (.func (.func 55) #[] #[.pointer (some ⟨qO, 0, none⟩)])
  ck : A.cell? ⟨qK, 0, none⟩ = some (.int .i64 k)
  co : A.cell? ⟨qO, 0, none⟩ = some vo
  c1 : A.cell? ⟨b1, 0, none⟩ = some (.int .i64 n)
  c2 : A.cell? ⟨b2, 0, none⟩ = some (.func (.func 56) #[] #[.pointer (some ⟨qP, 0, none⟩), .pointer (some ⟨qG, 0, none⟩), .pointer (some ⟨qK, 0, none⟩)])
  ne : qP ≠ BS ∧ qG ≠ BS ∧ qK ≠ BS ∧ qO ≠ BS ∧ b1 ≠ BS ∧ b2 ≠ BS
  lt : w0.heap.size ≤ BS
theorem WEnv.turn {w0 : World} {BS D : Nat} {A B : World} {qP qG qK qO b1 b2 : Nat} {vp vo : Value} {n : Nat} {k : Int} (h : WEnv w0 BS A qP qG qK qO b1 b2 vp vo n k) (hD : w0.heap.size ≤ D) (ht : Turn (fun j => j = BS) D A B) : WEnv w0 BS B qP qG qK qO b1 b2 vp vo n k where
  below := ht.below h.below (Nat.le_refl _) hD (fun j hj => by have := h.lt; omega)
  cp := ht.cell h.cp h.ne.1
  cg := ht.cell h.cg h.ne.2.1
  ck := ht.cell h.ck h.ne.2.2.1
  co := ht.cell h.co h.ne.2.2.2.1
  c1 := ht.cell h.c1 h.ne.2.2.2.2.1
  c2 := ht.cell h.c2 h.ne.2.2.2.2.2
  ne := h.ne
  lt := h.lt
theorem WEnv.later {w0 : World} {BS : Nat} {A B : World} {qP qG qK qO b1 b2 : Nat} {vp vo : Value} {n : Nat} {k : Int} (h : WEnv w0 BS A qP qG qK qO b1 b2 vp vo n k) (hb : Below A.heap.size A B) : WEnv w0 BS B qP qG qK qO b1 b2 vp vo n k := h.turn (Nat.le_refl _) (Turn.of_below hb)
theorem WEnv.env3 {w0 : World} {BS : Nat} {A : World} {qP qG qK qO b1 b2 : Nat} {vp vo : Value} {n : Nat} {k : Int} {l : List Pass} {os : List OptD} (h : WEnv w0 BS A qP qG qK qO b1 b2 vp vo n k) (hp : PassesAt w0 vp l) (ho : OptsAt w0 vo os) : Env3 A ⟨qP, 0, none⟩ ⟨qG, 0, none⟩ ⟨qK, 0, none⟩ ⟨qO, 0, none⟩ vp vo l os k :=
  ⟨h.cp, h.cg, h.ck, h.co, hp.later h.below, ho.later h.below⟩
set_option maxRecDepth 100000 in
set_option maxHeartbeats 2000000 in
theorem lists_seq (m : Nat) (w0 : World) (BS D Bd : Nat) (hBS : BS < Bd) (hD : w0.heap.size ≤ D) (qP qG qK qO b1 b2 : Nat) (vp vo : Value) (k : Int) (l : List Pass) (os : List OptD) (w : World)
    (hE : WEnv w0 BS w qP qG qK qO b1 b2 vp vo os.length k) (hA : AllOK l os) (hp : PassesAt w0 vp l) (ho : OptsAt w0 vo os) (hn : os.length ≤ 12) (hbd : Bd ≤ w.heap.size) :
    SeqT Fence.wide m Try.prog 72 #[.pointer (some ⟨b1, 0, none⟩), .pointer (some ⟨b2, 0, none⟩)] encL (Turn (fun j => j = BS) D) (fun _ => False) (fun xs => xs.map (·.2) = extL (accW l (slotsL os) k) os.length [] 0) (NL Bd os.length) w := by
  intro ly J W hW hJ hY h0
  have hEW := hE.later hW
  have k1 := hEW.c1
  have k2 := hEW.c2
  have hWs := hW.size
  have hro : (Fence.wide).round = none := rfl
  have HEW := Lib.hid hEW
  have HJ0 := Lib.hid h0
  have HY := Lib.hid hY
  have HJ := Lib.hid hJ
  have HA := Lib.hid hA
  have HP := Lib.hid hp
  have HO := Lib.hid ho
  clear hE hEW h0 hY hJ hA hp ho hW
  refine callsIn_of_wp Try.func72 rfl trivial ?_ hro
  simp only [Try.ntmps72, List.size_toArray, List.length_cons, List.length_nil, Nat.reduceAdd, Nat.reduceSub, Array.replicate_succ, Array.replicate_zero, List.push_toArray, List.append_toArray, List.nil_append, List.cons_append]
  gi_wp2_with fail
  obtain ⟨W1, hW1⟩ : ∃ W1, W1 = (W.alloc (.cells #[.func (.yield ly) #[] #[]] 84)).alloc (.cells #[.func (.func 73) #[] #[.pointer (some ⟨b1, 0, none⟩), .pointer (some ⟨b2, 0, none⟩), .pointer (some ⟨W.heap.size, 0, none⟩), .pointer (some ⟨W.heap.size + 1, 0, none⟩)]] 66) := ⟨_, rfl⟩
  have hB1 : Below W.heap.size W W1 := by rw [hW1]; exact ((Below.refl _ _).alloc (Nat.le_refl _) _).alloc (by simp) _
  have kb3 : Blk W1 W.heap.size #[.func (.yield ly) #[] #[]] 84 := by rw [hW1]; exact (Blk.new _ _ _).alloc _
  have kb4 : Blk W1 (W.heap.size + 1) #[.func (.func 73) #[] #[.pointer (some ⟨b1, 0, none⟩), .pointer (some ⟨b2, 0, none⟩), .pointer (some ⟨W.heap.size, 0, none⟩), .pointer (some ⟨W.heap.size + 1, 0, none⟩)]] 66 := by rw [hW1]; exact Blk.newAt _ _ _ (by simp)
  have hX := ext73 BS D Bd hBS os.length hn b1 b2 W.heap.size (W.heap.size + 1) #[.pointer (some ⟨qP, 0, none⟩), .pointer (some ⟨qG, 0, none⟩), .pointer (some ⟨qK, 0, none⟩)] ly (accW l (slotsL os) k)
    (fun A => WEnv w0 BS A qP qG qK qO b1 b2 vp vo os.length k ∧ A.cell? ⟨W.heap.size, 0, none⟩ = some (.func (.yield ly) #[] #[]) ∧ A.cell? ⟨W.heap.size + 1, 0, none⟩ = some (.func (.func 73) #[] #[.pointer (some ⟨b1, 0, none⟩), .pointer (some ⟨b2, 0, none⟩), .pointer (some ⟨W.heap.size, 0, none⟩), .pointer (some ⟨W.heap.size + 1, 0, none⟩)]) ∧ Bd ≤ A.heap.size)
    (fun A B h ht => ⟨h.1.turn hD ht, ht.cell h.2.1 (by omega), ht.cell h.2.2.1 (by omega), Nat.le_trans h.2.2.2 ht.size⟩)
    (fun A h => ⟨h.1.c1, h.1.c2, h.2.1, h.2.2.1⟩) (fun A h => h.2.2.2)
    (fun A v L h hv hL hl => acc56 v _ _ _ _ vp vo l os k L A (h.1.env3 HP.out HO.out) HA.out hv hL hl)
    J HJ.out (fun mm pre x V hj hx => yieldAt_any (HY.out pre x V hj hx)) os.length 0 [] (.slice none 0 0) [] W1 (by omega)
    ⟨HEW.out.later hB1, kb3.cell 0, kb4.cell 0, by have := hB1.size; omega⟩ (HJ.out _ _ _ HJ0.out (Chg.of_below hB1)) (IntsG.nil _ _) (fun i hi => by cases hi) (Nat.le_refl _)
  have c4 := kb4.cell 0
  simp at c4
  rw [← hW1]
  have HX := Lib.hid (show Calls Try.prog 73 #[.slice none 0 0, .int .i64 0, .pointer (some ⟨b1, 0, none⟩), .pointer (some ⟨b2, 0, none⟩), .pointer (some ⟨W.heap.size, 0, none⟩), .pointer (some ⟨W.heap.size + 1, 0, none⟩)] W1 _ from hX)
  clear hX hW1 kb3 kb4
  gi_wp2_with fail
  refine ⟨trivial, (fun h => by cases h), ?_⟩
  refine (callsIn_wide.2 HX.out).mono ?_
  rintro e W2 ⟨rfl, ys, h1, h2, h3⟩
  gi_wp2
  refine ⟨rfl, _, results_none rfl _ _ _, ?_⟩
  exact ⟨⟨_, rfl⟩, ys, h1, h2⟩
end Go.Proofs.Ytmajkagmcdlncaa
