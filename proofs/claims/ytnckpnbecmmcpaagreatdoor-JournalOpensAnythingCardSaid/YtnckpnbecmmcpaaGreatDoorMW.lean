/- Texts WPlain, WT2, WRangeM, WT3, WT4, WT5, WDec, WT6, WT7, WT10, WPlain2 in one. -/
import Derived.Below
import Derived.Test.YtnckpnbecmmcpaaGreatDoorProg
import Derived.Test.YtnckpnbecmmcpaaGreatDoorKit
import Derived.Outline
import Derived.RangeFuncNested
import Derived.RangeFuncBound
import Derived.RangeFuncCalls
import Derived.RangeFuncLeaves
import Derived.RangeFuncBox
import Derived.Shelf.Abstract
import Derived.Shelf.RegionOpen
import Derived.WalkKit
import Derived.OwnWalkIn
import Derived.TacticsInMore
import Derived.LoopNIn
import Derived.LoopIn
import Derived.Test.YtnckpnbecmmcpaaGreatDoorBits
import Derived.Lib.Strings
import Derived.Lib.LaidTab
import Derived.OpenShut
section
/- Plain mathematics of the wire encoding: no program in sight. -/
namespace Go.Proofs.YtnckpnbecmmcpaaGreatDoor.W01

def encF : Nat → Nat → List Int
  | 0, z => [(z : Int)]
  | f + 1, z => if z < 128 then [(z : Int)] else ((z % 128 + 128 : Nat) : Int) :: encF f (z / 128)
def enc (z : Nat) : List Int := encF z z

theorem encF_fuel : ∀ (f g z : Nat), z ≤ f → z ≤ g → encF f z = encF g z := by
  intro f
  induction f with
  | zero =>
    intro g z hz _
    obtain rfl : z = 0 := by omega
    cases g <;> simp [encF]
  | succ f ih =>
    intro g z hf hg
    cases g with
    | zero => obtain rfl : z = 0 := by omega
              simp [encF]
    | succ g =>
      unfold encF
      split
      · rfl
      · rw [ih g (z / 128) (by omega) (by omega)]

theorem enc_lt {z : Nat} (h : z < 128) : enc z = [(z : Int)] := by
  unfold enc; cases z <;> simp [encF]; omega
theorem enc_ge {z : Nat} (h : 128 ≤ z) : enc z = ((z % 128 + 128 : Nat) : Int) :: enc (z / 128) := by
  unfold enc
  cases z with
  | zero => omega
  | succ z =>
    conv => lhs; unfold encF
    rw [if_neg (by omega), encF_fuel z ((z + 1) / 128) _ (by omega) (by omega)]

theorem enc_len : ∀ (k z : Nat), z < 128 ^ (k + 1) → (enc z).length ≤ k + 1 := by
  intro k
  induction k with
  | zero => intro z h; rw [enc_lt (by simpa using h)]; simp
  | succ k ih =>
    intro z h
    by_cases hz : z < 128
    · rw [enc_lt hz]; simp
    · rw [enc_ge (by omega)]
      have := ih (z / 128) (by rw [Nat.div_lt_iff_lt_mul (by omega)]; rw [Nat.pow_succ] at h; exact h)
      simp; omega

def zig (n : Int) : Nat := if n < 0 then (-n).toNat * 2 - 1 else n.toNat * 2
theorem zig_lt {n : Int} (h0 : -4611686018427387903 ≤ n) (h1 : n ≤ 4611686018427387903) : zig n < 9223372036854775808 := by
  unfold zig; split <;> omega
theorem enc_zig_len {n : Int} (h0 : -4611686018427387903 ≤ n) (h1 : n ≤ 4611686018427387903) : (enc (zig n)).length ≤ 9 :=
  enc_len 8 _ (by have := zig_lt h0 h1; have e : 128 ^ (8 + 1) = 9223372036854775808 := by decide
                  rw [e]; exact this)
end Go.Proofs.YtnckpnbecmmcpaaGreatDoor.W01
end
section
namespace Go.Proofs.YtnckpnbecmmcpaaGreatDoor.W01
open Go.RowKit

theorem zig_any (n : Int) (w : World) (h0 : -4611686018427387903 ≤ n) (h1 : n ≤ 4611686018427387903) :
    Calls Tryz.prog 86 #[.int .i64 n] w fun e w' => e = .returned (.int .u64 (zig n)) ∧ w = w' := by
  by_cases hn : n < 0
  · go_enter Tryz.func86, Tryz.ntmps86
    go_wp2
    go_ret
    exact ⟨retEq (intEq (by unfold zig; rw [if_pos hn]; omega)), rfl⟩
  · go_enter Tryz.func86, Tryz.ntmps86
    go_wp2
    go_ret
    exact ⟨retEq (intEq (by unfold zig; rw [if_neg (by omega)]; omega)), rfl⟩

theorem E38 : ElemOK Tryz.prog 39 5 (.int .u8 0) 1 1 := ⟨Tryz.underlying39, by kernel_rfl, rfl, by decide⟩

set_option maxRecDepth 20000 in
set_option maxHeartbeats 400000 in
theorem rput_no (n : Int) (w : World) (h : n < -4611686018427387903 ∨ 4611686018427387903 < n) :
    Calls Tryz.prog 56 #[.int .i64 n] w fun e w' => e = .returned (.tuple #[.string ⟨#[]⟩, .int .i64 10]) ∧ w = w' := by
  rcases h with h | h
  · go_enter Tryz.func56, Tryz.ntmps56
    go_wp2
    go_ret2
    exact ⟨rfl, rfl⟩
  · have h' : ¬ n < -4611686018427387903 := by omega
    go_enter Tryz.func56, Tryz.ntmps56
    go_wp2
    go_ret2
    exact ⟨rfl, rfl⟩

set_option maxRecDepth 20000 in
set_option maxHeartbeats 400000 in
theorem rput_yes (n : Int) (w : World) (h0 : -4611686018427387903 ≤ n) (h1 : n ≤ 4611686018427387903) :
    Calls Tryz.prog 56 #[.int .i64 n] w fun e w' => e = .returned (.tuple #[.string (strOfNums (enc (zig n))), .int .i64 0]) ∧ Below w.heap.size w w' := by
  have hz := zig_lt h0 h1
  have hlen := enc_zig_len h0 h1
  have hzig := fun W => zig_any n W h0 h1
  generalize zig n = z at hz hlen hzig ⊢
  go_enter Tryz.func56, Tryz.ntmps56
  go_wp2_with fail
  refine (hzig _).mono ?_
  clear hzig
  rintro e w' ⟨rfl, rfl⟩
  go_wp2
  go_loopw [4, 5] (fun u4 u5 wr => ∃ (z' : Nat) (pre : List Int), u4 = .int .u64 z' ∧ enc z = pre ++ enc z' ∧ z' ≤ z ∧ wr.ownsRow w.heap.size 5 1 u5 pre.length (pre.map (Value.int .u8)) ∧ Below w.heap.size w wr) (fun u4 _ _ => (intOf u4).toNat)
  case atStart => exact ⟨z, [], rfl, rfl, Nat.le_refl _, World.ownsRow_nil _ _ _ _, Below.refl _ _⟩
  case round =>
    obtain ⟨z', pre, rfl, hE, hzz, hown, hB⟩ := hrel
    have HE := Lib.hid hE
    have hpl : pre.length ≤ 9 := by have := congrArg List.length hE; simp at this; omega
    clear hE
    by_cases hlt : 128 ≤ z'
    · have hone : pre.length + 1 ≤ 9 := by
        have := congrArg List.length HE.out
        rw [enc_ge hlt] at this; simp at this; omega
      go_wp2_with (at_builtin; refine wpList_push E38 rfl _ _ rfl w.heap.size hown rfl rfl rfl (by unfold maxLen; omega) (by omega) hB.size ?_; intro v' w1 hown' hgrow hb1)
      go_roundw
      case rel => exact ⟨z' / 128, pre ++ [(z' : Int) % 128 + 128], by go_num, by rw [HE.out, enc_ge hlt]; simp, by omega, by simpa using hown', hB.trans hb1⟩
      case measure => simp [intOf]; omega
    · have hE := HE.out
      have hEl := enc_lt (z := z') (by omega)
      rw [hEl] at hE
      have HE2 := Lib.hid hE
      clear HE hE hEl
      go_wp2_with (at_builtin; refine wpList_push E38 rfl _ _ rfl w.heap.size hown rfl rfl rfl (by unfold maxLen; omega) (by omega) hB.size ?_; intro v' w1 hown' hgrow hb1; have hcv := run_convert_owned (xs := pre ++ [(z' : Int)]) 39 9 Tryz.underlying39 Tryz.underlying5 Tryz.underlying9 (by simpa using hown'))
      go_ret2
      exact ⟨by rw [HE2.out]; rfl, hB.trans hb1⟩
end Go.Proofs.YtnckpnbecmmcpaaGreatDoor.W01
end
section
/- A range over a function whose iterator keeps state of its own in cells (the blocks 'zs'): the caller's law, turned from the library's 'wpIn_rangeFunc_ownF'. Over any program. -/
namespace Go.Proofs.YtnckpnbecmmcpaaGreatDoor.W01
open Go.RowKit
variable {F : Fence} {n : Nat} {P : Program}

/-- What lay in A lies in B as it lay, but for the blocks 'zs'; and the caller's blocks from D on that are no cells may have turned. -/
structure Turn (zs : Nat → Prop) (D : Nat) (A B : World) : Prop where
  os : B.os = A.os
  tape : B.tape = A.tape
  output : B.output = A.output
  size : A.heap.size ≤ B.heap.size
  block : ∀ k, k < A.heap.size → ¬ zs k → (k < D ∨ ∃ o : Obj, A.heap[k]? = some o ∧ o.isCells = true) → B.heap[k]? = A.heap[k]?
structure Chg (zs : Nat → Prop) (A B : World) : Prop where
  os : B.os = A.os
  tape : B.tape = A.tape
  output : B.output = A.output
  size : A.heap.size ≤ B.heap.size
  block : ∀ k, k < A.heap.size → ¬ zs k → B.heap[k]? = A.heap[k]?
theorem Chg.turn {zs : Nat → Prop} {A B : World} (h : Chg zs A B) (D : Nat) : Turn zs D A B := ⟨h.os, h.tape, h.output, h.size, fun k hk hz _ => h.block k hk hz⟩
theorem Chg.heap {zs : Nat → Prop} {A B : World} (h : Chg zs A B) {k : Nat} {o : Obj} (hk : A.heap[k]? = some o) (hz : ¬ zs k) : B.heap[k]? = some o :=
  (h.block k (Array.getElem?_eq_some_iff.1 hk).1 hz).trans hk
theorem Chg.refl (zs : Nat → Prop) (A : World) : Chg zs A A := ⟨rfl, rfl, rfl, Nat.le_refl _, fun _ _ _ => rfl⟩
theorem Chg.trans {zs : Nat → Prop} {A B C : World} (h : Chg zs A B) (k : Chg zs B C) : Chg zs A C :=
  ⟨k.os.trans h.os, k.tape.trans h.tape, k.output.trans h.output, Nat.le_trans h.size k.size, fun i hi hz => (k.block i (Nat.lt_of_lt_of_le hi h.size) hz).trans (h.block i hi hz)⟩
theorem Chg.of_below {zs : Nat → Prop} {A B : World} (h : Below A.heap.size A B) : Chg zs A B := ⟨h.os, h.tape, h.output, h.size, fun k hk _ => h.block k hk⟩
theorem Chg.setCell {zs : Nat → Prop} {A : World} {b : Nat} (hb : zs b) (o : Nat) (u : Value) : Chg zs A (A.setCell ⟨b, o, none⟩ u) :=
  have h := (Below.refl 0 A).setCell (p := ⟨b, o, none⟩) (Nat.zero_le _) u
  ⟨h.os, h.tape, h.output, h.size, fun k _ hz => Below.heap_setCell A _ u k (fun e => hz (by rw [e]; exact hb))⟩
theorem Chg.drew {zs : Nat → Prop} {A : World} : Chg zs A A.drew := ⟨rfl, rfl, rfl, Nat.le_refl _, fun _ _ _ => rfl⟩

def OwnM {β : Type} (zs : Nat → Prop) (D : Nat) (I : β → World → Prop) : Prop := ∀ s A B, I s A → Turn zs D A B → I s B
theorem OwnM.putObj {β : Type} {zs : Nat → Prop} {D : Nat} {I : β → World → Prop} (h : OwnM zs D I) {s : β} {W : World} {l : Nat} {o : Obj} (o' : Obj) (hs : I s W) (hB : D ≤ l) (hl : W.heap[l]? = some o) (ho : o.isCells = false) : I s (W.putObj l o') := by
  have hg := grownBy_putObj' W l o'
  refine h s W _ hs ⟨hg.os, hg.tape, hg.output, hg.size, fun k hk _ hc => hg.block k hk (fun e => ?_)⟩
  obtain rfl : k = l := by simpa using e
  rcases hc with hc | ⟨o2, h2, hc⟩
  · omega
  · rw [hl] at h2; cases h2; rw [ho] at hc; cases hc
theorem OwnM.alloc {β : Type} {zs : Nat → Prop} {D : Nat} {I : β → World → Prop} (h : OwnM zs D I) {s : β} {W : World} (o : Obj) (hs : I s W) : I s (W.alloc o) := by
  have hg := World.grownBy_alloc W o none
  exact h s W _ hs ⟨hg.os, hg.tape, hg.output, hg.size, fun k hk _ _ => hg.block k hk (by simp)⟩

/-- The contract of an iterator that keeps state in the blocks 'zs'. -/
def SeqM {α : Type} (F : Fence) (n : Nat) (P : Program) (g : Nat) (lb : Array Value) (encs : α → Array Value) (Kp : World → World → Prop) (zs : Nat → Prop) (S Sp : List α → Prop) (N : Nat) (w : World) : Prop :=
  ∀ (l : Nat) (J Jx : List α → World → Prop) (W : World), Below w.heap.size w W → (∀ s A B, J s A → Chg zs A B → J s B) → (∀ s A B, Jx s A → Chg zs A B → Jx s B) →
    (∀ pre x W1, J pre W1 → pre.length < N → YieldAt F (n - 1) P l (encs x) W1 fun e W' =>
      (e = .returned (.bool true) ∧ J (pre ++ [x]) W' ∧ Kp W1 W') ∨ (e = .returned (.bool false) ∧ Jx (pre ++ [x]) W')) →
    J [] W →
    CallsIn F n P g (#[.func (.yield l) #[] #[]] ++ lb) W fun e W' => (∃ v, e = .returned v) ∧ ((∃ xs, S xs ∧ J xs W') ∨ (∃ pre, Sp pre ∧ Jx pre W'))

theorem wpIn_rangeFunc_M {α : Type} {g : Operand} {ps : Array Tmp} {assign body : Code} {Q : Exit → Act → World → Prop} {a : Act} {w : World}
    (hro : F.round = none) (h1 : 1 ≤ n) {gf : Nat} {lb : Array Value} (hg : a.eval g = .func (.func gf) #[] lb) (hFg : F.fn gf) (eg : ∀ args w, (callFunc gf args).run P w = .ok (.enter gf args) w)
    {encs : α → Array Value} {Kp : World → World → Prop} {zs : Nat → Prop} (hzs : ∀ k, zs k → k < w.heap.size) {S Sp : List α → Prop} {N : Nat} {w0 : World} (hseq : SeqM F (n - 1) P gf lb encs Kp zs S Sp N w0)
    (hKt : ∀ {A B C : World}, Kp A B → Kp B C → Kp A C) (hKb : ∀ (W : World) (l : Nat) (o o' : Obj), w.heap.size ≤ l → W.heap[l]? = some o → o.isCells = false → o.isWalk = false → Kp W (W.putObj l o')) (hb0 : Below w0.heap.size w0 w) (hps : ∀ x, (encs x).size = ps.size)
    (I : List α → World → Prop) (Ix : Code → List α → World → Prop) (hI : OwnM zs w.heap.size I) (hIx : ∀ c, OwnM zs w.heap.size (Ix c)) (h0 : I [] w) (a₁ : α → Act)
    (hassign : ∀ (l : Nat) (x : α) (W : World) (K : Act → World → Prop), K (a₁ x) W →
      assign.wpIn (F.inRound l) (n - 1 - 1) P (Exit.then K (fun _ _ _ => False)) { tmps := (ps.zip (encs x)).foldl (fun t (p, v) => t.setIfInBounds p v) a.tmps, defers := [] } W)
    (hbody : ∀ (l : Nat) (pre : List α) (x : α) (W : World), I pre W → pre.length < N → body.wpIn (F.inRound l) (n - 1 - 1) P (ownPostK Kp I Ix (pre ++ [x]) W) (a₁ x) W)
    (hdone : ∀ (D : Nat) (xs : List α) (W : World), w.heap.size ≤ D → S xs → I xs W → W.heap[D]? = some (.deferred (some [])) → Q .normal { a with defers := { target := .collected D, args := #[] } :: a.defers } W)
    (hstop : ∀ (D : Nat) (c : Code) (pre : List α) (W : World), w.heap.size ≤ D → Sp pre → Ix c pre W → W.heap[D]? = some (.deferred (some [])) → c.wpIn F n P Q { a with defers := { target := .collected D, args := #[] } :: a.defers } W) :
    (Code.rangeFunc g ps assign body).wpIn F n P Q a w := by
  refine wpIn_rangeFunc ?_
  intro fn hfn
  rw [hro]
  obtain ⟨rec, hrec⟩ : ∃ rec : LoopState → Option Code → Loop, rec = fun st pe => { state := st, pending := pe, fn, tmps := a.tmps, params := ps, assign, body, defers := w.heap.size } := ⟨_, rfl⟩
  obtain ⟨W1, hW1⟩ : ∃ W1, (w.alloc (.deferred (some []))).alloc (.loop (rec .ready none)) = W1 := ⟨_, rfl⟩
  have hL1 : W1.heap[w.heap.size + 1]? = some (.loop (rec .ready none)) := by
    rw [← hW1]; have := World.alloc_heap_new (w.alloc (.deferred (some []))) (.loop (rec .ready none)); rwa [World.size_alloc] at this
  have hK1 : W1.heap[w.heap.size]? = some (.deferred (some [])) := by
    rw [← hW1]; exact (Below.heap_alloc _ _ _ (by simp)).trans (World.alloc_heap_new w _)
  have hI1 : I [] W1 := by rw [← hW1]; exact hI.alloc _ (hI.alloc _ h0)
  have hb1 : Below w0.heap.size w0 W1 := by
    rw [← hW1]; exact hb0.trans ((((Below.refl _ w).alloc (Nat.le_refl _) _).alloc (by simp) _).mono hb0.size)
  refine ⟨w.heap.size + 1, [{ target := .collected w.heap.size, args := #[] }], W1, { target := .fn (.func gf) lb, args := #[.func (.yield (w.heap.size + 1)) #[] #[]] }, W1, gf,
    #[.func (.yield (w.heap.size + 1)) #[] #[]] ++ lb, W1, ?_, ?_, ?_, ?_, fun _ => h1, ?_⟩
  · rw [← hW1, hrec]; exact run_enterLoop_outer _ _ _ _ _
  · simp only [resolve, hg]
    simp [go_sem]
  · intro f' hf'; simp [Target.leads] at hf'; subst hf'; exact hFg
  · simp [invoke, go_sem, eg]
  · -- THE ITERATOR's CONTRACT, AT THE CALLER's INVARIANT WITH THE TWO FACTS OF BOOK-KEEPING BESIDE IT
    have hz1 : ¬ zs (w.heap.size + 1) := fun h => by have := hzs _ h; omega
    have hz0 : ¬ zs w.heap.size := fun h => by have := hzs _ h; omega
    refine (hseq (w.heap.size + 1)
      (fun pre W => I pre W ∧ W.heap[w.heap.size + 1]? = some (.loop (rec .ready none)) ∧ W.heap[w.heap.size]? = some (.deferred (some [])))
      (fun pre W => ∃ c, Ix c pre W ∧ W.heap[w.heap.size + 1]? = some (.loop (rec .done (some c))) ∧ W.heap[w.heap.size]? = some (.deferred (some [])))
      W1 hb1
      (fun s A B hs hc => ⟨hI s A B hs.1 (hc.turn _), hc.heap hs.2.1 hz1, hc.heap hs.2.2 hz0⟩)
      (fun s A B hs hc => by
        obtain ⟨c, hcc, hl, hk⟩ := hs
        exact ⟨c, hIx c s A B hcc (hc.turn _), hc.heap hl hz1, hc.heap hk hz0⟩)
      ?_ ⟨hI1, hL1, hK1⟩).mono ?_
    · -- ONE ROUND
      rintro pre x W ⟨hi, hl, hk⟩ hlen
      have hlt : w.heap.size + 1 < W.heap.size := (Array.getElem?_eq_some_iff.1 hl).1
      have hy := run_yield (P := P) (args := encs x) hl (by rw [hrec]; exact hps x)
      rw [hrec] at hy
      refine ⟨fn, _, assign, body, hy, roundIn_of_wpIn hfn (hassign _ x W _ ⟨_, run_beginRound hl (by rw [hrec]), ?_⟩)⟩
      have hl2 : (W.putObj (w.heap.size + 1) (.loop { rec .ready none with state := .busy })).heap[w.heap.size + 1]? = some (.loop { rec .ready none with state := .busy }) := World.putObj_heap_same hlt
      have hk2 : (W.putObj (w.heap.size + 1) (.loop { rec .ready none with state := .busy })).heap[w.heap.size]? = some (.deferred (some [])) := (World.putObj_heap_other (by omega)).trans hk
      have hw2 : Kp W (W.putObj (w.heap.size + 1) (.loop { rec .ready none with state := .busy })) := hKb _ _ _ _ (by omega) hl rfl rfl
      refine wpIn_mono (hbody _ pre x _ (hI.putObj _ hi (by omega) hl rfl) hlen) ?_
      have fin : ∀ (jump : Option Code) (W3 : World), KeepsOthers (W.putObj (w.heap.size + 1) (.loop { rec .ready none with state := .busy })) W3 →
          (Instr.endRound (w.heap.size + 1) jump).run P W3 = .ok (.bool jump.isNone) (W3.putObj (w.heap.size + 1) (.loop (rec (if jump.isNone then .ready else .done) jump))) ∧
          W3.heap[w.heap.size + 1]? = some (.loop { rec .ready none with state := .busy }) ∧
          (W3.putObj (w.heap.size + 1) (.loop (rec (if jump.isNone then .ready else .done) jump))).heap[w.heap.size + 1]? = some (.loop (rec (if jump.isNone then .ready else .done) jump)) ∧
          (W3.putObj (w.heap.size + 1) (.loop (rec (if jump.isNone then .ready else .done) jump))).heap[w.heap.size]? = some (.deferred (some [])) := fun jump W3 hk3 => by
        have hl3 := hk3.same _ _ hl2 rfl
        have := run_endRound (P := P) jump hl3
        rw [hrec] at this ⊢
        exact ⟨this, by rw [hrec] at hl3; exact hl3, World.putObj_heap_same (Array.getElem?_eq_some_iff.1 hl3).1, (World.putObj_heap_other (by omega)).trans (hk3.same _ _ hk2 rfl)⟩
      rintro e a3 W3 hp
      cases e with
      | normal =>
        obtain ⟨hk3, hkp3, hi3⟩ := hp
        obtain ⟨hr, hl3, hl4, hk4⟩ := fin none W3 hk3
        exact ⟨_, _, hr, .inl ⟨rfl, ⟨hI.putObj _ hi3 (by omega) hl3 rfl, hl4, hk4⟩, hKt (hKt hw2 hkp3) (hKb _ _ _ _ (by omega) hl3 rfl rfl)⟩⟩
      | ret =>
        obtain ⟨hk3, hi3⟩ := hp
        obtain ⟨hr, hl3, hl4, hk4⟩ := fin (some .ret) W3 hk3
        exact ⟨_, _, hr, .inr ⟨rfl, .ret, (hIx _).putObj _ hi3 (by omega) hl3 rfl, hl4, hk4⟩⟩
      | exit id =>
        obtain ⟨hk3, hi3⟩ := hp
        obtain ⟨hr, hl3, hl4, hk4⟩ := fin (some (.exit id)) W3 hk3
        exact ⟨_, _, hr, .inr ⟨rfl, .exit id, (hIx _).putObj _ hi3 (by omega) hl3 rfl, hl4, hk4⟩⟩
      | goto t =>
        obtain ⟨hk3, hi3⟩ := hp
        obtain ⟨hr, hl3, hl4, hk4⟩ := fin (some (.goto t)) W3 hk3
        exact ⟨_, _, hr, .inr ⟨rfl, .goto t, (hIx _).putObj _ hi3 (by omega) hl3 rfl, hl4, hk4⟩⟩
      | panic ch => exact hp.elim
      | outgrown => exact hp.elim
    · -- BEHIND THE ITERATOR
      rintro e W2 ⟨⟨v, rfl⟩, (⟨xs, hS, hi, hl, hk⟩ | ⟨pre, hSp, c, hi, hl, hk⟩)⟩
      · exact ⟨none, _, by have := run_endLoop (P := P) hl (by rw [hrec]; simp); rw [hrec] at this; exact this, hdone _ xs _ (Nat.le_refl _) hS (hI.putObj _ hi (by omega) hl rfl) ((World.putObj_heap_other (by omega)).trans hk)⟩
      · exact ⟨some c, _, by have := run_endLoop (P := P) hl (by rw [hrec]; simp); rw [hrec] at this; exact this, hstop _ c pre _ (Nat.le_refl _) hSp ((hIx c).putObj _ hi (by omega) hl rfl) ((World.putObj_heap_other (by omega)).trans hk)⟩



/-- The same, the frame of a round told as a change of the frame. -/
theorem wpIn_rangeFunc_Mf {α : Type} {g : Operand} {ps : Array Tmp} {assign body : Code} {Q : Exit → Act → World → Prop} {a : Act} {w : World}
    (hro : F.round = none) (h1 : 1 ≤ n) {gf : Nat} {lb : Array Value} (hg : a.eval g = .func (.func gf) #[] lb) (hFg : F.fn gf) (eg : ∀ args w, (callFunc gf args).run P w = .ok (.enter gf args) w)
    {encs : α → Array Value} {Kp : World → World → Prop} {zs : Nat → Prop} (hzs : ∀ k, zs k → k < w.heap.size) {S Sp : List α → Prop} {N : Nat} {w0 : World} (hseq : SeqM F (n - 1) P gf lb encs Kp zs S Sp N w0)
    (hKt : ∀ {A B C : World}, Kp A B → Kp B C → Kp A C) (hKb : ∀ (W : World) (l : Nat) (o o' : Obj), w.heap.size ≤ l → W.heap[l]? = some o → o.isCells = false → o.isWalk = false → Kp W (W.putObj l o')) (hb0 : Below w0.heap.size w0 w) (hps : ∀ x, (encs x).size = ps.size)
    (I : List α → World → Prop) (Ix : Code → List α → World → Prop) (hI : OwnM zs w.heap.size I) (hIx : ∀ c, OwnM zs w.heap.size (Ix c)) (h0 : I [] w) (f : α → Array Value → Array Value)
    (hassign : ∀ (l : Nat) (x : α) (W : World) (K : Act → World → Prop), K { tmps := f x a.tmps, defers := [] } W →
      assign.wpIn (F.inRound l) (n - 1 - 1) P (Exit.then K (fun _ _ _ => False)) { tmps := (ps.zip (encs x)).foldl (fun t (p, v) => t.setIfInBounds p v) a.tmps, defers := [] } W)
    (hbody : ∀ (l : Nat) (pre : List α) (x : α) (W : World), I pre W → pre.length < N → body.wpIn (F.inRound l) (n - 1 - 1) P (ownPostK Kp I Ix (pre ++ [x]) W) { tmps := f x a.tmps, defers := [] } W)
    (hdone : ∀ (D : Nat) (xs : List α) (W : World), w.heap.size ≤ D → S xs → I xs W → W.heap[D]? = some (.deferred (some [])) → Q .normal { a with defers := { target := .collected D, args := #[] } :: a.defers } W)
    (hstop : ∀ (D : Nat) (c : Code) (pre : List α) (W : World), w.heap.size ≤ D → Sp pre → Ix c pre W → W.heap[D]? = some (.deferred (some [])) → c.wpIn F n P Q { a with defers := { target := .collected D, args := #[] } :: a.defers } W) :
    (Code.rangeFunc g ps assign body).wpIn F n P Q a w :=
  wpIn_rangeFunc_M hro h1 hg hFg eg hzs hseq hKt hKb hb0 hps I Ix hI hIx h0 (fun x => { tmps := f x a.tmps, defers := [] }) hassign hbody hdone hstop

theorem Turn.heap {zs : Nat → Prop} {D : Nat} {A B : World} (h : Turn zs D A B) {k : Nat} {o : Obj} (hk : A.heap[k]? = some o) (hz : ¬ zs k) (hc : k < D ∨ o.isCells = true) : B.heap[k]? = some o :=
  (h.block k (Array.getElem?_eq_some_iff.1 hk).1 hz (hc.imp_right fun e => ⟨o, hk, e⟩)).trans hk
theorem Turn.boxed {zs : Nat → Prop} {D : Nat} {A B : World} (h : Turn zs D A B) {k t : Nat} {v : Value} (hk : Boxed A k t v) (hz : ¬ zs k) : Boxed B k t v := h.heap hk hz (.inr rfl)
theorem Turn.ownsRow {zs : Nat → Prop} {D : Nat} {A B : World} (h : Turn zs D A B) {base e size n : Nat} {v : Value} {xs : List Value} (ho : A.ownsRow base e size v n xs) (hz : ∀ k, base ≤ k → ¬ zs k) : B.ownsRow base e size v n xs := by
  refine ⟨ho.1, ho.2.imp_right fun ⟨g, cap, cur, h1, h2, h3, h4⟩ => ⟨g, cap, cur, h1, h2, h.heap h3 (hz g h2) (.inr rfl), h4⟩⟩
theorem Turn.below {zs : Nat → Prop} {D B0 : Nat} {w A B : World} (h : Turn zs D A B) (hb : Below B0 w A) (hB : B0 ≤ w.heap.size) (hD : B0 ≤ D) (hz : ∀ k, k < B0 → ¬ zs k) : Below B0 w B :=
  ⟨h.os.trans hb.os, h.tape.trans hb.tape, h.output.trans hb.output, Nat.le_trans hb.size h.size, fun k hk =>
    (h.block k (Nat.lt_of_lt_of_le hk (Nat.le_trans hB hb.size)) (hz k hk) (.inl (Nat.lt_of_lt_of_le hk hD))).trans (hb.block k hk)⟩

/-- 'out = append(out, x)' inside a fence, x of one cell. -/
theorem wpListIn_push {P : Program} {F : Fence} {m : Nat} {ops : Array Oper} {rest : List Oper} {o : Oper} {a : Act} {Q : Exit → Act → World → Prop} {t e : TypeId} {z : Value} {bytes : Nat} {w0 : World} {u : Value}
    (E : ElemOK P t e z 1 bytes) (hgd : o.guard = none) (s x : Operand)
    (ho : o.op = .call { callee := .builtin .append, args := #[s, x], argTypes := #[t, t] })
    (base : Nat) {v : Value} {n : Nat} {xs : List Value} (hown : w0.ownsRow base e 1 v n xs) (hs : a.eval s = v) (hx : a.eval x = .slice (some ⟨w0.heap.size, 0, none⟩) 1 1)
    (h1 : u.oneCell' = true) (h63 : n + 1 ≤ maxLen) (hbytes : (n + 1) * bytes ≤ 140737488355328) (hbase : base ≤ w0.heap.size)
    (h : ∀ v' w', w'.ownsRow base e 1 v' (n + 1) (xs ++ [u]) → (w0.alloc (.cells #[u] e)).grownBy w' v.ownBlock → Below base w0 w' → wpListIn F m P ops Q rest (a.put o.dst v') w') :
    wpListIn F m P ops Q (o :: rest) a (w0.alloc (.cells #[u] e)) := by
  obtain ⟨i, hi, hz0, hz1, hz2⟩ := info_parts E.info
  refine wpListIn_append_own _ hgd s x t ho base e i z 1 bytes E.und hi hz0 hz1 hz2 E.zs E.pos v n xs hs (hown.alloc _) ⟨w0.heap.size, 0, none⟩ 1 1 [u] hx rfl ?_ ?_ h63 hbytes (by simp; omega) ?_
  · intro j y hj
    cases j with
    | zero =>
      simp at hj; subst hj
      rw [add_zero_off, World.cell?_alloc_at _ _ _ _ rfl]; rfl
    | succ j => simp at hj
  · intro y hy; simp at hy; subst hy; exact h1
  · intro v' w' ho' hg _
    exact h v' w' ho' hg (grown_below hown hg hbase)

/-- The box's slice has been appended to, and stored back: the box lies below the rows' base. -/
theorem boxed_app {W w1 : World} {base B : Nat} {t e : TypeId} {size : Nat} {v v' : Value} {k m : Nat} {xs ys : List Value} {tmp : Obj}
    (hv : Boxed W B t v) (hrow : W.ownsRow base e size v k xs) (hB : B < base) (hbase : base ≤ W.heap.size)
    (hown' : w1.ownsRow base e size v' m ys) (hgrow : (W.alloc tmp).grownBy w1 v.ownBlock) :
    Boxed w1 B t v ∧ Boxed (w1.setCell ⟨B, 0, none⟩ v') B t v' ∧ (w1.setCell ⟨B, 0, none⟩ v').ownsRow base e size v' m ys ∧ KeepsOthers W (w1.setCell ⟨B, 0, none⟩ v') ∧
      (∀ j, j < base → j ≠ B → (w1.setCell ⟨B, 0, none⟩ v').heap[j]? = W.heap[j]?) ∧ (∀ n₀, n₀ ≤ B → Below n₀ W (w1.setCell ⟨B, 0, none⟩ v')) := by
  have hne : ∀ j, j < base → some j ≠ v.ownBlock := fun j hj e => by have := (hrow.lt j e.symm).1; omega
  have hv1 : Boxed w1 B t v := (hv.alloc tmp).kept hgrow (hne B hB)
  have hbl : Below base W w1 := grown_below hrow hgrow hbase
  refine ⟨hv1, hv1.set v', ownsRow_setCell_below hown' hB _, ?_, fun j hj hjB => ?_, fun n₀ hn => (hbl.mono (by omega)).setCell hn _⟩
  · refine ((KeepsOthers.alloc W tmp).trans (KeepsOthers.of_grownBy hgrow fun j o ej hj => ?_)).trans (KeepsOthers.setCell _ _ _)
    rcases (hrow.alloc tmp).2 with ⟨rfl, _⟩ | ⟨g, cap, cur, rfl, _, hgb, _⟩
    · simp [Value.ownBlock] at ej
    · obtain rfl : g = j := by simpa [Value.ownBlock] using ej
      rw [hgb] at hj; cases hj; rfl
  · exact (Below.heap_setCell _ _ _ _ hjB).trans (hbl.block j hj)
end Go.Proofs.YtnckpnbecmmcpaaGreatDoor.W01
end
section
namespace Go.Proofs.YtnckpnbecmmcpaaGreatDoor.W01
open Go.RowKit Go.Shelf
attribute [local go_sem] Oper.semAt_some

abbrev Grp := Fin 128 × Bool
abbrev encG (x : Grp) : Array Value := #[.int .u8 (x.1.val : Int), .bool x.2]
def grpF : Nat → Nat → List Grp
  | 0, z => [(⟨z % 128, by omega⟩, true)]
  | f + 1, z => if z < 128 then [(⟨z % 128, by omega⟩, true)] else (⟨z % 128, by omega⟩, false) :: grpF f (z / 128)
def grp (z : Nat) : List Grp := grpF z z
def outG (x : Grp) : Int := if x.2 then (x.1.val : Int) else (x.1.val : Int) + 128
theorem grpF_enc : ∀ f z, z ≤ f → (grpF f z).map outG = encF f z := by
  intro f
  induction f with
  | zero => intro z hz; obtain rfl : z = 0 := by omega
            simp [grpF, encF, outG]
  | succ f ih =>
    intro z hz
    unfold grpF encF
    split
    · simp [outG]; omega
    · rw [List.map_cons, ih _ (by omega)]; simp [outG]
theorem grp_enc (z : Nat) : (grp z).map outG = enc z := grpF_enc z z (Nat.le_refl _)
theorem grpF_fuel : ∀ (f g z : Nat), z ≤ f → z ≤ g → grpF f z = grpF g z := by
  intro f
  induction f with
  | zero =>
    intro g z hz _
    obtain rfl : z = 0 := by omega
    cases g <;> simp [grpF]
  | succ f ih =>
    intro g z hf hg
    cases g with
    | zero => obtain rfl : z = 0 := by omega
              simp [grpF]
    | succ g =>
      unfold grpF
      split
      · rfl
      · rw [ih g (z / 128) (by omega) (by omega)]
theorem grp_lt {z : Nat} (h : z < 128) : grp z = [(⟨z % 128, by omega⟩, true)] := by
  unfold grp; cases z <;> simp [grpF]; omega
theorem grp_ge {z : Nat} (h : 128 ≤ z) : grp z = (⟨z % 128, by omega⟩, false) :: grp (z / 128) := by
  unfold grp
  cases z with
  | zero => omega
  | succ z =>
    conv => lhs; unfold grpF
    rw [if_neg (by omega), grpF_fuel z ((z + 1) / 128) _ (by omega) (by omega)]

theorem grp_pos (z : Nat) : 1 ≤ (grp z).length := by
  by_cases h : z < 128
  · rw [grp_lt h]; simp
  · rw [grp_ge (by omega)]; simp

def zsz (w : World) (zB : Nat) : Nat := match w.cell? ⟨zB, 0, none⟩ with | some v => (intOf v).toNat | none => 0
theorem zsz_boxed {w : World} {zB t : Nat} {v : Value} (h : Boxed w zB t v) : zsz w zB = (intOf v).toNat := by unfold zsz; rw [h.cell]

set_option maxRecDepth 100000 in
set_option maxHeartbeats 400000 in
theorem groups_seq (n : Nat) (hn : 1 ≤ n) (zB z : Nat) (w : World) (hz : z < 9223372036854775808) (hb : Boxed w zB 141 (.int .u64 z)) :
    SeqM Fence.wide n Tryz.prog 132 #[.pointer (some ⟨zB, 0, none⟩)] encG (fun W W' => W'.heap[zB]? = W.heap[zB]?) (· = zB) (fun xs => xs = grp z) (fun _ => True) 10 w := by
  intro l J Jx W hW hJ hJx hY h0
  have hbW : Boxed W zB 141 (.int .u64 z) := by
    unfold Boxed at hb ⊢; rw [hW.block zB (Array.getElem?_eq_some_iff.1 hb).1]; exact hb
  have hro : (Fence.wide).round = none := rfl
  refine callsIn_of_wp Tryz.func132 rfl trivial ?_ hro
  simp only [Tryz.ntmps132, List.size_toArray, List.length_cons, List.length_nil, Nat.reduceAdd, Nat.reduceSub, Array.replicate_succ, Array.replicate_zero, List.push_toArray, List.append_toArray, List.nil_append, List.cons_append]
  gi_wp2
  gi_loopw [3] (fun _ wr => ∃ (pre : List Grp) (z' : Nat), grp z = pre ++ grp z' ∧ z' ≤ z ∧ Boxed wr zB 141 (.int .u64 z') ∧ J pre wr) (fun _ wr => zsz wr zB)
  case atStart => exact ⟨[], z, rfl, Nat.le_refl _, hbW, h0⟩
  case round =>
    obtain ⟨pre, z', hg, hzz, hbx, hj⟩ := hrel
    have hcell := hbx.cell
    have hfr := hbx.frozen
    have hand := u64_and127 (z' : Int) (by omega) (by omega)
    have hlen : pre.length < 10 := by
      have h1 := congrArg List.length hg
      have h2 := congrArg List.length (grp_enc z)
      have h3 := enc_len 8 z (by simpa using hz)
      have h4 := grp_pos z'
      simp at h1 h2; omega
    obtain ⟨fn, tmps, assign, body, hy, hR⟩ := hY pre (⟨z' % 128, by omega⟩, decide (z' < 128)) wr hj hlen
    simp [encG] at hy
    have HR := Lib.hid hR
    clear hR
    by_cases hlt : z' < 128
    · rw [grp_lt (z := z') hlt] at hg
      simp [hlt] at hy
      have hHg := Lib.hid hg
      clear hg
      have hdl : decide ((z' : Int) < 128) = true := by simp; omega
      gi_wp2
      refine HR.out.mono ?_
      rintro e W' (⟨rfl, hJ', hk⟩ | ⟨rfl, hJx'⟩)
      · gi_wp2
        refine bodyPost_ret (results_none rfl _ _ _) rfl ?_
        exact ⟨⟨_, rfl⟩, .inl ⟨_, hHg.out.symm, by simpa [hlt] using hJ'⟩⟩
      · gi_wp2
        refine bodyPost_ret (results_none rfl _ _ _) rfl ?_
        exact ⟨⟨_, rfl⟩, .inr ⟨_, trivial, hJx'⟩⟩
    · rw [grp_ge (z := z') (by omega)] at hg
      simp [hlt] at hy
      have hHg := Lib.hid hg
      clear hg
      have hdl : decide ((z' : Int) < 128) = false := by simp; omega
      gi_wp2
      refine HR.out.mono ?_
      rintro e W' (⟨rfl, hJ', hk⟩ | ⟨rfl, hJx'⟩)
      · have hbx' : Boxed W' zB 141 (.int .u64 z') := by unfold Boxed at hbx ⊢; rw [hk]; exact hbx
        have hcell' := hbx'.cell
        have hfr' := hbx'.frozen
        clear hcell hfr hk
        gi_wp2
        go_roundw
        case rel =>
          exact ⟨pre ++ [(⟨z' % 128, Nat.mod_lt _ (by decide)⟩, false)], z' / 128, by rw [hHg.out]; simp, by omega, hbx'.set _, hJ _ _ _ (by simpa [hlt] using hJ') (Chg.setCell (zs := fun x => x = zB) (b := zB) rfl 0 _)⟩
        case measure => rw [zsz_boxed hbx, zsz_boxed (hbx'.set _)]; simp [intOf]; omega
      · gi_wp2
        refine bodyPost_ret (results_none rfl _ _ _) rfl ?_
        exact ⟨⟨_, rfl⟩, .inr ⟨_, trivial, hJx'⟩⟩
end Go.Proofs.YtnckpnbecmmcpaaGreatDoor.W01
end
section
namespace Go.Proofs.YtnckpnbecmmcpaaGreatDoor.W01
open Go.RowKit Go.Shelf
attribute [local go_sem] Oper.semAt_some

theorem groups_any (z : Int) (w : World) : Calls Tryz.prog 112 #[.int .u64 z] w fun e w' => e = .returned (.func (.func 132) #[] #[.pointer (some ⟨w.heap.size, 0, none⟩)]) ∧ w.alloc (.cells #[.int .u64 z] 141) = w' := by
  have hmf : ∀ (fn : Fn) (first cap : Array Value) (w : World), (Instr.makeFunc fn first cap).run Tryz.prog w = .ok (.func fn first cap) w := fun _ _ _ _ => rfl
  go_enter Tryz.func112, Tryz.ntmps112
  go_wp2
  go_ret
  exact ⟨rfl, rfl⟩

theorem zig_neg (n : Int) (h0 : -4611686018427387903 ≤ n) (hn : n < 0) : bits BinOp.xor IntKind.u64 (IntKind.u64.wrap (IntKind.u64.wrap n * 2)) (IntKind.u64.wrap (n / 9223372036854775808)) = (zig n : Int) := by
  have h1 : n / 9223372036854775808 = -1 := by omega
  rw [h1, show IntKind.u64.wrap (-1) = 18446744073709551615 from by decide]
  simp only [IntKind.wrap_u64]
  rw [u64_xor1 _ (by omega) (by omega)]
  unfold zig; rw [if_pos hn]; omega
theorem zig_pos (n : Int) (h1 : n ≤ 4611686018427387903) (hn : 0 ≤ n) : bits BinOp.xor IntKind.u64 (n * 2) (n / 9223372036854775808) = (zig n : Int) := by
  have h1 : n / 9223372036854775808 = 0 := by omega
  rw [h1, u64_xor0 _ (by omega) (by omega)]
  unfold zig; rw [if_neg (by omega)]; omega

set_option maxRecDepth 100000 in
set_option maxHeartbeats 400000 in
theorem put_yes (n : Int) (w : World) (h0 : -4611686018427387903 ≤ n) (h1 : n ≤ 4611686018427387903) :
    Calls Tryz.prog 96 #[.int .i64 n] w fun e w' => e = .returned (.tuple #[.string (strOfNums (enc (zig n))), .int .i64 0]) ∧ Below w.heap.size w w' := by
  have hz := zig_lt h0 h1
  have hlen := enc_zig_len h0 h1
  refine (callsIn_wide (n := 5)).1 ?_
  refine callsIn_of_wp_marks Tryz.func96 rfl trivial ?_ rfl
  simp only [Tryz.ntmps96, List.size_toArray, List.length_cons, List.length_nil, Nat.reduceAdd, Nat.reduceSub, Array.replicate_succ, Array.replicate_zero, List.push_toArray, List.append_toArray, List.nil_append, List.cons_append]
  by_cases hn : n < 0
  all_goals
    gi_wp2_with fail
    refine ⟨trivial, ?_⟩
    first
    | rw [zig_neg n h0 hn]
    | rw [zig_pos n h1 (by omega)]
    refine (callsIn_wide.2 (groups_any _ _)).mono ?_
    rintro e w' ⟨rfl, rfl⟩
    gi_wp2_with fail
    have hbz : Boxed ((w.alloc (.cells #[.slice none 0 0] 39)).alloc (.cells #[.int .u64 (zig n)] 141)) (w.heap.size + 1) 141 (.int .u64 (zig n)) := by
      have := Boxed.new (w.alloc (.cells #[.slice none 0 0] 39)) 141 (.int .u64 (zig n))
      simpa using this
    refine wpIn_rangeFunc_Mf (zs := fun k => k = w.heap.size + 1) rfl (by omega) (gf := 132) (lb := #[.pointer (some ⟨w.heap.size + 1, 0, none⟩)]) rfl trivial (enters_of Tryz.func132 (by kernel_rfl) rfl)
      (fun k hk => by simp; omega) (groups_seq 4 (by omega) (w.heap.size + 1) (zig n) _ hz hbz) (fun h k => k.trans h)
      (fun W l o o' hl _ _ _ => by simp at hl; exact World.putObj_heap_other (by omega)) (Below.refl _ _) (fun _ => rfl)
      (fun pre W => (∃ v, Boxed W w.heap.size 39 v ∧ W.ownsRow (w.heap.size + 2) 5 1 v pre.length ((pre.map outG).map (Value.int .u8))) ∧ Below w.heap.size w W ∧ w.heap.size + 2 ≤ W.heap.size)
      (fun _ _ _ => False)
      (fun s A B hs ht => ⟨by
        obtain ⟨⟨v, h1, h2⟩, h3⟩ := hs
        exact ⟨v, ht.boxed h1 (by omega), ht.ownsRow h2 (fun k hk => by omega)⟩, ht.below hs.2.1 (Nat.le_refl _) (by simp; omega) (fun k hk => by omega), Nat.le_trans hs.2.2 ht.size⟩)
      (fun _ _ _ _ hs _ => hs)
      ⟨⟨_, (Boxed.new w 39 _).alloc _, World.ownsRow_nil _ _ _ _⟩, ((Below.refl _ w).alloc (Nat.le_refl _) _).alloc (by simp) _, by simp⟩
      (fun x t => (((t.setIfInBounds 21 (.int .u8 (x.1.val : Int))).setIfInBounds 22 (.bool x.2)).setIfInBounds 5 (.int .u8 (x.1.val : Int))).setIfInBounds 6 (.bool x.2)) ?assign ?body ?done ?stop
    case assign =>
      intro l x W K hK
      dsimp only [encG]
      gi_wp2
      exact hK
    case body =>
      rintro l pre ⟨g, b⟩ W ⟨⟨v, hv, hrow⟩, hB, hsz⟩ hlt
      have hc1 := hv.cell
      have hf1 := hv.frozen
      have hor := u8_orhi (g.val : Int) (by omega) (by omega)
      have hg1 : (g.val : Int) < 128 := by omega
      cases b
      all_goals
        gi_wp2_with (gi_at_builtin; refine wpListIn_push E38 rfl _ _ rfl (w.heap.size + 2) hrow rfl rfl rfl (by unfold maxLen; omega) (by omega) hsz ?_; intro v' w1 hown' hgrow hb1; obtain ⟨g', cap', rfl⟩ := ownsRow_succ hown'; obtain ⟨hv1, hv2, hr2, hk2, hz2, hb2⟩ := boxed_app hv hrow (by omega) hsz hown' hgrow; have hc1 := hv1.cell; have hf1 := hv1.frozen)
        exact ⟨hk2, hz2 _ (by omega) (by omega), ⟨_, hv2, by simpa [outG] using hr2⟩, hB.trans (hb2 _ (Nat.le_refl _)), by have := (hb2 0 (Nat.zero_le _)).size; omega⟩
    case done =>
      rintro D ys W hD rfl ⟨⟨v, hv, hrow⟩, hB, hsz⟩ hK
      simp at hD
      have hc1 := hv.cell
      have hcv := run_convert_owned (xs := enc (zig n)) 39 9 Tryz.underlying39 Tryz.underlying5 Tryz.underlying9 (by rw [← grp_enc]; exact hrow)
      gi_wp2
      refine ⟨by simp, .inl ⟨_, _, rfl, run_takeDeferred hK, ?_⟩⟩
      exact ⟨.tuple #[.string (strOfNums (enc (zig n))), .int .i64 0], by simp [results, Tryz.results96, go_sem], rfl, hB.trans (belowK_b (w := w) (Nat.le_refl _) W D _ _ (by omega) hK rfl rfl)⟩
    case stop =>
      intro D c pre W _ _ h _
      exact h.elim

set_option maxRecDepth 100000 in
set_option maxHeartbeats 400000 in
theorem put_no (n : Int) (w : World) (h : n < -4611686018427387903 ∨ 4611686018427387903 < n) :
    Calls Tryz.prog 96 #[.int .i64 n] w fun e w' => e = .returned (.tuple #[.string ⟨#[]⟩, .int .i64 10]) ∧ w = w' := by
  rcases h with h | h
  · go_enter Tryz.func96, Tryz.ntmps96
    go_wp2
    go_ret2
    exact ⟨rfl, rfl⟩
  · have h' : ¬ n < -4611686018427387903 := by omega
    go_enter Tryz.func96, Tryz.ntmps96
    go_wp2
    go_ret2
    exact ⟨rfl, rfl⟩
end Go.Proofs.YtnckpnbecmmcpaaGreatDoor.W01
end
section
namespace Go.Proofs.YtnckpnbecmmcpaaGreatDoor.W01
open Go.RowKit

def take7 (s : ByteArray) : Nat → Nat → Option (Nat × Nat × Nat)
  | 0, _ => none
  | f + 1, p => if h : p < s.size then (if s[p].toNat < 128 then some (s[p].toNat, p + 1, s[p].toNat) else (take7 s f (p + 1)).map fun x => (s[p].toNat % 128 + 128 * x.1, x.2.1, x.2.2)) else none
def unzig (z : Nat) : Int := if z % 2 = 0 then (z / 2 : Nat) else -((z / 2 : Nat) : Int) - 1
def intS (s : ByteArray) (at_ : Nat) : Int × Int × Int :=
  match take7 s 9 at_ with
  | none => (0, 0, 10)
  | some (z, e, last) => if (last = 0 ∧ at_ + 1 < e) ∨ unzig z < -4611686018427387903 then (0, 0, 10) else (unzig z, e, 0)
def int3 (x : Int × Int × Int) : Value := .tuple #[.int .i64 x.1, .int .i64 x.2.1, .int .i64 x.2.2]

theorem unzig_xor (z : Nat) (h : z < 9223372036854775808) : bits .xor .i64 ((z : Int) / 2) (-((z : Int) % 2)) = unzig z := by
  unfold unzig
  split
  · rename_i hp
    rw [show -((z : Int) % 2) = 0 by omega, i64_xor0 _ (by omega) (by omega)]; omega
  · rename_i hp
    rw [show -((z : Int) % 2) = -1 by omega, i64_xorm1 _ (by omega) (by omega)]; omega

set_option maxRecDepth 100000 in
set_option maxHeartbeats 400000 in
theorem int_arg (s : ByteArray) (a : Int) (w : World) (hs : s.size ≤ maxLen) (h : a < 0 ∨ s.size < a) (h0 : -9223372036854775808 ≤ a) (h1 : a ≤ 9223372036854775807) :
    Calls Tryz.prog 113 #[.string s, .int .i64 a] w fun e w' => e = .returned (int3 (0, 0, 2)) ∧ w = w' := by
  unfold maxLen at hs
  rcases h with h | h
  · go_enter Tryz.func113, Tryz.ntmps113
    go_wp2
    go_ret3
    exact ⟨rfl, rfl⟩
  · have h' : ¬ a < 0 := by omega
    go_enter Tryz.func113, Tryz.ntmps113
    go_wp2
    go_ret3
    exact ⟨rfl, rfl⟩

theorem pow128 (k : Nat) (h : k ≤ 8) : 128 ^ k * 128 ≤ 9223372036854775808 ∧ 0 < 128 ^ k := by
  have h1 : 128 ^ (k + 1) ≤ 128 ^ 9 := Nat.pow_le_pow_right (by decide) (by omega)
  rw [Nat.pow_succ] at h1
  have e : (128 : Nat) ^ 9 = 9223372036854775808 := by decide
  exact ⟨by omega, Nat.pow_pos (by decide)⟩

theorem or_step (acc k b : Nat) (hk : k ≤ 8) (hacc : acc < 128 ^ k) (hb : b < 256) :
    bits .or .u64 (acc : Int) (IntKind.u64.wrap (IntKind.u64.wrap (bits .and .u8 (b : Int) 127) * 2 ^ (7 * k))) = ((acc + b % 128 * 128 ^ k : Nat) : Int) := by
  obtain ⟨hp1, hp2⟩ := pow128 k hk
  have h1 : b % 128 * 128 ^ k ≤ 127 * 128 ^ k := Nat.mul_le_mul_right _ (by omega)
  have e2 : (2 : Int) ^ (7 * k) = ((128 ^ k : Nat) : Int) := by
    rw [Int.pow_mul]; simp
  rw [u8_and127 _ (by omega) (by omega), wraps_u64 ((b : Int) % 128) (by omega) (by omega), e2, show (b : Int) % 128 = ((b % 128 : Nat) : Int) by omega, ← Int.natCast_mul]
  rw [wraps_u64 _ (by omega) (by omega)]
  rw [u64_orhi (7 * k) _ _ (by omega) (by rw [e2, ← Int.natCast_emod, Nat.mul_mod_left]; rfl) (by omega) (by omega) (by rw [e2]; omega) (by omega)]
  simp

theorem take7_lo {s : ByteArray} {f p : Nat} (h : p < s.size) (hb : s[p].toNat < 128) : take7 s (f + 1) p = some (s[p].toNat, p + 1, s[p].toNat) := by
  rw [take7, dif_pos h, if_pos hb]
theorem take7_hi {s : ByteArray} {f p : Nat} (h : p < s.size) (hb : ¬ s[p].toNat < 128) : take7 s (f + 1) p = (take7 s f (p + 1)).map fun x => (s[p].toNat % 128 + 128 * x.1, x.2.1, x.2.2) := by
  rw [take7, dif_pos h, if_neg hb]
theorem take7_out {s : ByteArray} {f p : Nat} (h : ¬ p < s.size) : take7 s f p = none := by
  cases f with
  | zero => rfl
  | succ f => rw [take7, dif_neg h]

theorem intS_none {s : ByteArray} {a : Nat} (h : take7 s 9 a = none) : intS s a = (0, 0, 10) := by simp [intS, h]
theorem intS_bad {s : ByteArray} {a z e l : Nat} (h : take7 s 9 a = some (z, e, l)) (hb : (l = 0 ∧ a + 1 < e) ∨ unzig z < -4611686018427387903) : intS s a = (0, 0, 10) := by
  simp only [intS, h]; rw [if_pos hb]
theorem intS_ok {s : ByteArray} {a z e l : Nat} (h : take7 s 9 a = some (z, e, l)) (hb : ¬ ((l = 0 ∧ a + 1 < e) ∨ unzig z < -4611686018427387903)) : intS s a = (unzig z, (e : Int), 0) := by
  simp only [intS, h]; rw [if_neg hb]
theorem unzig_bd (z : Nat) (h : z < 9223372036854775808) : -4611686018427387904 ≤ unzig z ∧ unzig z ≤ 4611686018427387903 := by
  unfold unzig; split <;> omega

set_option maxRecDepth 100000 in
set_option maxHeartbeats 800000 in
theorem int_any (s : ByteArray) (a : Nat) (w : World) (hs : s.size ≤ maxLen) (h : a ≤ s.size) :
    Calls Tryz.prog 113 #[.string s, .int .i64 a] w fun e w' => e = .returned (int3 (intS s a)) ∧ w = w' := by
  unfold maxLen at hs
  have hd1 : decide ((a : Int) < 0) = false := by simp
  have hd2 : decide (s.size < a) = false := by simp; omega
  go_enter Tryz.func113, Tryz.ntmps113
  go_wp2
  go_loop [7, 8, 9, 10, 19] (fun u7 _ _ _ u19 => ∃ k acc : Nat, k ≤ 9 ∧ u19 = .int .i64 k ∧ u7 = .int .u64 acc ∧ acc < 128 ^ k ∧ a + k ≤ s.size ∧ take7 s 9 a = (take7 s (9 - k) (a + k)).map (fun x => (acc + 128 ^ k * x.1, x.2.1, x.2.2))) (fun _ _ _ _ u19 => (9 - intOf u19).toNat)
  case atStart => exact ⟨0, 0, by omega, rfl, rfl, by decide, by omega, by cases h : take7 s 9 a <;> simp⟩
  case round =>
    obtain ⟨k, acc, hk, rfl, rfl, hacc, hak, hT⟩ := hrel
    by_cases hk9 : k < 9
    · by_cases hin : a + k < s.size
      · have hp := pow128 k (by omega)
        have hb := s[a + k].toNat_lt
        have hor := or_step acc k s[a + k].toNat (by omega) hacc hb
        have hm : s[a + k].toNat % 128 * 128 ^ k ≤ 127 * 128 ^ k := Nat.mul_le_mul_right _ (by omega)
        obtain ⟨acc', hacc'⟩ : ∃ acc', acc' = acc + s[a + k].toNat % 128 * 128 ^ k := ⟨_, rfl⟩
        rw [← hacc'] at hor
        have hacc2 : acc' < 128 ^ k * 128 := by omega
        have hacc3 : acc' < 9223372036854775808 := by omega
        rw [show 9 - k = (8 - k) + 1 by omega] at hT
        by_cases hhi : 128 ≤ s[a + k].toNat
        · have HT : Hid (take7 s 9 a = (take7 s (9 - (k + 1)) (a + (k + 1))).map (fun x => (acc' + 128 ^ (k + 1) * x.1, x.2.1, x.2.2))) := by
            rw [hT, take7_hi hin (by omega), Option.map_map, Nat.add_assoc, show 9 - (k + 1) = 8 - k by omega]
            congr 1
            funext x
            simp only [Function.comp, hacc', Nat.pow_succ, Nat.mul_add, Prod.mk.injEq, and_true, Nat.mul_comm (128 ^ k) (s[a + k].toNat % 128), Nat.mul_assoc]
            omega
          have hacc4 : Hid (acc' < 128 ^ (k + 1)) := by rw [Nat.pow_succ]; exact hacc2
          clear hT hm hacc' hacc2 hacc hp
          go_wp2
          go_round
          case rel => exact ⟨k + 1, acc', by omega, by go_num, rfl, hacc4.out, by omega, HT.out⟩
          case measure => simp [intOf]; omega
        · have HTn : Hid (take7 s 9 a = some (acc', a + k + 1, s[a + k].toNat)) := by
            have hmod : s[a + k].toNat % 128 = s[a + k].toNat := Nat.mod_eq_of_lt (by omega)
            rw [hT, take7_lo hin (by omega), hacc', hmod, Nat.mul_comm]
            rfl
          have hand := u64_and1 (acc' : Int) (by omega) (by omega)
          have hxor := unzig_xor acc' hacc3
          have hub := unzig_bd acc' hacc3
          clear hT hm hacc' hacc2 hacc hp
          by_cases hbad : (s[a + k].toNat = 0 ∧ a + 1 < a + k + 1) ∨ unzig acc' < -4611686018427387903
          · have HR : Hid (intS s a = (0, 0, 10)) := intS_bad HTn hbad
            clear HTn
            by_cases hb0 : s[a + k].toNat = 0
            · have hz : ((s[a + k].toNat : Int) == 0) = true := by simp [hb0]
              clear hb0
              by_cases hk0 : 0 < k
              · have hk1 : decide ((0 : Int) < k) = true := by simp; omega
                go_wp2
                go_ret3
                exact ⟨by rw [HR.out]; rfl, rfl⟩
              · have hk1 : decide ((0 : Int) < k) = false := by simp; omega
                have hu : decide (unzig acc' < -4611686018427387903) = true := by
                  rcases hbad with h | h
                  · omega
                  · simpa using h
                clear hbad
                go_wp2
                go_ret3
                exact ⟨by rw [HR.out]; rfl, rfl⟩
            · have hz : ((s[a + k].toNat : Int) == 0) = false := by simp; omega
              have hu : decide (unzig acc' < -4611686018427387903) = true := by
                rcases hbad with h | h
                · omega
                · simpa using h
              clear hbad hb0
              go_wp2
              go_ret3
              exact ⟨by rw [HR.out]; rfl, rfl⟩
          · have HR : Hid (intS s a = (unzig acc', ((a + k + 1 : Nat) : Int), 0)) := intS_ok HTn hbad
            clear HTn
            have hu : decide (unzig acc' < -4611686018427387903) = false := by simp; omega
            by_cases hb0 : s[a + k].toNat = 0
            · have hz : ((s[a + k].toNat : Int) == 0) = true := by simp [hb0]
              have hk1 : decide ((0 : Int) < k) = false := by simp; omega
              have HR0 : Hid (intS s a = (unzig acc', (a : Int) + 1, 0)) := by
                have h := HR.out
                rw [show ((a + k + 1 : Nat) : Int) = (a : Int) + 1 by omega] at h
                exact h
              clear hb0 hbad
              go_wp2
              · go_ret3
                exact ⟨by rw [HR0.out]; rfl, rfl⟩
              · exfalso; simp at hk1; omega
            · have hz : ((s[a + k].toNat : Int) == 0) = false := by simp; omega
              clear hb0 hbad
              go_wp2
              go_ret3
              exact ⟨by rw [HR.out]; rfl, rfl⟩
      · have HR : Hid (intS s a = (0, 0, 10)) := intS_none (by rw [hT, take7_out (by omega)]; rfl)
        clear hT
        go_wp2
        go_ret3
        exact ⟨by rw [HR.out]; rfl, rfl⟩
    · have HR : Hid (intS s a = (0, 0, 10)) := intS_none (by rw [hT, show 9 - k = 0 by omega]; rfl)
      clear hT
      go_wp2
      go_ret3
      exact ⟨by rw [HR.out]; rfl, rfl⟩
end Go.Proofs.YtnckpnbecmmcpaaGreatDoor.W01
end
section
/- Plain mathematics of decoding: a string of bytes and the encoding. -/
namespace Go.Proofs.YtnckpnbecmmcpaaGreatDoor.W01
open Go.RowKit

def byteL (l : List Int) : List UInt8 := l.map fun n => UInt8.ofNat n.toNat
theorem strOfNums_list (l : List Int) : (strOfNums l).data.toList = byteL l := by simp [strOfNums, byteL]

theorem strOfNums_size (l : List Int) : (strOfNums l).size = l.length := by simp [strOfNums, ByteArray.size]
theorem byte_some (s : ByteArray) (a : Nat) (h : a < s.size) : s.data.toList[a]? = some s[a] := by
  rw [List.getElem?_eq_getElem (by simpa using h)]; rfl
theorem drop_cons (s : ByteArray) (a : Nat) (h : a < s.size) : s.data.toList.drop a = s[a] :: s.data.toList.drop (a + 1) := by
  rw [List.drop_eq_getElem_cons (by simpa using h)]; rfl

theorem take7_span {s : ByteArray} : ∀ {f a z e l : Nat}, take7 s f a = some (z, e, l) → a < e ∧ e ≤ s.size ∧ l ≤ z ∧ l < 128 ∧ e ≤ a + f ∧ z < 128 ^ f := by
  intro f
  induction f with
  | zero => intro a z e l h; simp [take7] at h
  | succ f ih =>
    intro a z e l h
    by_cases hp : a < s.size
    · by_cases hb : s[a].toNat < 128
      · rw [take7_lo hp hb] at h
        simp at h; obtain ⟨rfl, rfl, rfl⟩ := h
        have : 128 ^ 1 ≤ 128 ^ (f + 1) := Nat.pow_le_pow_right (by decide) (by omega)
        refine ⟨by omega, by omega, by omega, by omega, by omega, by omega⟩
      · rw [take7_hi hp hb] at h
        cases h1 : take7 s f (a + 1) with
        | none => rw [h1] at h; simp at h
        | some x =>
          obtain ⟨z1, e1, l1⟩ := x
          rw [h1] at h
          simp at h
          obtain ⟨rfl, rfl, rfl⟩ := h
          have := ih h1
          rw [Nat.pow_succ]
          omega
    · rw [take7_out hp] at h; simp at h

theorem take7_enc {s : ByteArray} : ∀ {f a z e l : Nat}, take7 s f a = some (z, e, l) → (l ≠ 0 ∨ e = a + 1) → (s.data.toList.drop a).take (e - a) = byteL (enc z) := by
  intro f
  induction f with
  | zero => intro a z e l h; simp [take7] at h
  | succ f ih =>
    intro a z e l h hl
    by_cases hp : a < s.size
    · by_cases hb : s[a].toNat < 128
      · rw [take7_lo hp hb] at h
        simp at h; obtain ⟨rfl, rfl, rfl⟩ := h
        rw [enc_lt hb, drop_cons s a hp, show a + 1 - a = 1 by omega]
        simp [byteL]
      · rw [take7_hi hp hb] at h
        cases h1 : take7 s f (a + 1) with
        | none => rw [h1] at h; simp at h
        | some x =>
          obtain ⟨z1, e1, l1⟩ := x
          rw [h1] at h
          simp at h
          obtain ⟨rfl, rfl, rfl⟩ := h
          have hs := take7_span h1
          have hb2 := s[a].toNat_lt
          have hi := ih h1 (by omega)
          rw [enc_ge (by omega), drop_cons s a hp, show e1 - a = (e1 - (a + 1)) + 1 by omega, List.take_succ_cons, hi,
            show (s[a].toNat % 128 + 128 * z1) / 128 = z1 by omega, show (s[a].toNat % 128 + 128 * z1) % 128 + 128 = s[a].toNat by omega]
          simp [byteL]
    · rw [take7_out hp] at h; simp at h

theorem take7_last {s : ByteArray} : ∀ {f a z e l : Nat}, take7 s f a = some (z, e, l) → ((s.data.toList.drop a).take (e - a)).getLast? = some (UInt8.ofNat l) := by
  intro f
  induction f with
  | zero => intro a z e l h; simp [take7] at h
  | succ f ih =>
    intro a z e l h
    by_cases hp : a < s.size
    · by_cases hb : s[a].toNat < 128
      · rw [take7_lo hp hb] at h
        simp at h; obtain ⟨rfl, rfl, rfl⟩ := h
        rw [drop_cons s a hp, show a + 1 - a = 1 by omega]
        simp
      · rw [take7_hi hp hb] at h
        cases h1 : take7 s f (a + 1) with
        | none => rw [h1] at h; simp at h
        | some x =>
          obtain ⟨z1, e1, l1⟩ := x
          rw [h1] at h
          simp at h
          obtain ⟨rfl, rfl, rfl⟩ := h
          have hs := take7_span h1
          have hi := ih h1
          rw [drop_cons s a hp, show e1 - a = (e1 - (a + 1)) + 1 by omega, List.take_succ_cons, List.getLast?_cons, hi]
          rfl
    · rw [take7_out hp] at h; simp at h

theorem enc_last : ∀ (n z : Nat), z ≤ n → 1 ≤ z → ∃ x : Nat, 1 ≤ x ∧ x < 128 ∧ (enc z).getLast? = some (x : Int) := by
  intro n
  induction n with
  | zero => intro z h1 h2; omega
  | succ n ih =>
    intro z h1 h2
    by_cases hz : z < 128
    · exact ⟨z, h2, hz, by rw [enc_lt hz]; rfl⟩
    · obtain ⟨x, hx1, hx2, hx⟩ := ih (z / 128) (by omega) (by omega)
      exact ⟨x, hx1, hx2, by rw [enc_ge (by omega), List.getLast?_cons, hx]; rfl⟩

theorem take7_not_enc {s : ByteArray} {f a z e : Nat} (h : take7 s f a = some (z, e, 0)) (he : a + 1 < e) : (s.data.toList.drop a).take (e - a) ≠ byteL (enc z) := by
  intro hc
  have hs := take7_span h
  have hl := take7_last h
  have h2 : 2 ≤ (enc z).length := by
    have := congrArg List.length hc
    simp [byteL] at this; omega
  have hz : 1 ≤ z := by
    by_cases hz : z < 128
    · rw [enc_lt hz] at h2; simp at h2
    · omega
  obtain ⟨x, hx1, hx2, hx⟩ := enc_last z z (Nat.le_refl _) hz
  rw [hc] at hl
  simp [byteL, List.getLast?_map, hx] at hl
  have := congrArg UInt8.toNat hl
  simp at this; omega

theorem str_ext {s t : ByteArray} (h : s.data.toList = t.data.toList) : s = t := by
  apply ByteArray.ext; exact Array.toList_inj.1 h
theorem str_toList {s t : ByteArray} (h : s.toList = t.toList) : s = t := str_ext (by rw [← Lib.toList_data, ← Lib.toList_data]; exact h)
theorem canon_ok {s : ByteArray} {f a z e l : Nat} (h : take7 s f a = some (z, e, l)) (hb : ¬ (l = 0 ∧ a + 1 < e)) : strOfNums (enc z) = s.extract a e := by
  have hs := take7_span h
  apply str_ext
  rw [strOfNums_list, Lib.extract_data, take7_enc h (by omega)]
theorem canon_bad {s : ByteArray} {f a z e l : Nat} (h : take7 s f a = some (z, e, l)) (hb : l = 0 ∧ a + 1 < e) : strOfNums (enc z) ≠ s.extract a e := by
  intro hc
  obtain ⟨rfl, he⟩ := hb
  have : (strOfNums (enc z)).data.toList = (s.extract a e).data.toList := by rw [hc]
  rw [strOfNums_list, Lib.extract_data] at this
  exact take7_not_enc h he this.symm

theorem zig_unzig (z : Nat) : zig (unzig z) = z := by unfold zig unzig; split <;> split <;> omega
theorem unzig_zig (n : Int) : unzig (zig n) = n := by unfold zig unzig; split <;> split <;> omega
end Go.Proofs.YtnckpnbecmmcpaaGreatDoor.W01
end
section
namespace Go.Proofs.YtnckpnbecmmcpaaGreatDoor.W01
open Go.RowKit

set_option maxRecDepth 100000 in
set_option maxHeartbeats 400000 in
theorem rint_arg (s : ByteArray) (a : Int) (w : World) (hs : s.size ≤ maxLen) (h : a < 0 ∨ s.size < a) (h0 : -9223372036854775808 ≤ a) (h1 : a ≤ 9223372036854775807) :
    Calls Tryz.prog 97 #[.string s, .int .i64 a] w fun e w' => e = .returned (int3 (0, 0, 2)) ∧ w = w' := by
  unfold maxLen at hs
  rcases h with h | h
  · go_enter Tryz.func97, Tryz.ntmps97
    go_wp2
    go_ret3
    exact ⟨rfl, rfl⟩
  · have h' : ¬ a < 0 := by omega
    go_enter Tryz.func97, Tryz.ntmps97
    go_wp2
    go_ret3
    exact ⟨rfl, rfl⟩

theorem mul_step (k b : Nat) (hk : k ≤ 8) :
    IntKind.u64.wrap ((b : Int) % 128 * 2 ^ (7 * k)) = ((b % 128 * 128 ^ k : Nat) : Int) := by
  obtain ⟨hp1, hp2⟩ := pow128 k hk
  have h1 : b % 128 * 128 ^ k ≤ 127 * 128 ^ k := Nat.mul_le_mul_right _ (by omega)
  have e2 : (2 : Int) ^ (7 * k) = ((128 ^ k : Nat) : Int) := by
    rw [Int.pow_mul]; simp
  rw [e2, show (b : Int) % 128 = ((b % 128 : Nat) : Int) by omega, ← Int.natCast_mul]
  rw [wraps_u64 _ (by omega) (by omega)]

set_option maxRecDepth 100000 in
set_option maxHeartbeats 800000 in
theorem rint_any (s : ByteArray) (a : Nat) (w : World) (hs : s.size ≤ maxLen) (h : a ≤ s.size) :
    Calls Tryz.prog 97 #[.string s, .int .i64 a] w fun e w' => e = .returned (int3 (intS s a)) ∧ Below w.heap.size w w' := by
  unfold maxLen at hs
  have hd1 : decide ((a : Int) < 0) = false := by simp
  have hd2 : decide (s.size < a) = false := by simp; omega
  go_enter Tryz.func97, Tryz.ntmps97
  go_wp2
  go_loop [7, 8, 9, 10, 11, 12] (fun u7 u8 _ _ _ _ => ∃ k acc : Nat, k ≤ 9 ∧ u8 = .int .i64 k ∧ u7 = .int .u64 acc ∧ acc < 128 ^ k ∧ a + k ≤ s.size ∧ take7 s 9 a = (take7 s (9 - k) (a + k)).map (fun x => (acc + 128 ^ k * x.1, x.2.1, x.2.2))) (fun _ u8 _ _ _ _ => (9 - intOf u8).toNat)
  case atStart => exact ⟨0, 0, by omega, rfl, rfl, by decide, by omega, by cases h : take7 s 9 a <;> simp⟩
  case round =>
    obtain ⟨k, acc, hk, rfl, rfl, hacc, hak, hT⟩ := hrel
    by_cases hk9 : k < 9
    · by_cases hin : a + k < s.size
      · have hp := pow128 k (by omega)
        have hb := s[a + k].toNat_lt
        have hor := mul_step k s[a + k].toNat (by omega)
        have hm : s[a + k].toNat % 128 * 128 ^ k ≤ 127 * 128 ^ k := Nat.mul_le_mul_right _ (by omega)
        obtain ⟨q, hq⟩ : ∃ q, q = s[a + k].toNat % 128 * 128 ^ k := ⟨_, rfl⟩
        rw [← hq] at hor
        have hacc2 : acc + q < 128 ^ k * 128 := by omega
        have hacc3 : acc + q < 9223372036854775808 := by omega
        rw [show 9 - k = (8 - k) + 1 by omega] at hT
        by_cases hhi : 128 ≤ s[a + k].toNat
        · have HT : Hid (take7 s 9 a = (take7 s (9 - (k + 1)) (a + (k + 1))).map (fun x => (acc + q + 128 ^ (k + 1) * x.1, x.2.1, x.2.2))) := by
            rw [hT, take7_hi hin (by omega), Option.map_map, Nat.add_assoc, show 9 - (k + 1) = 8 - k by omega]
            congr 1
            funext x
            simp only [Function.comp, hq, Nat.pow_succ, Nat.mul_add, Prod.mk.injEq, and_true, Nat.mul_comm (128 ^ k) (s[a + k].toNat % 128), Nat.mul_assoc]
            omega
          have hacc4 : Hid (acc + q < 128 ^ (k + 1)) := by rw [Nat.pow_succ]; exact hacc2
          clear hT hm hq hacc2 hacc hp
          go_wp2
          go_round
          case rel => exact ⟨k + 1, acc + q, by omega, by go_num, by go_num, hacc4.out, by omega, HT.out⟩
          case measure => simp [intOf]; omega
        · have HTn : Hid (take7 s 9 a = some (acc + q, a + k + 1, s[a + k].toNat)) := by
            have hmod : s[a + k].toNat % 128 = s[a + k].toNat := Nat.mod_eq_of_lt (by omega)
            rw [hT, take7_lo hin (by omega), hq, hmod, Nat.mul_comm]
            rfl
          have hub := unzig_bd (acc + q) hacc3
          clear hT hm hq hacc2 hacc hp
          have hpar : ((((acc : Int) + (q : Int)) % 2 == 1) = true ∧ -(((acc : Int) + (q : Int)) / 2) - 1 = unzig (acc + q)) ∨ ((((acc : Int) + (q : Int)) % 2 == 1) = false ∧ ((acc : Int) + (q : Int)) / 2 = unzig (acc + q)) := by
            unfold unzig
            by_cases hp : (acc + q) % 2 = 0
            · right; rw [if_pos hp]; simp; omega
            · left; rw [if_neg hp]; simp; omega
          rcases hpar with ⟨hpar, hun⟩ | ⟨hpar, hun⟩
          all_goals
            have HU := Lib.hid hun
            clear hun
            by_cases hbad : unzig (acc + q) < -4611686018427387903
            · go_wp2_with fail
              rw [HU.out]
              refine (rput_no _ _ (.inl hbad)).mono ?_
              rintro e w' ⟨rfl, rfl⟩
              have HR : Hid (intS s a = (0, 0, 10)) := intS_bad HTn (.inr hbad)
              go_wp2
              go_ret3
              exact ⟨by rw [HR.out]; rfl, Below.refl _ _⟩
            · go_wp2_with fail
              rw [HU.out]
              refine (rput_yes _ _ (by omega) (by omega)).mono ?_
              rintro e w' ⟨rfl, hB⟩
              rw [zig_unzig]
              have hsl : ∀ W : World, (Instr.slice 9 (.string s) (some (.int .i64 (a : Int))) (some (.int .i64 ((a : Int) + (k : Int) + 1))) none).run Tryz.prog W = .ok (.string (s.extract a (a + k + 1))) W := fun W => by
                have := run_slice_string (P := Tryz.prog) W 9 s .i64 .i64 (a : Int) ((a : Int) + (k : Int) + 1) Tryz.underlying9 (by omega) (by omega) (by omega)
                rw [this]; rfl
              go_wp2_with fail
              · have hne : (!(strOfNums (enc (acc + q))).toList == (s.extract a (a + k + 1)).toList) = true := by assumption
                have HR : Hid (intS s a = (0, 0, 10)) := intS_bad HTn (.inl (by
                  refine Classical.byContradiction fun hc => ?_
                  rw [canon_ok HTn hc] at hne
                  simp at hne))
                go_ret3
                exact ⟨by rw [HR.out]; rfl, hB⟩
              · have hne : (!(strOfNums (enc (acc + q))).toList == (s.extract a (a + k + 1)).toList) = false := by assumption
                have HR : Hid (intS s a = (unzig (acc + q), ((a + k + 1 : Nat) : Int), 0)) := intS_ok HTn (by
                  rintro (hc | hc)
                  · exact canon_bad HTn hc (str_toList (by simpa using hne))
                  · omega)
                go_ret3
                exact ⟨by rw [HR.out]; rfl, hB⟩
      · have HR : Hid (intS s a = (0, 0, 10)) := intS_none (by rw [hT, take7_out (by omega)]; rfl)
        clear hT
        go_wp2
        go_ret3
        exact ⟨by rw [HR.out]; rfl, Below.refl _ _⟩
    · have HR : Hid (intS s a = (0, 0, 10)) := intS_none (by rw [hT, show 9 - k = 0 by omega]; rfl)
      clear hT
      go_wp2
      go_ret3
      exact ⟨by rw [HR.out]; rfl, Below.refl _ _⟩
end Go.Proofs.YtnckpnbecmmcpaaGreatDoor.W01
end
section
namespace Go.Proofs.YtnckpnbecmmcpaaGreatDoor.W01
open Go.RowKit

def strS (s : ByteArray) : Value := .tuple #[.string (strOfNums (enc (zig s.size)) ++ s), .int .i64 0]

set_option maxRecDepth 100000 in
theorem puts_no (s : ByteArray) (w : World) (hs : s.size ≤ maxLen) (h : 65536 < s.size) :
    Calls Tryz.prog 71 #[.string s] w fun e w' => e = .returned (.tuple #[.string ⟨#[]⟩, .int .i64 10]) ∧ w = w' := by
  unfold maxLen at hs
  go_enter Tryz.func71, Tryz.ntmps71
  go_wp2
  go_ret2
  exact ⟨rfl, rfl⟩

set_option maxRecDepth 100000 in
theorem puts_yes (s : ByteArray) (w : World) (h : s.size ≤ 65536) :
    Calls Tryz.prog 71 #[.string s] w fun e w' => e = .returned (strS s) ∧ Below w.heap.size w w' := by
  have hl := enc_zig_len (n := (s.size : Int)) (by omega) (by omega)
  have hsz : (strOfNums (enc (zig s.size))).size ≤ 9 := by rw [strOfNums_size]; exact hl
  go_enter Tryz.func71, Tryz.ntmps71
  go_wp2_with fail
  refine (put_yes _ _ (by omega) (by omega)).mono ?_
  rintro e w' ⟨rfl, hB⟩
  go_wp2
  go_ret2
  exact ⟨rfl, hB⟩

set_option maxRecDepth 100000 in
theorem rputs_no (s : ByteArray) (w : World) (hs : s.size ≤ maxLen) (h : 65536 < s.size) :
    Calls Tryz.prog 73 #[.string s] w fun e w' => e = .returned (.tuple #[.string ⟨#[]⟩, .int .i64 10]) ∧ w = w' := by
  unfold maxLen at hs
  go_enter Tryz.func73, Tryz.ntmps73
  go_wp2
  go_ret2
  exact ⟨rfl, rfl⟩

set_option maxRecDepth 100000 in
theorem rputs_yes (s : ByteArray) (w : World) (h : s.size ≤ 65536) :
    Calls Tryz.prog 73 #[.string s] w fun e w' => e = .returned (strS s) ∧ Below w.heap.size w w' := by
  have hl := enc_zig_len (n := (s.size : Int)) (by omega) (by omega)
  have hsz : (strOfNums (enc (zig s.size))).size ≤ 9 := by rw [strOfNums_size]; exact hl
  go_enter Tryz.func73, Tryz.ntmps73
  go_wp2_with fail
  refine (rput_yes _ _ (by omega) (by omega)).mono ?_
  rintro e w' ⟨rfl, hB⟩
  go_wp2
  go_ret2
  exact ⟨rfl, hB⟩

/-- What String returns behind what Int has returned. -/
def strI (s : ByteArray) (x : Int × Int × Int) : Value :=
  if x.2.2 ≠ 0 then .tuple #[.string ⟨#[]⟩, .int .i64 0, .int .i64 x.2.2]
  else if x.1 < 0 ∨ 65536 < x.1 ∨ (s.size : Int) - x.2.1 < x.1 then .tuple #[.string ⟨#[]⟩, .int .i64 0, .int .i64 10]
  else .tuple #[.string (s.extract x.2.1.toNat (x.2.1 + x.1).toNat), .int .i64 (x.2.1 + x.1), .int .i64 0]

theorem intS_cases (s : ByteArray) (a : Nat) : intS s a = (0, 0, 10) ∨ ∃ (n : Int) (e : Nat), intS s a = (n, (e : Int), 0) ∧ a < e ∧ e ≤ s.size ∧ -4611686018427387903 ≤ n ∧ n ≤ 4611686018427387903 := by
  unfold intS
  split
  · exact .inl rfl
  · rename_i z e l h
    have hs := take7_span h
    have hb := unzig_bd z (by have := hs.2.2.2.2.2; have e9 : 128 ^ 9 = 9223372036854775808 := by decide
                              omega)
    split
    · exact .inl rfl
    · exact .inr ⟨_, e, rfl, hs.1, hs.2.1, by omega, by omega⟩

set_option maxRecDepth 100000 in
theorem str_arg (s : ByteArray) (a : Int) (w : World) (hs : s.size ≤ maxLen) (h : a < 0 ∨ s.size < a) (h0 : -9223372036854775808 ≤ a) (h1 : a ≤ 9223372036854775807) :
    Calls Tryz.prog 101 #[.string s, .int .i64 a] w fun e w' => e = .returned (strI s (0, 0, 2)) ∧ w = w' := by
  go_enter Tryz.func101, Tryz.ntmps101
  go_wp2_with fail
  refine (int_arg s a _ hs h h0 h1).mono ?_
  rintro e w' ⟨rfl, rfl⟩
  unfold int3
  go_wp2
  go_ret3
  exact ⟨rfl, rfl⟩

set_option maxRecDepth 100000 in
set_option maxHeartbeats 400000 in
theorem str_any (s : ByteArray) (a : Nat) (w : World) (hs : s.size ≤ maxLen) (h : a ≤ s.size) :
    Calls Tryz.prog 101 #[.string s, .int .i64 a] w fun e w' => e = .returned (strI s (intS s a)) ∧ w = w' := by
  have hi := fun W => int_any s a W hs h
  unfold maxLen at hs
  rcases intS_cases s a with hc | ⟨n, e, hc, h1, h2, h3, h4⟩
  · rw [hc] at hi ⊢
    clear hc
    go_enter Tryz.func101, Tryz.ntmps101
    go_wp2_with fail
    refine (hi _).mono ?_
    clear hi
    rintro e w' ⟨rfl, rfl⟩
    unfold int3
    go_wp2
    go_ret3
    exact ⟨rfl, rfl⟩
  · rw [hc] at hi ⊢
    clear hc
    by_cases hb : n < 0 ∨ 65536 < n ∨ (s.size : Int) - e < n
    · have HR : Hid (strI s (n, (e : Int), 0) = .tuple #[.string ⟨#[]⟩, .int .i64 0, .int .i64 10]) := by
        unfold strI; rw [if_neg (by simp), if_pos hb]; exact Eq.refl _
      by_cases hn : n < 0
      · go_enter Tryz.func101, Tryz.ntmps101
        go_wp2_with fail
        refine (hi _).mono ?_
        clear hi hb
        rintro e w' ⟨rfl, rfl⟩
        unfold int3
        go_wp2
        go_ret3
        exact ⟨by rw [HR.out]; rfl, rfl⟩
      · by_cases hn2 : 65536 < n
        · go_enter Tryz.func101, Tryz.ntmps101
          go_wp2_with fail
          refine (hi _).mono ?_
          clear hi hb
          rintro e w' ⟨rfl, rfl⟩
          unfold int3
          go_wp2
          go_ret3
          exact ⟨by rw [HR.out]; rfl, rfl⟩
        · have hn3 : (s.size : Int) - e < n := by omega
          go_enter Tryz.func101, Tryz.ntmps101
          go_wp2_with fail
          refine (hi _).mono ?_
          clear hi hb
          rintro e w' ⟨rfl, rfl⟩
          unfold int3
          go_wp2
          go_ret3
          exact ⟨by rw [HR.out]; rfl, rfl⟩
    · have HR : Hid (strI s (n, (e : Int), 0) = .tuple #[.string (s.extract e (e + n.toNat)), .int .i64 (e + n), .int .i64 0]) := by
        unfold strI; rw [if_neg (by simp), if_neg hb]
        simp only
        rw [show ((e : Int)).toNat = e by omega, show ((e : Int) + n).toNat = e + n.toNat by omega]
        exact Eq.refl _
      obtain ⟨m, rfl⟩ := Int.eq_ofNat_of_zero_le (show 0 ≤ n by omega)
      have hb1 : (m : Int) ≤ 65536 := by omega
      have hb2 : (m : Int) ≤ (s.size : Int) - e := by omega
      clear hb
      have hsl : ∀ W : World, (Instr.slice 9 (.string s) (some (.int .i64 (e : Int))) (some (.int .i64 ((e : Int) + (m : Int)))) none).run Tryz.prog W = .ok (.string (s.extract e (e + m))) W := fun W => by
        have := run_slice_string (P := Tryz.prog) W 9 s .i64 .i64 (e : Int) ((e : Int) + (m : Int)) Tryz.underlying9 (by omega) (by omega) (by omega)
        rw [this]; rfl
      go_enter Tryz.func101, Tryz.ntmps101
      go_wp2_with fail
      refine (hi _).mono ?_
      clear hi
      rintro e w' ⟨rfl, rfl⟩
      unfold int3
      go_wp2
      go_ret3
      exact ⟨by rw [HR.out]; rfl, rfl⟩

set_option maxRecDepth 100000 in
theorem rstr_arg (s : ByteArray) (a : Int) (w : World) (hs : s.size ≤ maxLen) (h : a < 0 ∨ s.size < a) (h0 : -9223372036854775808 ≤ a) (h1 : a ≤ 9223372036854775807) :
    Calls Tryz.prog 75 #[.string s, .int .i64 a] w fun e w' => e = .returned (strI s (0, 0, 2)) ∧ w = w' := by
  go_enter Tryz.func75, Tryz.ntmps75
  go_wp2_with fail
  refine (rint_arg s a _ hs h h0 h1).mono ?_
  rintro e w' ⟨rfl, rfl⟩
  unfold int3
  go_wp2
  go_ret3
  exact ⟨rfl, rfl⟩

set_option maxRecDepth 100000 in
set_option maxHeartbeats 400000 in
theorem rstr_any (s : ByteArray) (a : Nat) (w : World) (hs : s.size ≤ maxLen) (h : a ≤ s.size) :
    Calls Tryz.prog 75 #[.string s, .int .i64 a] w fun e w' => e = .returned (strI s (intS s a)) ∧ Below w.heap.size w w' := by
  have hi := fun W => rint_any s a W hs h
  unfold maxLen at hs
  rcases intS_cases s a with hc | ⟨n, e, hc, h1, h2, h3, h4⟩
  · rw [hc] at hi ⊢
    clear hc
    go_enter Tryz.func75, Tryz.ntmps75
    go_wp2_with fail
    refine (hi _).mono ?_
    clear hi
    rintro e w' ⟨rfl, hB⟩
    unfold int3
    go_wp2
    go_ret3
    exact ⟨rfl, hB⟩
  · rw [hc] at hi ⊢
    clear hc
    by_cases hb : n < 0 ∨ 65536 < n ∨ (s.size : Int) - e < n
    · have HR : Hid (strI s (n, (e : Int), 0) = .tuple #[.string ⟨#[]⟩, .int .i64 0, .int .i64 10]) := by
        unfold strI; rw [if_neg (by simp), if_pos hb]; exact Eq.refl _
      by_cases hn : n < 0
      · go_enter Tryz.func75, Tryz.ntmps75
        go_wp2_with fail
        refine (hi _).mono ?_
        clear hi hb
        rintro e w' ⟨rfl, hB⟩
        unfold int3
        go_wp2
        go_ret3
        exact ⟨by rw [HR.out]; rfl, hB⟩
      · by_cases hn2 : 65536 < n
        · go_enter Tryz.func75, Tryz.ntmps75
          go_wp2_with fail
          refine (hi _).mono ?_
          clear hi hb
          rintro e w' ⟨rfl, hB⟩
          unfold int3
          go_wp2
          go_ret3
          exact ⟨by rw [HR.out]; rfl, hB⟩
        · have hn3 : (s.size : Int) - e < n := by omega
          go_enter Tryz.func75, Tryz.ntmps75
          go_wp2_with fail
          refine (hi _).mono ?_
          clear hi hb
          rintro e w' ⟨rfl, hB⟩
          unfold int3
          go_wp2
          go_ret3
          exact ⟨by rw [HR.out]; rfl, hB⟩
    · have HR : Hid (strI s (n, (e : Int), 0) = .tuple #[.string (s.extract e (e + n.toNat)), .int .i64 (e + n), .int .i64 0]) := by
        unfold strI; rw [if_neg (by simp), if_neg hb]
        simp only
        rw [show ((e : Int)).toNat = e by omega, show ((e : Int) + n).toNat = e + n.toNat by omega]
        exact Eq.refl _
      obtain ⟨m, rfl⟩ := Int.eq_ofNat_of_zero_le (show 0 ≤ n by omega)
      have hb1 : (m : Int) ≤ 65536 := by omega
      have hb2 : (m : Int) ≤ (s.size : Int) - e := by omega
      clear hb
      have hsl : ∀ W : World, (Instr.slice 9 (.string s) (some (.int .i64 (e : Int))) (some (.int .i64 ((e : Int) + (m : Int)))) none).run Tryz.prog W = .ok (.string (s.extract e (e + m))) W := fun W => by
        have := run_slice_string (P := Tryz.prog) W 9 s .i64 .i64 (e : Int) ((e : Int) + (m : Int)) Tryz.underlying9 (by omega) (by omega) (by omega)
        rw [this]; rfl
      go_enter Tryz.func75, Tryz.ntmps75
      go_wp2_with fail
      refine (hi _).mono ?_
      clear hi
      rintro e w' ⟨rfl, hB⟩
      unfold int3
      go_wp2
      go_ret3
      exact ⟨by rw [HR.out]; rfl, hB⟩
end Go.Proofs.YtnckpnbecmmcpaaGreatDoor.W01
end
section
namespace Go.Proofs.YtnckpnbecmmcpaaGreatDoor.W01
open Go.RowKit

theorem i64_bd {n : Int} (h : (Lit.int .i64 n).wf = true) : -9223372036854775808 ≤ n ∧ n ≤ 9223372036854775807 := bounds_i64 h

/-! The contracts once more, each for every argument, with one answer for both implementations. -/
def encT (k : Int) : ByteArray := if -4611686018427387903 ≤ k ∧ k ≤ 4611686018427387903 then strOfNums (enc (zig k)) else ⟨#[]⟩
def encE (k : Int) : Int := if -4611686018427387903 ≤ k ∧ k ≤ 4611686018427387903 then 0 else 10
theorem putU (k : Int) (w : World) : Calls Tryz.prog 96 #[.int .i64 k] w fun e w' => e = .returned (.tuple #[.string (encT k), .int .i64 (encE k)]) ∧ Below w.heap.size w w' := by
  by_cases h : -4611686018427387903 ≤ k ∧ k ≤ 4611686018427387903
  · exact (put_yes k w h.1 h.2).mono fun _ _ ⟨he, hw⟩ => ⟨by rw [he, encT, encE, if_pos h, if_pos h], hw⟩
  · exact (put_no k w (by omega)).mono fun _ _ ⟨he, hw⟩ => ⟨by rw [he, encT, encE, if_neg h, if_neg h], by subst hw; exact Below.refl _ _⟩
theorem rputU (k : Int) (w : World) : Calls Tryz.prog 56 #[.int .i64 k] w fun e w' => e = .returned (.tuple #[.string (encT k), .int .i64 (encE k)]) ∧ Below w.heap.size w w' := by
  by_cases h : -4611686018427387903 ≤ k ∧ k ≤ 4611686018427387903
  · exact (rput_yes k w h.1 h.2).mono fun _ _ ⟨he, hw⟩ => ⟨by rw [he, encT, encE, if_pos h, if_pos h], hw⟩
  · exact (rput_no k w (by omega)).mono fun _ _ ⟨he, hw⟩ => ⟨by rw [he, encT, encE, if_neg h, if_neg h], by subst hw; exact Below.refl _ _⟩
theorem encT_size (k : Int) : (encT k).size ≤ 9 := by
  unfold encT; split
  · rename_i h; rw [strOfNums_size]; exact enc_zig_len h.1 h.2
  · simp [ByteArray.size]

def intT (s : ByteArray) (a : Int) : Int × Int × Int := if a < 0 ∨ (s.size : Int) < a then (0, 0, 2) else intS s a.toNat
def intN (s : ByteArray) (a : Int) : Int := (intT s a).1
def intE (s : ByteArray) (a : Int) : Int := (intT s a).2.1
def intC (s : ByteArray) (a : Int) : Int := (intT s a).2.2
theorem intU (s : ByteArray) (a : Int) (w : World) (hs : s.size ≤ maxLen) (h0 : -9223372036854775808 ≤ a) (h1 : a ≤ 9223372036854775807) :
    Calls Tryz.prog 113 #[.string s, .int .i64 a] w fun e w' => e = .returned (.tuple #[.int .i64 (intN s a), .int .i64 (intE s a), .int .i64 (intC s a)]) ∧ w = w' := by
  unfold intN intE intC intT
  by_cases h : a < 0 ∨ (s.size : Int) < a
  · rw [if_pos h]; exact int_arg s a w hs h h0 h1
  · rw [if_neg h]
    obtain ⟨m, rfl⟩ := Int.eq_ofNat_of_zero_le (show 0 ≤ a by omega)
    exact int_any s m w hs (by omega)
theorem rintU (s : ByteArray) (a : Int) (w : World) (hs : s.size ≤ maxLen) (h0 : -9223372036854775808 ≤ a) (h1 : a ≤ 9223372036854775807) :
    Calls Tryz.prog 97 #[.string s, .int .i64 a] w fun e w' => e = .returned (.tuple #[.int .i64 (intN s a), .int .i64 (intE s a), .int .i64 (intC s a)]) ∧ Below w.heap.size w w' := by
  unfold intN intE intC intT
  by_cases h : a < 0 ∨ (s.size : Int) < a
  · rw [if_pos h]; exact (rint_arg s a w hs h h0 h1).mono fun _ _ ⟨he, hw⟩ => ⟨he, by subst hw; exact Below.refl _ _⟩
  · rw [if_neg h]
    obtain ⟨m, rfl⟩ := Int.eq_ofNat_of_zero_le (show 0 ≤ a by omega)
    exact rint_any s m w hs (by omega)
def strV (s : ByteArray) (a : Int) : ByteArray × Int × Int :=
  let x := intT s a
  if x.2.2 ≠ 0 then (⟨#[]⟩, 0, x.2.2)
  else if x.1 < 0 ∨ 65536 < x.1 ∨ (s.size : Int) - x.2.1 < x.1 then (⟨#[]⟩, 0, 10)
  else (s.extract x.2.1.toNat (x.2.1 + x.1).toNat, x.2.1 + x.1, 0)
def strN (s : ByteArray) (a : Int) : ByteArray := (strV s a).1
def strE (s : ByteArray) (a : Int) : Int := (strV s a).2.1
def strC (s : ByteArray) (a : Int) : Int := (strV s a).2.2
theorem strI_V (s : ByteArray) (a : Int) : strI s (intT s a) = .tuple #[.string (strN s a), .int .i64 (strE s a), .int .i64 (strC s a)] := by
  unfold strI strN strE strC strV
  simp only
  split
  · rfl
  · split <;> rfl
theorem strU (s : ByteArray) (a : Int) (w : World) (hs : s.size ≤ maxLen) (h0 : -9223372036854775808 ≤ a) (h1 : a ≤ 9223372036854775807) :
    Calls Tryz.prog 101 #[.string s, .int .i64 a] w fun e w' => e = .returned (.tuple #[.string (strN s a), .int .i64 (strE s a), .int .i64 (strC s a)]) ∧ w = w' := by
  rw [← strI_V]
  unfold intT
  by_cases h : a < 0 ∨ (s.size : Int) < a
  · rw [if_pos h]; exact str_arg s a w hs h h0 h1
  · rw [if_neg h]
    obtain ⟨m, rfl⟩ := Int.eq_ofNat_of_zero_le (show 0 ≤ a by omega)
    exact str_any s m w hs (by omega)
theorem rstrU (s : ByteArray) (a : Int) (w : World) (hs : s.size ≤ maxLen) (h0 : -9223372036854775808 ≤ a) (h1 : a ≤ 9223372036854775807) :
    Calls Tryz.prog 75 #[.string s, .int .i64 a] w fun e w' => e = .returned (.tuple #[.string (strN s a), .int .i64 (strE s a), .int .i64 (strC s a)]) ∧ Below w.heap.size w w' := by
  rw [← strI_V]
  unfold intT
  by_cases h : a < 0 ∨ (s.size : Int) < a
  · rw [if_pos h]; exact (rstr_arg s a w hs h h0 h1).mono fun _ _ ⟨he, hw⟩ => ⟨he, by subst hw; exact Below.refl _ _⟩
  · rw [if_neg h]
    obtain ⟨m, rfl⟩ := Int.eq_ofNat_of_zero_le (show 0 ≤ a by omega)
    exact rstr_any s m w hs (by omega)
def putsT (s : ByteArray) : ByteArray := if s.size ≤ 65536 then strOfNums (enc (zig s.size)) ++ s else ⟨#[]⟩
def putsE (s : ByteArray) : Int := if s.size ≤ 65536 then 0 else 10
theorem putsU (s : ByteArray) (w : World) (hs : s.size ≤ maxLen) : Calls Tryz.prog 71 #[.string s] w fun e w' => e = .returned (.tuple #[.string (putsT s), .int .i64 (putsE s)]) ∧ Below w.heap.size w w' := by
  by_cases h : s.size ≤ 65536
  · exact (puts_yes s w h).mono fun _ _ ⟨he, hw⟩ => ⟨by rw [he, putsT, putsE, if_pos h, if_pos h]; rfl, hw⟩
  · exact (puts_no s w hs (by omega)).mono fun _ _ ⟨he, hw⟩ => ⟨by rw [he, putsT, putsE, if_neg h, if_neg h], by subst hw; exact Below.refl _ _⟩
theorem rputsU (s : ByteArray) (w : World) (hs : s.size ≤ maxLen) : Calls Tryz.prog 73 #[.string s] w fun e w' => e = .returned (.tuple #[.string (putsT s), .int .i64 (putsE s)]) ∧ Below w.heap.size w w' := by
  by_cases h : s.size ≤ 65536
  · exact (rputs_yes s w h).mono fun _ _ ⟨he, hw⟩ => ⟨by rw [he, putsT, putsE, if_pos h, if_pos h]; rfl, hw⟩
  · exact (rputs_no s w hs (by omega)).mono fun _ _ ⟨he, hw⟩ => ⟨by rw [he, putsT, putsE, if_neg h, if_neg h], by subst hw; exact Below.refl _ _⟩
end Go.Proofs.YtnckpnbecmmcpaaGreatDoor.W01
end
section
/- Plain mathematics of decoding, as the laws need it: what an encoding decodes into, wherever it stands; what is accepted is an encoding. -/
namespace Go.Proofs.YtnckpnbecmmcpaaGreatDoor.W01
open Go.RowKit

theorem data_append (a b : ByteArray) : (a ++ b).data.toList = a.data.toList ++ b.data.toList := by simp [ByteArray.data_append]
theorem get_of_drop {s : ByteArray} {a : Nat} {b : UInt8} {r : List UInt8} (h : s.data.toList.drop a = b :: r) : ∃ hp : a < s.size, s[a] = b ∧ s.data.toList.drop (a + 1) = r := by
  have hp : a < s.size := by
    refine Classical.byContradiction fun hc => ?_
    rw [List.drop_eq_nil_of_le (by simp; omega)] at h
    cases h
  refine ⟨hp, ?_⟩
  rw [drop_cons s a hp] at h
  simpa using h

theorem take7_at {s : ByteArray} : ∀ (m z f a : Nat) (r : List UInt8), z ≤ m → s.data.toList.drop a = byteL (enc z) ++ r → (enc z).length ≤ f →
    ∃ l, take7 s f a = some (z, a + (enc z).length, l) ∧ (l ≠ 0 ∨ (enc z).length = 1) ∧ (1 ≤ z → l ≠ 0) := by
  intro m
  induction m with
  | zero =>
    intro z f a r hz hd hf
    obtain rfl : z = 0 := by omega
    rw [enc_lt (by omega)] at hd hf ⊢
    obtain ⟨hp, hb, -⟩ := get_of_drop (by simpa [byteL] using hd)
    cases f with
    | zero => simp at hf
    | succ f =>
      have hb0 : s[a].toNat = 0 := by rw [hb]; rfl
      rw [take7_lo hp (by omega), hb0]
      exact ⟨0, rfl, .inr rfl, by omega⟩
  | succ m ih =>
    intro z f a r hz hd hf
    cases f with
    | zero =>
      by_cases hlt : z < 128
      · rw [enc_lt hlt] at hf; simp at hf
      · rw [enc_ge (by omega)] at hf; simp at hf
    | succ f =>
      by_cases hlt : z < 128
      · rw [enc_lt hlt] at hd ⊢
        obtain ⟨hp, hb, -⟩ := get_of_drop (by simpa [byteL] using hd)
        have hbz : s[a].toNat = z := by rw [hb]; simp; omega
        rw [take7_lo hp (by omega), hbz]
        exact ⟨z, rfl, .inr rfl, by omega⟩
      · rw [enc_ge (by omega)] at hd hf ⊢
        obtain ⟨hp, hb, hd2⟩ := get_of_drop (s := s) (a := a) (by simpa [byteL] using hd)
        have hbz : s[a].toNat = z % 128 + 128 := by
          rw [hb, UInt8.toNat_ofNat']; omega
        obtain ⟨l, h1, h2, h3⟩ := ih (z / 128) f (a + 1) r (by omega) (by rw [hd2]; simp [byteL]) (by simpa using hf)
        rw [take7_hi hp (by omega), h1, hbz]
        refine ⟨l, ?_, .inl (h3 (by omega)), fun _ => h3 (by omega)⟩
        simp
        omega

theorem enc_pos (z : Nat) : 1 ≤ (enc z).length := by
  by_cases h : z < 128
  · rw [enc_lt h]; simp
  · rw [enc_ge (by omega)]; simp
theorem encT_eq {n : Int} (h0 : -4611686018427387903 ≤ n) (h1 : n ≤ 4611686018427387903) : encT n = strOfNums (enc (zig n)) ∧ encE n = 0 := by
  unfold encT encE; rw [if_pos ⟨h0, h1⟩, if_pos ⟨h0, h1⟩]; exact ⟨rfl, rfl⟩

theorem intT_at {s : ByteArray} {a : Nat} {n : Int} {r : List UInt8} (h0 : -4611686018427387903 ≤ n) (h1 : n ≤ 4611686018427387903)
    (hd : s.data.toList.drop a = (encT n).data.toList ++ r) : intT s a = (n, ((a + (encT n).size : Nat) : Int), 0) := by
  rw [(encT_eq h0 h1).1, strOfNums_list] at hd
  rw [(encT_eq h0 h1).1, strOfNums_size]
  obtain ⟨l, h2, h3, -⟩ := take7_at (zig n) (zig n) 9 a r (Nat.le_refl _) hd (enc_zig_len h0 h1)
  have hs := take7_span h2
  unfold intT
  rw [if_neg (by omega), Int.toNat_natCast, intS_ok h2 (by rw [unzig_zig]; omega), unzig_zig]

theorem drop_append (a b : ByteArray) : (a ++ b).data.toList.drop a.size = b.data.toList := by
  rw [data_append, List.drop_append_of_le_length (by simp)]
  simp

theorem extract_add (s : ByteArray) (a b c : Nat) (hab : a ≤ b) (hbc : b ≤ c) : s.extract a b ++ s.extract b c = s.extract a c := by
  apply str_ext
  rw [data_append, Lib.extract_data, Lib.extract_data, Lib.extract_data]
  rw [show c - a = (b - a) + (c - b) by omega, List.take_add, List.drop_drop, show a + (b - a) = b by omega]

theorem strV_at {s : ByteArray} {a : Nat} {t : ByteArray} {r : List UInt8} (ht : t.size ≤ 65536) (hd : s.data.toList.drop a = (putsT t).data.toList ++ r) :
    strN s a = t ∧ strE s a = ((a + (putsT t).size : Nat) : Int) ∧ strC s a = 0 := by
  unfold putsT at hd ⊢
  rw [if_pos ht] at hd ⊢
  rw [data_append, List.append_assoc] at hd
  have hE := encT_eq (n := (t.size : Int)) (by omega) (by omega)
  have hi := intT_at (n := (t.size : Int)) (by omega) (by omega) (by rw [hE.1]; exact hd)
  rw [hE.1] at hi
  have hlen : s.size - a = (strOfNums (enc (zig t.size))).size + (t.size + r.length) := by
    have := congrArg List.length hd
    simpa using this
  have hpos : 1 ≤ (strOfNums (enc (zig t.size))).size := by rw [strOfNums_size]; exact enc_pos _
  have hsz : (strOfNums (enc (zig t.size)) ++ t).size = (strOfNums (enc (zig t.size))).size + t.size := by simp [ByteArray.size_append]
  have hV : strV s a = (t, ((a + ((strOfNums (enc (zig t.size))).size + t.size) : Nat) : Int), 0) := by
    unfold strV
    rw [hi]
    simp only
    rw [if_neg (by simp), if_neg (by omega)]
    have e1 : (((a + (strOfNums (enc (zig t.size))).size : Nat) : Int)).toNat = a + (strOfNums (enc (zig t.size))).size := by omega
    have e2 : (((a + (strOfNums (enc (zig t.size))).size : Nat) : Int) + (t.size : Int)).toNat = a + (strOfNums (enc (zig t.size))).size + t.size := by omega
    rw [e1, e2]
    refine Prod.ext ?_ (Prod.ext ?_ rfl)
    · apply str_ext
      rw [Lib.extract_data, ← List.drop_drop, hd, show ∀ x : ByteArray, x.size = x.data.toList.length from fun x => by simp]
      simp
    · simp only; omega
  unfold strN strE strC
  rw [hV, hsz]
  exact ⟨rfl, rfl, rfl⟩

theorem int_unique (s : ByteArray) (a : Nat) (h : a ≤ s.size) : (intN s a = 0 ∧ intE s a = 0 ∧ intC s a = 10) ∨
    ∃ (n : Int) (e : Nat), intN s a = n ∧ intE s a = e ∧ intC s a = 0 ∧ a < e ∧ e ≤ s.size ∧ encE n = 0 ∧ encT n = s.extract a e ∧ -4611686018427387903 ≤ n ∧ n ≤ 4611686018427387903 := by
  have hT : intT s a = intS s a := by unfold intT; rw [if_neg (by omega), Int.toNat_natCast]
  unfold intN intE intC
  rw [hT]
  cases ht : take7 s 9 a with
  | none => left; rw [intS_none ht]; exact ⟨rfl, rfl, rfl⟩
  | some x =>
    obtain ⟨z, e, l⟩ := x
    have hs := take7_span ht
    have hub := unzig_bd z (by have := hs.2.2.2.2.2; have e9 : 128 ^ 9 = 9223372036854775808 := by decide
                               omega)
    by_cases hb : (l = 0 ∧ a + 1 < e) ∨ unzig z < -4611686018427387903
    · left; rw [intS_bad ht hb]; exact ⟨rfl, rfl, rfl⟩
    · right
      rw [intS_ok ht hb]
      have hE := encT_eq (n := unzig z) (by omega) (by omega)
      refine ⟨unzig z, e, rfl, rfl, rfl, hs.1, hs.2.1, hE.2, ?_, by omega, by omega⟩
      rw [hE.1, zig_unzig, canon_ok ht (by omega)]

theorem str_unique (s : ByteArray) (a : Nat) (h : a ≤ s.size) : (strN s a = ⟨#[]⟩ ∧ strE s a = 0 ∧ strC s a = 10) ∨
    ∃ (v : ByteArray) (e : Nat), strN s a = v ∧ strE s a = e ∧ strC s a = 0 ∧ a < e ∧ e ≤ s.size ∧ putsE v = 0 ∧ putsT v = s.extract a e ∧ v.size ≤ 65536 := by
  rcases int_unique s a h with ⟨h1, h2, h3⟩ | ⟨n, e, h1, h2, h3, h4, h5, h6, h7, h8, h9⟩
  · left
    have hV : strV s a = (⟨#[]⟩, 0, 10) := by
      unfold strV
      unfold intN at h1; unfold intE at h2; unfold intC at h3
      simp only
      rw [if_pos (by rw [h3]; decide), h3]
    unfold strN strE strC; rw [hV]; exact ⟨rfl, rfl, rfl⟩
  · unfold intN at h1; unfold intE at h2; unfold intC at h3
    by_cases hb : n < 0 ∨ 65536 < n ∨ (s.size : Int) - e < n
    · left
      have hV : strV s a = (⟨#[]⟩, 0, 10) := by
        unfold strV
        simp only
        rw [if_neg (by rw [h3]; decide), if_pos (by rw [h1, h2]; exact hb)]
      unfold strN strE strC; rw [hV]; exact ⟨rfl, rfl, rfl⟩
    · right
      obtain ⟨m, rfl⟩ := Int.eq_ofNat_of_zero_le (show 0 ≤ n by omega)
      have hV : strV s a = (s.extract e (e + m), ((e + m : Nat) : Int), 0) := by
        unfold strV
        simp only
        rw [if_neg (by rw [h3]; decide), if_neg (by rw [h1, h2]; exact hb), h1, h2]
        rfl
      have hsz : (s.extract e (e + m)).size = m := by rw [ByteArray.size_extract]; omega
      refine ⟨s.extract e (e + m), e + m, by unfold strN; rw [hV], by unfold strE; rw [hV], by unfold strC; rw [hV], by omega, by omega, ?_, ?_, by omega⟩
      · unfold putsE; rw [if_pos (by omega)]
      · unfold putsT
        rw [if_pos (by omega), hsz, ← (encT_eq (n := (m : Int)) (by omega) (by omega)).1, h7]
        exact extract_add s a e (e + m) (by omega) (by omega)
end Go.Proofs.YtnckpnbecmmcpaaGreatDoor.W01
end
