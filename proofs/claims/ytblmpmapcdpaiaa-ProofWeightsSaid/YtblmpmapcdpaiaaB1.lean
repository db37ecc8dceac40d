/- Texts LawKit, Read, Plain, Kit, View, Bits, RangeM in one. -/
import Derived.WalkKit
import Derived.ProofKit
import Derived.OpenShut
import Derived.Carry
import Derived.Deep.DeepHandedRow
import Derived.Lib.LaidTab
import Derived.Below
import Derived.Laws.BytesArg
import Derived.Lib.Hide
import Derived.Laws.BitsLemmas
import Derived.Laws.Bits64b
import Derived.RangeFuncNested
import Derived.RangeFuncBound
import Derived.RangeFuncCalls
import Derived.RangeFuncLeaves
import Derived.RangeFuncBox
import Derived.Shelf.Abstract
import Derived.Shelf.RegionOpen
import Derived.OwnWalkIn
import Derived.TacticsInMore
import Derived.LoopNIn
import Derived.LoopIn
section
/- The frame of a law's proof: whatever is read behind the call as it was before, the law's answer 'true'. Over any program. -/
namespace Go.Proofs.Ytblmpmapcdpaiaa
open Go.ChangeShapes Go.WideShapes Go.ChangeAt Go.RowKit
section
variable {H : Type} {enc : TypeId × Value → H} {P : Program}

theorem trodAll_stays (hl : laidOutB P = true) {W W' : World} (hb : Below W.heap.size W W') : ∀ (ts : List TypeId) (vs : List Value) (ds : List (DataW H)) (ps : List MemPlace),
    (ts.all fun t => P.readableRec t && decide (t < P.types.size)) = true → DataW.TrodAll enc P W 0 (fun _ => true) true ts vs ds ps → (∀ x ∈ ps, x.block < W.heap.size) →
    DataW.TrodAll enc P W' 0 (fun b => decide (b < W.heap.size)) true ts vs ds ps := by
  intro ts
  induction ts with
  | nil =>
    intro vs ds ps _ h _
    obtain ⟨rfl, rfl, rfl⟩ := trodAll_nil h
    exact trodAll_mk0
  | cons t ts ih =>
    intro vs ds ps ht h hp
    obtain ⟨v0, vs0, d0, ds0, p0, q0, rfl, rfl, rfl, h0, r0⟩ := trodAll_cons h
    simp only [List.all_cons, Bool.and_eq_true] at ht
    refine trodAll_cons_mk (Below.trod hl ht.1.1 (of_decide_eq_true ht.1.2) h0 hb (fun x hx => hp x (by simp [hx]))) (ih _ _ _ ?_ r0 (fun x hx => hp x (by simp [hx])))
    simpa using ht.2

theorem law_post {f : Func} {s : ChangeSpec} {W W' : World} {args : Array Value} {ds : List (DataW H)} {before : List MemPlace} {tb : TypeId}
    (hl : laidOutB P = true) (hts : (f.params.toList.all fun t => P.readableRec t && decide (t < P.types.size)) = true) (hv : s.vars = [])
    (hf : f.resultTypes = #[tb]) (hub : P.underlying tb = some .bool)
    (h1 : (s.fn H (ds ++ [])).results = [.lit (.bool true)]) (h2 : (s.fn H (ds ++ [])).args = ds) (h3 : (s.fn H (ds ++ [])).vars = [])
    (hW : DataW.Whole enc P f.params.toList s.vars false W args.toList ds [] before) (hb : Below W.heap.size W W') :
    s.post enc P f false true false false W args (.bool true) W' := by
  have hlt : ∀ p ∈ before, p.block < W.heap.size := fun p hp => hW.lt p hp
  have hW2 := hW
  obtain ⟨p, q, hA, hV, rfl, hfz, hnd⟩ := hW
  rw [hv] at hV
  obtain ⟨-, rfl⟩ := trodVars_none hV
  refine ⟨ds, [], _, [], p, [], hW2, ?_, ?_, ?_, World.keptBut_mono (fun x hx => ⟨hx, .inr (.inl (by simpa using hx))⟩) (hb.frame (· ∈ p ++ [])), fun h => by cases h⟩
  · rw [h1, hf]
    exact trodAll_cons_mk (shut_bool hub _) trodAll_mk0
  · rw [h2]
    exact trodAll_stays hl hb _ _ _ _ hts hA (fun x hx => hlt x (by simp [hx]))
  · rw [h3, hv]; trivial
end
end Go.Proofs.Ytblmpmapcdpaiaa
end
section
/- What an argument reads as: arrays and slices of cells, opened. Over any program. -/
namespace Go.Proofs.Ytblmpmapcdpaiaa
open Go.ChangeShapes Go.WideShapes Go.ChangeAt Go.RowKit
section
variable {H : Type} {enc : TypeId × Value → H} {P : Program}

theorem okWide_array {w : World} {r : Reach} {base n : Nat} {t e : TypeId} {v : Value} (ht : P.underlying t = some (.array n e)) (h : Value.okWide P w r base t v) : ∃ cs, v = .agg cs ∧ cs.size = P.cellsOf t := by
  simp only [Value.okWide, ht] at h
  obtain ⟨cs, h1, h2, _⟩ := h
  exact ⟨cs, h1, h2⟩

/-- An array of cells each of which reads as one of a family. -/
theorem arr_cells {α : Type} (f : α → Value) (Ok : α → Prop) {w : World} {r : Reach} {b0 base n : Nat} {spare : Nat → Bool} {held : Bool} {t e : TypeId} {v : Value} {d : DataW H} {p : List MemPlace}
    (ht : P.underlying t = some (.array n e)) (hce : P.cellsOf e = 1) (hct : P.cellsOf t = n)
    (hinv : ∀ (m : Nat) (c : Value) (x : DataW H × List MemPlace), DataW.trod enc P w base spare held m e [c] = some x → ∃ y, c = f y ∧ Ok y)
    (hv : Value.okWide P w r b0 t v) (h : DataW.Trod enc P w base spare held t v d p) : ∃ l : List α, v = .agg (l.map f).toArray ∧ l.length = n ∧ ∀ y ∈ l, Ok y := by
  obtain ⟨cs, rfl, hsz⟩ := okWide_array ht hv
  obtain ⟨fuel, hf⟩ := h
  obtain ⟨xs, m, rfl, -, hl, hxl, hx⟩ := DataW.trod_array ht hf
  have hcs : ∀ (l : List Value), l.length ≤ n → (∀ i, i < l.length → ∃ (m : Nat) (x : DataW H × List MemPlace), DataW.trod enc P w base spare held m e ((l.drop i).take 1) = some x) → ∃ ys : List α, l = ys.map f ∧ ∀ y ∈ ys, Ok y := by
    intro l
    induction l with
    | nil => intro _ _; exact ⟨[], rfl, by simp⟩
    | cons c l ih =>
      intro hl2 hall
      obtain ⟨m0, x0, h0⟩ := hall 0 (by simp)
      obtain ⟨y, rfl, hy⟩ := hinv m0 c x0 (by simpa using h0)
      obtain ⟨ys, rfl, hys⟩ := ih (by simp at hl2; omega) (fun i hi => by
        have := hall (i + 1) (by simp; omega)
        simpa using this)
      exact ⟨y :: ys, rfl, by intro z hz; rcases List.mem_cons.1 hz with rfl | hz; exact hy; exact hys z hz⟩
  have hlen : cs.toList.length = n := by simp [hsz, hct]
  obtain ⟨ys, hys, hok⟩ := hcs cs.toList (by omega) (fun i hi => by
    have := hx i (by omega)
    rw [hce, Nat.mul_one] at this
    simp only [Value.cells] at this
    obtain ⟨x, hx2⟩ : ∃ x, xs[i]? = some x := ⟨xs[i]'(by omega), List.getElem?_eq_getElem (by omega)⟩
    exact ⟨m, x, by rw [this, hx2]⟩)
  refine ⟨ys, ?_, ?_, hok⟩
  · rw [← hys]
  · rw [← hlen, hys, List.length_map]

theorem inv_string {w : World} {base : Nat} {spare : Nat → Bool} {held : Bool} {e : TypeId} (he : P.underlying e = some .string) :
    ∀ (m : Nat) (c : Value) (x : DataW H × List MemPlace), DataW.trod enc P w base spare held m e [c] = some x → ∃ y : ByteArray, c = .string y ∧ y.size ≤ maxLen := fun m c x h => by
  obtain ⟨s, h1, _, h3⟩ := DataW.trod_string he h
  exact ⟨s, by simpa using h1, h3⟩
theorem inv_int {w : World} {base : Nat} {spare : Nat → Bool} {held : Bool} {e : TypeId} {k : IntKind} (he : P.underlying e = some (.int k)) :
    ∀ (m : Nat) (c : Value) (x : DataW H × List MemPlace), DataW.trod enc P w base spare held m e [c] = some x → ∃ y : Int, c = .int k y ∧ (Lit.int k y).wf = true := fun m c x h => by
  obtain ⟨s, h1, _, h3⟩ := DataW.trod_int he h
  exact ⟨s, by simpa using h1, h3⟩
theorem list_two {α : Type} {l : List α} (h : l.length = 2) : ∃ a b, l = [a, b] := by
  match l, h with
  | [a, b], _ => exact ⟨a, b, rfl⟩

/-- A slice of cells: the value, and what its cells hold. -/
def SliceOf {α : Type} (f : α → Value) (w : World) (v : Value) (l : List α) : Prop :=
  ∃ (a : Option Addr) (cap : Nat), v = .slice a l.length cap ∧ l.length ≤ cap ∧ cap ≤ maxLen ∧
    (0 < l.length → ∃ b off, a = some ⟨b, off, none⟩ ∧ ∀ j y, l[j]? = some y → w.cell? ⟨b, off + j, none⟩ = some (f y))
theorem SliceOf.below {α : Type} {f : α → Value} {w w' : World} {v : Value} {l : List α} (h : SliceOf f w v l) (hb : Below w.heap.size w w') : SliceOf f w' v l := by
  obtain ⟨a, cap, h1, h2, h3, h4⟩ := h
  refine ⟨a, cap, h1, h2, h3, fun hl => ?_⟩
  obtain ⟨b, off, rfl, h5⟩ := h4 hl
  exact ⟨b, off, rfl, fun j y hj => (hb.cell (World.block_lt_of_cell? _ _ (h5 j y hj))).trans (h5 j y hj)⟩

theorem mapM_len {α β : Type} {f : α → Option β} : ∀ {l : List α} {r : List β}, l.mapM f = some r → r.length = l.length
  | [], r, h => by simp at h; simp [h]
  | x :: l, r, h => by
    simp only [List.mapM_cons, Option.bind_eq_bind, Option.bind_eq_some_iff, Option.pure_def, Option.some.injEq] at h
    obtain ⟨b, hb, r', hr', rfl⟩ := h
    simp [mapM_len hr']
theorem cells_one {w : World} {a : Addr} {cs : List Value} (h : w.cells? 0 a 1 = some cs) : ∃ c, cs = [c] ∧ w.cell? a = some c := by
  unfold World.cells? at h
  rw [if_pos (Nat.zero_le _)] at h
  obtain ⟨c, hc, hx⟩ := Lib.mapM_at h 0 0 rfl
  have hl : cs.length = 1 := by have := mapM_len h; simpa using this
  match cs, hl with
  | [c'], _ =>
    simp at hc
    subst hc
    exact ⟨c', rfl, by simpa [Addr.add] using hx⟩
theorem choose_list {α : Type} (R : Nat → α → Prop) : ∀ (n : Nat), (∀ i, i < n → ∃ y, R i y) → ∃ l : List α, l.length = n ∧ ∀ j y, l[j]? = some y → R j y := by
  intro n
  induction n with
  | zero => intro _; exact ⟨[], rfl, by simp⟩
  | succ n ih =>
    intro h
    obtain ⟨l, h1, h2⟩ := ih (fun i hi => h i (by omega))
    obtain ⟨y, hy⟩ := h n (by omega)
    refine ⟨l ++ [y], by simp [h1], fun j z hj => ?_⟩
    by_cases hjn : j < l.length
    · rw [List.getElem?_append_left hjn] at hj; exact h2 j z hj
    · rw [List.getElem?_append_right (by omega)] at hj
      have hj0 : j - l.length = 0 := by
        refine Classical.byContradiction fun hc => ?_
        rw [List.getElem?_eq_none (by simp; omega)] at hj; cases hj
      rw [hj0] at hj
      simp at hj; subst hj
      obtain rfl : j = n := by omega
      exact hy
theorem spot_none {w : World} {a : Addr} {v : Value} (h : w.cell? a = some v) : a.spot = none := by
  unfold World.cell? at h
  split at h
  · split at h
    · cases h
    · rename_i hs; simpa using hs
  · cases h
theorem slice_cells {α : Type} (f : α → Value) (Ok : α → Prop) {w : World} {r : Reach} {b0 : Nat} {spare : Nat → Bool} {held : Bool} {t e : TypeId} {v : Value} {d : DataW H} {p : List MemPlace}
    (ht : P.underlying t = some (.slice e)) (hce : P.cellsOf e = 1)
    (hinv : ∀ (m : Nat) (c : Value) (x : DataW H × List MemPlace), DataW.trod enc P w 0 spare held m e [c] = some x → ∃ y, c = f y ∧ Ok y)
    (hv : Value.okWide P w r b0 t v) (h : DataW.Trod enc P w 0 spare held t v d p) : ∃ l : List α, SliceOf f w v l ∧ ∀ y ∈ l, Ok y := by
  obtain ⟨a, len, cap, rfl⟩ := okWide_slice ht hv
  obtain ⟨fuel, hf⟩ := h
  cases fuel with
  | zero => simp [DataW.trod] at hf
  | succ fuel =>
    unfold DataW.trod at hf
    simp only [ht, Value.cells] at hf
    cases a with
    | none =>
      cases len with
      | zero =>
        cases cap with
        | zero => exact ⟨[], ⟨none, 0, rfl, Nat.le_refl _, Nat.zero_le _, fun h => absurd h (Nat.lt_irrefl 0)⟩, by simp⟩
        | succ c => simp at hf
      | succ l => simp at hf
    | some a =>
      simp only [hce, Nat.mul_one] at hf
      split at hf
      · rename_i hc
        obtain ⟨elems, he, -⟩ := Option.bind_eq_some_iff.1 hf
        have hcell : ∀ i, i < len → ∃ y, w.cell? (a.add i) = some (f y) ∧ Ok y := by
          intro i hi
          obtain ⟨x, -, hx⟩ := Lib.mapM_at he i i (by simp [hi])
          obtain ⟨cs, hcs, hx3⟩ := Option.bind_eq_some_iff.1 hx
          obtain ⟨c, rfl, hcc⟩ := cells_one hcs
          obtain ⟨y, rfl, hy⟩ := hinv _ _ _ hx3
          exact ⟨y, hcc, hy⟩
        obtain ⟨l, hl1, hl2⟩ := choose_list (fun i y => w.cell? (a.add i) = some (f y) ∧ Ok y) len hcell
        subst hl1
        refine ⟨l, ⟨some a, cap, rfl, hc.2.1, hc.2.2, fun h0 => ⟨a.block, a.off, ?_, fun j y hj => ?_⟩⟩, fun y hy => ?_⟩
        · have := spot_none (hl2 0 (l[0]'h0) (List.getElem?_eq_getElem h0)).1
          obtain ⟨b, o, sp⟩ := a
          simp [Addr.add] at this
          rw [this]
        · have h0 : 0 < l.length := by
            refine Classical.byContradiction fun hc => ?_
            rw [List.getElem?_eq_none (by omega)] at hj; cases hj
          have h1 := (hl2 j y hj).1
          have hj0 := spot_none (hl2 0 (l[0]'h0) (List.getElem?_eq_getElem h0)).1
          rw [← h1]
          obtain ⟨b, o, sp⟩ := a
          simp [Addr.add] at hj0
          subst hj0
          unfold Addr.add
          split
          · rename_i hj1; subst hj1; rfl
          · rfl
        · obtain ⟨j, hj, rfl⟩ := List.getElem_of_mem hy
          exact (hl2 j _ (List.getElem?_eq_getElem hj)).2
      · cases hf
end
end Go.Proofs.Ytblmpmapcdpaiaa
end
section
/- Plain mathematics of chapter 23: programs, choices, sums, the best choice, the plain proof. No Go program in sight. -/
namespace Go.Proofs.Ytblmpmapcdpaiaa

structure RowD where
  kind : Int
  a : Int
  b : Int
  at_ : Int
  coef : List Int
  most : Int
structure ProgD where
  vars : Int
  rows : List RowD
  gain : List Int
structure WtD where
  row : Int
  times : Int
structure StepD where
  var : Int
  no : Int
  yes : Int
  wts : List WtD

def coefOK (l : List Int) : Bool := l.all fun n => decide (-1000000000 ≤ n) && decide (n ≤ 1000000000)
theorem coefOK_get {l : List Int} (h : coefOK l = true) (k : Nat) : -1000000000 ≤ l.getD k 0 ∧ l.getD k 0 ≤ 1000000000 := by
  rw [List.getD_eq_getElem?_getD]
  by_cases hk : k < l.length
  · rw [List.getElem?_eq_getElem hk]
    have := List.all_eq_true.1 h l[k] (List.getElem_mem hk)
    simpa using this
  · rw [List.getElem?_eq_none (by omega)]; decide
def mostOK (m : Int) : Bool := decide (-1000000000000 ≤ m) && decide (m ≤ 1000000000000)
def rightB (r : RowD) (n : Int) : Bool := decide ((r.coef.length : Int) = n) && coefOK r.coef && mostOK r.most
def validB (p : ProgD) : Bool := decide (0 ≤ p.vars) && decide (p.vars ≤ 12) && decide (p.rows.length ≤ 300) && p.rows.all (fun r => rightB r p.vars) && decide ((p.gain.length : Int) = p.vars) && coefOK p.gain

def bitOn (set i : Nat) : Bool := decide (set / 2 ^ i % 2 = 1)
def chK (l : List Int) (set : Nat) : Nat → Int
  | 0 => 0
  | k + 1 => chK l set k + if bitOn set k then l.getD k 0 else 0
def ch (l : List Int) (set : Nat) : Int := chK l set l.length
theorem chK_bd {l : List Int} {M : Int} (hM : 0 ≤ M) (h : ∀ k, -M ≤ l.getD k 0 ∧ l.getD k 0 ≤ M) (set : Nat) : ∀ k : Nat, -(M * k) ≤ chK l set k ∧ chK l set k ≤ M * k := by
  intro k
  induction k with
  | zero => simp [chK]
  | succ k ih =>
    have := h k
    simp only [chK]
    have e : M * ((k + 1 : Nat) : Int) = M * k + M := by rw [Int.natCast_succ, Int.mul_add, Int.mul_one]
    rw [e]
    split <;> omega
/-- The least sum when the first d things are decided: over the first k coefficients. -/
def lsK (l : List Int) (d set : Nat) : Nat → Int
  | 0 => 0
  | k + 1 => lsK l d set k + if k < d then (if bitOn set k then l.getD k 0 else 0) else min 0 (l.getD k 0)
def ls (l : List Int) (d set : Nat) : Int := lsK l d set l.length
theorem lsK_lo (l : List Int) (d set : Nat) : ∀ k, k ≤ d → lsK l d set k = chK l set k := by
  intro k
  induction k with
  | zero => intro _; rfl
  | succ k ih => intro h; simp only [lsK, chK]; rw [ih (by omega), if_pos (by omega)]
theorem lsK_bd {l : List Int} {M : Int} (hM : 0 ≤ M) (h : ∀ k, -M ≤ l.getD k 0 ∧ l.getD k 0 ≤ M) (d set : Nat) : ∀ k : Nat, -(M * k) ≤ lsK l d set k ∧ lsK l d set k ≤ M * k := by
  intro k
  induction k with
  | zero => simp [lsK]
  | succ k ih =>
    have := h k
    simp only [lsK]
    have e : M * ((k + 1 : Nat) : Int) = M * k + M := by rw [Int.natCast_succ, Int.mul_add, Int.mul_one]
    rw [e]
    split
    · split <;> omega
    · omega
theorem chK_congr {l m : List Int} {s t : Nat} : ∀ k, (∀ i, i < k → l.getD i 0 = m.getD i 0 ∧ bitOn s i = bitOn t i) → chK l s k = chK m t k := by
  intro k
  induction k with
  | zero => intro _; rfl
  | succ k ih =>
    intro h
    simp only [chK]
    rw [ih (fun i hi => h i (by omega)), (h k (by omega)).1, (h k (by omega)).2]

def keptB (r : RowD) (set : Nat) : Bool := decide (ch r.coef set ≤ r.most)
def keepsB (rows : List RowD) (set : Nat) : Bool := rows.all fun r => keptB r set
def allS (p : ProgD) : List Nat := (List.range (2 ^ p.vars.toNat)).filter (keepsB p.rows)
def better (gain : List Int) (b : Option (Nat × Int)) (s : Nat) : Option (Nat × Int) :=
  match b with
  | none => some (s, ch gain s)
  | some x => if x.2 < ch gain s then some (s, ch gain s) else some x
def bestS (p : ProgD) : Option (Nat × Int) := (allS p).foldl (better p.gain) none
def goalS (gain : List Int) (g : Int) : RowD := { kind := 0, a := 0, b := 0, at_ := 0, coef := gain.map (fun n => -n), most := -(g + 1) }
/-- The first row whose least sum is too great. -/
def badAt (rows : List RowD) (d set : Nat) : Option Nat := rows.findIdx? fun r => decide (r.most < ls r.coef d set)
def growS (rows : List RowD) : Nat → Nat → Nat → Nat → List StepD
  | fuel, d, set, k =>
    match badAt rows d set with
    | some i => [{ var := -1, no := 0, yes := 0, wts := [{ row := i, times := 1 }] }]
    | none =>
      match fuel with
      | 0 => []
      | f + 1 =>
        { var := d, no := (k + 1 : Nat), yes := (k + 1 + (growS rows f (d + 1) set (k + 1)).length : Nat), wts := [] } ::
          (growS rows f (d + 1) set (k + 1) ++ growS rows f (d + 1) (set + 2 ^ d) (k + 1 + (growS rows f (d + 1) set (k + 1)).length))
def rowsS (p : ProgD) : List RowD := match bestS p with | none => p.rows | some x => p.rows ++ [goalS p.gain x.2]
def proofS (p : ProgD) : List StepD := growS (rowsS p) p.vars.toNat 0 0 0

/-! ### The last of the greatest from behind is the first of the greatest from the front -/
def betterBack (gain : List Int) (s : Nat) (b : Option (Nat × Int)) : Option (Nat × Int) :=
  match b with
  | none => some (s, ch gain s)
  | some x => if x.2 ≤ ch gain s then some (s, ch gain s) else some x
def joinB (gain : List Int) (b c : Option (Nat × Int)) : Option (Nat × Int) :=
  match b, c with
  | none, c => c
  | b, none => b
  | some x, some y => if x.2 < y.2 then some y else some x
theorem foldl_join (gain : List Int) : ∀ (l : List Nat) (b : Option (Nat × Int)), l.foldl (better gain) b = joinB gain b (l.foldr (betterBack gain) none) := by
  intro l
  induction l with
  | nil => intro b; cases b <;> rfl
  | cons s l ih =>
    intro b
    simp only [List.foldl_cons, List.foldr_cons]
    rw [ih]
    generalize l.foldr (betterBack gain) none = c
    cases b with
    | none =>
      cases c with
      | none => rfl
      | some y =>
        simp only [better, joinB, betterBack]
        by_cases h : y.2 ≤ ch gain s
        · rw [if_pos h, if_neg (by omega)]
        · rw [if_neg h, if_pos (by omega)]
    | some x =>
      cases c with
      | none =>
        simp only [better, joinB, betterBack]
        by_cases h : x.2 < ch gain s
        · rw [if_pos h]
        · rw [if_neg h]
      | some y =>
        simp only [better, joinB, betterBack]
        by_cases h : x.2 < ch gain s
        · rw [if_pos h]
          by_cases h2 : y.2 ≤ ch gain s
          · rw [if_pos h2]; simp only; rw [if_neg (by omega), if_pos h]
          · rw [if_neg h2]; simp only; rw [if_pos (by omega), if_pos (by omega)]
        · rw [if_neg h]
          by_cases h2 : y.2 ≤ ch gain s
          · rw [if_pos h2]; simp only; rw [if_neg (by omega), if_neg h]
          · rw [if_neg h2]
theorem bestS_back (p : ProgD) : bestS p = (allS p).foldr (betterBack p.gain) none := by
  unfold bestS; rw [foldl_join]; rfl
end Go.Proofs.Ytblmpmapcdpaiaa
end
section
/- Small laws over any program. -/
namespace Go.Proofs.Ytblmpmapcdpaiaa
open Go.RowKit

theorem retEq {v v' : Value} (h : v = v') : Ending.returned v = .returned v' := by rw [h]
theorem intEq {k : IntKind} {a b : Int} (h : a = b) : Value.int k a = .int k b := by rw [h]

theorem add_zero_off (g i : Nat) : (⟨g, 0, none⟩ : Addr).add i = ⟨g, i, none⟩ := by
  unfold Addr.add; split <;> simp_all

/-- A row of bytes of the call's own, as a string. -/
theorem run_convert_owned {P : Program} {w : World} {base e n : Nat} {v : Value} {xs : List Int} (src dst : TypeId) (hs : P.underlying src = some (.slice e)) (he : P.underlying e = some (.int .u8)) (hd : P.underlying dst = some .string)
    (h : w.ownsRow base e 1 v n (xs.map (Value.int .u8))) : (convert src dst v).run P w = .ok (.string (strOfNums xs)) w := by
  have hl := h.1
  rcases h.2 with ⟨rfl, hn⟩ | ⟨g, cap, cur, rfl, hg, hh, hnc, hc, hcs, ht⟩
  · have : xs = [] := by simpa [hn] using hl
    subst this
    have := run_convert_bytes_nil (P := P) (w := w) src e hs he 0 0 dst hd
    rw [this]; rfl
  · refine run_convert_bytes_arg (P := P) w src e hs he g 0 n cap xs (by simpa using hl) (fun i hi => ?_) dst hd
    have hc2 := h.cells rfl i (.int .u8 (xs.getD i 0)) (by
      have : i < xs.length := by simp at hl; omega
      simp [List.getElem?_map, List.getElem?_eq_getElem this, List.getD])
    rw [add_zero_off] at hc2
    simpa using hc2

/-- What an append asks of a slice type and its element type. -/
structure ElemOK (P : Program) (t e : TypeId) (z : Value) (size bytes : Nat) : Prop where
  und : P.underlying t = some (.slice e)
  info : (P.info? e).map (fun i => (i.zero, i.size, i.bytes)) = some (some z, size, bytes)
  zs : z.cells.size = size
  pos : 0 < size

theorem grown_below {w0 w' : World} {base e size n : Nat} {v : Value} {xs : List Value} {o : Obj} (hown : w0.ownsRow base e size v n xs) (hg : (w0.alloc o).grownBy w' v.ownBlock) (hbase : base ≤ w0.heap.size) : Below base w0 w' :=
  ((Below.refl _ _).alloc hbase o).grown hg (by simp; omega) (fun k hk => (hown.lt k hk).1)

/-- 'out = append(out, x)', x of one cell. -/
theorem wpList_push {P : Program} {ops : Array Oper} {rest : List Oper} {o : Oper} {a : Act} {Q : Exit → Act → World → Prop} {t e : TypeId} {z : Value} {bytes : Nat} {w0 : World} {u : Value}
    (E : ElemOK P t e z 1 bytes) (hgd : o.guard = none) (s x : Operand)
    (ho : o.op = .call { callee := .builtin .append, args := #[s, x], argTypes := #[t, t] })
    (base : Nat) {v : Value} {n : Nat} {xs : List Value} (hown : w0.ownsRow base e 1 v n xs) (hs : a.eval s = v) (hx : a.eval x = .slice (some ⟨w0.heap.size, 0, none⟩) 1 1)
    (h1 : u.oneCell' = true) (h63 : n + 1 ≤ maxLen) (hbytes : (n + 1) * bytes ≤ 140737488355328) (hbase : base ≤ w0.heap.size)
    (h : ∀ v' w', w'.ownsRow base e 1 v' (n + 1) (xs ++ [u]) → (w0.alloc (.cells #[u] e)).grownBy w' v.ownBlock → Below base w0 w' → wpList P ops Q rest (a.put o.dst v') w') :
    wpList P ops Q (o :: rest) a (w0.alloc (.cells #[u] e)) := by
  obtain ⟨i, hi, hz0, hz1, hz2⟩ := info_parts E.info
  refine wpList_append_own _ hgd s x t ho base e i z 1 bytes E.und hi hz0 hz1 hz2 E.zs E.pos v n xs hs (hown.alloc _) ⟨w0.heap.size, 0, none⟩ 1 1 [u] hx rfl ?_ ?_ h63 hbytes (by simp; omega) ?_
  · intro j y hj
    cases j with
    | zero =>
      simp at hj; subst hj
      rw [add_zero_off, World.cell?_alloc_at _ _ _ _ rfl]; rfl
    | succ j => simp at hj
  · intro y hy; simp at hy; subst hy; exact h1
  · intro v' w' ho' hg _
    exact h v' w' ho' hg (grown_below hown hg hbase)
end Go.Proofs.Ytblmpmapcdpaiaa
end
section
/- How rows, programs, steps lie in memory: views that whatever lies above the heap's size leaves as they are. -/
namespace Go.Proofs.Ytblmpmapcdpaiaa
open Go.RowKit

/-- A slice of elements of n cells each; R says what an element's cells are. -/
def StructsOf {α : Type} (n : Nat) (R : World → List Value → α → Prop) (w : World) (v : Value) (l : List α) : Prop :=
  ∃ (a : Option Addr) (cap : Nat), v = .slice a l.length cap ∧ l.length ≤ cap ∧ cap ≤ maxLen ∧
    (0 < l.length → ∃ b off, a = some ⟨b, off, none⟩ ∧ ∀ j y, l[j]? = some y → ∃ cs, cs.length = n ∧ (∀ i c, cs[i]? = some c → w.cell? ⟨b, off + j * n + i, none⟩ = some c) ∧ R w cs y)
theorem StructsOf.below {α : Type} {n : Nat} {R : World → List Value → α → Prop} (hR : ∀ (w w' : World) (cs : List Value) (y : α), R w cs y → Below w.heap.size w w' → R w' cs y)
    {w w' : World} {v : Value} {l : List α} (h : StructsOf n R w v l) (hb : Below w.heap.size w w') : StructsOf n R w' v l := by
  obtain ⟨a, cap, h1, h2, h3, h4⟩ := h
  refine ⟨a, cap, h1, h2, h3, fun hl => ?_⟩
  obtain ⟨b, off, rfl, h5⟩ := h4 hl
  refine ⟨b, off, rfl, fun j y hj => ?_⟩
  obtain ⟨cs, c1, c2, c3⟩ := h5 j y hj
  exact ⟨cs, c1, fun i c hc => (hb.cell (World.block_lt_of_cell? _ _ (c2 i c hc))).trans (c2 i c hc), hR _ _ _ _ c3 hb⟩

abbrev IntsAt (w : World) (v : Value) (l : List Int) : Prop := SliceOf (Value.int .i64) w v l
def RowCs (w : World) (cs : List Value) (r : RowD) : Prop := ∃ vc, cs = [.int .i64 r.kind, .int .i64 r.a, .int .i64 r.b, .int .i64 r.at_, vc, .int .i64 r.most] ∧ IntsAt w vc r.coef
theorem RowCs.below {w w' : World} {cs : List Value} {r : RowD} (h : RowCs w cs r) (hb : Below w.heap.size w w') : RowCs w' cs r := by
  obtain ⟨vc, h1, h2⟩ := h
  exact ⟨vc, h1, h2.below hb⟩
def RowsAt (w : World) (v : Value) (l : List RowD) : Prop := StructsOf 6 RowCs w v l
theorem RowsAt.below {w w' : World} {v : Value} {l : List RowD} (h : RowsAt w v l) (hb : Below w.heap.size w w') : RowsAt w' v l := StructsOf.below (R := RowCs) (fun _ _ _ _ h hb => h.below hb) h hb
/-- A row as a value. -/
def RowV (w : World) (v : Value) (r : RowD) : Prop := ∃ vc, v = .agg #[.int .i64 r.kind, .int .i64 r.a, .int .i64 r.b, .int .i64 r.at_, vc, .int .i64 r.most] ∧ IntsAt w vc r.coef
theorem RowV.below {w w' : World} {v : Value} {r : RowD} (h : RowV w v r) (hb : Below w.heap.size w w') : RowV w' v r := by
  obtain ⟨vc, h1, h2⟩ := h
  exact ⟨vc, h1, h2.below hb⟩
/-- A program as a value. -/
def ProgV (w : World) (v : Value) (p : ProgD) : Prop := ∃ vr vg, v = .agg #[.int .i64 p.vars, vr, vg] ∧ RowsAt w vr p.rows ∧ IntsAt w vg p.gain
theorem ProgV.below {w w' : World} {v : Value} {p : ProgD} (h : ProgV w v p) (hb : Below w.heap.size w w') : ProgV w' v p := by
  obtain ⟨vr, vg, h1, h2, h3⟩ := h
  exact ⟨vr, vg, h1, h2.below hb, h3.below hb⟩

/-- The element of a slice of rows at a place: its six cells. -/
theorem RowsAt.get {w : World} {a : Option Addr} {len cap : Nat} {l : List RowD} (h : RowsAt w (.slice a len cap) l) {k : Nat} {r : RowD} (hk : l[k]? = some r) :
    ∃ b off vc, a = some ⟨b, off, none⟩ ∧ w.cell? ⟨b, off + k * 6, none⟩ = some (.int .i64 r.kind) ∧ w.cell? ⟨b, off + k * 6 + 1, none⟩ = some (.int .i64 r.a) ∧ w.cell? ⟨b, off + k * 6 + 2, none⟩ = some (.int .i64 r.b) ∧
      w.cell? ⟨b, off + k * 6 + 3, none⟩ = some (.int .i64 r.at_) ∧ w.cell? ⟨b, off + k * 6 + 4, none⟩ = some vc ∧ w.cell? ⟨b, off + k * 6 + 5, none⟩ = some (.int .i64 r.most) ∧ IntsAt w vc r.coef := by
  obtain ⟨a', cap', e, h2, h3, h4⟩ := h
  have hl : 0 < l.length := by
    refine Classical.byContradiction fun hc => ?_
    rw [List.getElem?_eq_none (by omega)] at hk; cases hk
  obtain ⟨b, off, rfl, h5⟩ := h4 hl
  obtain ⟨cs, c1, c2, vc, rfl, c3⟩ := h5 k r hk
  cases e
  exact ⟨b, off, vc, rfl, c2 0 _ rfl, c2 1 _ rfl, c2 2 _ rfl, c2 3 _ rfl, c2 4 _ rfl, c2 5 _ rfl, c3⟩
theorem SliceOf.get {α : Type} {f : α → Value} {w : World} {a : Option Addr} {len cap : Nat} {l : List α} (h : SliceOf f w (.slice a len cap) l) {k : Nat} {y : α} (hk : l[k]? = some y) :
    ∃ b off, a = some ⟨b, off, none⟩ ∧ w.cell? ⟨b, off + k, none⟩ = some (f y) := by
  obtain ⟨a', cap', e, h2, h3, h4⟩ := h
  have hl : 0 < l.length := by
    refine Classical.byContradiction fun hc => ?_
    rw [List.getElem?_eq_none (by omega)] at hk; cases hk
  obtain ⟨b, off, rfl, h5⟩ := h4 hl
  cases e
  exact ⟨b, off, rfl, h5 k y hk⟩
theorem getD_some {α : Type} {l : List α} {k : Nat} (d : α) (h : k < l.length) : l[k]? = some (l.getD k d) := by
  rw [List.getD_eq_getElem?_getD, List.getElem?_eq_getElem h]; rfl
/-- A slice value of that length. -/
def SlicesLen (v : Value) (n : Nat) : Prop := ∃ (a : Option Addr) (cap : Nat), v = .slice a n cap ∧ n ≤ cap ∧ cap ≤ maxLen
theorem StructsOf.len {α : Type} {n : Nat} {R : World → List Value → α → Prop} {w : World} {v : Value} {l : List α} (h : StructsOf n R w v l) : SlicesLen v l.length := by
  obtain ⟨a, cap, h1, h2, h3, -⟩ := h; exact ⟨a, cap, h1, h2, h3⟩
theorem SliceOf.len {α : Type} {f : α → Value} {w : World} {v : Value} {l : List α} (h : SliceOf f w v l) : SlicesLen v l.length := by
  obtain ⟨a, cap, h1, h2, h3, -⟩ := h; exact ⟨a, cap, h1, h2, h3⟩
end Go.Proofs.Ytblmpmapcdpaiaa
end
section
/- Bit operations as arithmetic. -/
namespace Go.Proofs.Ytblmpmapcdpaiaa
open Go.RowKit

theorem wraps_u64 (n : Int) (h₀ : 0 ≤ n) (h₁ : n < 2 ^ 64) : IntKind.u64.wrap n = n := by rw [IntKind.wrap_u64]; omega
theorem wraps_i64 (n : Int) (h₀ : 0 ≤ n) (h₁ : n < 2 ^ 63) : IntKind.i64.wrap n = n := by rw [IntKind.wrap_i64]; omega
theorem wraps_u32 (n : Int) (h₀ : 0 ≤ n) (h₁ : n < 2 ^ 32) : IntKind.u32.wrap n = n := by rw [IntKind.wrap_u32]; omega

theorem u64_and127 (x : Int) (h₀ : 0 ≤ x) (h₁ : x < 18446744073709551616) : bits .and .u64 x 127 = x % 128 :=
  bits_mask .u64 64 (by decide) wraps_u64 7 (by decide) x h₀ h₁
theorem u64_and1 (x : Int) (h₀ : 0 ≤ x) (h₁ : x < 18446744073709551616) : bits .and .u64 x 1 = x % 2 :=
  bits_mask .u64 64 (by decide) wraps_u64 1 (by decide) x h₀ h₁
theorem u8_and127 (x : Int) (h₀ : 0 ≤ x) (h₁ : x < 256) : bits .and .u8 x 127 = x % 128 :=
  bits_mask .u8 8 (by decide) wraps_u8 7 (by decide) x h₀ h₁
theorem i64_and1 (x : Int) (h₀ : 0 ≤ x) (h₁ : x < 9223372036854775808) : bits .and .i64 x 1 = x % 2 :=
  bits_mask .i64 63 (by decide) wraps_i64 1 (by decide) x h₀ h₁
theorem u8_orhi (x : Int) (h₀ : 0 ≤ x) (h₁ : x < 128) : bits .or .u8 x 128 = x + 128 := by
  obtain ⟨a, rfl⟩ := Int.eq_ofNat_of_zero_le h₀
  have h := (bits_nat .u8 8 (by decide) wraps_u8 a 128 (by omega) (by decide)).2
  have h2 := (bits_nat .u8 8 (by decide) wraps_u8 128 a (by decide) (by omega)).2
  have h3 := bits_join .u8 8 (by decide) wraps_u8 7 128 (a : Int) (by decide) (by decide) (by decide) h₀ (by omega) (by omega)
  rw [show ((128 : Nat) : Int) = 128 from rfl] at h h2
  rw [h, Nat.or_comm, ← h2, h3]; omega
theorem u64_orhi (i : Nat) (x y : Int) (hy₀ : 0 ≤ y) (hy : y % 2 ^ i = 0) (hy₁ : y < 2 ^ 64) (hx₀ : 0 ≤ x) (hx : x < 2 ^ i) (hx1 : x < 2 ^ 64) : bits .or .u64 x y = x + y := by
  have h3 := bits_join .u64 64 (by decide) wraps_u64 i y x hy₀ hy hy₁ hx₀ hx hx1
  obtain ⟨a, rfl⟩ := Int.eq_ofNat_of_zero_le hx₀
  obtain ⟨b, rfl⟩ := Int.eq_ofNat_of_zero_le hy₀
  rw [(bits_nat .u64 64 (by decide) wraps_u64 b a (by exact_mod_cast hy₁) (by exact_mod_cast hx1)).2] at h3
  rw [(bits_nat .u64 64 (by decide) wraps_u64 a b (by exact_mod_cast hx1) (by exact_mod_cast hy₁)).2, Nat.or_comm, h3]; omega
theorem u64_xor0 (x : Int) (h₀ : 0 ≤ x) (h₁ : x < 18446744073709551616) : bits .xor .u64 x 0 = x := by
  obtain ⟨a, rfl⟩ := Int.eq_ofNat_of_zero_le h₀
  have := bits_xor_u64_nat a 0 (by omega) (by decide)
  simpa using this
theorem u64_xor1 (x : Int) (h₀ : 0 ≤ x) (h₁ : x < 18446744073709551616) : bits .xor .u64 x 18446744073709551615 = 18446744073709551615 - x := by
  obtain ⟨a, rfl⟩ := Int.eq_ofNat_of_zero_le h₀
  have ha : a < 2 ^ 64 := by omega
  have h := bits_xor_u64_nat a 18446744073709551615 (by omega) (by decide)
  have h2 : a ^^^ 18446744073709551615 = 18446744073709551615 - a := by
    have h3 := congrArg BitVec.toNat (BitVec.xor_allOnes (x := BitVec.ofNat 64 a))
    rw [BitVec.toNat_not, BitVec.toNat_xor, BitVec.toNat_allOnes, BitVec.toNat_ofNat, Nat.mod_eq_of_lt ha] at h3
    simpa using h3
  rw [h2] at h
  rw [show (18446744073709551615 : Int) = ((18446744073709551615 : Nat) : Int) from rfl, h]
  omega
theorem i64_xor0 (x : Int) (h₀ : -9223372036854775808 ≤ x) (h₁ : x ≤ 9223372036854775807) : bits .xor .i64 x 0 = x := by
  show IntKind.i64.wrap ((BitVec.ofInt 64 x ^^^ BitVec.ofInt 64 0).toNat : Int) = x
  rw [show BitVec.ofInt 64 0 = 0#64 from rfl, BitVec.xor_zero, BitVec.toNat_ofInt, IntKind.wrap_i64]
  omega
theorem i64_xorm1 (x : Int) (h₀ : -9223372036854775808 ≤ x) (h₁ : x ≤ 9223372036854775807) : bits .xor .i64 x (-1) = -x - 1 := by
  show IntKind.i64.wrap ((BitVec.ofInt 64 x ^^^ BitVec.ofInt 64 (-1)).toNat : Int) = _
  rw [show BitVec.ofInt 64 (-1) = BitVec.allOnes 64 from by decide, BitVec.xor_allOnes, BitVec.toNat_not, BitVec.toNat_ofInt, IntKind.wrap_i64]
  omega
theorem bits_xor_nat (k : IntKind) (j : Nat) (hj : j ≤ k.bits) (hk : ∀ n : Int, 0 ≤ n → n < 2 ^ j → k.wrap n = n) (a b : Nat) (ha : a < 2 ^ j) (hb : b < 2 ^ j) :
    bits .xor k a b = ((a ^^^ b : Nat) : Int) := by
  have hp : 2 ^ j ≤ 2 ^ k.bits := Nat.pow_le_pow_right (by decide) hj
  have ha' : a % 2 ^ k.bits = a := Nat.mod_eq_of_lt (Nat.lt_of_lt_of_le ha hp)
  have hb' : b % 2 ^ k.bits = b := Nat.mod_eq_of_lt (Nat.lt_of_lt_of_le hb hp)
  have cast : ∀ n : Nat, n < 2 ^ j → ((n : Nat) : Int) < 2 ^ j := fun n h => by exact_mod_cast h
  simp only [bits, BitVec.ofInt_natCast, BitVec.toNat_xor, BitVec.toNat_ofNat, ha', hb']
  exact hk _ (Int.natCast_nonneg _) (cast _ (Nat.xor_lt_two_pow ha hb))
theorem u32_xor (a b : Nat) (ha : a < 4294967296) (hb : b < 4294967296) : bits .xor .u32 (a : Int) (b : Int) = ((a ^^^ b : Nat) : Int) :=
  bits_xor_nat .u32 32 (by decide) wraps_u32 a b ha hb
theorem u32_and15 (x : Int) (h₀ : 0 ≤ x) (h₁ : x < 4294967296) : bits .and .u32 x 15 = x % 16 :=
  bits_mask .u32 32 (by decide) wraps_u32 4 (by decide) x h₀ h₁
theorem u8_xor (a b : Nat) (ha : a < 256) (hb : b < 256) : bits .xor .u8 (a : Int) (b : Int) = ((a ^^^ b : Nat) : Int) :=
  bits_xor_nat .u8 8 (by decide) wraps_u8 a b ha hb
theorem i64_xor (a b : Nat) (ha : a < 9223372036854775808) (hb : b < 9223372036854775808) : bits .xor .i64 (a : Int) (b : Int) = ((a ^^^ b : Nat) : Int) :=
  bits_xor_nat .i64 63 (by decide) wraps_i64 a b ha hb
theorem u32_not (a : Nat) (ha : a < 4294967296) : bits .xor .u32 IntKind.u32.max (a : Int) = 4294967295 - (a : Int) := by
  have h := u32_xor 4294967295 a (by decide) ha
  have h2 : 4294967295 ^^^ a = 4294967295 - a := by
    have h3 := congrArg BitVec.toNat (BitVec.allOnes_xor (x := BitVec.ofNat 32 a))
    rw [BitVec.toNat_not, BitVec.toNat_xor, BitVec.toNat_allOnes, BitVec.toNat_ofNat, Nat.mod_eq_of_lt ha] at h3
    simpa using h3
  rw [h2] at h
  rw [show IntKind.u32.max = ((4294967295 : Nat) : Int) from by decide, h]
  omega
end Go.Proofs.Ytblmpmapcdpaiaa
end
section
/- A range over a function whose iterator keeps state of its own in cells (the blocks 'zs'): the caller's law, turned from the library's 'wpIn_rangeFunc_ownF'. Over any program. -/
namespace Go.Proofs.Ytblmpmapcdpaiaa
open Go.RowKit
variable {F : Fence} {n : Nat} {P : Program}

/-- What lay in A lies in B as it lay, but for the blocks 'zs'; and the caller's blocks from D on that are no cells may have turned. -/
structure Turn (zs : Nat → Prop) (D : Nat) (A B : World) : Prop where
  os : B.os = A.os
  tape : B.tape = A.tape
  output : B.output = A.output
  size : A.heap.size ≤ B.heap.size
  block : ∀ k, k < A.heap.size → ¬ zs k → (k < D ∨ ∃ o : Obj, A.heap[k]? = some o ∧ o.isCells = true) → B.heap[k]? = A.heap[k]?
structure Chg (zs : Nat → Prop) (A B : World) : Prop where
  os : B.os = A.os
  tape : B.tape = A.tape
  output : B.output = A.output
  size : A.heap.size ≤ B.heap.size
  block : ∀ k, k < A.heap.size → ¬ zs k → B.heap[k]? = A.heap[k]?
theorem Chg.turn {zs : Nat → Prop} {A B : World} (h : Chg zs A B) (D : Nat) : Turn zs D A B := ⟨h.os, h.tape, h.output, h.size, fun k hk hz _ => h.block k hk hz⟩
theorem Chg.heap {zs : Nat → Prop} {A B : World} (h : Chg zs A B) {k : Nat} {o : Obj} (hk : A.heap[k]? = some o) (hz : ¬ zs k) : B.heap[k]? = some o :=
  (h.block k (Array.getElem?_eq_some_iff.1 hk).1 hz).trans hk
theorem Chg.refl (zs : Nat → Prop) (A : World) : Chg zs A A := ⟨rfl, rfl, rfl, Nat.le_refl _, fun _ _ _ => rfl⟩
theorem Chg.trans {zs : Nat → Prop} {A B C : World} (h : Chg zs A B) (k : Chg zs B C) : Chg zs A C :=
  ⟨k.os.trans h.os, k.tape.trans h.tape, k.output.trans h.output, Nat.le_trans h.size k.size, fun i hi hz => (k.block i (Nat.lt_of_lt_of_le hi h.size) hz).trans (h.block i hi hz)⟩
theorem Chg.of_below {zs : Nat → Prop} {A B : World} (h : Below A.heap.size A B) : Chg zs A B := ⟨h.os, h.tape, h.output, h.size, fun k hk _ => h.block k hk⟩
theorem Chg.setCell {zs : Nat → Prop} {A : World} {b : Nat} (hb : zs b) (o : Nat) (u : Value) : Chg zs A (A.setCell ⟨b, o, none⟩ u) :=
  have h := (Below.refl 0 A).setCell (p := ⟨b, o, none⟩) (Nat.zero_le _) u
  ⟨h.os, h.tape, h.output, h.size, fun k _ hz => Below.heap_setCell A _ u k (fun e => hz (by rw [e]; exact hb))⟩
theorem Chg.drew {zs : Nat → Prop} {A : World} : Chg zs A A.drew := ⟨rfl, rfl, rfl, Nat.le_refl _, fun _ _ _ => rfl⟩

def OwnM {β : Type} (zs : Nat → Prop) (D : Nat) (I : β → World → Prop) : Prop := ∀ s A B, I s A → Turn zs D A B → I s B
theorem OwnM.putObj {β : Type} {zs : Nat → Prop} {D : Nat} {I : β → World → Prop} (h : OwnM zs D I) {s : β} {W : World} {l : Nat} {o : Obj} (o' : Obj) (hs : I s W) (hB : D ≤ l) (hl : W.heap[l]? = some o) (ho : o.isCells = false) : I s (W.putObj l o') := by
  have hg := grownBy_putObj' W l o'
  refine h s W _ hs ⟨hg.os, hg.tape, hg.output, hg.size, fun k hk _ hc => hg.block k hk (fun e => ?_)⟩
  obtain rfl : k = l := by simpa using e
  rcases hc with hc | ⟨o2, h2, hc⟩
  · omega
  · rw [hl] at h2; cases h2; rw [ho] at hc; cases hc
theorem OwnM.alloc {β : Type} {zs : Nat → Prop} {D : Nat} {I : β → World → Prop} (h : OwnM zs D I) {s : β} {W : World} (o : Obj) (hs : I s W) : I s (W.alloc o) := by
  have hg := World.grownBy_alloc W o none
  exact h s W _ hs ⟨hg.os, hg.tape, hg.output, hg.size, fun k hk _ _ => hg.block k hk (by simp)⟩

/-- The contract of an iterator that keeps state in the blocks 'zs'. -/
def SeqM {α : Type} (F : Fence) (n : Nat) (P : Program) (g : Nat) (lb : Array Value) (encs : α → Array Value) (Kp : World → World → Prop) (zs : Nat → Prop) (S Sp : List α → Prop) (N : List α → α → Prop) (w : World) : Prop :=
  ∀ (l : Nat) (J Jx : List α → World → Prop) (W : World), Below w.heap.size w W → (∀ s A B, J s A → Chg zs A B → J s B) → (∀ s A B, Jx s A → Chg zs A B → Jx s B) →
    (∀ pre x W1, J pre W1 → N pre x → YieldAt F (n - 1) P l (encs x) W1 fun e W' =>
      (e = .returned (.bool true) ∧ J (pre ++ [x]) W' ∧ Kp W1 W') ∨ (e = .returned (.bool false) ∧ Jx (pre ++ [x]) W')) →
    J [] W →
    CallsIn F n P g (#[.func (.yield l) #[] #[]] ++ lb) W fun e W' => (∃ v, e = .returned v) ∧ ((∃ xs, S xs ∧ J xs W') ∨ (∃ pre, Sp pre ∧ Jx pre W'))

theorem wpIn_rangeFunc_M {α : Type} {g : Operand} {ps : Array Tmp} {assign body : Code} {Q : Exit → Act → World → Prop} {a : Act} {w : World}
    (hro : F.round = none) (h1 : 1 ≤ n) {gf : Nat} {lb : Array Value} (hg : a.eval g = .func (.func gf) #[] lb) (hFg : F.fn gf) (eg : ∀ args w, (callFunc gf args).run P w = .ok (.enter gf args) w)
    {encs : α → Array Value} {Kp : World → World → Prop} {zs : Nat → Prop} (hzs : ∀ k, zs k → k < w.heap.size) {S Sp : List α → Prop} {N : List α → α → Prop} {w0 : World} (hseq : SeqM F (n - 1) P gf lb encs Kp zs S Sp N w0)
    (hKt : ∀ {A B C : World}, Kp A B → Kp B C → Kp A C) (hKb : ∀ (W : World) (l : Nat) (o o' : Obj), w.heap.size ≤ l → W.heap[l]? = some o → o.isCells = false → o.isWalk = false → Kp W (W.putObj l o')) (hb0 : Below w0.heap.size w0 w) (hps : ∀ x, (encs x).size = ps.size)
    (I : List α → World → Prop) (Ix : Code → List α → World → Prop) (hI : OwnM zs w.heap.size I) (hIx : ∀ c, OwnM zs w.heap.size (Ix c)) (h0 : I [] w) (a₁ : α → Act)
    (hassign : ∀ (l : Nat) (x : α) (W : World) (K : Act → World → Prop), K (a₁ x) W →
      assign.wpIn (F.inRound l) (n - 1 - 1) P (Exit.then K (fun _ _ _ => False)) { tmps := (ps.zip (encs x)).foldl (fun t (p, v) => t.setIfInBounds p v) a.tmps, defers := [] } W)
    (hbody : ∀ (l : Nat) (pre : List α) (x : α) (W : World), I pre W → N pre x → body.wpIn (F.inRound l) (n - 1 - 1) P (ownPostK Kp I Ix (pre ++ [x]) W) (a₁ x) W)
    (hdone : ∀ (D : Nat) (xs : List α) (W : World), w.heap.size ≤ D → S xs → I xs W → W.heap[D]? = some (.deferred (some [])) → Q .normal { a with defers := { target := .collected D, args := #[] } :: a.defers } W)
    (hstop : ∀ (D : Nat) (c : Code) (pre : List α) (W : World), w.heap.size ≤ D → Sp pre → Ix c pre W → W.heap[D]? = some (.deferred (some [])) → c.wpIn F n P Q { a with defers := { target := .collected D, args := #[] } :: a.defers } W) :
    (Code.rangeFunc g ps assign body).wpIn F n P Q a w := by
  refine wpIn_rangeFunc ?_
  intro fn hfn
  rw [hro]
  obtain ⟨rec, hrec⟩ : ∃ rec : LoopState → Option Code → Loop, rec = fun st pe => { state := st, pending := pe, fn, tmps := a.tmps, params := ps, assign, body, defers := w.heap.size } := ⟨_, rfl⟩
  obtain ⟨W1, hW1⟩ : ∃ W1, (w.alloc (.deferred (some []))).alloc (.loop (rec .ready none)) = W1 := ⟨_, rfl⟩
  have hL1 : W1.heap[w.heap.size + 1]? = some (.loop (rec .ready none)) := by
    rw [← hW1]; have := World.alloc_heap_new (w.alloc (.deferred (some []))) (.loop (rec .ready none)); rwa [World.size_alloc] at this
  have hK1 : W1.heap[w.heap.size]? = some (.deferred (some [])) := by
    rw [← hW1]; exact (Below.heap_alloc _ _ _ (by simp)).trans (World.alloc_heap_new w _)
  have hI1 : I [] W1 := by rw [← hW1]; exact hI.alloc _ (hI.alloc _ h0)
  have hb1 : Below w0.heap.size w0 W1 := by
    rw [← hW1]; exact hb0.trans ((((Below.refl _ w).alloc (Nat.le_refl _) _).alloc (by simp) _).mono hb0.size)
  refine ⟨w.heap.size + 1, [{ target := .collected w.heap.size, args := #[] }], W1, { target := .fn (.func gf) lb, args := #[.func (.yield (w.heap.size + 1)) #[] #[]] }, W1, gf,
    #[.func (.yield (w.heap.size + 1)) #[] #[]] ++ lb, W1, ?_, ?_, ?_, ?_, fun _ => h1, ?_⟩
  · rw [← hW1, hrec]; exact run_enterLoop_outer _ _ _ _ _
  · simp only [resolve, hg]
    simp [go_sem]
  · intro f' hf'; simp [Target.leads] at hf'; subst hf'; exact hFg
  · simp [invoke, go_sem, eg]
  · -- THE ITERATOR's CONTRACT, AT THE CALLER's INVARIANT WITH THE TWO FACTS OF BOOK-KEEPING BESIDE IT
    have hz1 : ¬ zs (w.heap.size + 1) := fun h => by have := hzs _ h; omega
    have hz0 : ¬ zs w.heap.size := fun h => by have := hzs _ h; omega
    refine (hseq (w.heap.size + 1)
      (fun pre W => I pre W ∧ W.heap[w.heap.size + 1]? = some (.loop (rec .ready none)) ∧ W.heap[w.heap.size]? = some (.deferred (some [])))
      (fun pre W => ∃ c, Ix c pre W ∧ W.heap[w.heap.size + 1]? = some (.loop (rec .done (some c))) ∧ W.heap[w.heap.size]? = some (.deferred (some [])))
      W1 hb1
      (fun s A B hs hc => ⟨hI s A B hs.1 (hc.turn _), hc.heap hs.2.1 hz1, hc.heap hs.2.2 hz0⟩)
      (fun s A B hs hc => by
        obtain ⟨c, hcc, hl, hk⟩ := hs
        exact ⟨c, hIx c s A B hcc (hc.turn _), hc.heap hl hz1, hc.heap hk hz0⟩)
      ?_ ⟨hI1, hL1, hK1⟩).mono ?_
    · -- ONE ROUND
      rintro pre x W ⟨hi, hl, hk⟩ hlen
      have hlt : w.heap.size + 1 < W.heap.size := (Array.getElem?_eq_some_iff.1 hl).1
      have hy := run_yield (P := P) (args := encs x) hl (by rw [hrec]; exact hps x)
      rw [hrec] at hy
      refine ⟨fn, _, assign, body, hy, roundIn_of_wpIn hfn (hassign _ x W _ ⟨_, run_beginRound hl (by rw [hrec]), ?_⟩)⟩
      have hl2 : (W.putObj (w.heap.size + 1) (.loop { rec .ready none with state := .busy })).heap[w.heap.size + 1]? = some (.loop { rec .ready none with state := .busy }) := World.putObj_heap_same hlt
      have hk2 : (W.putObj (w.heap.size + 1) (.loop { rec .ready none with state := .busy })).heap[w.heap.size]? = some (.deferred (some [])) := (World.putObj_heap_other (by omega)).trans hk
      have hw2 : Kp W (W.putObj (w.heap.size + 1) (.loop { rec .ready none with state := .busy })) := hKb _ _ _ _ (by omega) hl rfl rfl
      refine wpIn_mono (hbody _ pre x _ (hI.putObj _ hi (by omega) hl rfl) hlen) ?_
      have fin : ∀ (jump : Option Code) (W3 : World), KeepsOthers (W.putObj (w.heap.size + 1) (.loop { rec .ready none with state := .busy })) W3 →
          (Instr.endRound (w.heap.size + 1) jump).run P W3 = .ok (.bool jump.isNone) (W3.putObj (w.heap.size + 1) (.loop (rec (if jump.isNone then .ready else .done) jump))) ∧
          W3.heap[w.heap.size + 1]? = some (.loop { rec .ready none with state := .busy }) ∧
          (W3.putObj (w.heap.size + 1) (.loop (rec (if jump.isNone then .ready else .done) jump))).heap[w.heap.size + 1]? = some (.loop (rec (if jump.isNone then .ready else .done) jump)) ∧
          (W3.putObj (w.heap.size + 1) (.loop (rec (if jump.isNone then .ready else .done) jump))).heap[w.heap.size]? = some (.deferred (some [])) := fun jump W3 hk3 => by
        have hl3 := hk3.same _ _ hl2 rfl
        have := run_endRound (P := P) jump hl3
        rw [hrec] at this ⊢
        exact ⟨this, by rw [hrec] at hl3; exact hl3, World.putObj_heap_same (Array.getElem?_eq_some_iff.1 hl3).1, (World.putObj_heap_other (by omega)).trans (hk3.same _ _ hk2 rfl)⟩
      rintro e a3 W3 hp
      cases e with
      | normal =>
        obtain ⟨hk3, hkp3, hi3⟩ := hp
        obtain ⟨hr, hl3, hl4, hk4⟩ := fin none W3 hk3
        exact ⟨_, _, hr, .inl ⟨rfl, ⟨hI.putObj _ hi3 (by omega) hl3 rfl, hl4, hk4⟩, hKt (hKt hw2 hkp3) (hKb _ _ _ _ (by omega) hl3 rfl rfl)⟩⟩
      | ret =>
        obtain ⟨hk3, hi3⟩ := hp
        obtain ⟨hr, hl3, hl4, hk4⟩ := fin (some .ret) W3 hk3
        exact ⟨_, _, hr, .inr ⟨rfl, .ret, (hIx _).putObj _ hi3 (by omega) hl3 rfl, hl4, hk4⟩⟩
      | exit id =>
        obtain ⟨hk3, hi3⟩ := hp
        obtain ⟨hr, hl3, hl4, hk4⟩ := fin (some (.exit id)) W3 hk3
        exact ⟨_, _, hr, .inr ⟨rfl, .exit id, (hIx _).putObj _ hi3 (by omega) hl3 rfl, hl4, hk4⟩⟩
      | goto t =>
        obtain ⟨hk3, hi3⟩ := hp
        obtain ⟨hr, hl3, hl4, hk4⟩ := fin (some (.goto t)) W3 hk3
        exact ⟨_, _, hr, .inr ⟨rfl, .goto t, (hIx _).putObj _ hi3 (by omega) hl3 rfl, hl4, hk4⟩⟩
      | panic ch => exact hp.elim
      | outgrown => exact hp.elim
    · -- BEHIND THE ITERATOR
      rintro e W2 ⟨⟨v, rfl⟩, (⟨xs, hS, hi, hl, hk⟩ | ⟨pre, hSp, c, hi, hl, hk⟩)⟩
      · exact ⟨none, _, by have := run_endLoop (P := P) hl (by rw [hrec]; simp); rw [hrec] at this; exact this, hdone _ xs _ (Nat.le_refl _) hS (hI.putObj _ hi (by omega) hl rfl) ((World.putObj_heap_other (by omega)).trans hk)⟩
      · exact ⟨some c, _, by have := run_endLoop (P := P) hl (by rw [hrec]; simp); rw [hrec] at this; exact this, hstop _ c pre _ (Nat.le_refl _) hSp ((hIx c).putObj _ hi (by omega) hl rfl) ((World.putObj_heap_other (by omega)).trans hk)⟩



/-- The same, the frame of a round told as a change of the frame. -/
theorem wpIn_rangeFunc_Mf {α : Type} {g : Operand} {ps : Array Tmp} {assign body : Code} {Q : Exit → Act → World → Prop} {a : Act} {w : World}
    (hro : F.round = none) (h1 : 1 ≤ n) {gf : Nat} {lb : Array Value} (hg : a.eval g = .func (.func gf) #[] lb) (hFg : F.fn gf) (eg : ∀ args w, (callFunc gf args).run P w = .ok (.enter gf args) w)
    {encs : α → Array Value} {Kp : World → World → Prop} {zs : Nat → Prop} (hzs : ∀ k, zs k → k < w.heap.size) {S Sp : List α → Prop} {N : List α → α → Prop} {w0 : World} (hseq : SeqM F (n - 1) P gf lb encs Kp zs S Sp N w0)
    (hKt : ∀ {A B C : World}, Kp A B → Kp B C → Kp A C) (hKb : ∀ (W : World) (l : Nat) (o o' : Obj), w.heap.size ≤ l → W.heap[l]? = some o → o.isCells = false → o.isWalk = false → Kp W (W.putObj l o')) (hb0 : Below w0.heap.size w0 w) (hps : ∀ x, (encs x).size = ps.size)
    (I : List α → World → Prop) (Ix : Code → List α → World → Prop) (hI : OwnM zs w.heap.size I) (hIx : ∀ c, OwnM zs w.heap.size (Ix c)) (h0 : I [] w) (f : α → Array Value → Array Value)
    (hassign : ∀ (l : Nat) (x : α) (W : World) (K : Act → World → Prop), K { tmps := f x a.tmps, defers := [] } W →
      assign.wpIn (F.inRound l) (n - 1 - 1) P (Exit.then K (fun _ _ _ => False)) { tmps := (ps.zip (encs x)).foldl (fun t (p, v) => t.setIfInBounds p v) a.tmps, defers := [] } W)
    (hbody : ∀ (l : Nat) (pre : List α) (x : α) (W : World), I pre W → N pre x → body.wpIn (F.inRound l) (n - 1 - 1) P (ownPostK Kp I Ix (pre ++ [x]) W) { tmps := f x a.tmps, defers := [] } W)
    (hdone : ∀ (D : Nat) (xs : List α) (W : World), w.heap.size ≤ D → S xs → I xs W → W.heap[D]? = some (.deferred (some [])) → Q .normal { a with defers := { target := .collected D, args := #[] } :: a.defers } W)
    (hstop : ∀ (D : Nat) (c : Code) (pre : List α) (W : World), w.heap.size ≤ D → Sp pre → Ix c pre W → W.heap[D]? = some (.deferred (some [])) → c.wpIn F n P Q { a with defers := { target := .collected D, args := #[] } :: a.defers } W) :
    (Code.rangeFunc g ps assign body).wpIn F n P Q a w :=
  wpIn_rangeFunc_M hro h1 hg hFg eg hzs hseq hKt hKb hb0 hps I Ix hI hIx h0 (fun x => { tmps := f x a.tmps, defers := [] }) hassign hbody hdone hstop

theorem Turn.heap {zs : Nat → Prop} {D : Nat} {A B : World} (h : Turn zs D A B) {k : Nat} {o : Obj} (hk : A.heap[k]? = some o) (hz : ¬ zs k) (hc : k < D ∨ o.isCells = true) : B.heap[k]? = some o :=
  (h.block k (Array.getElem?_eq_some_iff.1 hk).1 hz (hc.imp_right fun e => ⟨o, hk, e⟩)).trans hk
theorem Turn.boxed {zs : Nat → Prop} {D : Nat} {A B : World} (h : Turn zs D A B) {k t : Nat} {v : Value} (hk : Boxed A k t v) (hz : ¬ zs k) : Boxed B k t v := h.heap hk hz (.inr rfl)
theorem Turn.ownsRow {zs : Nat → Prop} {D : Nat} {A B : World} (h : Turn zs D A B) {base e size n : Nat} {v : Value} {xs : List Value} (ho : A.ownsRow base e size v n xs) (hz : ∀ k, base ≤ k → ¬ zs k) : B.ownsRow base e size v n xs := by
  refine ⟨ho.1, ho.2.imp_right fun ⟨g, cap, cur, h1, h2, h3, h4⟩ => ⟨g, cap, cur, h1, h2, h.heap h3 (hz g h2) (.inr rfl), h4⟩⟩
theorem Turn.below {zs : Nat → Prop} {D B0 : Nat} {w A B : World} (h : Turn zs D A B) (hb : Below B0 w A) (hB : B0 ≤ w.heap.size) (hD : B0 ≤ D) (hz : ∀ k, k < B0 → ¬ zs k) : Below B0 w B :=
  ⟨h.os.trans hb.os, h.tape.trans hb.tape, h.output.trans hb.output, Nat.le_trans hb.size h.size, fun k hk =>
    (h.block k (Nat.lt_of_lt_of_le hk (Nat.le_trans hB hb.size)) (hz k hk) (.inl (Nat.lt_of_lt_of_le hk hD))).trans (hb.block k hk)⟩

/-- 'out = append(out, x)' inside a fence, x of one cell. -/
theorem wpListIn_push {P : Program} {F : Fence} {m : Nat} {ops : Array Oper} {rest : List Oper} {o : Oper} {a : Act} {Q : Exit → Act → World → Prop} {t e : TypeId} {z : Value} {bytes : Nat} {w0 : World} {u : Value}
    (E : ElemOK P t e z 1 bytes) (hgd : o.guard = none) (s x : Operand)
    (ho : o.op = .call { callee := .builtin .append, args := #[s, x], argTypes := #[t, t] })
    (base : Nat) {v : Value} {n : Nat} {xs : List Value} (hown : w0.ownsRow base e 1 v n xs) (hs : a.eval s = v) (hx : a.eval x = .slice (some ⟨w0.heap.size, 0, none⟩) 1 1)
    (h1 : u.oneCell' = true) (h63 : n + 1 ≤ maxLen) (hbytes : (n + 1) * bytes ≤ 140737488355328) (hbase : base ≤ w0.heap.size)
    (h : ∀ v' w', w'.ownsRow base e 1 v' (n + 1) (xs ++ [u]) → (w0.alloc (.cells #[u] e)).grownBy w' v.ownBlock → Below base w0 w' → wpListIn F m P ops Q rest (a.put o.dst v') w') :
    wpListIn F m P ops Q (o :: rest) a (w0.alloc (.cells #[u] e)) := by
  obtain ⟨i, hi, hz0, hz1, hz2⟩ := info_parts E.info
  refine wpListIn_append_own _ hgd s x t ho base e i z 1 bytes E.und hi hz0 hz1 hz2 E.zs E.pos v n xs hs (hown.alloc _) ⟨w0.heap.size, 0, none⟩ 1 1 [u] hx rfl ?_ ?_ h63 hbytes (by simp; omega) ?_
  · intro j y hj
    cases j with
    | zero =>
      simp at hj; subst hj
      rw [add_zero_off, World.cell?_alloc_at _ _ _ _ rfl]; rfl
    | succ j => simp at hj
  · intro y hy; simp at hy; subst hy; exact h1
  · intro v' w' ho' hg _
    exact h v' w' ho' hg (grown_below hown hg hbase)

/-- The box's slice has been appended to, and stored back: the box lies below the rows' base. -/
theorem boxed_app {W w1 : World} {base B : Nat} {t e : TypeId} {size : Nat} {v v' : Value} {k m : Nat} {xs ys : List Value} {tmp : Obj}
    (hv : Boxed W B t v) (hrow : W.ownsRow base e size v k xs) (hB : B < base) (hbase : base ≤ W.heap.size)
    (hown' : w1.ownsRow base e size v' m ys) (hgrow : (W.alloc tmp).grownBy w1 v.ownBlock) :
    Boxed w1 B t v ∧ Boxed (w1.setCell ⟨B, 0, none⟩ v') B t v' ∧ (w1.setCell ⟨B, 0, none⟩ v').ownsRow base e size v' m ys ∧ KeepsOthers W (w1.setCell ⟨B, 0, none⟩ v') ∧
      (∀ j, j < base → j ≠ B → (w1.setCell ⟨B, 0, none⟩ v').heap[j]? = W.heap[j]?) ∧ (∀ n₀, n₀ ≤ B → Below n₀ W (w1.setCell ⟨B, 0, none⟩ v')) := by
  have hne : ∀ j, j < base → some j ≠ v.ownBlock := fun j hj e => by have := (hrow.lt j e.symm).1; omega
  have hv1 : Boxed w1 B t v := (hv.alloc tmp).kept hgrow (hne B hB)
  have hbl : Below base W w1 := grown_below hrow hgrow hbase
  refine ⟨hv1, hv1.set v', ownsRow_setCell_below hown' hB _, ?_, fun j hj hjB => ?_, fun n₀ hn => (hbl.mono (by omega)).setCell hn _⟩
  · refine ((KeepsOthers.alloc W tmp).trans (KeepsOthers.of_grownBy hgrow fun j o ej hj => ?_)).trans (KeepsOthers.setCell _ _ _)
    rcases (hrow.alloc tmp).2 with ⟨rfl, _⟩ | ⟨g, cap, cur, rfl, _, hgb, _⟩
    · simp [Value.ownBlock] at ej
    · obtain rfl : g = j := by simpa [Value.ownBlock] using ej
      rw [hgb] at hj; cases hj; rfl
  · exact (Below.heap_setCell _ _ _ _ hjB).trans (hbl.block j hj)
end Go.Proofs.Ytblmpmapcdpaiaa
end
