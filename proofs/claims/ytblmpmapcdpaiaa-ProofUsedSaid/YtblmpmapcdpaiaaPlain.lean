/- Plain mathematics of chapter 23: programs, choices, sums, the best choice, the plain proof. No Go program in sight. -/
import Derived.Below
namespace Go.Proofs.Ytblmpmapcdpaiaa

structure RowD where
  kind : Int
  a : Int
  b : Int
  at_ : Int
  coef : List Int
  most : Int
structure ProgD where
  vars : Int
  rows : List RowD
  gain : List Int
structure WtD where
  row : Int
  times : Int
structure StepD where
  var : Int
  no : Int
  yes : Int
  wts : List WtD

def coefOK (l : List Int) : Bool := l.all fun n => decide (-1000000000 ≤ n) && decide (n ≤ 1000000000)
theorem coefOK_get {l : List Int} (h : coefOK l = true) (k : Nat) : -1000000000 ≤ l.getD k 0 ∧ l.getD k 0 ≤ 1000000000 := by
  rw [List.getD_eq_getElem?_getD]
  by_cases hk : k < l.length
  · rw [List.getElem?_eq_getElem hk]
    have := List.all_eq_true.1 h l[k] (List.getElem_mem hk)
    simpa using this
  · rw [List.getElem?_eq_none (by omega)]; decide
def mostOK (m : Int) : Bool := decide (-1000000000000 ≤ m) && decide (m ≤ 1000000000000)
def rightB (r : RowD) (n : Int) : Bool := decide ((r.coef.length : Int) = n) && coefOK r.coef && mostOK r.most
def validB (p : ProgD) : Bool := decide (0 ≤ p.vars) && decide (p.vars ≤ 12) && decide (p.rows.length ≤ 300) && p.rows.all (fun r => rightB r p.vars) && decide ((p.gain.length : Int) = p.vars) && coefOK p.gain

def bitOn (set i : Nat) : Bool := decide (set / 2 ^ i % 2 = 1)
def chK (l : List Int) (set : Nat) : Nat → Int
  | 0 => 0
  | k + 1 => chK l set k + if bitOn set k then l.getD k 0 else 0
def ch (l : List Int) (set : Nat) : Int := chK l set l.length
theorem chK_bd {l : List Int} {M : Int} (hM : 0 ≤ M) (h : ∀ k, -M ≤ l.getD k 0 ∧ l.getD k 0 ≤ M) (set : Nat) : ∀ k : Nat, -(M * k) ≤ chK l set k ∧ chK l set k ≤ M * k := by
  intro k
  induction k with
  | zero => simp [chK]
  | succ k ih =>
    have := h k
    simp only [chK]
    have e : M * ((k + 1 : Nat) : Int) = M * k + M := by rw [Int.natCast_succ, Int.mul_add, Int.mul_one]
    rw [e]
    split <;> omega
/-- The least sum when the first d things are decided: over the first k coefficients. -/
def lsK (l : List Int) (d set : Nat) : Nat → Int
  | 0 => 0
  | k + 1 => lsK l d set k + if k < d then (if bitOn set k then l.getD k 0 else 0) else min 0 (l.getD k 0)
def ls (l : List Int) (d set : Nat) : Int := lsK l d set l.length
theorem lsK_lo (l : List Int) (d set : Nat) : ∀ k, k ≤ d → lsK l d set k = chK l set k := by
  intro k
  induction k with
  | zero => intro _; rfl
  | succ k ih => intro h; simp only [lsK, chK]; rw [ih (by omega), if_pos (by omega)]
theorem lsK_bd {l : List Int} {M : Int} (hM : 0 ≤ M) (h : ∀ k, -M ≤ l.getD k 0 ∧ l.getD k 0 ≤ M) (d set : Nat) : ∀ k : Nat, -(M * k) ≤ lsK l d set k ∧ lsK l d set k ≤ M * k := by
  intro k
  induction k with
  | zero => simp [lsK]
  | succ k ih =>
    have := h k
    simp only [lsK]
    have e : M * ((k + 1 : Nat) : Int) = M * k + M := by rw [Int.natCast_succ, Int.mul_add, Int.mul_one]
    rw [e]
    split
    · split <;> omega
    · omega
theorem chK_congr {l m : List Int} {s t : Nat} : ∀ k, (∀ i, i < k → l.getD i 0 = m.getD i 0 ∧ bitOn s i = bitOn t i) → chK l s k = chK m t k := by
  intro k
  induction k with
  | zero => intro _; rfl
  | succ k ih =>
    intro h
    simp only [chK]
    rw [ih (fun i hi => h i (by omega)), (h k (by omega)).1, (h k (by omega)).2]

def keptB (r : RowD) (set : Nat) : Bool := decide (ch r.coef set ≤ r.most)
def keepsB (rows : List RowD) (set : Nat) : Bool := rows.all fun r => keptB r set
def allS (p : ProgD) : List Nat := (List.range (2 ^ p.vars.toNat)).filter (keepsB p.rows)
def better (gain : List Int) (b : Option (Nat × Int)) (s : Nat) : Option (Nat × Int) :=
  match b with
  | none => some (s, ch gain s)
  | some x => if x.2 < ch gain s then some (s, ch gain s) else some x
def bestS (p : ProgD) : Option (Nat × Int) := (allS p).foldl (better p.gain) none
def goalS (gain : List Int) (g : Int) : RowD := { kind := 0, a := 0, b := 0, at_ := 0, coef := gain.map (fun n => -n), most := -(g + 1) }
/-- The first row whose least sum is too great. -/
def badAt (rows : List RowD) (d set : Nat) : Option Nat := rows.findIdx? fun r => decide (r.most < ls r.coef d set)
def growS (rows : List RowD) : Nat → Nat → Nat → Nat → List StepD
  | fuel, d, set, k =>
    match badAt rows d set with
    | some i => [{ var := -1, no := 0, yes := 0, wts := [{ row := i, times := 1 }] }]
    | none =>
      match fuel with
      | 0 => []
      | f + 1 =>
        { var := d, no := (k + 1 : Nat), yes := (k + 1 + (growS rows f (d + 1) set (k + 1)).length : Nat), wts := [] } ::
          (growS rows f (d + 1) set (k + 1) ++ growS rows f (d + 1) (set + 2 ^ d) (k + 1 + (growS rows f (d + 1) set (k + 1)).length))
def rowsS (p : ProgD) : List RowD := match bestS p with | none => p.rows | some x => p.rows ++ [goalS p.gain x.2]
def proofS (p : ProgD) : List StepD := growS (rowsS p) p.vars.toNat 0 0 0

/-! ### The last of the greatest from behind is the first of the greatest from the front -/
def betterBack (gain : List Int) (s : Nat) (b : Option (Nat × Int)) : Option (Nat × Int) :=
  match b with
  | none => some (s, ch gain s)
  | some x => if x.2 ≤ ch gain s then some (s, ch gain s) else some x
def joinB (gain : List Int) (b c : Option (Nat × Int)) : Option (Nat × Int) :=
  match b, c with
  | none, c => c
  | b, none => b
  | some x, some y => if x.2 < y.2 then some y else some x
theorem foldl_join (gain : List Int) : ∀ (l : List Nat) (b : Option (Nat × Int)), l.foldl (better gain) b = joinB gain b (l.foldr (betterBack gain) none) := by
  intro l
  induction l with
  | nil => intro b; cases b <;> rfl
  | cons s l ih =>
    intro b
    simp only [List.foldl_cons, List.foldr_cons]
    rw [ih]
    generalize l.foldr (betterBack gain) none = c
    cases b with
    | none =>
      cases c with
      | none => rfl
      | some y =>
        simp only [better, joinB, betterBack]
        by_cases h : y.2 ≤ ch gain s
        · rw [if_pos h, if_neg (by omega)]
        · rw [if_neg h, if_pos (by omega)]
    | some x =>
      cases c with
      | none =>
        simp only [better, joinB, betterBack]
        by_cases h : x.2 < ch gain s
        · rw [if_pos h]
        · rw [if_neg h]
      | some y =>
        simp only [better, joinB, betterBack]
        by_cases h : x.2 < ch gain s
        · rw [if_pos h]
          by_cases h2 : y.2 ≤ ch gain s
          · rw [if_pos h2]; simp only; rw [if_neg (by omega), if_pos h]
          · rw [if_neg h2]; simp only; rw [if_pos (by omega), if_pos (by omega)]
        · rw [if_neg h]
          by_cases h2 : y.2 ≤ ch gain s
          · rw [if_pos h2]; simp only; rw [if_neg (by omega), if_neg h]
          · rw [if_neg h2]
theorem bestS_back (p : ProgD) : bestS p = (allS p).foldr (betterBack p.gain) none := by
  unfold bestS; rw [foldl_join]; rfl
end Go.Proofs.Ytblmpmapcdpaiaa
