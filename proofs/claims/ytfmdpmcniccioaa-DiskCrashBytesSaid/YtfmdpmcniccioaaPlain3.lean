/- DiskCrashBytes, plainly: a content into which the surviving writes are put one by one is what a crash leaves. -/
import Derived.Test.YtfmdpmcniccioaaOn3
namespace Go.Proofs.Ytfmdpmcniccioaa

/-- The numbers below k that a row of marks keeps. -/
def keptN (kl : List Bool) (k : Nat) : List Nat := (List.range k).filter fun i => kl.getD i false
theorem keptN_succ (kl : List Bool) (k : Nat) : keptN kl (k + 1) = if kl.getD k false then keptN kl k ++ [k] else keptN kl k := by
  unfold keptN
  rw [List.range_succ, List.filter_append]
  rw [List.filter_cons, List.filter_nil]
  split <;> simp
theorem keptN_lt {kl : List Bool} {k i : Nat} (h : i ∈ keptN kl k) : i < k := by
  unfold keptN at h; simp at h; exact h.1
/-- The greatest number below k that is kept; -1 without one. -/
def lastN (kl : List Bool) : Nat → Int
  | 0 => -1
  | k + 1 => if kl.getD k false then (k : Int) else lastN kl k
theorem lastN_succ (kl : List Bool) (k : Nat) : lastN kl (k + 1) = if kl.getD k false then (k : Int) else lastN kl k := rfl
theorem lastN_lt (kl : List Bool) : ∀ k, lastN kl k < k := by
  intro k
  induction k with
  | zero => simp [lastN]
  | succ k ih => unfold lastN; split <;> omega
/-- A write as the law puts it: the last one that is kept may be torn. -/
def putW (torn last : Int) (f : Nat → WrD) (i : Nat) : WrD := if (i : Int) = last then tornW torn (f i) else f i
theorem lastTorn_app (torn : Int) (w : WrD) : ∀ l : List WrD, lastTorn torn (l ++ [w]) = l ++ [tornW torn w] := by
  intro l
  induction l with
  | nil => rfl
  | cons x l ih =>
    cases l with
    | nil => rfl
    | cons y l => show x :: lastTorn torn (y :: l ++ [w]) = _; rw [ih]; rfl
theorem torn_kept (torn : Int) (kl : List Bool) (f : Nat → WrD) : ∀ m, lastTorn torn ((keptN kl m).map f) = (keptN kl m).map (putW torn (lastN kl m) f) := by
  intro m
  induction m with
  | zero => rfl
  | succ m ih =>
    rw [keptN_succ]
    cases h : kl.getD m false with
    | true =>
      have hl : lastN kl (m + 1) = (m : Int) := by rw [lastN_succ, h]; rfl
      rw [if_pos rfl, List.map_append, List.map_append, hl]
      show lastTorn torn (_ ++ [f m]) = _
      rw [lastTorn_app]
      congr 1
      · refine List.map_congr_left fun i hi => ?_
        have := keptN_lt hi
        unfold putW
        rw [if_neg (by omega)]
      · show [tornW torn (f m)] = [putW torn m f m]
        unfold putW
        rw [if_pos rfl]
    | false =>
      have hl : lastN kl (m + 1) = lastN kl m := by rw [lastN_succ, h]; rfl
      rw [if_neg (by simp), hl]
      exact ih
end Go.Proofs.Ytfmdpmcniccioaa
