/- Plain: passes, slots and lost sets: what the functions of chapter 18 answer. -/
import Derived.WalkKit
namespace L18

structure Pass where
  sat : Int
  stn : Int
  sf : Int
  su : Int
  cf : Int
  cu : Int
structure Slot where
  pass : Int
  fr : Int
  to : Int
def noPass : Pass := ⟨0, 0, 0, 0, 0, 0⟩
def noSlot : Slot := ⟨0, 0, 0⟩
instance : Inhabited Pass := ⟨noPass⟩
instance : Inhabited Slot := ⟨noSlot⟩
def passOK (p : Pass) : Prop := (0 ≤ p.sat ∧ p.sat ≤ 23) ∧ (0 ≤ p.stn ∧ p.stn ≤ 11) ∧ (0 ≤ p.cf ∧ p.cf < p.cu ∧ p.cu ≤ 1000001) ∧ ((p.sf = 0 ∧ p.su = 0) ∨ (p.cf ≤ p.sf ∧ p.sf < p.su ∧ p.su ≤ p.cu))
instance (p : Pass) : Decidable (passOK p) := by unfold passOK; infer_instance
def isPassB (p : Pass) : Bool := decide (passOK p)
/-- The order of passes, as a sign. -/
def sgnI (x y : Int) : Int := if x < y then -1 else if y < x then 1 else 0
def orI (a b : Int) : Int := if a ≠ 0 then a else b
def cmpP (a b : Pass) : Int := orI (sgnI a.cf b.cf) (orI (sgnI a.sat b.sat) (orI (sgnI a.stn b.stn) (orI (sgnI a.sf b.sf) (sgnI a.cu b.cu))))
def beforeB (a b : Pass) : Bool := if a.cf ≠ b.cf then decide (a.cf < b.cf) else if a.sat ≠ b.sat then decide (a.sat < b.sat) else if a.stn ≠ b.stn then decide (a.stn < b.stn) else if a.sf ≠ b.sf then decide (a.sf < b.sf) else decide (a.cu < b.cu)
theorem sgn_ne {x y : Int} : sgnI x y ≠ 0 ↔ x ≠ y := by unfold sgnI; split <;> (try split) <;> omega
theorem sgn_lt {x y : Int} : sgnI x y < 0 ↔ x < y := by unfold sgnI; split <;> (try split) <;> omega
theorem before_cmp (a b : Pass) : beforeB a b = decide (cmpP a b < 0) := by
  unfold beforeB cmpP orI
  simp only [sgn_ne]
  repeat' split
  all_goals simp only [sgn_lt]
def properB (l : List Pass) : Bool := decide (l.length ≤ 64) && (decide (∀ i, i < l.length → isPassB (l.getD i noPass) = true) && decide (∀ i, i < l.length → 0 < i → beforeB (l.getD i noPass) (l.getD (i - 1) noPass) = false))
/-- A pass of passes. -/
def passAt (l : List Pass) (p : Int) : Pass := l.getD p.toNat noPass
def endAt (o : List Slot) (i : Nat) : Int := if i = 0 then 0 else (o.getD (i - 1) noSlot).to
def slotOK (l : List Pass) (o : List Slot) (i : Nat) : Prop :=
  let s := o.getD i noSlot
  (0 ≤ s.pass ∧ s.pass < l.length) ∧ (max (endAt o i) (passAt l s.pass).sf ≤ s.fr ∧ s.fr < s.to ∧ s.to ≤ (passAt l s.pass).su)
instance (l : List Pass) (o : List Slot) (i : Nat) : Decidable (slotOK l o i) := by unfold slotOK; infer_instance
def slotsB (l : List Pass) (o : List Slot) : Bool := decide (∀ i, i < o.length → slotOK l o i)
def validB (l : List Pass) (o : List Slot) : Bool := decide (1 ≤ o.length) && (decide (o.length ≤ 6) && (properB l && slotsB l o))
def prevI (l : List Int) (i : Nat) : Int := if i = 0 then -1 else l.getD (i - 1) 0
def ascB (n : Int) (l : List Int) : Bool := decide (∀ i, i < l.length → prevI l i < l.getD i 0 ∧ l.getD i 0 < n)
def setB (l : List Pass) (x : List Int) : Bool := ascB l.length x && properB l
def limB (k : Int) : Bool := decide (0 ≤ k) && decide (k ≤ 3)
/-! ### How many passes of a day -/
def maxL (l : List Nat) : Nat := l.foldr max 0
theorem maxL_ge {l : List Nat} {x : Nat} (h : x ∈ l) : x ≤ maxL l := by
  induction l with
  | nil => cases h
  | cons y l ih =>
    simp only [maxL, List.foldr_cons]
    rcases List.mem_cons.1 h with rfl | h
    · exact Nat.le_max_left _ _
    · exact Nat.le_trans (ih h) (Nat.le_max_right _ _)
theorem maxL_le {l : List Nat} {n : Nat} (h : ∀ x ∈ l, x ≤ n) : maxL l ≤ n := by
  induction l with
  | nil => exact Nat.zero_le _
  | cons y l ih =>
    simp only [maxL, List.foldr_cons]
    exact Nat.max_le.2 ⟨h y List.mem_cons_self, ih (fun x hx => h x (List.mem_cons_of_mem _ hx))⟩
def maxC (ds : List Int) : Nat := maxL (ds.map (fun d => ds.count d))
theorem maxC_ge {ds : List Int} {d : Int} (h : d ∈ ds) : ds.count d ≤ maxC ds := maxL_ge (List.mem_map_of_mem h)
theorem maxC_le {ds : List Int} {n : Nat} (h : ∀ d ∈ ds, ds.count d ≤ n) : maxC ds ≤ n := maxL_le (fun x hx => by obtain ⟨d, hd, rfl⟩ := List.mem_map.1 hx; exact h d hd)
theorem maxC_nil : maxC [] = 0 := rfl
theorem maxC_snoc (ds : List Int) (d : Int) : maxC (ds ++ [d]) = max (maxC ds) (ds.count d + 1) := by
  have hd : (ds ++ [d]).count d = ds.count d + 1 := by rw [List.count_append, List.count_singleton_self]
  refine Nat.le_antisymm (maxC_le fun e he => ?_) (Nat.max_le.2 ⟨maxC_le fun e he => ?_, ?_⟩)
  · by_cases h : e = d
    · subst h; rw [hd]; exact Nat.le_max_right _ _
    · have : (ds ++ [d]).count e = ds.count e := by rw [List.count_append, List.count_singleton, if_neg (by simpa using fun h2 => h h2.symm)]; rfl
      rw [this]
      rcases List.mem_append.1 he with he | he
      · exact Nat.le_trans (maxC_ge he) (Nat.le_max_left _ _)
      · exact absurd (List.mem_singleton.1 he) h
  · refine Nat.le_trans ?_ (maxC_ge (List.mem_append_left _ he))
    rw [List.count_append]; omega
  · rw [← hd]; exact maxC_ge (List.mem_append_right _ (List.mem_singleton.2 rfl))
theorem maxC_sub {a b : List Int} (h : a.Sublist b) : maxC a ≤ maxC b :=
  maxC_le fun _ hd => Nat.le_trans (h.count_le _) (maxC_ge (h.subset hd))
theorem maxC_pos {a : List Int} (h : a ≠ []) : 1 ≤ maxC a := by
  cases a with
  | nil => exact absurd rfl h
  | cons d a =>
    have := maxC_ge (ds := d :: a) (List.mem_cons_self)
    rw [List.count_cons_self] at this; omega
theorem maxC_len (a : List Int) : maxC a ≤ a.length := maxC_le fun _ _ => List.count_le_length
/-- The greatest number among the first i. -/
def partC (ds : List Int) : Nat → Nat
  | 0 => 0
  | i + 1 => max (partC ds i) (ds.count (ds.getD i 0))
theorem partC_all (ds : List Int) : partC ds ds.length = maxC ds := by
  have h1 : ∀ i, i ≤ ds.length → partC ds i ≤ maxC ds := by
    intro i
    induction i with
    | zero => intro _; exact Nat.zero_le _
    | succ i ih =>
      intro h
      refine Nat.max_le.2 ⟨ih (by omega), maxC_ge ?_⟩
      rw [List.getD_eq_getElem?_getD, List.getElem?_eq_getElem (by omega), Option.getD_some]
      exact List.getElem_mem _
  have h2 : ∀ i j, j < i → ds.count (ds.getD j 0) ≤ partC ds i := by
    intro i
    induction i with
    | zero => intro j h; omega
    | succ i ih =>
      intro j h
      by_cases e : j = i
      · subst e; exact Nat.le_max_right _ _
      · exact Nat.le_trans (ih j (by omega)) (Nat.le_max_left _ _)
  refine Nat.le_antisymm (h1 _ (Nat.le_refl _)) (maxC_le fun d hd => ?_)
  obtain ⟨j, hj, rfl⟩ := List.getElem_of_mem hd
  have := h2 ds.length j hj
  rwa [List.getD_eq_getElem?_getD, List.getElem?_eq_getElem hj, Option.getD_some] at this
def dayP (l : List Pass) (p : Int) : Int := (passAt l p).cf.tdiv 1440
def daysV (l : List Pass) (x : List Int) : List Int := x.map (dayP l)
def mostV (l : List Pass) (x : List Int) : Nat := maxC (daysV l x)
theorem mostV_nil (l : List Pass) : mostV l [] = 0 := rfl
theorem mostV_sub {l : List Pass} {a b : List Int} (h : a.Sublist b) : mostV l a ≤ mostV l b := maxC_sub (h.map _)
theorem mostV_pos {l : List Pass} {a : List Int} (h : a ≠ []) : 1 ≤ mostV l a := maxC_pos (by unfold daysV; simpa using h)
theorem mostV_len (l : List Pass) (a : List Int) : mostV l a ≤ a.length := by have := maxC_len (daysV l a); unfold daysV at this; rwa [List.length_map] at this
def allowB (l : List Pass) (x : List Int) (k : Int) : Bool := limB k && (setB l x && decide ((mostV l x : Int) ≤ k))
/-! ### Ascending lists -/
def Asc (l : List Int) : Prop := l.Pairwise (· < ·)
def putV : List Int → Int → List Int
  | [], n => [n]
  | x :: r, n => if x < n then x :: putV r n else if x = n then x :: r else n :: x :: r
theorem putV_mem (l : List Int) (n x : Int) : x ∈ putV l n ↔ x = n ∨ x ∈ l := by
  induction l with
  | nil => simp [putV]
  | cons y l ih =>
    rw [putV]
    split
    · rw [List.mem_cons, ih, List.mem_cons]
      constructor
      · rintro (h | h | h) <;> simp [h]
      · rintro (h | h | h) <;> simp [h]
    · split
      · rename_i h
        subst h
        rw [List.mem_cons]
        constructor
        · rintro (h | h) <;> simp [h]
        · rintro (h | h | h) <;> simp [h]
      · rw [List.mem_cons]
theorem putV_asc {l : List Int} (h : Asc l) (n : Int) : Asc (putV l n) := by
  induction l with
  | nil => exact List.pairwise_singleton _ _
  | cons y l ih =>
    unfold Asc at h ih ⊢
    rw [List.pairwise_cons] at h
    rw [putV]
    split
    · rename_i hy
      rw [List.pairwise_cons]
      refine ⟨fun z hz => ?_, ih h.2⟩
      rcases (putV_mem _ _ _).1 hz with rfl | hz
      · exact hy
      · exact h.1 z hz
    · split
      · exact List.pairwise_cons.2 h
      · rename_i h1 h2
        refine List.pairwise_cons.2 ⟨fun z hz => ?_, List.pairwise_cons.2 h⟩
        rcases List.mem_cons.1 hz with rfl | hz
        · omega
        · have := h.1 z hz; omega
theorem asc_sub {a b : List Int} (ha : Asc a) (hb : Asc b) (h : ∀ x ∈ a, x ∈ b) : a.Sublist b := by
  induction b generalizing a with
  | nil =>
    cases a with
    | nil => exact List.Sublist.refl _
    | cons x a => exact absurd (h x List.mem_cons_self) (by simp)
  | cons y b ih =>
    unfold Asc at ha hb ih
    rw [List.pairwise_cons] at hb
    cases a with
    | nil => exact List.nil_sublist _
    | cons x a =>
      rw [List.pairwise_cons] at ha
      rcases List.mem_cons.1 (h x List.mem_cons_self) with rfl | hx
      · refine List.Sublist.cons_cons _ (ih ha.2 hb.2 fun z hz => ?_)
        rcases List.mem_cons.1 (h z (List.mem_cons_of_mem _ hz)) with rfl | hz2
        · exact absurd (ha.1 z hz) (by omega)
        · exact hz2
      · refine List.Sublist.cons _ (ih (List.pairwise_cons.2 ha) hb.2 fun z hz => ?_)
        rcases List.mem_cons.1 (h z hz) with rfl | hz2
        · have h1 := hb.1 x hx
          rcases List.mem_cons.1 hz with rfl | hz3
          · omega
          · have := ha.1 z hz3; omega
        · exact hz2
theorem asc_ext {a b : List Int} (ha : Asc a) (hb : Asc b) (h : ∀ x, x ∈ a ↔ x ∈ b) : a = b :=
  (asc_sub ha hb fun x hx => (h x).1 hx).eq_of_length_le (asc_sub hb ha fun x hx => (h x).2 hx).length_le
theorem asc_filter {a : List Int} (ha : Asc a) (p : Int → Bool) : Asc (a.filter p) := List.Pairwise.sublist List.filter_sublist ha
theorem asc_nodup {a : List Int} (ha : Asc a) : a.Nodup := List.Pairwise.imp (fun h => by omega) ha
/-- Put, by the place at which it stops. -/
theorem put_at {l : List Int} {n : Int} {i : Nat} (hi : i ≤ l.length) (h1 : ∀ j, j < i → l.getD j 0 < n) (h2 : i < l.length → ¬ l.getD i 0 < n) :
    putV l n = if i < l.length ∧ l.getD i 0 = n then l else l.take i ++ n :: l.drop i := by
  induction l generalizing i with
  | nil =>
    obtain rfl : i = 0 := by simpa using hi
    simp [putV]
  | cons x l ih =>
    rw [putV]
    cases i with
    | zero =>
      have hx : ¬ x < n := by simpa using h2 (by simp)
      rw [if_neg hx]
      by_cases e : x = n
      · subst e; simp
      · rw [if_neg e, if_neg (by simpa using e)]; rfl
    | succ i =>
      have hx : x < n := by simpa using h1 0 (by omega)
      rw [if_pos hx, ih (i := i) (by simpa using hi) (fun j hj => by simpa using h1 (j + 1) (by omega)) (fun hl => by simpa using h2 (by simpa using hl))]
      simp only [List.length_cons, List.getD_cons_succ, List.take_succ_cons, List.drop_succ_cons, List.cons_append]
      by_cases e : i < l.length ∧ l.getD i 0 = n
      · rw [if_pos e, if_pos ⟨by omega, e.2⟩]
      · rw [if_neg e, if_neg (fun h => e ⟨by omega, h.2⟩)]
/-- Numbers, ascending, each once. -/
def ownI (x : List Int) : List Int := x.foldl putV []
theorem foldput_mem (x : List Int) : ∀ (l : List Int) (y : Int), y ∈ x.foldl putV l ↔ y ∈ x ∨ y ∈ l := by
  induction x with
  | nil => intro l y; simp
  | cons z x ih =>
    intro l y
    rw [List.foldl_cons, ih, putV_mem, List.mem_cons]
    constructor
    · rintro (h | h | h) <;> simp [h]
    · rintro ((h | h) | h) <;> simp [h]
theorem foldput_asc (x : List Int) : ∀ {l : List Int}, Asc l → Asc (x.foldl putV l) := by
  induction x with
  | nil => intro l h; exact h
  | cons z x ih => intro l h; exact ih (putV_asc h z)
theorem ownI_mem (x : List Int) (y : Int) : y ∈ ownI x ↔ y ∈ x := by unfold ownI; rw [foldput_mem]; simp
theorem ownI_asc (x : List Int) : Asc (ownI x) := foldput_asc x List.Pairwise.nil
theorem ownI_fix {x : List Int} (h : Asc x) : ownI x = x := asc_ext (ownI_asc x) h (ownI_mem x)
theorem own_put (a : List Int) (b : List Int) : (ownI b).foldl putV (ownI a) = ownI (a ++ b) :=
  asc_ext (foldput_asc _ (ownI_asc a)) (ownI_asc _) fun x => by rw [foldput_mem, ownI_mem, ownI_mem, ownI_mem, List.mem_append, or_comm]
theorem own_snoc (a : List Int) (n : Int) : ownI (a ++ [n]) = putV (ownI a) n := by unfold ownI; rw [List.foldl_append]; rfl
theorem own_sub {a b : List Int} (h : ∀ x ∈ a, x ∈ b) : (ownI a).Sublist (ownI b) := asc_sub (ownI_asc a) (ownI_asc b) fun x hx => (ownI_mem _ _).2 (h x ((ownI_mem _ _).1 hx))
def passesV (o : List Slot) : List Int := o.map (·.pass)
def ownV (o : List Slot) : List Int := ownI (passesV o)
/-! ### The slot that is confirmed -/
def sentF (lost : List Int) : Int → List Slot → Int
  | _, [] => -1
  | i, s :: r => if lost.contains s.pass = true then sentF lost (i + 1) r else i
def sentV (o : List Slot) (lost : List Int) : Int := sentF lost 0 o
theorem sentF_spec (lost : List Int) : ∀ (o : List Slot) (i : Int), (sentF lost i o = -1 ∧ ∀ s ∈ o, s.pass ∈ lost) ∨ ∃ j : Nat, j < o.length ∧ sentF lost i o = i + j ∧ (o.getD j noSlot).pass ∉ lost ∧ ∀ m, m < j → (o.getD m noSlot).pass ∈ lost := by
  intro o
  induction o with
  | nil => intro i; exact .inl ⟨rfl, fun s hs => by cases hs⟩
  | cons s o ih =>
    intro i
    rw [sentF]
    by_cases h : lost.contains s.pass = true
    · rw [if_pos h]
      have hm : s.pass ∈ lost := by simpa using h
      rcases ih (i + 1) with ⟨h1, h2⟩ | ⟨j, h1, h2, h3, h4⟩
      · refine .inl ⟨h1, fun t ht => ?_⟩
        rcases List.mem_cons.1 ht with rfl | ht
        · exact hm
        · exact h2 t ht
      · refine .inr ⟨j + 1, by simpa using h1, by rw [h2]; omega, by simpa using h3, fun m hm2 => ?_⟩
        cases m with
        | zero => exact hm
        | succ m => simpa using h4 m (by omega)
    · rw [if_neg h]
      exact .inr ⟨0, by simp, by omega, by simpa using h, fun m hm => by omega⟩
theorem sentV_spec (o : List Slot) (lost : List Int) : (sentV o lost = -1 ∧ ∀ s ∈ o, s.pass ∈ lost) ∨ ∃ j : Nat, j < o.length ∧ sentV o lost = j ∧ (o.getD j noSlot).pass ∉ lost ∧ ∀ m, m < j → (o.getD m noSlot).pass ∈ lost := by
  have := sentF_spec lost o 0
  unfold sentV
  simpa only [Int.zero_add] using this
theorem sentV_at {o : List Slot} {lost : List Int} {j : Nat} (h1 : j < o.length) (h3 : (o.getD j noSlot).pass ∉ lost) (h4 : ∀ m, m < j → (o.getD m noSlot).pass ∈ lost) : sentV o lost = j := by
  rcases sentV_spec o lost with ⟨h, h2⟩ | ⟨i, k1, k2, k3, k4⟩
  · refine absurd (h2 (o.getD j noSlot) ?_) h3
    rw [List.getD_eq_getElem?_getD, List.getElem?_eq_getElem h1, Option.getD_some]; exact List.getElem_mem _
  · rcases Nat.lt_trichotomy i j with h | h | h
    · exact absurd (h4 i h) k3
    · rw [k2, h]
    · exact absurd (k4 j h) h3
theorem sentV_none {o : List Slot} {lost : List Int} (h : ∀ s ∈ o, s.pass ∈ lost) : sentV o lost = -1 := by
  rcases sentV_spec o lost with ⟨h2, -⟩ | ⟨i, k1, k2, k3, k4⟩
  · exact h2
  · refine absurd (h _ ?_) k3
    rw [List.getD_eq_getElem?_getD, List.getElem?_eq_getElem k1, Option.getD_some]; exact List.getElem_mem _
theorem getD_mem {α : Type} {l : List α} {i : Nat} (d : α) (h : i < l.length) : l.getD i d ∈ l := by
  rw [List.getD_eq_getElem?_getD, List.getElem?_eq_getElem h, Option.getD_some]; exact List.getElem_mem _
theorem mem_getD {α : Type} {l : List α} {x : α} (d : α) (h : x ∈ l) : ∃ i, i < l.length ∧ l.getD i d = x := by
  obtain ⟨i, hi, e⟩ := List.getElem_of_mem h
  exact ⟨i, hi, by rw [List.getD_eq_getElem?_getD, List.getElem?_eq_getElem hi, Option.getD_some]; exact e⟩
theorem mem_passes {o : List Slot} {x : Int} : x ∈ passesV o ↔ ∃ s ∈ o, s.pass = x := by unfold passesV; rw [List.mem_map]
theorem mem_own {o : List Slot} {x : Int} : x ∈ ownV o ↔ ∃ s ∈ o, s.pass = x := by unfold ownV; rw [ownI_mem, mem_passes]
theorem mem_take {α : Type} {l : List α} {i : Nat} {x : α} (d : α) (h : x ∈ l.take i) : ∃ j, j < i ∧ j < l.length ∧ l.getD j d = x := by
  obtain ⟨j, hj, e⟩ := mem_getD d h
  rw [List.length_take] at hj
  refine ⟨j, by omega, by omega, ?_⟩
  rw [← e, List.getD_eq_getElem?_getD, List.getD_eq_getElem?_getD, List.getElem?_take, if_pos (by omega)]
theorem take_mem {α : Type} {l : List α} {i j : Nat} (d : α) (h : j < i) (h2 : j < l.length) : l.getD j d ∈ l.take i := by
  have hj : j < (l.take i).length := by rw [List.length_take]; omega
  have := getD_mem d hj
  rwa [List.getD_eq_getElem?_getD, List.getElem?_take, if_pos h, ← List.getD_eq_getElem?_getD] at this
/-! ### The answers -/
def latOK (l : List Pass) (o : List Slot) (k : Int) (i : Nat) : Bool := decide ((mostV l (ownV (o.take i)) : Int) ≤ k) && !(ownV (o.take i)).contains (o.getD i noSlot).pass
def latI (l : List Pass) (o : List Slot) (k : Int) : Nat → Nat
  | 0 => 0
  | i + 1 => if latOK l o k (i + 1) = true then i + 1 else latI l o k i
theorem latI_le (l : List Pass) (o : List Slot) (k : Int) : ∀ i, latI l o k i ≤ i
  | 0 => Nat.le_refl _
  | i + 1 => by
    rw [latI]; split
    · exact Nat.le_refl _
    · have := latI_le l o k i; omega
theorem latOK_zero {l : List Pass} {o : List Slot} {k : Int} (hk : 0 ≤ k) : latOK l o k 0 = true := by
  unfold latOK
  rw [List.take_zero, show ownV [] = [] from rfl, mostV_nil]
  simpa using hk
theorem latI_ok {l : List Pass} {o : List Slot} {k : Int} (hk : 0 ≤ k) : ∀ i, latOK l o k (latI l o k i) = true
  | 0 => latOK_zero hk
  | i + 1 => by
    rw [latI]; split
    · assumption
    · exact latI_ok hk i
theorem latI_max {l : List Pass} {o : List Slot} {k : Int} : ∀ i j, j ≤ i → latOK l o k j = true → j ≤ latI l o k i
  | 0, j, h, _ => by omega
  | i + 1, j, h, hj => by
    rw [latI]; split
    · exact h
    · rename_i hn
      have : j ≠ i + 1 := fun e => hn (e ▸ hj)
      exact latI_max i j (by omega) hj
def lastV (l : List Pass) (o : List Slot) (k : Int) : Nat := latI l o k (o.length - 1)
def lateL (l : List Pass) (o : List Slot) (k : Int) : List Int := ownV (o.take (lastV l o k))
/-- What the latest slot's set leaves. -/
theorem late_sent {l : List Pass} {o : List Slot} {k : Int} (hk : 0 ≤ k) (ho : 0 < o.length) : sentV o (lateL l o k) = lastV l o k ∧ (mostV l (lateL l o k) : Int) ≤ k ∧ lastV l o k < o.length := by
  have h1 : lastV l o k ≤ o.length - 1 := latI_le l o k _
  have h2 : latOK l o k (lastV l o k) = true := latI_ok hk _
  unfold latOK at h2
  rw [Bool.and_eq_true, decide_eq_true_eq, Bool.not_eq_true'] at h2
  refine ⟨sentV_at (by omega) ?_ (fun m hm => ?_), h2.1, by omega⟩
  · intro h
    have : (lateL l o k).contains (o.getD (lastV l o k) noSlot).pass = true := by simpa using h
    rw [show lateL l o k = ownV (o.take (lastV l o k)) from rfl, h2.2] at this
    cases this
  · exact mem_own.2 ⟨_, take_mem _ hm (by omega), rfl⟩
/-- No slot behind the latest one is confirmed. -/
theorem sent_late {l : List Pass} {o : List Slot} {k : Int} {x : List Int} (hx : Asc x) (hm : (mostV l x : Int) ≤ k) : sentV o x ≤ lastV l o k := by
  rcases sentV_spec o x with ⟨h, -⟩ | ⟨j, h1, h2, h3, h4⟩
  · rw [h]; omega
  · rw [h2]
    have hj : j ≤ lastV l o k := by
      refine latI_max _ _ (by omega) ?_
      have hin : ∀ y ∈ ownV (o.take j), y ∈ x := fun y hy => by
        obtain ⟨s, hs, rfl⟩ := mem_own.1 hy
        obtain ⟨m, hm1, -, rfl⟩ := mem_take noSlot hs
        exact h4 m hm1
      unfold latOK
      rw [Bool.and_eq_true, decide_eq_true_eq, Bool.not_eq_true']
      refine ⟨?_, ?_⟩
      · have := mostV_sub (l := l) (asc_sub (ownI_asc _) hx hin)
        unfold ownV; omega
      · refine Bool.eq_false_iff.2 fun hc => h3 (hin _ ?_)
        simpa using hc
    omega
theorem fails_iff {o : List Slot} {x : List Int} : sentV o x = -1 ↔ ∀ y ∈ ownV o, y ∈ x := by
  constructor
  · intro h y hy
    obtain ⟨s, hs, rfl⟩ := mem_own.1 hy
    rcases sentV_spec o x with ⟨-, h2⟩ | ⟨j, h1, h2, h3, h4⟩
    · exact h2 s hs
    · omega
  · intro h
    exact sentV_none fun s hs => h _ (mem_own.2 ⟨s, hs, rfl⟩)
theorem sent_bd (o : List Slot) (x : List Int) : -1 ≤ sentV o x ∧ sentV o x < o.length := by
  rcases sentV_spec o x with ⟨h, -⟩ | ⟨j, h1, h2, -, -⟩ <;> omega
/-- What a lost set of an option's passes does. -/
theorem fails_most {l : List Pass} {o : List Slot} {x : List Int} (hx : Asc x) (h : sentV o x = -1) : mostV l (ownV o) ≤ mostV l x := mostV_sub (asc_sub (ownI_asc _) hx (fails_iff.1 h))
theorem fails_own (o : List Slot) : sentV o (ownV o) = -1 := fails_iff.2 fun _ h => h
/-- The loss of other passes plays no part. -/
theorem sent_mine {o : List Slot} {x : List Int} : sentV o (x.filter fun y => (ownV o).contains y) = sentV o x := by
  have h : ∀ j, j < o.length → ((o.getD j noSlot).pass ∈ x.filter (fun y => (ownV o).contains y) ↔ (o.getD j noSlot).pass ∈ x) := fun j hj => by
    rw [List.mem_filter]
    have : (ownV o).contains (o.getD j noSlot).pass = true := by simpa using mem_own.2 ⟨_, getD_mem _ hj, rfl⟩
    exact ⟨fun h => h.1, fun h => ⟨h, this⟩⟩
  rcases sentV_spec o x with ⟨h1, h2⟩ | ⟨j, h1, h2, h3, h4⟩
  · rw [h1]
    refine sentV_none fun s hs => ?_
    obtain ⟨j, hj, rfl⟩ := mem_getD noSlot hs
    exact (h j hj).2 (h2 _ hs)
  · rw [h2]
    exact sentV_at h1 (fun hc => h3 ((h j h1).1 hc)) (fun m hm => (h m (by omega)).2 (h4 m hm))
/-! ### Ascending, by places -/
theorem asc_of {n : Int} {l : List Int} (h : ascB n l = true) : Asc l ∧ ∀ x ∈ l, 0 ≤ x ∧ x < n := by
  unfold ascB at h
  rw [decide_eq_true_eq] at h
  have h1 : ∀ j i, i < j → j < l.length → l.getD i 0 < l.getD j 0 := by
    intro j
    induction j with
    | zero => intro i h; omega
    | succ j ih =>
      intro i hi hj
      have h2 := (h (j + 1) hj).1
      rw [prevI, if_neg (by omega), Nat.add_sub_cancel] at h2
      by_cases e : i = j
      · subst e; exact h2
      · have := ih i (by omega) (by omega); omega
  have h0 : ∀ j, j < l.length → 0 ≤ l.getD j 0 := fun j hj => by
    have h2 := (h 0 (by omega)).1
    rw [prevI, if_pos rfl] at h2
    by_cases e : j = 0
    · subst e; omega
    · have := h1 j 0 (by omega) hj; omega
  refine ⟨List.pairwise_iff_getElem.2 fun i j hi hj hij => ?_, fun x hx => ?_⟩
  · have := h1 j i hij hj
    rwa [List.getD_eq_getElem?_getD, List.getElem?_eq_getElem hi, List.getD_eq_getElem?_getD, List.getElem?_eq_getElem hj] at this
  · obtain ⟨j, hj, rfl⟩ := mem_getD 0 hx
    exact ⟨h0 j hj, (h j hj).2⟩
theorem to_ascB {n : Int} {l : List Int} (h : Asc l) (h2 : ∀ x ∈ l, 0 ≤ x ∧ x < n) : ascB n l = true := by
  unfold ascB
  rw [decide_eq_true_eq]
  intro i hi
  refine ⟨?_, (h2 _ (getD_mem 0 hi)).2⟩
  unfold prevI
  split
  · have := (h2 _ (getD_mem 0 hi)).1; omega
  · have := List.pairwise_iff_getElem.1 h (i - 1) i (by omega) hi (by omega)
    rwa [List.getD_eq_getElem?_getD, List.getElem?_eq_getElem (by omega), List.getD_eq_getElem?_getD, List.getElem?_eq_getElem hi]
/-! ### The worst: lists of options -/
def goneV (os : List (List Slot)) (some : List Nat) : List Int := ownI (some.flatMap fun i => passesV (os.getD i []))
def pickL (best b : List Nat) : List Nat := if best.length < b.length then b else best
/-- As the program goes: extend, with the longest list so far. -/
def dfs (acc : List Nat → Bool) : Nat → List Nat → Nat → List Nat → List Nat
  | 0, _, _, best => best
  | f + 1, l, i, best => dfs acc f l (i + 1) (if acc (l ++ [i]) = true then dfs acc f (l ++ [i]) (i + 1) (pickL best (l ++ [i])) else best)
/-- As the reference goes. -/
def wrs (acc : List Nat → Bool) : Nat → List Nat → Nat → List Nat → List Nat
  | 0, _, _, best => best
  | f + 1, l, i, best => wrs acc f l (i + 1) (if acc (l ++ [i]) = true then pickL best (wrs acc f (l ++ [i]) (i + 1) (l ++ [i])) else best)
theorem pick_ge (a b : List Nat) : a.length ≤ (pickL a b).length ∧ b.length ≤ (pickL a b).length := by unfold pickL; split <;> omega
theorem pick_or (a b : List Nat) : pickL a b = a ∨ a.length < (pickL a b).length := by
  unfold pickL; split
  · right; assumption
  · left; rfl
theorem wrs_or (acc : List Nat → Bool) : ∀ (f : Nat) (l : List Nat) (i : Nat) (best : List Nat), wrs acc f l i best = best ∨ best.length < (wrs acc f l i best).length
  | 0, _, _, _ => .inl rfl
  | f + 1, l, i, best => by
    rw [wrs]
    split
    · rcases wrs_or acc f l (i + 1) (pickL best (wrs acc f (l ++ [i]) (i + 1) (l ++ [i]))) with h | h
      · rw [h]; exact pick_or _ _
      · right; have := (pick_ge best (wrs acc f (l ++ [i]) (i + 1) (l ++ [i]))).1; omega
    · exact wrs_or acc f l (i + 1) best
/-- With a best list that is no shorter, the search behind a list is to take the better one. -/
theorem wrs_pick (acc : List Nat → Bool) : ∀ (f : Nat) (l : List Nat) (i : Nat) (best : List Nat), l.length ≤ best.length → wrs acc f l i best = pickL best (wrs acc f l i l)
  | 0, l, i, best, h => by
    rw [wrs, wrs]; unfold pickL; rw [if_neg (by omega)]
  | f + 1, l, i, best, h => by
    rw [wrs, wrs]
    split
    · generalize hb : wrs acc f (l ++ [i]) (i + 1) (l ++ [i]) = b
      have h1 : l.length < b.length := by
        rcases wrs_or acc f (l ++ [i]) (i + 1) (l ++ [i]) with h2 | h2
        · rw [← hb, h2]; simp
        · rw [hb] at h2; simp at h2; omega
      have e : pickL l b = b := by unfold pickL; rw [if_pos h1]
      rw [e, wrs_pick acc f l (i + 1) (pickL best b) (Nat.le_trans h (pick_ge _ _).1), wrs_pick acc f l (i + 1) b (by omega)]
      generalize wrs acc f l (i + 1) l = c
      unfold pickL
      repeat' split
      all_goals first | rfl | omega | (exfalso; omega)
    · rw [wrs_pick acc f l (i + 1) best h]
theorem dfs_wrs (acc : List Nat → Bool) : ∀ (f : Nat) (l : List Nat) (i : Nat) (best : List Nat), l.length ≤ best.length → dfs acc f l i best = wrs acc f l i best
  | 0, _, _, _, _ => rfl
  | f + 1, l, i, best, h => by
    rw [dfs, wrs]
    split
    · have e : dfs acc f (l ++ [i]) (i + 1) (pickL best (l ++ [i])) = pickL best (wrs acc f (l ++ [i]) (i + 1) (l ++ [i])) := by
        rw [dfs_wrs acc f _ _ _ (pick_ge _ _).2, wrs_pick acc f _ _ _ (pick_ge _ _).2]
        rcases wrs_or acc f (l ++ [i]) (i + 1) (l ++ [i]) with h2 | h2
        · rw [h2]; unfold pickL; repeat' split
          all_goals first | rfl | omega
        · generalize wrs acc f (l ++ [i]) (i + 1) (l ++ [i]) = b at h2
          unfold pickL; repeat' split
          all_goals first | rfl | omega
      rw [e, dfs_wrs acc f l (i + 1) _ (Nat.le_trans h (pick_ge _ _).1)]
    · exact dfs_wrs acc f l (i + 1) best h
def worstV (acc : List Nat → Bool) (n : Nat) : List Nat := wrs acc n [] 0 []
/-- What is found is a list that ascends, and is accepted. -/
def Good (acc : List Nat → Bool) (n : Nat) (l : List Nat) : Prop := l.Pairwise (· < ·) ∧ (∀ x ∈ l, x < n) ∧ (l = [] ∨ acc l = true)
theorem wrs_good (acc : List Nat → Bool) (n : Nat) : ∀ (f : Nat) (l : List Nat) (i : Nat) (best : List Nat), i + f = n → (∀ x ∈ l, x < i) → l.Pairwise (· < ·) → Good acc n best → Good acc n (wrs acc f l i best)
  | 0, _, _, _, _, _, _, h => h
  | f + 1, l, i, best, h1, h2, h3, h4 => by
    rw [wrs]
    have hl : ∀ x ∈ l, x < i + 1 := fun x hx => by have := h2 x hx; omega
    split
    · rename_i ha
      refine wrs_good acc n f l (i + 1) _ (by omega) hl h3 ?_
      have hn : Good acc n (l ++ [i]) := by
        refine ⟨List.pairwise_append.2 ⟨h3, List.pairwise_singleton _ _, fun x hx y hy => ?_⟩, fun x hx => ?_, .inr ha⟩
        · rw [List.mem_singleton.1 hy]; exact h2 x hx
        · rcases List.mem_append.1 hx with hx | hx
          · have := h2 x hx; omega
          · rw [List.mem_singleton.1 hx]; omega
      have := wrs_good acc n f (l ++ [i]) (i + 1) (l ++ [i]) (by omega) (fun x hx => by
        rcases List.mem_append.1 hx with hx | hx
        · exact hl x hx
        · rw [List.mem_singleton.1 hx]; omega) hn.1 hn
      unfold pickL
      split
      · exact this
      · exact h4
    · exact wrs_good acc n f l (i + 1) best (by omega) hl h3 h4
theorem wrs_ge (acc : List Nat → Bool) (f : Nat) (l : List Nat) (i : Nat) (best : List Nat) : best.length ≤ (wrs acc f l i best).length := by
  rcases wrs_or acc f l i best with h | h
  · rw [h]; exact Nat.le_refl _
  · omega
/-- No list whose beginnings are accepted is longer. -/
theorem wrs_max (acc : List Nat → Bool) (n : Nat) : ∀ (f : Nat) (l : List Nat) (i : Nat) (best y : List Nat), i + f = n → y.Pairwise (· < ·) → (∀ x ∈ y, i ≤ x ∧ x < n) → (∀ m, m < y.length → acc (l ++ y.take (m + 1)) = true) → l.length ≤ best.length → (l ++ y).length ≤ (wrs acc f l i best).length
  | 0, l, i, best, y, h1, h2, h3, h4, h5 => by
    cases y with
    | nil => rw [wrs, List.append_nil]; exact h5
    | cons x y => have := h3 x List.mem_cons_self; omega
  | f + 1, l, i, best, y, h1, h2, h3, h4, h5 => by
    rw [wrs]
    cases y with
    | nil =>
      rw [List.append_nil]
      refine Nat.le_trans ?_ (wrs_ge _ _ _ _ _)
      split
      · exact Nat.le_trans h5 (pick_ge _ _).1
      · exact h5
    | cons x y =>
      have hx := h3 x List.mem_cons_self
      rw [List.pairwise_cons] at h2
      by_cases e : x = i
      · subst e
        have ha : acc (l ++ [x]) = true := by simpa using h4 0 (by simp)
        rw [if_pos ha]
        refine Nat.le_trans ?_ (wrs_ge _ _ _ _ _)
        refine Nat.le_trans ?_ (pick_ge _ _).2
        have := wrs_max acc n f (l ++ [x]) (x + 1) (l ++ [x]) y (by omega) h2.2 (fun z hz => ⟨by have := h2.1 z hz; omega, (h3 z (List.mem_cons_of_mem _ hz)).2⟩) (fun m hm => by
          have := h4 (m + 1) (by simpa using hm)
          simpa using this) (Nat.le_refl _)
        simpa using this
      · refine wrs_max acc n f l (i + 1) _ (x :: y) (by omega) (List.pairwise_cons.2 h2) (fun z hz => ⟨?_, (h3 z hz).2⟩) h4 ?_
        · rcases List.mem_cons.1 hz with rfl | hz2
          · omega
          · have := h2.1 z hz2; omega
        · split
          · exact Nat.le_trans h5 (pick_ge _ _).1
          · exact h5
/-! ### What the worst lost set does -/
theorem ascN_sub {a b : List Nat} (ha : a.Pairwise (· < ·)) (hb : b.Pairwise (· < ·)) (h : ∀ x ∈ a, x ∈ b) : a.Sublist b := by
  induction b generalizing a with
  | nil =>
    cases a with
    | nil => exact List.Sublist.refl _
    | cons x a => exact absurd (h x List.mem_cons_self) (by simp)
  | cons y b ih =>
    rw [List.pairwise_cons] at hb
    cases a with
    | nil => exact List.nil_sublist _
    | cons x a =>
      rw [List.pairwise_cons] at ha
      rcases List.mem_cons.1 (h x List.mem_cons_self) with rfl | hx
      · refine List.Sublist.cons_cons _ (ih ha.2 hb.2 fun z hz => ?_)
        rcases List.mem_cons.1 (h z (List.mem_cons_of_mem _ hz)) with rfl | hz2
        · exact absurd (ha.1 z hz) (by omega)
        · exact hz2
      · refine List.Sublist.cons _ (ih (List.pairwise_cons.2 ha) hb.2 fun z hz => ?_)
        rcases List.mem_cons.1 (h z hz) with rfl | hz2
        · have h1 := hb.1 x hx
          rcases List.mem_cons.1 hz with rfl | hz3
          · omega
          · have := ha.1 z hz3; omega
        · exact hz2
def accW (l : List Pass) (os : List (List Slot)) (k : Int) (some : List Nat) : Bool := decide ((mostV l (goneV os some) : Int) ≤ k)
theorem gone_mem {os : List (List Slot)} {some : List Nat} {x : Int} : x ∈ goneV os some ↔ ∃ i, i ∈ some ∧ x ∈ ownV (os.getD i []) := by
  unfold goneV ownV
  rw [ownI_mem, List.mem_flatMap]
  constructor
  · rintro ⟨i, h1, h2⟩; exact ⟨i, h1, (ownI_mem _ _).2 h2⟩
  · rintro ⟨i, h1, h2⟩; exact ⟨i, h1, (ownI_mem _ _).1 h2⟩
theorem gone_snoc (os : List (List Slot)) (some : List Nat) (i : Nat) : goneV os (some ++ [i]) = (ownV (os.getD i [])).foldl putV (goneV os some) := by
  unfold goneV ownV
  rw [own_put, List.flatMap_append]
  simp
theorem gone_asc (os : List (List Slot)) (some : List Nat) : Asc (goneV os some) := ownI_asc _
theorem acc_of {l : List Pass} {os : List (List Slot)} {k : Int} {y : List Nat} {x : List Int} (hx : Asc x) (hm : (mostV l x : Int) ≤ k) (h : ∀ i ∈ y, ∀ z ∈ ownV (os.getD i []), z ∈ x) : accW l os k y = true := by
  unfold accW
  rw [decide_eq_true_eq]
  have := mostV_sub (l := l) (asc_sub (gone_asc os y) hx fun z hz => by obtain ⟨i, h1, h2⟩ := gone_mem.1 hz; exact h i h1 z h2)
  omega
theorem take_sub {α : Type} {l : List α} {n : Nat} {x : α} (h : x ∈ l.take n) : x ∈ l := List.mem_of_mem_take h
theorem worst_max {l : List Pass} {os : List (List Slot)} {k : Int} {n : Nat} {y : List Nat} {x : List Int} (hx : Asc x) (hm : (mostV l x : Int) ≤ k) (h1 : y.Pairwise (· < ·)) (h2 : ∀ i ∈ y, i < n) (h : ∀ i ∈ y, ∀ z ∈ ownV (os.getD i []), z ∈ x) :
    y.length ≤ (worstV (accW l os k) n).length := by
  have := wrs_max (accW l os k) n n [] 0 [] y (by omega) h1 (fun i hi => ⟨by omega, h2 i hi⟩) (fun m hm2 => by
    rw [List.nil_append]
    exact acc_of hx hm fun i hi => h i (take_sub hi)) (Nat.le_refl _)
  rwa [List.nil_append] at this
theorem worst_good (l : List Pass) (os : List (List Slot)) (k : Int) (n : Nat) : Good (accW l os k) n (worstV (accW l os k) n) :=
  wrs_good _ _ _ _ _ _ (by omega) (fun x hx => by cases hx) List.Pairwise.nil ⟨List.Pairwise.nil, fun x hx => by (cases hx), .inl rfl⟩
theorem worst_allowed {l : List Pass} {os : List (List Slot)} {k : Int} {n : Nat} (hk : 0 ≤ k) : (mostV l (goneV os (worstV (accW l os k) n)) : Int) ≤ k := by
  rcases (worst_good l os k n).2.2 with h | h
  · rw [h]; exact hk
  · unfold accW at h; exact of_decide_eq_true h
theorem filter_asc (n : Nat) (p : Nat → Bool) : ((List.range n).filter p).Pairwise (· < ·) := List.Pairwise.sublist List.filter_sublist List.pairwise_lt_range
/-- It lets exactly these options fail. -/
theorem worst_fails {l : List Pass} {os : List (List Slot)} {k : Int} {n i : Nat} (hk : 0 ≤ k) (hi : i < n) : sentV (os.getD i []) (goneV os (worstV (accW l os k) n)) = -1 ↔ i ∈ worstV (accW l os k) n := by
  have hg := worst_good l os k n
  have ha := worst_allowed (l := l) (os := os) (n := n) hk
  have hmx := fun y => worst_max (l := l) (os := os) (k := k) (n := n) (y := y) (gone_asc os (worstV (accW l os k) n)) ha
  generalize worstV (accW l os k) n = s at hg hmx ⊢
  rw [fails_iff]
  constructor
  · intro h
    have hy1 := filter_asc n (fun j => decide (j ∈ s ∨ j = i))
    have hym : ∀ j, j ∈ (List.range n).filter (fun j => decide (j ∈ s ∨ j = i)) ↔ (j < n ∧ (j ∈ s ∨ j = i)) := fun j => by
      rw [List.mem_filter, List.mem_range, decide_eq_true_eq]
    generalize (List.range n).filter (fun j => decide (j ∈ s ∨ j = i)) = y at hy1 hym
    have hlen := hmx y hy1 (fun j hj => ((hym j).1 hj).1) (fun j hj z hz => by
      rcases ((hym j).1 hj).2 with h2 | h2
      · exact gone_mem.2 ⟨j, h2, hz⟩
      · subst h2; exact h z hz)
    have hsub := ascN_sub hg.1 hy1 fun j hj => (hym j).2 ⟨hg.2.1 j hj, .inl hj⟩
    rw [hsub.eq_of_length_le hlen]
    exact (hym i).2 ⟨hi, .inr rfl⟩
  · intro h z hz
    exact gone_mem.2 ⟨i, h, hz⟩
/-- How many options fail. -/
def manyV (os : List (List Slot)) (x : List Int) (n : Nat) : Nat := ((List.range n).filter fun i => decide (sentV (os.getD i []) x = -1)).length
theorem many_le {l : List Pass} {os : List (List Slot)} {k : Int} {n : Nat} {x : List Int} (hx : Asc x) (hm : (mostV l x : Int) ≤ k) : manyV os x n ≤ (worstV (accW l os k) n).length :=
  worst_max hx hm (filter_asc _ _) (fun i hi => by rw [List.mem_filter, List.mem_range] at hi; exact hi.1) (fun i hi => by
    rw [List.mem_filter, decide_eq_true_eq] at hi
    exact fails_iff.1 hi.2)
theorem many_succ (os : List (List Slot)) (x : List Int) (n : Nat) : manyV os x (n + 1) = manyV os x n + if sentV (os.getD n []) x = -1 then 1 else 0 := by
  unfold manyV
  rw [List.range_succ, List.filter_append, List.length_append]
  congr 1
  split
  · rename_i h; rw [List.filter_cons_of_pos (by simpa using h)]; rfl
  · rename_i h; rw [List.filter_cons_of_neg (by simpa using h)]; rfl
end L18
