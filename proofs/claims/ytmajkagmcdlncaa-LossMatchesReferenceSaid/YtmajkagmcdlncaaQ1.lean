/- Laws of chapter 18: own rows of integers; what holds in a law's world. -/
import Derived.Test.YtmajkagmcdlncaaS3
namespace Go.Proofs.Ytmajkagmcdlncaa
open Go.RowKit Go.Shelf
open L18 (Pass Slot noPass noSlot validB passesG optV pickV X3)

theorem run_append_where {P : Program} (w : World) (base : Nat) (t ty e : TypeId) (i : TypeInfo) (z : Value) (size bytes : Nat) (ht : P.underlying t = some (.slice e)) (hi : P.info? e = some i) (hz : i.zero = some z)
    (hsize : i.size = size) (hby : i.bytes = bytes) (hzs : z.cells.size = size) (hsz : 0 < size)
    (v : Value) (n : Nat) (xs : List Value) (hown : w.ownsRow base e size v n xs)
    (a : Addr) (m c : Nat) (news : List Value) (hl : news.length = m * size) (hnews : ∀ j u, news[j]? = some u → w.cell? (a.add j) = some u) (h1 : ∀ u ∈ news, u.oneCell' = true)
    (h63 : n + m ≤ maxLen) (hbytes : (n + m) * bytes ≤ 140737488355328) (hbase : base ≤ w.heap.size) :
    ∃ v' w', (Builtin.append_ #[t, t] ty #[v, .slice (some a) m c]).run P w = .ok v' w' ∧ w'.ownsRow base e size v' (n + m) (xs ++ news) ∧ w.grownBy w' v.ownBlock ∧
      (v'.ownBlock = v.ownBlock ∨ v'.ownBlock = some w.heap.size) := by
  obtain ⟨v', w', hr, h2, h3, h4⟩ := run_append_own (P := P) w base t ty e i z size bytes ht hi hz hsize hby hzs hsz v n xs hown a m c news hl hnews h1 h63 hbytes hbase
  refine ⟨v', w', hr, h2, h3, ?_⟩
  rcases hown.2 with ⟨rfl, rfl⟩ | ⟨g, cap, cur, rfl, h5, h6, h7, h8⟩
  · by_cases hm : m = 0
    · left; rw [(h4.2 ⟨rfl, hm⟩)]
    · right
      subst hsize; subst hby
      have hr2 := run_append_nil (P := P) w t ty e i z ht hi hz a m c news hl hnews (by omega) (by have := h63; unfold maxLen at this; omega) (by have hb := hbytes; simp only [Nat.zero_add] at hb; omega)
      rw [hr2] at hr
      cases hr
      rfl
  · by_cases hroom : n + m ≤ cap
    · left
      obtain ⟨w2, hr2, -⟩ := run_append_fits (P := P) w base t ty e i size ht hi hsize g n cap xs hown a m c news hl hnews h1 hroom
      rw [hr2] at hr
      cases hr
      rfl
    · right
      subst hsize; subst hby
      have holds : ∀ j u, xs[j]? = some u → w.cell? ((⟨g, 0, none⟩ : Addr).add j) = some u := hown.cells (g := g) rfl
      have hr2 := run_append_grow (P := P) w t ty e i z ht hi hz ⟨g, 0, none⟩ n cap xs hown.1 holds a m c news hl hnews (by omega) (by have := h63; unfold maxLen at this; omega) (growslice_fits (by omega) hbytes)
      rw [hr2] at hr
      cases hr
      rfl
/-- Two rows apart. -/
def Apart (v1 v2 : Value) : Prop := ∀ g, v1.ownBlock = some g → v2.ownBlock ≠ some g
theorem Apart.symm {v1 v2 : Value} (h : Apart v1 v2) : Apart v2 v1 := fun g h2 h1 => h g h1 h2
theorem wpList_pushI {ops : Array Oper} {rest : List Oper} {o : Oper} {a : Act} {Q : Exit → Act → World → Prop} {w0 : World} {x : Int}
    (hgd : o.guard = none) (s y : Operand) (ho : o.op = .call { callee := .builtin .append, args := #[s, y], argTypes := #[23, 23] })
    {B : Nat} {v : Value} {l : List Int} (hown : OwnI w0 B v l) (hs : a.eval s = v) (hx : a.eval y = .slice (some ⟨w0.heap.size, 0, none⟩) 1 1) (hn : l.length ≤ 100000) (hB : B ≤ w0.heap.size)
    (h : ∀ v' w', OwnI w' B v' (l ++ [x]) → Below B w0 w' → (∀ v2 l2, OwnI w0 B v2 l2 → Apart v v2 → OwnI w' B v2 l2 ∧ Apart v' v2) → wpList Try.prog ops Q rest (a.put o.dst v') w') :
    wpList Try.prog ops Q (o :: rest) a (w0.alloc (.cells #[.int .i64 x] 3)) := by
  obtain ⟨i, hi, hz0, hz1, hz2⟩ := info_parts E37.info
  have hown1 : (w0.alloc (.cells #[.int .i64 x] 3)).ownsRow B 3 1 v l.length (l.map (Value.int .i64)) := World.ownsRow.alloc hown _
  obtain ⟨v', w', hrun, r1, r2, r3⟩ := run_append_where (P := Try.prog) (w0.alloc (.cells #[.int .i64 x] 3)) B 23 o.type 3 i _ 1 8 E37.und hi hz0 hz1 hz2 E37.zs E37.pos v l.length _ hown1 ⟨w0.heap.size, 0, none⟩ 1 1 [.int .i64 x] rfl
    (fun j u hj => by rw [add_zero_off, World.cell?_alloc_at _ _ _ _ rfl]; simpa using hj) (fun u hu => by simp at hu; subst hu; rfl) (by unfold maxLen; omega) (by omega) (by simp; omega)
  refine wpList_plain hgd fun K hK' => ?_
  unfold Oper.wp
  simp [execOp, ho, resolve, invoke, builtin, hs, hx, hrun, Result.andThen]
  refine hK' _ _ (h v' w' ?_ ?_ ?_)
  · unfold OwnI
    rw [List.length_append, List.map_append]
    exact r1
  · have hb1 : Below B w0 (w0.alloc (.cells #[.int .i64 x] 3)) := (Below.refl _ _).alloc hB _
    refine hb1.trans ⟨r2.os, r2.tape, r2.output, r2.size, fun k hk => r2.block k (by simp; omega) (fun e => ?_)⟩
    obtain ⟨cur, -, hg⟩ := owned_block hown1 e.symm
    omega
  · intro v2 l2 h2 hap
    refine ⟨owned_kept h2 fun g hg => ?_, fun g hg hg2 => ?_⟩
    · obtain ⟨cur, h3, -⟩ := owned_block h2 hg
      rw [r2.block g (by have := h3.lt; simp; omega) (fun e => hap g e.symm hg)]
      exact Below.heap_alloc _ _ _ h3.lt
    · rcases r3 with e | e
      · exact hap g (e ▸ hg) hg2
      · rw [hg] at e
        cases e
        obtain ⟨cur, h3, -⟩ := owned_block h2 hg2
        have := h3.lt
        simp at this
        omega
/-- What holds in a law's world: the passes, and the option in its cell. -/
structure LW (w W : World) (B : Nat) (vp vs : Value) (l : List Pass) (o : List Slot) : Prop where
  below : Below w.heap.size w W
  ps : PassesAt W vp l
  ob : Blk W B #[.int .i64 1, .int .i64 0, .int .i64 0, .int .i64 0, .int .i64 0, .int .i64 0, .int .i64 0, .int .i64 1, vs] 28
  sl : SlotsAt W vs o
theorem LW.later {w W W' : World} {B : Nat} {vp vs : Value} {l : List Pass} {o : List Slot} (h : LW w W B vp vs l o) (hb : Below W.heap.size W W') : LW w W' B vp vs l o :=
  ⟨h.below.trans (hb.mono h.below.size), PassesAt.later h.ps hb, h.ob.below hb h.ob.lt, SlotsAt.later h.sl hb⟩
theorem LW.opt {w W : World} {B : Nat} {vp vs : Value} {l : List Pass} {o : List Slot} (h : LW w W B vp vs l o) : OptV W (.agg #[.int .i64 1, .int .i64 0, .int .i64 0, .int .i64 0, .int .i64 0, .int .i64 0, .int .i64 0, .int .i64 1, vs]) ⟨optHd 1, o⟩ := ⟨vs, rfl, h.sl⟩
theorem LW.cells {w W : World} {B : Nat} {vp vs : Value} {l : List Pass} {o : List Slot} (h : LW w W B vp vs l o) : W.cell? ⟨B, 0, none⟩ = some (.int .i64 1) ∧ W.cell? ⟨B, 1, none⟩ = some (.int .i64 0) ∧ W.cell? ⟨B, 2, none⟩ = some (.int .i64 0) ∧ W.cell? ⟨B, 3, none⟩ = some (.int .i64 0) ∧ W.cell? ⟨B, 4, none⟩ = some (.int .i64 0) ∧ W.cell? ⟨B, 5, none⟩ = some (.int .i64 0) ∧ W.cell? ⟨B, 6, none⟩ = some (.int .i64 0) ∧ W.cell? ⟨B, 7, none⟩ = some (.int .i64 1) ∧ W.cell? ⟨B, 8, none⟩ = some vs :=
  ⟨h.ob.cell 0, h.ob.cell 1, h.ob.cell 2, h.ob.cell 3, h.ob.cell 4, h.ob.cell 5, h.ob.cell 6, h.ob.cell 7, h.ob.cell 8⟩
theorem sureOK_G (x : List X3) : SureOK (passesG x) := fun n hn => by
  have := L18.sureG (x := x) (p := (n : Int)) (by omega) (by omega)
  unfold L18.passAt at this
  simpa using this
theorem optV_nil (y : List Int) : optV [] y = [] := if_pos rfl
theorem passesG_len (x : List X3) : (passesG x).length ≤ 12 := by unfold passesG; rw [L18.passesK_len]; omega
/-- The numbers i below n with the i-th bit of s set. -/
def bitI (s : Int) (i : Nat) : Bool := (s / 2 ^ i).tmod 2 == 1
theorem bit_zero {s : Int} (i : Nat) (hs : 0 ≤ s) : ((s / 2 ^ i).tmod 2 == 0) = !bitI s i := by
  unfold bitI
  have h : 0 ≤ s / 2 ^ i := Int.ediv_nonneg hs (Int.le_of_lt (Int.pow_pos (by decide)))
  generalize s / 2 ^ i = z at h
  rw [Int.tmod_eq_emod_of_nonneg h]
  rcases Int.emod_two_eq z with e | e <;> rw [e] <;> rfl
def bitsL (s : Int) (n : Nat) : List Int := ((List.range n).filter (bitI s)).map fun i : Nat => (i : Int)
theorem bitsL_succ (s : Int) (n : Nat) : bitsL s (n + 1) = if bitI s n = true then bitsL s n ++ [(n : Int)] else bitsL s n := by
  unfold bitsL
  rw [List.range_succ, List.filter_append]
  by_cases h : bitI s n = true <;> simp [h]
theorem bitsL_mem {s : Int} {n : Nat} {x : Int} (h : x ∈ bitsL s n) : 0 ≤ x ∧ x < n := by
  unfold bitsL at h
  obtain ⟨i, hi, rfl⟩ := List.mem_map.1 h
  have := List.mem_range.1 (List.mem_filter.1 hi).1
  omega
theorem bitsL_asc (s : Int) (n : Nat) : L18.Asc (bitsL s n) := by
  unfold bitsL L18.Asc
  rw [List.pairwise_map]
  exact (List.Pairwise.sublist List.filter_sublist (List.pairwise_lt_range (n := n))).imp (fun h => by omega)
theorem bitsL_len (s : Int) (n : Nat) : (bitsL s n).length ≤ n := by
  unfold bitsL
  rw [List.length_map]
  exact Nat.le_trans List.filter_sublist.length_le (by rw [List.length_range]; exact Nat.le_refl _)
theorem proper_valid {l : List Pass} {o : List Slot} (h : validB l o = true) : L18.properB l = true := by
  unfold validB at h
  simp only [Bool.and_eq_true] at h
  exact h.2.2.1
theorem set_yes {l : List Pass} {x : List Int} (hp : L18.properB l = true) (h : L18.Asc x) (h2 : ∀ y ∈ x, 0 ≤ y ∧ y < l.length) : L18.setB l x = true := by
  unfold L18.setB
  rw [L18.to_ascB h h2, hp]; rfl
theorem sent_yes {l : List Pass} {o : List Slot} {x : List Int} (hv : validB l o = true) (h : L18.Asc x) (h2 : ∀ y ∈ x, 0 ≤ y ∧ y < l.length) : sentN l o x = L18.sentV o x ∧ sentE l o x = 0 := by
  have : sentOK l o x = true := by unfold sentOK; rw [hv, set_yes (proper_valid hv) h h2]; rfl
  unfold sentN sentE
  rw [if_pos this, if_pos this]
  exact ⟨rfl, rfl⟩
theorem lim_pick (c : Int) : L18.limB (pickV c 4) = true := by
  have := L18.pickV_bd c (n := 4) (by decide)
  unfold L18.limB
  rw [decide_eq_true this.1, decide_eq_true (by omega)]; rfl
theorem need_facts {l : List Pass} {o : List Slot} (hv : validB l o = true) (h0 : 0 < o.length) (h6 : o.length ≤ 6) (c : Int) :
    (needN l o = (L18.mostV l (L18.ownV o) : Nat) ∧ needE l o = 0) ∧ (sureE l o (pickV c 4) = 0 ∧ sureB l o (pickV c 4) = decide (pickV c 4 < (L18.mostV l (L18.ownV o) : Nat))) ∧ (sentN l o [] = 0 ∧ sentE l o [] = 0) ∧ 1 ≤ L18.mostV l (L18.ownV o) ∧ L18.mostV l (L18.ownV o) ≤ 6 := by
  have hk : okV l o (pickV c 4) = true := by unfold okV; rw [hv, lim_pick]; rfl
  refine ⟨⟨if_pos hv, if_pos hv⟩, ⟨if_pos hk, ?_⟩, ?_, ?_, ?_⟩
  · unfold sureB; rw [hk, Bool.true_and]
  · have := sent_yes hv (List.Pairwise.nil : L18.Asc []) (fun y hy => by cases hy)
    rw [this.1, this.2]
    refine ⟨?_, rfl⟩
    exact L18.sentV_at (j := 0) h0 (by simp) (fun m hm => absurd hm (Nat.not_lt_zero _))
  · refine L18.mostV_pos ?_
    intro e
    have : (o.getD 0 noSlot).pass ∈ L18.ownV o := L18.mem_own.2 ⟨_, L18.getD_mem _ h0, rfl⟩
    rw [e] at this; cases this
  · exact Nat.le_trans (L18.mostV_len _ _) (Nat.le_trans (own_len o) h6)
end Go.Proofs.Ytmajkagmcdlncaa
