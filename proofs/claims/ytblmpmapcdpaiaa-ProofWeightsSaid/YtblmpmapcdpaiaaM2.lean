/- Texts P7, P8, P9 in one. -/
import Derived.Test.YtblmpmapcdpaiaaM1
import Derived.Test.YtblmpmapcdpaiaaB2
section
/- program.Broken. -/
namespace Go.Proofs.Ytblmpmapcdpaiaa
open Go.RowKit Lib

theorem E24 : ElemOK Try.prog 24 3 (.int .i64 0) 1 8 := ⟨Try.underlying24, by kernel_rfl, rfl, by decide⟩
def row0 : RowD := ⟨0, 0, 0, 0, [], 0⟩
/-- The rows among the first k that a choice does not keep. -/
def brK (rows : List RowD) (set : Nat) : Nat → List Int
  | 0 => []
  | k + 1 => brK rows set k ++ if keptB (rows.getD k row0) set then [] else [(k : Int)]
def brokenV (p : ProgD) (set : Int) : List Int := if choiceB p set = true then brK p.rows set.toNat p.rows.length else []
theorem brK_len (rows : List RowD) (set : Nat) : ∀ k, (brK rows set k).length ≤ k := by
  intro k
  induction k with
  | zero => simp [brK]
  | succ k ih => simp only [brK]; split <;> simp <;> omega

set_option maxRecDepth 100000 in
set_option maxHeartbeats 1000000 in
theorem broken_all (v : Value) (p : ProgD) (set : Int) (w : World) (hv : ProgV w v p) :
    Calls Try.prog 32 #[v, .int .i64 set] w fun e w' => ∃ v', e = .returned v' ∧ IntsAt w' v' (brokenV p set) ∧ Below w.heap.size w w' := by
  obtain ⟨vr, vg, rfl, hvr, hvg⟩ := hv
  have hB0 : Below w.heap.size w (w.alloc (.cells #[.int .i64 p.vars, vr, vg] 29)) := (Below.refl _ _).alloc (Nat.le_refl _) _
  have hx := isChoice_all _ p set _ ⟨vr, vg, rfl, hvr.below hB0, hvg.below hB0⟩
  have HR := Lib.hid hvr
  obtain ⟨ra, rc, rfl, hr1, hr2⟩ := (show SlicesLen vr p.rows.length from hvr.len)
  unfold maxLen at hr2
  clear hvr hvg
  cases hch : choiceB p set with
  | false =>
    have hs : brokenV p set = [] := if_neg (by rw [hch]; decide)
    rw [hs]
    rw [hch] at hx
    clear hch hs
    go_enter Try.func32, Try.ntmps32
    go_wp2_with fail
    refine hx.mono ?_
    rintro e w' ⟨rfl, hB⟩
    go_wp2
    go_ret
    exact ⟨_, rfl, owned_slice (l := []) (World.ownsRow_nil w' 0 3 1), hB0.trans (hB.mono hB0.size)⟩
  | true =>
    have hs : brokenV p set = brK p.rows set.toNat p.rows.length := if_pos hch
    rw [hs]
    rw [hch] at hx
    obtain ⟨hval, s, rfl, hs1, hs2⟩ := choiceB_true hch
    have h300 := (validB_true hval).2.2.1
    have hrows : Hid (∀ r ∈ p.rows, r.coef.length ≤ 60 ∧ coefOK r.coef = true) := fun r hr => by
      obtain ⟨-, h2, h3, -⟩ := validB_row hval hr
      exact ⟨by omega, h3⟩
    clear hch hs hval
    rw [Int.toNat_natCast]
    go_enter Try.func32, Try.ntmps32
    go_wp2_with fail
    refine hx.mono ?_
    rintro e w1 ⟨rfl, hB⟩
    have k1 : w1.cell? ⟨w.heap.size, 1, none⟩ = some (.slice ra p.rows.length rc) := (hB.cell (by simp)).trans (World.cell?_alloc_at _ _ _ _ rfl)
    have hB1 := hB0.trans (hB.mono hB0.size)
    clear hB hx hB0
    go_wp2
    go_loopw [5, 16] (fun u5 u16 wr => ∃ k : Nat, k ≤ p.rows.length ∧ u16 = .int .i64 k ∧ wr.ownsRow w1.heap.size 3 1 u5 (brK p.rows s k).length ((brK p.rows s k).map (Value.int .i64)) ∧ Below w1.heap.size w1 wr) (fun _ u16 _ => (p.rows.length - intOf u16).toNat)
    case atStart => exact ⟨0, by omega, rfl, World.ownsRow_nil _ _ _ _, Below.refl _ _⟩
    case round =>
      obtain ⟨k, hk, rfl, hown, hBr⟩ := hrel
      by_cases hkl : k < p.rows.length
      · have hsome := Lib.hid (getD_some row0 hkl)
        have hBw := hB1.trans (hBr.mono hB1.size)
        obtain ⟨b, off, vc, rfl, c0, c1, c2, c3, c4, c5, hco⟩ := (HR.out.below hBw).get hsome.out
        obtain ⟨ca, cc, rfl, hca, hcc⟩ := (show SlicesLen vc _ from hco.len)
        have hBa : Below wr.heap.size wr (wr.alloc (.cells #[.int .i64 (p.rows.getD k row0).kind, .int .i64 (p.rows.getD k row0).a, .int .i64 (p.rows.getD k row0).b, .int .i64 (p.rows.getD k row0).at_, .slice ca (p.rows.getD k row0).coef.length cc, .int .i64 (p.rows.getD k row0).most] 26)) := (Below.refl _ _).alloc (Nat.le_refl _) _
        have hc := kept_any _ (p.rows.getD k row0) s _ ⟨_, rfl, hco.below hBa⟩ (hrows.out _ (List.mem_of_getElem? hsome.out)).1 (hrows.out _ (List.mem_of_getElem? hsome.out)).2 (by omega)
        clear hco
        have hbk := brK_len p.rows s k
        have HS : brK p.rows s (k + 1) = brK p.rows s k ++ if keptB (p.rows.getD k row0) s then [] else [(k : Int)] := rfl
        generalize p.rows.getD k row0 = x at c0 c1 c2 c3 c4 c5 hsome hc hBa hca HS
        have HS2 := Lib.hid HS
        clear HS
        go_wp2_with fail
        refine hc.mono ?_
        cases hq : keptB x s with
        | true =>
          have HE : Hid (brK p.rows s (k + 1) = brK p.rows s k) := by rw [HS2.out, hq]; exact List.append_nil _
          clear hq HS2
          rintro e w2 ⟨rfl, hB2⟩
          have hB3 := hBa.trans (hB2.mono hBa.size)
          go_wp2
          go_roundw
          case rel => exact ⟨k + 1, by omega, by go_num, by rw [HE.out]; exact owned_below hown hB3, hBr.trans (hB3.mono hBr.size)⟩
          case measure => simp [intOf]; omega
        | false =>
          have HE : Hid (brK p.rows s (k + 1) = brK p.rows s k ++ [(k : Int)]) := by rw [HS2.out, hq]; rfl
          clear hq HS2
          rintro e w2 ⟨rfl, hB2⟩
          have hB3 := hBa.trans (hB2.mono hBa.size)
          have hB4 := hBr.trans (hB3.mono hBr.size)
          have hown2 := owned_below hown hB3
          clear hown
          go_wp2_with (at_builtin; refine wpList_push E24 rfl _ _ rfl w1.heap.size hown2 rfl rfl rfl (by unfold maxLen; omega) (by omega) hB4.size ?_; intro v' w3 hown' hgrow hb1)
          go_roundw
          case rel => exact ⟨k + 1, by omega, by go_num, by rw [HE.out]; simpa using hown', hB4.trans hb1⟩
          case measure => simp [intOf]; omega
      · obtain rfl : k = p.rows.length := by omega
        go_wp2
        go_ret
        exact ⟨_, rfl, owned_slice hown, hB1.trans (hBr.mono hB1.size)⟩
end Go.Proofs.Ytblmpmapcdpaiaa
end
section
/- program.choices: the iterator's contract. -/
namespace Go.Proofs.Ytblmpmapcdpaiaa
open Go.RowKit Go.Shelf Lib

set_option maxRecDepth 100000 in
theorem choices11 (v : Value) (r : RowD) (set : Nat) (p : Addr) (w : World) (hp : w.cell? p = some (.int .i64 set)) (hv : RowV w v r) (hl : r.coef.length ≤ 60) (hc : coefOK r.coef = true) (hs : set < 4611686018427387904) :
    Calls Try.prog 88 #[v, .pointer (some p)] w fun e w' => e = .returned (.bool (keptB r set)) ∧ Below w.heap.size w w' := by
  have hlt := World.block_lt_of_cell? _ _ hp
  obtain ⟨vc, rfl, hvc⟩ := hv
  have hB0 : Below w.heap.size w (w.alloc (.cells #[.int .i64 r.kind, .int .i64 r.a, .int .i64 r.b, .int .i64 r.at_, vc, .int .i64 r.most] 26)) := (Below.refl _ _).alloc (Nat.le_refl _) _
  have hx := kept_any _ r set _ ⟨vc, rfl, hvc.below hB0⟩ hl hc hs
  clear hvc
  go_enter Try.func88, Try.ntmps88
  go_wp2_with fail
  refine hx.mono ?_
  rintro e w' ⟨rfl, hB⟩
  go_wp2
  go_ret
  exact ⟨rfl, hB0.trans (hB.mono hB0.size)⟩
theorem choices11_ans (w : World) (l : List RowD) (set : Nat) (p : Addr) (hp : w.cell? p = some (.int .i64 set)) (h : ∀ r ∈ l, r.coef.length ≤ 60 ∧ coefOK r.coef = true) (hs : set < 4611686018427387904) :
    AnsR w (.func (.func 88) #[] #[.pointer (some p)]) l (fun r => keptB r set) :=
  ⟨88, _, rfl, Try.call88, fun _ r hr V hV v hv => choices11 v r set p V ((hV.cell (World.block_lt_of_cell? _ _ hp)).trans hp) hv (h r (List.mem_of_getElem? hr)).1 (h r (List.mem_of_getElem? hr)).2 hs⟩

/-- The choices below m that keep all rows. -/
def chL (rows : List RowD) (m : Nat) : List Nat := (List.range m).filter (keepsB rows)
theorem chL_succ (rows : List RowD) (m : Nat) : chL rows (m + 1) = chL rows m ++ if keepsB rows m then [m] else [] := by
  unfold chL
  rw [List.range_succ, List.filter_append]
  congr 1
  simp [List.filter_cons]
theorem chL_len (rows : List RowD) (m : Nat) : (chL rows m).length ≤ m := by
  unfold chL
  exact Nat.le_trans (List.length_filter_le _ _) (by simp)
/-- What a round over the choices leaves as it lay. -/
def KpC (B0 pB : Nat) (W W' : World) : Prop := Below B0 W W' ∧ W'.heap[pB]? = W.heap[pB]?
theorem KpC.trans {B0 pB : Nat} {A B C : World} (h : KpC B0 pB A B) (k : KpC B0 pB B C) : KpC B0 pB A C := ⟨h.1.trans k.1, k.2.trans h.2⟩
abbrev encN (x : Nat) : Array Value := #[.int .i64 x]

set_option maxRecDepth 100000 in
set_option maxHeartbeats 1000000 in
theorem choices_seq (n : Nat) (hn : 1 ≤ n) (pB : Nat) (p : ProgD) (w0 w : World) (vr vg : Value) (hval : validB p = true) (hrows : RowsAt w0 vr p.rows) (h0w : Below w0.heap.size w0 w)
    (hp : ∃ c fz, w.heap[pB]? = some (.cells #[.int .i64 p.vars, vr, vg] c fz)) :
    SeqM Fence.wide n Try.prog 87 #[.pointer (some ⟨pB, 0, none⟩)] encN (KpC w0.heap.size pB) (fun _ => False) (fun xs => xs = chL p.rows (2 ^ p.vars.toNat)) (fun _ => True) (fun pre x => pre.length < 4096 ∧ x < 4096) w := by
  intro l J Jx W hW hJ hJx hY h0
  obtain ⟨v1, v2, -⟩ := validB_true hval
  obtain ⟨m, hm⟩ := Int.eq_ofNat_of_zero_le v1
  have hm12 : m ≤ 12 := by omega
  have hpw := pow12 hm12
  have hpn : ((2 ^ m : Nat) : Int) = (2 : Int) ^ m := by simp
  have hrw : Hid (∀ r ∈ p.rows, r.coef.length ≤ 60 ∧ coefOK r.coef = true) := fun r hr => by
    obtain ⟨-, h2, h3, -⟩ := validB_row hval hr
    exact ⟨by omega, h3⟩
  rw [hm] at hp ⊢
  clear hval v1 v2
  obtain ⟨c, fz, hpc⟩ := hp
  have hpW : W.heap[pB]? = some (.cells #[.int .i64 (m : Int), vr, vg] c fz) := by rw [hW.block pB (Array.getElem?_eq_some_iff.1 hpc).1]; exact hpc
  have hW0 : Below w0.heap.size w0 W := h0w.trans (hW.mono h0w.size)
  have k0 : W.cell? ⟨pB, 0, none⟩ = some (.int .i64 (m : Int)) := by simp [World.cell?, hpW]
  have HR := Lib.hid hrows
  clear hrows
  rw [Int.toNat_natCast]
  have hro : (Fence.wide).round = none := rfl
  refine callsIn_of_wp Try.func87 rfl trivial ?_ hro
  simp only [Try.ntmps87, List.size_toArray, List.length_cons, List.length_nil, Nat.reduceAdd, Nat.reduceSub, Array.replicate_succ, Array.replicate_zero, List.push_toArray, List.append_toArray, List.nil_append, List.cons_append]
  gi_wp2
  gi_loopw [7] (fun u7 wr => ∃ k : Nat, k ≤ 2 ^ m ∧ u7 = .int .i64 k ∧ J (chL p.rows k) wr ∧ Below w0.heap.size w0 wr ∧ wr.heap[pB]? = some (.cells #[.int .i64 (m : Int), vr, vg] c fz)) (fun u7 wr => (2 ^ m - intOf u7).toNat)
  case atStart => exact ⟨0, by omega, rfl, by simpa [chL] using h0, hW0, hpW⟩
  case round =>
    obtain ⟨k, hk, rfl, hj, hBr, hpr⟩ := hrel
    have k1 : wr.cell? ⟨pB, 1, none⟩ = some vr := by simp [World.cell?, hpr]
    have hpl : pB < wr.heap.size := (Array.getElem?_eq_some_iff.1 hpr).1
    by_cases hkl : k < 2 ^ m
    · have hB1 : Below wr.heap.size wr (wr.alloc (.cells #[.int .i64 k] 3)) := (Below.refl _ _).alloc (Nat.le_refl _) _
      have hB2 := hBr.trans (hB1.mono hBr.size)
      have hx := allR vr _ p.rows _ _ (HR.out.below hB2) (choices11_ans _ p.rows k ⟨wr.heap.size, 0, none⟩ (World.cell?_alloc_at _ _ _ _ rfl) hrw.out (by omega))
      have hch := chL_succ p.rows k
      have hlen := chL_len p.rows k
      have hkb : keepsB p.rows k = p.rows.all fun r => keptB r k := rfl
      rw [← hkb] at hx
      clear hkb
      gi_wp2_with fail
      refine ⟨trivial, ?_⟩
      refine (callsIn_wide.2 hx).mono ?_
      cases hq : keepsB p.rows k with
      | false =>
        rw [hq] at hch
        have HC : Hid (chL p.rows (k + 1) = chL p.rows k) := by rw [hch]; exact List.append_nil _
        clear hch hq
        rintro e w2 ⟨rfl, hB3⟩
        have hB4 := hB1.trans (hB3.mono hB1.size)
        gi_wp2
        refine ⟨(fun _ h => by cases h), ?_⟩
        gi_wp2
        go_roundw
        case rel => exact ⟨k + 1, by omega, by go_num, by rw [HC.out]; exact hJ _ _ _ hj (Chg.of_below hB4), hBr.trans (hB4.mono hBr.size), by rw [hB4.block pB hpl]; exact hpr⟩
        case measure => simp [intOf]; omega
      | true =>
        rw [hq] at hch
        have HC : Hid (chL p.rows (k + 1) = chL p.rows k ++ [k]) := hch
        clear hch hq
        rintro e w2 ⟨rfl, hB3⟩
        have hB4 := hB1.trans (hB3.mono hB1.size)
        have hj2 := hJ _ _ _ hj (Chg.of_below hB4)
        have k2 : w2.cell? ⟨wr.heap.size, 0, none⟩ = some (.int .i64 k) := (hB3.cell (by simp)).trans (World.cell?_alloc_at _ _ _ _ rfl)
        obtain ⟨fn, tmps, assign, body, hy, hR⟩ := hY _ k w2 hj2 ⟨by omega, by omega⟩
        simp [encN] at hy
        have HRr := Lib.hid hR
        clear hR
        gi_wp2
        refine HRr.out.mono ?_
        rintro e W' (⟨rfl, hJ', hk1, hk2⟩ | ⟨rfl, hJx'⟩)
        · gi_wp2
          go_roundw
          case rel => exact ⟨k + 1, by omega, by go_num, by rw [HC.out]; exact hJ', (hBr.trans (hB4.mono hBr.size)).trans hk1, by rw [hk2, hB4.block pB hpl]; exact hpr⟩
          case measure => simp [intOf]; omega
        · gi_wp2
          refine bodyPost_ret (results_none rfl _ _ _) rfl ?_
          exact ⟨⟨_, rfl⟩, .inr ⟨_, trivial, hJx'⟩⟩
    · obtain rfl : k = 2 ^ m := by omega
      gi_wp2
      refine ⟨rfl, _, results_none rfl _ _ _, ?_⟩
      exact ⟨⟨_, rfl⟩, .inl ⟨_, rfl, hj⟩⟩
end Go.Proofs.Ytblmpmapcdpaiaa
end
section
/- slices.AppendSeq, Collect over the choices; program.All. -/
namespace Go.Proofs.Ytblmpmapcdpaiaa
open Go.RowKit Go.Shelf Lib
attribute [local go_sem] Oper.semAt_some

def intL (l : List Nat) : List Int := l.map fun x : Nat => (x : Int)
theorem intL_len (l : List Nat) : (intL l).length = l.length := by simp [intL]
theorem KpC.putObj {B0 pB : Nat} {W : World} {l : Nat} {o : Obj} (o' : Obj) (h1 : B0 ≤ l) (h2 : pB < l) (hl : W.heap[l]? = some o) : KpC B0 pB W (W.putObj l o') :=
  ⟨(Below.refl B0 W).grown (grownBy_putObj' W l o') (by have := (Array.getElem?_eq_some_iff.1 hl).1; omega) (fun k hk => by simp at hk; omega), World.putObj_heap_other (by omega)⟩

set_option maxRecDepth 100000 in
set_option maxHeartbeats 1000000 in
theorem appendSeq_choices (pB : Nat) (p : ProgD) (w0 w : World) (vr vg : Value) (hval : validB p = true) (hrows : RowsAt w0 vr p.rows) (h0w : Below w0.heap.size w0 w)
    (hp : ∃ c fz, w.heap[pB]? = some (.cells #[.int .i64 p.vars, vr, vg] c fz)) :
    Calls Try.prog 94 #[.slice none 0 0, .func (.func 87) #[] #[.pointer (some ⟨pB, 0, none⟩)]] w fun e w' => ∃ v, e = .returned v ∧ IntsAt w' v (intL (chL p.rows (2 ^ p.vars.toNat))) ∧ Below w.heap.size w w' := by
  have hpl : pB < w.heap.size := by obtain ⟨c, fz, h⟩ := hp; exact (Array.getElem?_eq_some_iff.1 h).1
  have hB0 : Below w.heap.size w (w.alloc (.cells #[.slice none 0 0] 24)) := (Below.refl _ _).alloc (Nat.le_refl _) _
  have hseq := choices_seq 4 (by omega) pB p w0 _ vr vg hval hrows (h0w.trans (hB0.mono h0w.size)) (by
    obtain ⟨c, fz, h⟩ := hp
    exact ⟨c, fz, by rw [hB0.block pB hpl]; exact h⟩)
  have h0s := h0w.size
  clear hval hrows h0w hp
  generalize chL p.rows (2 ^ p.vars.toNat) = L at hseq ⊢
  refine (callsIn_wide (n := 5)).1 ?_
  refine callsIn_of_wp_marks Try.func94 rfl trivial ?_ rfl
  simp only [Try.ntmps94, List.size_toArray, List.length_cons, List.length_nil, Nat.reduceAdd, Nat.reduceSub, Array.replicate_succ, Array.replicate_zero, List.push_toArray, List.append_toArray, List.nil_append, List.cons_append]
  gi_wp2_with fail
  refine wpIn_rangeFunc_Mf (zs := fun k => False) rfl (by omega) (gf := 87) (lb := #[.pointer (some ⟨pB, 0, none⟩)]) rfl trivial Try.call87
    (fun k hk => hk.elim) hseq (fun h k => h.trans k)
    (fun W l o o' hl ho _ _ => by simp at hl; exact KpC.putObj o' (by omega) (by omega) ho) (Below.refl _ _) (fun _ => rfl)
    (fun pre W => (∃ v, Boxed W w.heap.size 24 v ∧ W.ownsRow (w.heap.size + 1) 3 1 v pre.length ((intL pre).map (Value.int .i64))) ∧ Below w.heap.size w W ∧ w.heap.size + 1 ≤ W.heap.size)
    (fun _ _ _ => False)
    (fun s A B hs ht => ⟨by
      obtain ⟨⟨v, h1, h2⟩, h3⟩ := hs
      exact ⟨v, ht.boxed h1 (fun h => h), ht.ownsRow h2 (fun k hk h => h)⟩, ht.below hs.2.1 (Nat.le_refl _) (by simp) (fun k hk h => h), Nat.le_trans hs.2.2 ht.size⟩)
    (fun _ _ _ _ hs _ => hs)
    ⟨⟨_, Boxed.new w 24 _, World.ownsRow_nil _ _ _ _⟩, hB0, by simp⟩
    (fun x t => (t.setIfInBounds 7 (.int .i64 (x : Int))).setIfInBounds 5 (.int .i64 (x : Int))) ?assign ?body ?done ?stop
  case assign =>
    intro l x W K hK
    dsimp only [encN]
    gi_wp2
    exact hK
  case body =>
    rintro l pre x W ⟨⟨v, hv, hrow⟩, hB, hsz⟩ ⟨hlt, -⟩
    have hc1 := hv.cell
    have hf1 := hv.frozen
    gi_wp2_with (gi_at_builtin; refine wpListIn_push E24 rfl _ _ rfl (w.heap.size + 1) hrow rfl rfl rfl (by unfold maxLen; omega) (by omega) hsz ?_; intro v' w1 hown' hgrow hb1; obtain ⟨g', cap', rfl⟩ := ownsRow_succ hown'; obtain ⟨hv1, hv2, hr2, hk2, hz2, hb2⟩ := boxed_app hv hrow (by omega) hsz hown' hgrow; have hc1 := hv1.cell; have hf1 := hv1.frozen)
    exact ⟨hk2, ⟨hb2 _ (by omega), hz2 _ (by omega) (by omega)⟩, ⟨_, hv2, by simpa [intL] using hr2⟩, hB.trans (hb2 _ (Nat.le_refl _)), by have := (hb2 0 (Nat.zero_le _)).size; omega⟩
  case done =>
    rintro D ys W hD rfl ⟨⟨v, hv, hrow⟩, hB, hsz⟩ hK
    simp at hD
    have hc1 := hv.cell
    gi_wp2
    refine ⟨by simp, .inl ⟨_, _, rfl, run_takeDeferred hK, ?_⟩⟩
    refine ⟨v, by simp [results, Try.results94, go_sem], v, rfl, owned_slice (by rw [intL_len]; exact ownsRow_putObj hrow _ hK rfl), hB.trans (belowK_b (w := w) (Nat.le_refl _) W D _ _ (by omega) hK rfl rfl)⟩
  case stop =>
    intro D c pre W _ _ h _
    exact h.elim

theorem choices_made (vars : Int) (vr vg : Value) (w : World) : Calls Try.prog 60 #[.agg #[.int .i64 vars, vr, vg]] w fun e w' => e = .returned (.func (.func 87) #[] #[.pointer (some ⟨w.heap.size, 0, none⟩)]) ∧ w.alloc (.cells #[.int .i64 vars, vr, vg] 29) = w' := by
  have hmf : ∀ (fn : Fn) (first cap : Array Value) (w : World), (Instr.makeFunc fn first cap).run Try.prog w = .ok (.func fn first cap) w := fun _ _ _ _ => rfl
  go_enter Try.func60, Try.ntmps60
  go_wp2
  go_ret
  exact ⟨rfl, rfl⟩

set_option maxRecDepth 100000 in
theorem collect_choices (pB : Nat) (p : ProgD) (w0 w : World) (vr vg : Value) (hval : validB p = true) (hrows : RowsAt w0 vr p.rows) (h0w : Below w0.heap.size w0 w)
    (hp : ∃ c fz, w.heap[pB]? = some (.cells #[.int .i64 p.vars, vr, vg] c fz)) :
    Calls Try.prog 66 #[.func (.func 87) #[] #[.pointer (some ⟨pB, 0, none⟩)]] w fun e w' => ∃ v, e = .returned v ∧ IntsAt w' v (intL (chL p.rows (2 ^ p.vars.toNat))) ∧ Below w.heap.size w w' := by
  have hx := appendSeq_choices pB p w0 w vr vg hval hrows h0w hp
  clear hval hrows h0w hp
  go_enter Try.func66, Try.ntmps66
  go_wp2_with fail
  refine hx.mono ?_
  rintro e w' ⟨v, rfl, hv, hB⟩
  go_wp2
  go_ret
  exact ⟨_, rfl, hv, hB⟩

def allV (p : ProgD) : List Int := if validB p = true then intL (chL p.rows (2 ^ p.vars.toNat)) else []
def errV (p : ProgD) : Int := if validB p = true then 0 else 230
set_option maxRecDepth 100000 in
theorem all_all (v : Value) (p : ProgD) (w : World) (hv : ProgV w v p) :
    Calls Try.prog 22 #[v] w fun e w' => ∃ v', e = .returned (.tuple #[v', .int .i64 (errV p)]) ∧ IntsAt w' v' (allV p) ∧ Below w.heap.size w w' := by
  obtain ⟨vr, vg, rfl, hvr, hvg⟩ := hv
  have hB0 : Below w.heap.size w (w.alloc (.cells #[.int .i64 p.vars, vr, vg] 29)) := (Below.refl _ _).alloc (Nat.le_refl _) _
  have hx := valid_all _ p _ ⟨vr, vg, rfl, hvr.below hB0, hvg.below hB0⟩
  unfold allV errV
  cases hval : validB p with
  | false =>
    rw [hval] at hx
    clear hval hvr hvg
    rw [if_neg (by decide), if_neg (by decide)]
    go_enter Try.func22, Try.ntmps22
    go_wp2_with fail
    refine hx.mono ?_
    rintro e w' ⟨rfl, hB⟩
    go_wp2
    go_ret2
    exact ⟨_, rfl, owned_slice (l := []) (World.ownsRow_nil w' 0 3 1), hB0.trans (hB.mono hB0.size)⟩
  | true =>
    rw [hval] at hx
    rw [if_pos rfl, if_pos rfl]
    go_enter Try.func22, Try.ntmps22
    go_wp2_with fail
    refine hx.mono ?_
    rintro e w' ⟨rfl, hB⟩
    have hB1 := hB0.trans (hB.mono hB0.size)
    have k0 : w'.cell? ⟨w.heap.size, 0, none⟩ = some (.int .i64 p.vars) := (hB.cell (by simp)).trans (World.cell?_alloc_at _ _ _ _ rfl)
    have k1 : w'.cell? ⟨w.heap.size, 1, none⟩ = some vr := (hB.cell (by simp)).trans (World.cell?_alloc_at _ _ _ _ rfl)
    have k2 : w'.cell? ⟨w.heap.size, 2, none⟩ = some vg := (hB.cell (by simp)).trans (World.cell?_alloc_at _ _ _ _ rfl)
    have hB2 : Below w'.heap.size w' (w'.alloc (.cells #[.int .i64 p.vars, vr, vg] 29)) := (Below.refl _ _).alloc (Nat.le_refl _) _
    have hB3 := hB1.trans (hB2.mono hB1.size)
    have hy := collect_choices w'.heap.size p w _ vr vg hval hvr hB3 ⟨29, (0, 0), World.alloc_heap_new _ _⟩
    clear hval hvr hvg hx
    go_wp2_with fail
    refine (choices_made _ _ _ _).mono ?_
    rintro e w2 ⟨rfl, rfl⟩
    go_wp2_with fail
    refine hy.mono ?_
    rintro e w2 ⟨v, rfl, hv, hB4⟩
    go_wp2
    go_ret2
    exact ⟨_, rfl, hv, hB3.trans (hB4.mono hB3.size)⟩
end Go.Proofs.Ytblmpmapcdpaiaa
end
