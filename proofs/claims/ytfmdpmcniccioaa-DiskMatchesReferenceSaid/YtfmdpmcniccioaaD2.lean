/- package disk: onto, settle. -/
import Derived.Test.YtfmdpmcniccioaaD1
import Derived.Deep.RegionLaw
import Derived.Deep.RegionHeld3
namespace Go.Proofs.Ytfmdpmcniccioaa
open Go.RowKit

theorem info5 : (Try.prog.info? 5).map (·.size) = some 1 := by kernel_rfl
set_option maxRecDepth 100000 in
theorem onto_any {w : World} {g n : Nat} {b : List UInt8} (hg : Blk w g (bcs b).toArray 5) (hb : b.length = n) (off : Nat) (s : ByteArray) (hfit : off + s.size ≤ n) :
    Calls Try.prog 35 #[.agg #[.int .i64 (off : Nat), .string s], .slice (some ⟨g, 0, none⟩) n n] w fun e w' => e = .returned (.tuple #[]) ∧ Blk w' g (bcs (putB b off (bts s))).toArray 5 ∧ Frm (fun k => k = g) w w' := by
  have hgl := hg.lt
  have hA : Blk (w.alloc (.cells #[.int .i64 (off : Nat), .string s] 69)).drew g (bcs b).toArray 5 := hg.alloc _
  have HA := Lib.hid hA
  have hp : (0 : Int) ≤ (off : Int) ∧ (off : Int) ≤ (n : Int) := by omega
  have HF : Hid (off + s.size ≤ b.length ∧ s.size ≤ n - off) := ⟨by omega, by omega⟩
  have HP : Hid (0 < s.size → (if n = off then some (⟨g, 0, none⟩ : Addr) else some ⟨g, off, none⟩) = some ⟨g, off, none⟩) := fun h => if_neg (by omega)
  clear hA hg hb hfit
  go_enter Try.func35, Try.ntmps35
  go_wp2
  go_region_law (first | (refine step_copy_str rfl (.tmp 7) (.tmp 9) 40 9 rfl 5 Try.underlying40 info5 (if n = off then some (⟨g, 0, none⟩ : Addr) else some ⟨g, off, none⟩) g off (n - off) (n - off) s b 5 rfl rfl HA.out HF.out.2 HF.out.1 HP.out ?_))
  all_goals (
    go_end0
    exact ⟨rfl, HA.out.row _, ((Frm.refl (fun k => k = g) w).alloc _).drew.setRow (fun _ => rfl) _⟩)
theorem wpList_copy_all {P : Program} {w : World} {ops : Array Oper} {rest : List Oper} {o : Oper} {a : Act} {Q : Exit → Act → World → Prop} (hgd : o.guard = none) (d s : Operand) (dT sT : TypeId)
    (ho : o.op = .call { callee := .builtin .copy, args := #[d, s], argTypes := #[dT, sT] }) (elem : TypeId) (hu : P.underlying dT = some (.slice elem)) (hsz : (P.info? elem).map (·.size) = some 1)
    (g sb n : Nat) (b c : List UInt8) (t u : TypeId) (hd : a.eval d = .slice (some ⟨g, 0, none⟩) n n) (hs : a.eval s = .slice (some ⟨sb, 0, none⟩) n n)
    (hg : Blk w g (bcs b).toArray t) (hsb : Blk w sb (bcs c).toArray u) (hb : b.length = n) (hc : c.length = n)
    (h : wpList P ops Q rest (a.put o.dst (goInt n)) (w.setRow g (bcs c).toArray)) : wpList P ops Q (o :: rest) a w :=
  wpList_plain hgd fun K hK => by
    have hrun := run_copy_all (P := P) w dT sT o.type elem g sb n b c t u hu hsz hg hsb hb hc
    unfold Oper.wp
    simp [execOp, ho, resolve, invoke, builtin, hd, hs, hrun, Result.andThen]
    exact hK _ _ h
theorem wpList_clear {P : Program} {w : World} {ops : Array Oper} {rest : List Oper} {o : Oper} {a : Act} {Q : Exit → Act → World → Prop} (hgd : o.guard = none) (d : Operand) (T e : TypeId) (z : Value) (size : Nat)
    (ho : o.op = .call { callee := .builtin .clear, args := #[d], argTypes := #[T] }) (hu : P.underlying T = some (.slice e)) (hz : ∀ w : World, (zeroValue e).run P w = .ok z w) (hzs : z.cells.size = size) (h1 : ∀ x ∈ z.cells.toList, x.oneCell' = true)
    {base n : Nat} {v : Value} {xs : List Value} (hown : w.ownsRow base e size v n xs) (hd : a.eval d = v)
    (h : ∀ w', (∃ ys, w'.ownsRow base e size v n ys) → w.grownBy w' v.ownBlock → wpList P ops Q rest (a.put o.dst (.tuple #[])) w') : wpList P ops Q (o :: rest) a w :=
  wpList_plain hgd fun K hK => by
    obtain ⟨w', hrun, h2, h3⟩ := run_clear_own (P := P) w T o.type e z size hu hz hzs h1 hown
    unfold Oper.wp
    simp [execOp, ho, resolve, invoke, builtin, hd, hrun, Result.andThen]
    exact hK _ _ (h w' h2 h3)
theorem zero69 (w : World) : (zeroValue 69).run Try.prog w = .ok (.agg #[.int .i64 0, .string ⟨#[]⟩]) w := by kernel_rfl
theorem size69 : (Value.agg #[.int .i64 0, .string ⟨#[]⟩]).cells.size = 2 := rfl
theorem one69 : ∀ x ∈ (Value.agg #[.int .i64 0, .string ⟨#[]⟩]).cells.toList, x.oneCell' = true := by intro x hx; simp [Value.cells] at hx; rcases hx with rfl | rfl <;> rfl
/-- An own row, cut to no element. -/
theorem owned_cut0 {W : World} {base e k n c : Nat} {a : Option Addr} {xs : List Value} (h : W.ownsRow base e k (.slice a n c) n xs) : W.ownsRow base e k (.slice a 0 c) 0 [] := by
  refine ⟨by simp, ?_⟩
  rcases h.2 with ⟨h1, h2⟩ | ⟨g, cap, cur, h1, h2, h3, h4, h5, h6, h7⟩
  · cases h1; exact .inl ⟨rfl, rfl⟩
  · cases h1; exact .inr ⟨g, c, cur, rfl, h2, h3, Nat.zero_le _, h5, h6, by simp⟩
set_option maxRecDepth 100000 in
theorem settle_gen {w : World} {B sb tb n m : Nat} {b c : List UInt8} {x0 x1 x2 x3 vp : Value} {xs : List Value} (hB : Blk w B #[x0, x1, x2, x3, vp] 65) (hs : Blk w sb (bcs c).toArray 5) (ht : Blk w tb (bcs b).toArray 5)
    (hb : b.length = n) (hc : c.length = n) (hne : tb ≠ sb) (hp : w.ownsRow 0 69 2 vp m xs) :
    Calls Try.prog 37 #[.pointer (some ⟨B, 0, none⟩), .slice (some ⟨sb, 0, none⟩) n n, .slice (some ⟨tb, 0, none⟩) n n] w fun e w' => ∃ vp', e = .returned (.tuple #[]) ∧
      Blk w' B #[x0, x1, x2, x3, vp'] 65 ∧ Blk w' sb (bcs c).toArray 5 ∧ Blk w' tb (bcs c).toArray 5 ∧ w'.ownsRow 0 69 2 vp' 0 [] ∧ vp'.ownBlock = vp.ownBlock ∧ Frm (fun k => k = tb ∨ k = B ∨ vp.ownBlock = some k) w w' := by
  obtain ⟨pa, pc, rfl, hp1, hp2⟩ := owned_len hp
  unfold maxLen at hp2
  have nB : B ≠ tb := hB.ne ht (by decide)
  have nP : ∀ g, (Value.slice pa m pc).ownBlock = some g → g ≠ tb := fun g hg => by obtain ⟨cur, h1, -⟩ := owned_block hp hg; exact h1.ne ht (by decide)
  have hB1 := hB.rowOther (bcs c).toArray nB
  have hp1' : (w.setRow tb (bcs c).toArray).ownsRow 0 69 2 (.slice pa m pc) m xs := owned_kept hp (fun g hg => setRow_other _ _ _ _ (nP g hg))
  have hs1 := hs.rowOther (bcs c).toArray hne.symm
  have ht1 := ht.row (bcs c).toArray
  have HP := Lib.hid (And.intro hp1' (And.intro hs1 ht1))
  have HI := Lib.hid (And.intro ht (And.intro hs (And.intro hb hc)))
  have HN := Lib.hid nP
  have i4 := hB1.cell 4
  simp only [List.getElem?_toArray, List.getElem?_cons_succ, List.getElem?_cons_zero] at i4
  clear hB hs ht hp hp1' hs1 ht1 hb hc nP
  obtain ⟨w3, hrun, ⟨ys, hown3⟩, hg3⟩ := run_clear_own (P := Try.prog) _ 63 0 69 _ 2 Try.underlying63 zero69 size69 one69 HP.out.1
  have nPB : ∀ g, (Value.slice pa m pc).ownBlock = some g → g ≠ B ∧ g ≠ sb ∧ g ≠ tb := fun g hg => by
    obtain ⟨cur, h1, -⟩ := owned_block HP.out.1 hg
    exact ⟨h1.ne hB1 (by decide), h1.ne HP.out.2.1 (by decide), h1.ne HP.out.2.2 (by decide)⟩
  have hB3 : Blk w3 B #[x0, x1, x2, x3, .slice pa m pc] 65 := (hg3.block B hB1.lt (fun e => (nPB B e.symm).1 rfl)).trans hB1
  have hs3 : Blk w3 sb (bcs c).toArray 5 := (hg3.block sb HP.out.2.1.lt (fun e => (nPB sb e.symm).2.1 rfl)).trans HP.out.2.1
  have ht3 : Blk w3 tb (bcs c).toArray 5 := (hg3.block tb HP.out.2.2.lt (fun e => (nPB tb e.symm).2.2 rfl)).trans HP.out.2.2
  have hF : Frm (fun k => k = tb ∨ k = B ∨ (Value.slice pa m pc).ownBlock = some k) w w3 := ((Frm.refl _ w).setRow (fun _ => .inl rfl) _).grown hg3 (fun k hk _ => .inr (.inr hk))
  have h0 := owned_cut0 hown3
  have nsB : sb ≠ B := HP.out.2.1.ne hB1 (by decide)
  have j4 := hB3.cell 4
  have f4 := hB3.frozen 4
  simp only [List.getElem?_toArray, List.getElem?_cons_succ, List.getElem?_cons_zero] at j4
  have HX := Lib.hid (And.intro hB3 (And.intro hs3 (And.intro ht3 (And.intro hF (And.intro h0 (And.intro nPB (And.intro nB nsB)))))))
  clear nPB hB1 hB3 hs3 ht3 hF h0 nB nsB hown3 hg3
  have hpi : (0 : Int) ≤ (pc : Int) := by omega
  go_enter Try.func37, Try.ntmps37
  go_wp2_with (first | (with_reducible refine wpList_copy_all rfl (.tmp 6) (.tmp 7) 40 40 rfl 5 Try.underlying40 info5 tb sb n b c 5 5 rfl rfl HI.out.1 HI.out.2.1 HI.out.2.2.1 HI.out.2.2.2 ?_))
  go_end0
  obtain ⟨hB3, hs3, ht3, hF, h0, nPB, nB, nsB⟩ := HX.out
  have hob : (Value.slice pa 0 pc).ownBlock = (Value.slice pa m pc).ownBlock := by cases pa <;> rfl
  exact ⟨_, rfl, hB3.set 4 _, hs3.other _ nsB, ht3.other _ nB.symm, owned_kept h0 (fun g hg => Below.heap_setCell _ _ _ _ (nPB g (hob ▸ hg)).1), hob, hF.setCell (fun _ => .inr (.inl rfl)) _⟩
theorem settle_sync {w : World} {B bD bV : Nat} {vp : Value} {n : Nat} {D : DiskD} (h : DiskAt w B bD bV vp n D) (hd : D.dur.length = n) (hv : D.vis.length = n) :
    Calls Try.prog 37 #[.pointer (some ⟨B, 0, none⟩), .slice (some ⟨bV, 0, none⟩) n n, .slice (some ⟨bD, 0, none⟩) n n] w fun e w' => ∃ vp', e = .returned (.tuple #[]) ∧
      DiskAt w' B bD bV vp' n { D with dur := D.vis, pend := [] } ∧ vp'.ownBlock = vp.ownBlock ∧ Frm (Foot B bD bV vp) w w' := by
  refine (settle_gen h.box h.vis h.dur hd hv h.ne h.pen).mono ?_
  rintro e w' ⟨vp', rfl, h1, h2, h3, h4, h5, h6⟩
  exact ⟨vp', rfl, ⟨h1, h3, h2, h4, h.ne⟩, h5, h6.mono (fun k _ hk => by rcases hk with hk | hk | hk; exact .inr (.inl hk); exact .inl hk; exact .inr (.inr (.inr hk)))⟩
theorem settle_crash {w : World} {B bD bV : Nat} {vp : Value} {n : Nat} {D : DiskD} (h : DiskAt w B bD bV vp n D) (hd : D.dur.length = n) (hv : D.vis.length = n) :
    Calls Try.prog 37 #[.pointer (some ⟨B, 0, none⟩), .slice (some ⟨bD, 0, none⟩) n n, .slice (some ⟨bV, 0, none⟩) n n] w fun e w' => ∃ vp', e = .returned (.tuple #[]) ∧
      DiskAt w' B bD bV vp' n { D with vis := D.dur, pend := [] } ∧ vp'.ownBlock = vp.ownBlock ∧ Frm (Foot B bD bV vp) w w' := by
  refine (settle_gen h.box h.dur h.vis hv hd h.ne.symm h.pen).mono ?_
  rintro e w' ⟨vp', rfl, h1, h2, h3, h4, h5, h6⟩
  exact ⟨vp', rfl, ⟨h1, h2, h3, h4, h.ne⟩, h5, h6.mono (fun k _ hk => by rcases hk with hk | hk | hk; exact .inr (.inr (.inl hk)); exact .inl hk; exact .inr (.inr (.inr hk)))⟩
end Go.Proofs.Ytfmdpmcniccioaa
