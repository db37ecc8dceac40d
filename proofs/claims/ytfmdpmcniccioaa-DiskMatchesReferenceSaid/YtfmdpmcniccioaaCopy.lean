/- Laws over any program: copy from a string into bytes, copy between bytes, clear of a slice. -/
import Derived.Test.YtfmdpmcniccioaaGen
import Derived.Test.YtfmdpmcniccioaaPlain
import Derived.Laws.CopyOwn
namespace Go.Proofs.Ytfmdpmcniccioaa
open Go.RowKit
variable {P : Program}

theorem putB_splice (b : List UInt8) (off : Nat) (s : List UInt8) : bcs (putB b off s) = (bcs b).take off ++ bcs s ++ (bcs b).drop (off + (bcs s).length) := by
  unfold putB; rw [bcs_app, bcs_app, bcs_take, bcs_drop, bcs_len]
theorem str_cells (s : ByteArray) (n : Nat) (h : s.size ≤ n) : ((s.extract 0 n).data.map fun b => Value.int .u8 (b.toNat : Int)).toList = bcs (bts s) := by
  have : (s.extract 0 n) = s := by apply ByteArray.ext; simp [Array.extract_eq_self_iff]; right; exact h
  rw [this]; simp [bcs, bts]
theorem run_copy_str (w : World) (dT sT ty elem : TypeId) (dp : Option Addr) (g o dLen dCap : Nat) (s : ByteArray) (b : List UInt8) (t : TypeId)
    (hu : P.underlying dT = some (.slice elem)) (hs : (P.info? elem).map (·.size) = some 1)
    (hg : Blk w g (bcs b).toArray t) (hn : s.size ≤ dLen) (hfit : o + s.size ≤ b.length) (hpos : 0 < s.size → dp = some ⟨g, o, none⟩) :
    (Builtin.copy_ #[dT, sT] ty #[.slice dp dLen dCap, .string s]).run P w = .ok (goInt s.size) (w.setRow g (bcs (putB b o (bts s))).toArray) := by
  cases hq : P.info? elem with
  | none => simp [hq] at hs
  | some i =>
    have hi : i.size = 1 := by simpa [hq] using hs
    have hmin : Nat.min s.size dLen = s.size := Nat.min_eq_left hn
    have hc := str_cells s s.size (Nat.le_refl _)
    by_cases h0 : s.size = 0
    · have hb : bts s = [] := List.eq_nil_of_length_eq_zero (by rw [bts_len]; exact h0)
      rw [hb] at hc ⊢
      have hp : putB b o [] = b := by simp [putB]
      rw [hp, setRow_self w g _ t (0, 0) hg]
      have hc' : ((s.extract 0 0).data.map fun b => Value.int .u8 (b.toNat : Int)) = #[] := by
        have := hc; rw [h0] at this; exact Array.toList_inj.1 (by rw [this]; rfl)
      cases dp with
      | none => simp [Builtin.copy_, run_underlying hu, Builtin.lenOf, Builtin.firstCells, sizeOf, typeInfo, hq, h0]
      | some a => simp [Builtin.copy_, run_underlying hu, Builtin.lenOf, Builtin.firstCells, sizeOf, typeInfo, hq, h0, storeCells]
    · obtain rfl := hpos (by omega)
      have hst := run_storeCells_at P g o t (bcs (bts s)) 0 (bcs b).toArray w hg (by simp [bcs_len]; exact hfit) (bcs_one _)
      have hca : ((s.extract 0 s.size).data.map fun b => Value.int .u8 (b.toNat : Int)) = (bcs (bts s)).toArray := Array.toList_inj.1 (by rw [hc])
      have e : (bcs (putB b o (bts s))).toArray = ((bcs b).toArray.toList.take (o + 0) ++ bcs (bts s) ++ (bcs b).toArray.toList.drop (o + 0 + (bcs (bts s)).length)).toArray := by rw [putB_splice]; simp
      rw [← e] at hst
      generalize (bcs (putB b o (bts s))).toArray = res at hst ⊢
      have hl : List.take s.size (List.map (fun b => Value.int .u8 (b.toNat : Int)) s.data.toList) = bcs (bts s) := by rw [List.take_of_length_le (by simp)]; rfl
      simp [Builtin.copy_, run_underlying hu, Builtin.lenOf, Builtin.firstCells, sizeOf, typeInfo, hq, hmin, hl, hst]
/-- The same as one step of a region that draws its order. -/
theorem step_copy_str {ops : Array Oper} {o : Oper} {a : Act} {w : World} {K : Act → World → Prop} {Q : Exit → Act → World → Prop} {E : Prop} (hgd : o.guard = none) (d s : Operand) (dT sT : TypeId)
    (ho : o.op = .call { callee := .builtin .copy, args := #[d, s], argTypes := #[dT, sT] }) (elem : TypeId) (hu : P.underlying dT = some (.slice elem)) (hsz : (P.info? elem).map (·.size) = some 1)
    (dp : Option Addr) (g off dLen dCap : Nat) (st : ByteArray) (b : List UInt8) (t : TypeId) (hd : a.eval d = .slice dp dLen dCap) (hs : a.eval s = .string st)
    (hg : Blk w g (bcs b).toArray t) (hn : st.size ≤ dLen) (hfit : off + st.size ≤ b.length) (hpos : 0 < st.size → dp = some ⟨g, off, none⟩)
    (h : K (a.put o.dst (goInt st.size)) (w.setRow g (bcs (putB b off (bts st))).toArray)) :
    if Region.wanted o (yielded ops a.tmps) = true then Oper.wp P o a w K Q else E := by
  have hw : Region.wanted o (yielded ops a.tmps) = true := by simp [Region.wanted, hgd]
  rw [if_pos hw]
  have hrun := run_copy_str (P := P) w dT sT o.type elem dp g off dLen dCap st b t hu hsz hg hn hfit hpos
  unfold Oper.wp
  simp [execOp, ho, resolve, invoke, builtin, hd, hs, hrun, Result.andThen]
  exact h
/-- All bytes of one block are copied into another one of the same length. -/
theorem run_copy_all (w : World) (dT sT ty elem : TypeId) (g sb n : Nat) (b c : List UInt8) (t u : TypeId)
    (hu : P.underlying dT = some (.slice elem)) (hs : (P.info? elem).map (·.size) = some 1)
    (hg : Blk w g (bcs b).toArray t) (hsb : Blk w sb (bcs c).toArray u) (hb : b.length = n) (hc : c.length = n) :
    (Builtin.copy_ #[dT, sT] ty #[.slice (some ⟨g, 0, none⟩) n n, .slice (some ⟨sb, 0, none⟩) n n]).run P w = .ok (goInt n) (w.setRow g (bcs c).toArray) := by
  have := run_copy_row (P := P) w dT sT ty elem g 0 n n ⟨sb, 0, none⟩ n n (bcs b).toArray t (bcs c) hu hs hg (by rw [bcs_len, hc]; exact (Nat.min_self n).symm)
    (fun j v hj => by rw [add_zero_off]; exact (hsb.cell j).trans (by simpa using hj)) (by simp [bcs_len]; omega) (bcs_one _)
  rw [this]
  have e : (bcs b).toArray.toList.take 0 ++ bcs c ++ (bcs b).toArray.toList.drop (0 + (bcs c).length) = bcs c := by
    simp [bcs_len]; omega
  rw [e, bcs_len, hc]
/-- clear of a slice whose cells are a row of the call's own. -/
theorem run_clear_own (w : World) (T ty e : TypeId) (z : Value) (size : Nat) (hu : P.underlying T = some (.slice e)) (hz : ∀ w : World, (zeroValue e).run P w = .ok z w) (hzs : z.cells.size = size)
    (h1 : ∀ x ∈ z.cells.toList, x.oneCell' = true)
    {base n : Nat} {v : Value} {xs : List Value} (hown : w.ownsRow base e size v n xs) :
    ∃ w', (Builtin.clear_ #[T] ty #[v]).run P w = .ok (.tuple #[]) w' ∧ (∃ ys, w'.ownsRow base e size v n ys) ∧ w.grownBy w' v.ownBlock := by
  rcases hown.2 with ⟨rfl, rfl⟩ | ⟨g, cap, cur, rfl, h2, h3, h4, h5, h6, h7⟩
  · refine ⟨w, ?_, ⟨xs, hown⟩, ⟨rfl, rfl, rfl, Nat.le_refl _, fun _ _ _ => rfl⟩⟩
    simp [Builtin.clear_, run_underlying hu]
  · cases n with
    | zero =>
      refine ⟨w, ?_, ⟨xs, hown⟩, ⟨rfl, rfl, rfl, Nat.le_refl _, fun _ _ _ => rfl⟩⟩
      simp [Builtin.clear_, run_underlying hu]
    | succ n =>
      have hlen : (Builtin.zeroCells z.cells (n + 1)).toList.length = (n + 1) * size := by simp [Builtin.zeroCells, hzs]
      have hone : ∀ x ∈ (Builtin.zeroCells z.cells (n + 1)).toList, x.oneCell' = true := by
        intro x hx
        simp only [Builtin.zeroCells, Array.toList_map, Array.toList_range, List.mem_map, List.mem_range] at hx
        obtain ⟨i, hi, rfl⟩ := hx
        have hp : 0 < z.cells.size := by
          refine Nat.pos_of_ne_zero fun h0 => ?_
          rw [h0, Nat.mul_zero] at hi; omega
        have hm := Nat.mod_lt i hp
        rw [getElem!_pos z.cells (i % z.cells.size) hm]
        exact h1 _ (by simp)
      have hle : (n + 1) * size ≤ cap * size := Nat.mul_le_mul_right _ h4
      have hst := run_storeCells_at P g 0 e (Builtin.zeroCells z.cells (n + 1)).toList 0 cur w h3 (by rw [hlen, h6]; omega) hone
      generalize hzc : Builtin.zeroCells z.cells (n + 1) = zc at hlen hone hst
      refine ⟨w.setRow g (cur.toList.take (0 + 0) ++ zc.toList ++ cur.toList.drop (0 + 0 + zc.toList.length)).toArray, ?_, ⟨zc.toList, ⟨hlen, .inr ⟨g, cap, _, rfl, h2, setRow_heap w g cur _ e _ h3, h4, h5, ?_, ?_⟩⟩⟩, ⟨rfl, rfl, rfl, by simp, fun k hk hne => setRow_other w g k _ (fun e => hne (by rw [e]; rfl))⟩⟩
      · generalize (w.setRow g (cur.toList.take (0 + 0) ++ zc.toList ++ cur.toList.drop (0 + 0 + zc.toList.length)).toArray) = w' at hst ⊢
        simp [Builtin.clear_, run_underlying hu, hz, hzc, hst]
      · simp [hlen, h6]; omega
      · simp
        rw [List.take_append_of_le_length (by rw [hlen]; exact Nat.le_refl _), List.take_of_length_le (by rw [hlen]; exact Nat.le_refl _)]
end Go.Proofs.Ytfmdpmcniccioaa
