import Derived.Test.YtgjihgdomicijaaDoorProg
import Derived.Test.YtgjihgdomicijaaDoorPlain
import Derived.Test.YtgjihgdomicijaaDoorKit
import Derived.Test.YtgjihgdomicijaaDoorRangeM
import Derived.Test.YtgjihgdomicijaaDoorBits
import Derived.Outline
namespace Go.Proofs.YtgjihgdomicijaaDoor
open Go.RowKit Go.Shelf
attribute [local go_sem] Oper.semAt_some

abbrev Grp := Fin 128 × Bool
abbrev encG (x : Grp) : Array Value := #[.int .u8 (x.1.val : Int), .bool x.2]
def grpF : Nat → Nat → List Grp
  | 0, z => [(⟨z % 128, by omega⟩, true)]
  | f + 1, z => if z < 128 then [(⟨z % 128, by omega⟩, true)] else (⟨z % 128, by omega⟩, false) :: grpF f (z / 128)
def grp (z : Nat) : List Grp := grpF z z
def outG (x : Grp) : Int := if x.2 then (x.1.val : Int) else (x.1.val : Int) + 128
theorem grpF_enc : ∀ f z, z ≤ f → (grpF f z).map outG = encF f z := by
  intro f
  induction f with
  | zero => intro z hz; obtain rfl : z = 0 := by omega
            simp [grpF, encF, outG]
  | succ f ih =>
    intro z hz
    unfold grpF encF
    split
    · simp [outG]; omega
    · rw [List.map_cons, ih _ (by omega)]; simp [outG]
theorem grp_enc (z : Nat) : (grp z).map outG = enc z := grpF_enc z z (Nat.le_refl _)
theorem grpF_fuel : ∀ (f g z : Nat), z ≤ f → z ≤ g → grpF f z = grpF g z := by
  intro f
  induction f with
  | zero =>
    intro g z hz _
    obtain rfl : z = 0 := by omega
    cases g <;> simp [grpF]
  | succ f ih =>
    intro g z hf hg
    cases g with
    | zero => obtain rfl : z = 0 := by omega
              simp [grpF]
    | succ g =>
      unfold grpF
      split
      · rfl
      · rw [ih g (z / 128) (by omega) (by omega)]
theorem grp_lt {z : Nat} (h : z < 128) : grp z = [(⟨z % 128, by omega⟩, true)] := by
  unfold grp; cases z <;> simp [grpF]; omega
theorem grp_ge {z : Nat} (h : 128 ≤ z) : grp z = (⟨z % 128, by omega⟩, false) :: grp (z / 128) := by
  unfold grp
  cases z with
  | zero => omega
  | succ z =>
    conv => lhs; unfold grpF
    rw [if_neg (by omega), grpF_fuel z ((z + 1) / 128) _ (by omega) (by omega)]

theorem grp_pos (z : Nat) : 1 ≤ (grp z).length := by
  by_cases h : z < 128
  · rw [grp_lt h]; simp
  · rw [grp_ge (by omega)]; simp

def zsz (w : World) (zB : Nat) : Nat := match w.cell? ⟨zB, 0, none⟩ with | some v => (intOf v).toNat | none => 0
theorem zsz_boxed {w : World} {zB t : Nat} {v : Value} (h : Boxed w zB t v) : zsz w zB = (intOf v).toNat := by unfold zsz; rw [h.cell]

set_option maxRecDepth 100000 in
set_option maxHeartbeats 400000 in
theorem groups_seq (n : Nat) (hn : 1 ≤ n) (zB z : Nat) (w : World) (hz : z < 9223372036854775808) (hb : Boxed w zB 49 (.int .u64 z)) :
    SeqM Fence.wide n Tryd.prog 25 #[.pointer (some ⟨zB, 0, none⟩)] encG (fun W W' => W'.heap[zB]? = W.heap[zB]?) (· = zB) (fun xs => xs = grp z) (fun _ => True) 10 w := by
  intro l J Jx W hW hJ hJx hY h0
  have hbW : Boxed W zB 49 (.int .u64 z) := by
    unfold Boxed at hb ⊢; rw [hW.block zB (Array.getElem?_eq_some_iff.1 hb).1]; exact hb
  have hro : (Fence.wide).round = none := rfl
  refine callsIn_of_wp Tryd.func25 rfl trivial ?_ hro
  simp only [Tryd.ntmps25, List.size_toArray, List.length_cons, List.length_nil, Nat.reduceAdd, Nat.reduceSub, Array.replicate_succ, Array.replicate_zero, List.push_toArray, List.append_toArray, List.nil_append, List.cons_append]
  gi_wp2
  gi_loopw [3] (fun _ wr => ∃ (pre : List Grp) (z' : Nat), grp z = pre ++ grp z' ∧ z' ≤ z ∧ Boxed wr zB 49 (.int .u64 z') ∧ J pre wr) (fun _ wr => zsz wr zB)
  case atStart => exact ⟨[], z, rfl, Nat.le_refl _, hbW, h0⟩
  case round =>
    obtain ⟨pre, z', hg, hzz, hbx, hj⟩ := hrel
    have hcell := hbx.cell
    have hfr := hbx.frozen
    have hand := u64_and127 (z' : Int) (by omega) (by omega)
    have hlen : pre.length < 10 := by
      have h1 := congrArg List.length hg
      have h2 := congrArg List.length (grp_enc z)
      have h3 := enc_len 8 z (by simpa using hz)
      have h4 := grp_pos z'
      simp at h1 h2; omega
    obtain ⟨fn, tmps, assign, body, hy, hR⟩ := hY pre (⟨z' % 128, by omega⟩, decide (z' < 128)) wr hj hlen
    simp [encG] at hy
    have HR := Lib.hid hR
    clear hR
    by_cases hlt : z' < 128
    · rw [grp_lt (z := z') hlt] at hg
      simp [hlt] at hy
      have hHg := Lib.hid hg
      clear hg
      have hdl : decide ((z' : Int) < 128) = true := by simp; omega
      gi_wp2
      refine HR.out.mono ?_
      rintro e W' (⟨rfl, hJ', hk⟩ | ⟨rfl, hJx'⟩)
      · gi_wp2
        refine bodyPost_ret (results_none rfl _ _ _) rfl ?_
        exact ⟨⟨_, rfl⟩, .inl ⟨_, hHg.out.symm, by simpa [hlt] using hJ'⟩⟩
      · gi_wp2
        refine bodyPost_ret (results_none rfl _ _ _) rfl ?_
        exact ⟨⟨_, rfl⟩, .inr ⟨_, trivial, hJx'⟩⟩
    · rw [grp_ge (z := z') (by omega)] at hg
      simp [hlt] at hy
      have hHg := Lib.hid hg
      clear hg
      have hdl : decide ((z' : Int) < 128) = false := by simp; omega
      gi_wp2
      refine HR.out.mono ?_
      rintro e W' (⟨rfl, hJ', hk⟩ | ⟨rfl, hJx'⟩)
      · have hbx' : Boxed W' zB 49 (.int .u64 z') := by unfold Boxed at hbx ⊢; rw [hk]; exact hbx
        have hcell' := hbx'.cell
        have hfr' := hbx'.frozen
        clear hcell hfr hk
        gi_wp2
        go_roundw
        case rel =>
          exact ⟨pre ++ [(⟨z' % 128, Nat.mod_lt _ (by decide)⟩, false)], z' / 128, by rw [hHg.out]; simp, by omega, hbx'.set _, hJ _ _ _ (by simpa [hlt] using hJ') (Chg.setCell (zs := fun x => x = zB) (b := zB) rfl 0 _)⟩
        case measure => rw [zsz_boxed hbx, zsz_boxed (hbx'.set _)]; simp [intOf]; omega
      · gi_wp2
        refine bodyPost_ret (results_none rfl _ _ _) rfl ?_
        exact ⟨⟨_, rfl⟩, .inr ⟨_, trivial, hJx'⟩⟩
end Go.Proofs.YtgjihgdomicijaaDoor
