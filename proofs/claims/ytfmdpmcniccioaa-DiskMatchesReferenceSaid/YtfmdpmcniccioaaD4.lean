/- package disk: Read, Sync, Write. -/
import Derived.Test.YtfmdpmcniccioaaD3
import Derived.StillTailTactics
namespace Go.Proofs.Ytfmdpmcniccioaa
open Go.RowKit

/-- Bytes of a block, as a string. -/
def subS (b : List UInt8) (o k : Nat) : ByteArray := ⟨((b.drop o).take k).toArray⟩
theorem conv_bytes {w : World} {g o k c : Nat} {b : List UInt8} {t : TypeId} (hg : Blk w g (bcs b).toArray t) (h : o + k ≤ b.length) (a : Addr) (ha : 0 < k → a = ⟨g, o, none⟩) (hz : ∃ b' o', a = ⟨b', o', none⟩) :
    (convert 40 9 (.slice (some a) k c)).run Try.prog w = .ok (.string (subS b o k)) w := by
  obtain ⟨b', o', rfl⟩ := hz
  have key : strOfNums (((b.drop o).take k).map fun x => (x.toNat : Int)) = subS b o k := by
    unfold strOfNums subS
    congr 1
    have hf : ((fun n : Int => UInt8.ofNat n.toNat) ∘ fun x : UInt8 => (x.toNat : Int)) = id := by funext x; simp
    rw [List.map_map, hf, List.map_id]
  rw [← key]
  refine run_convert_bytes_arg (P := Try.prog) w 40 5 Try.underlying40 Try.underlying5 b' o' k c _ (by simp; omega) (fun i hi => ?_) 9 Try.underlying9
  cases ha (by omega)
  refine (hg.cell _).trans ?_
  have hl : o + i < b.length := by omega
  have h1 : (bcs b).toArray[o + i]? = some (.int .u8 ((b[o + i]'hl).toNat : Int)) := by simp [bcs, hl]
  rw [h1]
  congr 2
  rw [List.getD_eq_getElem?_getD, List.getElem?_map, List.getElem?_take, if_pos hi, List.getElem?_drop, List.getElem?_eq_getElem hl]
  rfl
theorem retS {a b : ByteArray} {c d : Int} (h : b = a) (k : d = c) : Ending.returned (.tuple #[.string a, .int .i64 c]) = .returned (.tuple #[.string b, .int .i64 d]) := by rw [h, k]
theorem read_nil (off k : Int) (w : World) : Calls Try.prog 14 #[.pointer none, .int .i64 off, .int .i64 k] w fun e w' => e = .returned (.tuple #[.string ⟨#[]⟩, .int .i64 1]) ∧ w = w' := by
  go_enter Try.func14, Try.ntmps14
  go_wp2_with fail
  refine (check_nil _).mono ?_
  rintro e w' ⟨rfl, rfl⟩
  go_wp2
  go_ret2
  exact ⟨rfl, rfl⟩
set_option maxRecDepth 100000 in
theorem read_any {w : World} {B bD bV : Nat} {vp : Value} {n : Nat} {D : DiskD} (h : DiskAt w B bD bV vp n D) (hd : D.dur.length = n) (hv : D.vis.length = n) (hn : n ≤ 4194304) (off k : Int) :
    Calls Try.prog 14 #[.pointer (some ⟨B, 0, none⟩), .int .i64 off, .int .i64 k] w fun e w' => e = .returned (.tuple #[.string (readS D off k), .int .i64 (readE D off k)]) ∧ w = w' := by
  have hc := check_any h
  have hi := inside_any h hn off k
  have i3 := h.box.cell 3
  unfold dkc at i3
  simp only [List.getElem?_toArray, List.getElem?_cons_succ, List.getElem?_cons_zero] at i3
  have HC : Hid (readE D off k = if D.off then 331 else if insideB n off k then 0 else 330) := by unfold readE; rw [hd]; rfl
  have HS : Hid (readS D off k = if readE D off k = 0 then subS D.vis off.toNat k.toNat else ⟨#[]⟩) := rfl
  have HV := Lib.hid h.vis
  unfold checkE at hc
  clear h
  cases hD : D.off with
  | true =>
    rw [hD] at hc
    have e1 : Hid (readE D off k = 331) := by rw [HC.out, hD]; rfl
    have e2 : Hid (readS D off k = ⟨#[]⟩) := by rw [HS.out, e1.out]; rfl
    clear hD hi
    go_enter Try.func14, Try.ntmps14
    go_wp2_with fail
    refine hc.mono ?_
    rintro e w' ⟨rfl, rfl⟩
    clear hc
    go_wp2
    go_ret2
    exact ⟨retS e2.out e1.out, rfl⟩
  | false =>
    rw [hD] at hc
    cases hin : insideB n off k with
    | false =>
      rw [hin] at hi
      have e1 : Hid (readE D off k = 330) := by rw [HC.out, hD, hin]; rfl
      have e2 : Hid (readS D off k = ⟨#[]⟩) := by rw [HS.out, e1.out]; rfl
      clear hD hin
      go_enter Try.func14, Try.ntmps14
      go_wp2_with fail
      refine hc.mono ?_
      rintro e w' ⟨rfl, rfl⟩
      clear hc
      go_wp2_with fail
      refine hi.mono ?_
      rintro e w' ⟨rfl, rfl⟩
      clear hi
      go_wp2
      go_ret2
      exact ⟨retS e2.out e1.out, rfl⟩
    | true =>
      rw [hin] at hi
      have e1 : Hid (readE D off k = 0) := by rw [HC.out, hD, hin]; rfl
      have e2 : Hid (readS D off k = subS D.vis off.toNat k.toNat) := by rw [HS.out, e1.out]; rfl
      obtain ⟨q1, q2, q3, q4⟩ := inside_iff.1 hin
      clear hD hin
      obtain ⟨o, rfl⟩ := Int.eq_ofNat_of_zero_le q1
      obtain ⟨l, rfl⟩ := Int.eq_ofNat_of_zero_le q2
      have hlo : o ≤ n := by omega
      have hll : l ≤ n - o := by omega
      have hconv := conv_bytes (w := w) (c := n - o) HV.out (o := o) (k := l) (by omega)
      have hA1 : n = o → (convert 40 9 (.slice (some ⟨bV, 0, none⟩) l (n - o))).run Try.prog w = .ok (.string (subS D.vis o l)) w := fun e => hconv ⟨bV, 0, none⟩ (fun h => absurd h (by omega)) ⟨_, _, rfl⟩
      have hA2 : (convert 40 9 (.slice (some ⟨bV, o, none⟩) l (n - o))).run Try.prog w = .ok (.string (subS D.vis o l)) w := hconv ⟨bV, o, none⟩ (fun _ => rfl) ⟨_, _, rfl⟩
      have hA : (convert 40 9 (.slice (if n = o then some ⟨bV, 0, none⟩ else some ⟨bV, o, none⟩) l (n - o))).run Try.prog w = .ok (.string (subS D.vis o l)) w := by
        by_cases e : n = o
        · rw [if_pos e]; exact hA1 e
        · rw [if_neg e]; exact hA2
      clear hA1 hA2 hconv
      go_enter Try.func14, Try.ntmps14
      go_wp2_with fail
      refine hc.mono ?_
      rintro e w' ⟨rfl, rfl⟩
      clear hc
      go_wp2_with fail
      refine hi.mono ?_
      rintro e w' ⟨rfl, rfl⟩
      clear hi
      go_wp2
      all_goals (
        go_ret2
        exact ⟨retS e2.out e1.out, rfl⟩)
theorem sync_nil (w : World) : Calls Try.prog 23 #[.pointer none] w fun e w' => e = .returned (.int .i64 1) ∧ w = w' := by
  go_enter Try.func23, Try.ntmps23
  go_wp2_with fail
  refine (check_nil _).mono ?_
  rintro e w' ⟨rfl, rfl⟩
  go_wp2
  go_ret
  exact ⟨rfl, rfl⟩
set_option maxRecDepth 100000 in
theorem sync_any {w : World} {B bD bV : Nat} {vp : Value} {n : Nat} {D : DiskD} (h : DiskAt w B bD bV vp n D) (hd : D.dur.length = n) (hv : D.vis.length = n) :
    Calls Try.prog 23 #[.pointer (some ⟨B, 0, none⟩)] w fun e w' => ∃ vp', e = .returned (.int .i64 (syncE D)) ∧ DiskAt w' B bD bV vp' n (syncD D) ∧ vp'.ownBlock = vp.ownBlock ∧ Frm (Foot B bD bV vp) w w' := by
  have hc := check_any h
  have hs := settle_sync (h.below (W' := w.drew) (Below.refl _ _).drew) hd hv
  have i2 := h.box.cell 2
  have i3 := h.box.cell 3
  unfold dkc at i2 i3
  simp only [List.getElem?_toArray, List.getElem?_cons_succ, List.getElem?_cons_zero] at i2 i3
  have HE : Hid (syncE D = if D.off then 331 else 0) := rfl
  have HD : Hid (syncD D = if D.off then D else { D with dur := D.vis, pend := [] }) := rfl
  have H := Lib.hid h
  unfold checkE at hc
  clear h
  cases hD : D.off with
  | true =>
    rw [hD] at hc
    have e1 : Hid (syncE D = 331) := by rw [HE.out, hD]; rfl
    have e2 : Hid (syncD D = D) := by rw [HD.out, hD]; rfl
    clear hD hs
    go_enter Try.func23, Try.ntmps23
    go_wp2_with fail
    refine hc.mono ?_
    rintro e w' ⟨rfl, rfl⟩
    clear hc
    go_wp2
    go_ret
    exact ⟨vp, retI e1.out.symm, by rw [e2.out]; exact H.out, rfl, Frm.refl _ _⟩
  | false =>
    rw [hD] at hc
    have e1 : Hid (syncE D = 0) := by rw [HE.out, hD]; rfl
    have e2 : Hid (syncD D = { D with dur := D.vis, pend := [] }) := by rw [HD.out, hD]; rfl
    clear hD
    go_enter Try.func23, Try.ntmps23
    go_wp2_with fail
    refine hc.mono ?_
    rintro e w' ⟨rfl, rfl⟩
    clear hc
    go_wp2_with fail
    go_still_tail 9, (by kernel_rfl)
    change wpList _ _ _ _ _ w.drew
    go_wp2_with fail
    refine hs.mono ?_
    rintro e w' ⟨vp', rfl, h1, h2, h3⟩
    clear hs
    go_wp2
    go_ret
    exact ⟨vp', retI e1.out.symm, by rw [e2.out]; exact h1, h2, ((Frm.refl (Foot B bD bV vp) w).drew).trans h3 (fun _ _ h => h)⟩
theorem write_nil (off : Int) (s : ByteArray) (w : World) : Calls Try.prog 21 #[.pointer none, .int .i64 off, .string s] w fun e w' => e = .returned (.int .i64 1) ∧ w = w' := by
  go_enter Try.func21, Try.ntmps21
  go_wp2_with fail
  refine (check_nil _).mono ?_
  rintro e w' ⟨rfl, rfl⟩
  go_wp2
  go_ret
  exact ⟨rfl, rfl⟩
set_option maxRecDepth 100000 in
theorem write_no {w : World} {B bD bV : Nat} {vp : Value} {n : Nat} {D : DiskD} (h : DiskAt w B bD bV vp n D) (hd : D.dur.length = n) (hn : n ≤ 4194304) (off : Int) (s : ByteArray) (he : writeE D off s ≠ 0) :
    Calls Try.prog 21 #[.pointer (some ⟨B, 0, none⟩), .int .i64 off, .string s] w fun e w' => e = .returned (.int .i64 (writeE D off s)) ∧ w = w' := by
  have hc := check_any h
  have hi := inside_any h hn off s.size
  have HE : Hid (writeE D off s = if D.off then 331 else if insideB n off s.size then 0 else 330) := by unfold writeE; rw [hd]; rfl
  have HN := Lib.hid he
  unfold checkE at hc
  clear h he
  cases hD : D.off with
  | true =>
    rw [hD] at hc
    have e1 : Hid (writeE D off s = 331) := by rw [HE.out, hD]; rfl
    clear hD hi
    go_enter Try.func21, Try.ntmps21
    go_wp2_with fail
    refine hc.mono ?_
    rintro e w' ⟨rfl, rfl⟩
    clear hc
    go_wp2
    go_ret
    exact ⟨retI e1.out.symm, rfl⟩
  | false =>
    rw [hD] at hc
    cases hin : insideB n off s.size with
    | true => exact absurd (by rw [HE.out, hD, hin]; rfl) HN.out
    | false =>
      rw [hin] at hi
      have e1 : Hid (writeE D off s = 330) := by rw [HE.out, hD, hin]; rfl
      clear hD hin
      go_enter Try.func21, Try.ntmps21
      go_wp2_with fail
      refine hc.mono ?_
      rintro e w' ⟨rfl, rfl⟩
      clear hc
      go_wp2_with fail
      refine hi.mono ?_
      rintro e w' ⟨rfl, rfl⟩
      clear hi
      go_wp2
      go_ret
      exact ⟨retI e1.out.symm, rfl⟩
end Go.Proofs.Ytfmdpmcniccioaa
