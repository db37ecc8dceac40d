/- nadirlaw33.DiskNewMatches, DiskNil: the walks. -/
import Derived.Test.YtfmdpmcniccioaaPk
namespace Go.Proofs.Ytfmdpmcniccioaa
open Go.RowKit Go.Shelf Lib

theorem read_new {n : Nat} {p : Nat} (h : p < n) : readE (newD n) p 1 = 0 ∧ readS (newD n) p 1 = ⟨#[0]⟩ := by
  have h1 : insideB n (p : Int) 1 = true := inside_iff.2 ⟨by omega, by omega, by omega, by omega⟩
  have h2 : readE (newD n) p 1 = 0 := by
    unfold readE
    have e : (newD n).dur.length = n := by simp [newD]
    rw [e, h1]; rfl
  refine ⟨h2, ?_⟩
  unfold readS
  rw [if_pos h2]
  have e : ((newD n).vis.drop (p : Int).toNat).take (1 : Int).toNat = [0] := by
    simp only [newD, Int.toNat_natCast]
    rw [List.drop_replicate]
    show List.take 1 _ = _
    rw [List.take_replicate, Nat.min_eq_left (by omega)]; rfl
  rw [e]
set_option maxRecDepth 100000 in
theorem newMatches_true (size at_ : Int) (hs : InR size) (ha : InR at_) (w : World) : Calls Try.prog 3 #[.int .i64 size, .int .i64 at_] w fun e w' => e = .returned (.bool true) ∧ Below w.heap.size w w' := by
  by_cases h : size < 1 ∨ 4194304 < size
  · have hn := Lib.hid (fun W => new_no size W h)
    have hd : (decide (size < 1) = true) ∨ (decide (size < 1) = false ∧ decide (4194304 < size) = true) := by
      by_cases h1 : size < 1
      · exact .inl (decide_eq_true h1)
      · exact .inr ⟨decide_eq_false h1, decide_eq_true (by omega)⟩
    clear h hs
    rcases hd with d1 | ⟨d1, d2⟩
    all_goals (
      go_enter Try.func3, Try.ntmps3
      go_wp2_with fail
      refine (sane_true _).mono ?_
      rintro e w1 ⟨rfl, hB⟩
      go_wp2_with fail
      refine (hn.out _).mono ?_
      rintro e wq ⟨rfl, rfl⟩
      go_wp2
      go_ret
      exact ⟨rfl, hB⟩)
  · have d1 : decide (size < 1) = false := decide_eq_false (by omega)
    have d2 : decide (4194304 < size) = false := decide_eq_false (by omega)
    obtain ⟨n, rfl⟩ := Int.eq_ofNat_of_zero_le (show 0 ≤ size by omega)
    have hn1 : 1 ≤ n := by omega
    have hn2 : n ≤ 4194304 := by omega
    have hnew := Lib.hid (fun W => new_own n W hn1 hn2)
    have hpb := pickI_bd at_ (n := (n : Int)) (by omega)
    have hpk := Lib.hid (fun W => pick_any at_ n W ha (by omega) (by omega))
    obtain ⟨p, hp⟩ := Int.eq_ofNat_of_zero_le hpb.1
    rw [hp] at hpk hpb
    have hrn := Lib.hid (read_new (n := n) (p := p) (by omega))
    clear h hs ha hp hpb hn1 hn2
    go_enter Try.func3, Try.ntmps3
    go_wp2_with fail
    refine (sane_true _).mono ?_
    rintro e w1 ⟨rfl, hB⟩
    go_wp2_with fail
    refine (hnew.out _).mono ?_
    rintro e w2 ⟨B, rfl, hO, hB2⟩
    have hr := read_f hO p 1
    rw [hrn.out.1, hrn.out.2] at hr
    have hsz := size_f hO
    have hpe := pending_f hO
    have e0 : (newD n).pend.length = 0 := rfl
    rw [e0] at hpe
    clear e0
    go_wp2_with fail
    refine (hpk.out _).mono ?_
    rintro e wq ⟨rfl, rfl⟩
    go_wp2_with fail
    refine hr.mono ?_
    rintro e wq ⟨rfl, rfl⟩
    go_wp2_with fail
    refine hsz.mono ?_
    rintro e wq ⟨rfl, rfl⟩
    go_wp2_with fail
    refine hpe.mono ?_
    rintro e wq ⟨rfl, rfl⟩
    go_wp2
    go_ret
    exact ⟨rfl, hB.trans (hB2.mono hB.size)⟩
set_option maxRecDepth 100000 in
theorem nil_true (off n : Int) (s : ByteArray) (vk : Value) (kl : List Int) (w : World) (hk : IntsAt w vk kl) : Calls Try.prog 5 #[.int .i64 off, .int .i64 n, .string s, vk] w fun e w' => e = .returned (.bool true) ∧ Below w.heap.size w w' := by
  obtain ⟨a, c, rfl, h1, h2⟩ := hk.len
  obtain ⟨q, hq, hqm⟩ : ∃ q : Nat, (if (100 : Int) < (kl.length : Int) then (100 : Int) else (kl.length : Int)) = (q : Int) ∧ q = min kl.length 100 := ⟨min kl.length 100, by rw [Nat.min_def]; split <;> split <;> omega, rfl⟩
  have hqc : q ≤ c := by omega
  have hqi : (0 : Int) ≤ (q : Int) ∧ (q : Int) ≤ (c : Int) := by omega
  have hcut := Lib.hid (fun W => cut22 s 100 W)
  unfold maxLen at h2
  clear hk hqm
  go_enter Try.func5, Try.ntmps5
  go_wp2_with fail
  refine (sane_true _).mono ?_
  rintro e w1 ⟨rfl, hB⟩
  go_wp2_with fail
  refine (read_nil _ _ _).mono ?_
  rintro e wq ⟨rfl, rfl⟩
  go_wp2_with fail
  refine (hcut.out _).mono ?_
  rintro e wq ⟨rfl, rfl⟩
  go_wp2_with fail
  refine (write_nil _ _ _).mono ?_
  rintro e wq ⟨rfl, rfl⟩
  go_wp2_with fail
  refine (sync_nil _).mono ?_
  rintro e wq ⟨rfl, rfl⟩
  go_wp2_with fail
  refine (cut_nil _ _).mono ?_
  rintro e wq ⟨rfl, rfl⟩
  go_wp2_with fail
  refine (crash_nil _ _ _).mono ?_
  rintro e w2 ⟨rfl, hB2⟩
  go_wp2_with fail
  refine (pending_nil _).mono ?_
  rintro e wq ⟨rfl, rfl⟩
  go_wp2_with fail
  refine (size_nil _).mono ?_
  rintro e wq ⟨rfl, rfl⟩
  go_wp2
  go_ret
  exact ⟨rfl, hB.trans (hB2.mono hB.size)⟩
end Go.Proofs.Ytfmdpmcniccioaa
