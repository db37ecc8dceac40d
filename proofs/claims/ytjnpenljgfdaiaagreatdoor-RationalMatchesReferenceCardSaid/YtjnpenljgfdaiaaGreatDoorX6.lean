/- package integer: ToInt. -/
import Derived.Test.YtjnpenljgfdaiaaGreatDoorX5
import Derived.Test.YtjnpenljgfdaiaaGreatDoorPL
namespace Go.Proofs.YtjnpenljgfdaiaaGreatDoor
open Go.RowKit Go.Shelf Lib

/-- Atoi, as ToInt sees it. -/
theorem atoi_any (s : ByteArray) (w : World) (hs : s.size ≤ 281474976710656) (he : EnvW w) :
    Calls Tryz.prog 103 #[.string s] w fun e w' => ∃ v, Below w.heap.size w w' ∧ ((e = .returned (.tuple #[.int .i64 v, .nilIface]) ∧ Lib.atoiAll s.data.toList = .ok v) ∨ (∃ N, e = .returned (.tuple #[.int .i64 v, .iface 150 (.pointer (some ⟨N, 0, none⟩))]) ∧ ∀ x, Lib.atoiAll s.data.toList ≠ .ok x)) := by
  cases h : Lib.atoiAll s.data.toList with
  | ok v =>
    refine (Tryz.strconv_Atoi_ok s (by omega) v h w).mono ?_
    rintro e w' ⟨rfl, hw⟩
    refine ⟨v, ?_, .inl ⟨rfl, rfl⟩⟩
    rcases hw with rfl | ⟨t, rfl⟩
    · exact Below.refl _ _
    · exact Lib.bytesWorld_below _ _ _
  | range =>
    obtain ⟨tp, p, hv⟩ := he.rng
    refine (Tryz.strconv_Atoi_range_var s hs h tp p w hv).mono ?_
    rintro e w' ⟨N, rfl, -, -, hB⟩
    exact ⟨_, hB, .inr ⟨N, rfl, fun x hx => by cases hx⟩⟩
  | _ =>
    obtain ⟨tp, p, hv⟩ := he.syn
    refine (Tryz.strconv_Atoi_syntax_var s hs (fun v hv => by cases h.symm.trans hv) (fun hv => by cases h.symm.trans hv) tp p w hv).mono ?_
    rintro e w' ⟨N, rfl, -, -, hB⟩
    exact ⟨_, hB, .inr ⟨N, rfl, fun x hx => by cases hx⟩⟩
set_option maxRecDepth 100000 in
set_option maxHeartbeats 1000000 in
theorem toInt_f (s : ByteArray) (w : World) (hs : s.size ≤ 281474976710656) (he : EnvW w) :
    Calls Tryz.prog 51 #[.string s] w fun e w' => e = .returned (.tuple #[.int .i64 (N3.toM s), .int .i64 (N3.toE s)]) ∧ Below w.heap.size w w' := by
  have h := Lib.hid (atoi_any s w hs he)
  have hv := Lib.hid (fun V => isValid_any s V (by omega))
  have hall : N3.okS s = true → Lib.atoiAll s.data.toList = if N3.inM (N3.iV s) = true then .ok (N3.iV s) else .range := fun hk => N3.atoi_all hk
  unfold N3.toM N3.toE
  clear he
  cases hk : N3.okS s with
  | false =>
    rw [hk] at hv
    rw [Bool.false_and, if_neg (by decide), if_neg (by decide)]
    clear hall hk
    go_enter Tryz.func51, Tryz.ntmps51
    go_wp2_with fail
    refine h.out.mono ?_
    rintro e W1 ⟨v, hB1, ⟨rfl, hz⟩ | ⟨N, rfl, hz⟩⟩
    · have HZ := Lib.hid hz
      clear hz
      go_wp2_with fail
      refine (hv.out _).mono ?_
      rintro e W2 ⟨rfl, hB2⟩
      go_wp2_with fail
      go_ret2
      exact ⟨rfl, hB1.trans (hB2.mono hB1.size)⟩
    · have HZ := Lib.hid hz
      clear hz
      go_wp2_with fail
      refine (hv.out _).mono ?_
      rintro e W2 ⟨rfl, hB2⟩
      go_wp2_with fail
      go_ret2
      exact ⟨rfl, hB1.trans (hB2.mono hB1.size)⟩
  | true =>
    rw [hk] at hv
    have hall := hall hk
    rw [Bool.true_and]
    cases hm : N3.inM (N3.iV s) with
    | true =>
      rw [hm, if_pos rfl] at hall
      rw [if_pos rfl, if_pos rfl]
      rw [hall] at h
      clear hall hm hk
      go_enter Tryz.func51, Tryz.ntmps51
      go_wp2_with fail
      refine h.out.mono ?_
      rintro e W1 ⟨v, hB1, ⟨rfl, hz⟩ | ⟨N, rfl, hz⟩⟩
      · obtain rfl : N3.iV s = v := by cases hz; rfl
        clear hz
        go_wp2_with fail
        refine (hv.out _).mono ?_
        rintro e W2 ⟨rfl, hB2⟩
        go_wp2_with fail
        go_ret2
        exact ⟨rfl, hB1.trans (hB2.mono hB1.size)⟩
      · exact absurd rfl (hz _)
    | false =>
      rw [hm, if_neg (by decide)] at hall
      rw [if_neg (by decide), if_neg (by decide)]
      rw [hall] at h
      clear hall hm hk
      go_enter Tryz.func51, Tryz.ntmps51
      go_wp2_with fail
      refine h.out.mono ?_
      rintro e W1 ⟨v, hB1, ⟨rfl, hz⟩ | ⟨N, rfl, hz⟩⟩
      · cases hz
      · clear hz
        go_wp2_with fail
        refine (hv.out _).mono ?_
        rintro e W2 ⟨rfl, hB2⟩
        go_wp2_with fail
        go_ret2
        exact ⟨rfl, hB1.trans (hB2.mono hB1.size)⟩
end Go.Proofs.YtjnpenljgfdaiaaGreatDoor
