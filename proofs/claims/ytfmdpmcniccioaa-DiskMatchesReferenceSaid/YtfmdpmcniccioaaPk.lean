/- nadirlaw33.pick, cut, fits, put. -/
import Derived.Test.YtfmdpmcniccioaaSane
namespace Go.Proofs.Ytfmdpmcniccioaa
open Go.RowKit Go.Shelf Lib

theorem wrapS (n : Int) (h₀ : -9223372036854775808 ≤ n) (h₁ : n ≤ 9223372036854775807) : IntKind.i64.wrap n = n := by rw [IntKind.wrap_i64]; omega
def pickI (c n : Int) : Int := (if c < 0 then -(c + 1) else c) % n
def InR (c : Int) : Prop := -9223372036854775808 ≤ c ∧ c ≤ 9223372036854775807
theorem pickI_bd (c : Int) {n : Int} (hn : 0 < n) : 0 ≤ pickI c n ∧ pickI c n < n := ⟨Int.emod_nonneg _ (by omega), Int.emod_lt_of_pos _ hn⟩
set_option maxRecDepth 100000 in
theorem pick_any (c n : Int) (w : World) (hc : InR c) (hn : 0 < n) (hn2 : n ≤ 9223372036854775807) : Calls Try.prog 15 #[.int .i64 c, .int .i64 n] w fun e w' => e = .returned (.int .i64 (pickI c n)) ∧ w = w' := by
  have hp := pickI_bd c hn
  obtain ⟨hc1, hc2⟩ := hc
  have hn0 : ¬ n = 0 := by omega
  by_cases h : c < 0
  · have hw1 : IntKind.i64.wrap (c + 1) = c + 1 := wrapS _ (by omega) (by omega)
    have hw2 : IntKind.i64.wrap (-(c + 1)) = -(c + 1) := wrapS _ (by omega) (by omega)
    have e : pickI c n = -(Int.tmod (c + 1) n) := by unfold pickI; rw [if_pos h, ← Int.neg_tmod]; exact (Int.tmod_eq_emod_of_nonneg (by omega)).symm
    rw [e] at hp
    have hw3 : IntKind.i64.wrap (-(Int.tmod (c + 1) n)) = -(Int.tmod (c + 1) n) := wrapS _ (by omega) (by omega)
    rw [e]
    clear hp e
    go_enter Try.func15, Try.ntmps15
    go_wp2
    go_ret
    exact ⟨rfl, rfl⟩
  · have e : pickI c n = c % n := by unfold pickI; rw [if_neg h]
    rw [e] at hp
    have hw3 : IntKind.i64.wrap (c % n) = c % n := wrapS _ (by omega) (by omega)
    rw [e]
    clear hp e
    go_enter Try.func15, Try.ntmps15
    go_wp2
    go_ret
    exact ⟨rfl, rfl⟩
theorem cut22 (s : ByteArray) (n : Nat) (w : World) : Calls Try.prog 22 #[.string s, .int .i64 (n : Nat)] w fun e w' => e = .returned (.string (cutS s (min s.size n))) ∧ w = w' := by
  obtain ⟨q, hq, hqm⟩ : ∃ q : Nat, (if (n : Int) < (s.size : Int) then (n : Int) else (s.size : Int)) = (q : Int) ∧ q = min s.size n := ⟨min s.size n, by rw [Nat.min_def]; split <;> split <;> omega, rfl⟩
  have hq' : min (s.size : Int) (n : Int) = (q : Int) := by omega
  have hqs : q ≤ s.size := by omega
  have hqi : (0 : Int) ≤ (q : Int) ∧ (q : Int) ≤ (s.size : Int) := by omega
  rw [← hqm]
  clear hqm
  unfold cutS
  go_enter Try.func22, Try.ntmps22
  go_wp2
  go_ret
  exact ⟨rfl, rfl⟩
/-- A write that has been mapped to one that lies on a disk. -/
structure WP where
  off : Int
  s : ByteArray
  sync : Bool
def fitO (x : WP) (n : Nat) : Nat := (pickI x.off (n + 1)).toNat
def fitS (x : WP) (n : Nat) : ByteArray := cutS x.s (min x.s.size (n - fitO x n))
theorem fitO_le (x : WP) (n : Nat) : fitO x n ≤ n := by have := pickI_bd x.off (n := (n : Int) + 1) (by omega); unfold fitO; omega
theorem fitS_size (x : WP) (n : Nat) : (fitS x n).size = min x.s.size (n - fitO x n) := by unfold fitS; rw [cutS_size _ _ (by omega)]
theorem fit_le (x : WP) (n : Nat) : fitO x n + (fitS x n).size ≤ n := by rw [fitS_size]; have := fitO_le x n; omega
set_option maxRecDepth 100000 in
theorem fits_any (x : WP) (n : Nat) (hn : n ≤ 4194304) (ho : InR x.off) (w : World) : Calls Try.prog 26 #[.agg #[.int .i64 x.off, .string x.s, .bool x.sync], .int .i64 (n : Nat)] w fun e w' => e = .returned (.agg #[.int .i64 (fitO x n : Nat), .string (fitS x n), .bool x.sync]) ∧ Below w.heap.size w w' := by
  have hp := Lib.hid (fun W => pick_any x.off ((n : Int) + 1) W ho (by omega) (by omega))
  have hfo : pickI x.off ((n : Int) + 1) = (fitO x n : Nat) := by have := pickI_bd x.off (n := (n : Int) + 1) (by omega); unfold fitO; omega
  have hle := fitO_le x n
  have hc := Lib.hid (fun W => cut22 x.s (n - fitO x n) W)
  have hS : Hid (fitS x n = cutS x.s (min x.s.size (n - fitO x n))) := rfl
  rw [hfo] at hp
  generalize fitO x n = o at *
  have hsub : ((n - o : Nat) : Int) = (n : Int) - (o : Int) := by omega
  rw [hsub] at hc
  have hw1 : IntKind.i64.wrap ((n : Int) + 1) = (n : Int) + 1 := wrapS _ (by omega) (by omega)
  have hw2 : IntKind.i64.wrap ((n : Int) - (o : Int)) = (n : Int) - (o : Int) := wrapS _ (by omega) (by omega)
  obtain ⟨xo, xs, xb⟩ := x
  simp only at *
  clear hfo hsub ho
  have hB0 : ∀ (b : Nat) (i : Nat) (u : Value) (W : World), w.heap.size ≤ b → Below w.heap.size w W → Below w.heap.size w (W.setCell ⟨b, i, none⟩ u) := fun b i u W hb h => h.setCell (p := ⟨b, i, none⟩) hb u
  have HB := Lib.hid hB0
  clear hB0
  go_enter Try.func26, Try.ntmps26
  go_wp2_with fail
  refine (hp.out _).mono ?_
  rintro e w' ⟨rfl, rfl⟩
  go_wp2_with fail
  refine (hc.out _).mono ?_
  rintro e w' ⟨rfl, rfl⟩
  go_wp2
  refine bodyPost_ret (v := .agg #[.int .i64 (o : Nat), .string (cutS xs (min xs.size (n - o))), .bool xb]) (by simp [results, Try.results26, go_sem]) rfl ?_
  exact ⟨by rw [hS.out], ((Below.refl _ _).alloc (Nat.le_refl _) _).alloc (by simp) _⟩
/-- put writes a string into bytes. -/
theorem putB_zero (b : List UInt8) (o : Nat) : putB b o [] = b := by simp [putB]
theorem putB_step (b : List UInt8) (o k : Nat) (l : List UInt8) (hk : k < l.length) (hf : o + l.length ≤ b.length) : (putB b o (l.take k)).set (o + k) (l.getD k 0) = putB b o (l.take (k + 1)) := by
  apply List.ext_getElem?
  intro i
  have h1 : (l.take k).length = k := by simp; omega
  have h2 : (l.take (k + 1)).length = k + 1 := by simp; omega
  have hl1 : (putB b o (l.take k)).length = b.length := putB_len (by omega)
  have hl2 : (putB b o (l.take (k + 1))).length = b.length := putB_len (by omega)
  by_cases hi : i < b.length
  · rw [putB_get (by omega) i hi, h2]
    by_cases he : i = o + k
    · subst he
      rw [List.getElem?_set_self (by omega), if_pos (by omega), List.getElem?_take, if_pos (by omega), Nat.add_sub_cancel_left, getD_some 0 hk]
    · rw [List.getElem?_set_ne (by omega), putB_get (by omega) i hi, h1]
      by_cases hin : o ≤ i ∧ i < o + k
      · rw [if_pos hin, if_pos (by omega), List.getElem?_take, List.getElem?_take, if_pos (by omega), if_pos (by omega)]
      · rw [if_neg hin, if_neg (by omega)]
  · rw [List.getElem?_eq_none (by simp; omega), List.getElem?_eq_none (by omega)]
theorem bcs_set (b : List UInt8) (i : Nat) (x : UInt8) : (bcs b).toArray.setIfInBounds i (.int .u8 (x.toNat : Int)) = (bcs (b.set i x)).toArray := by
  apply Array.ext'
  simp [bcs, List.map_set]
set_option maxRecDepth 100000 in
theorem put_any {w : World} {g n : Nat} {b : List UInt8} (hg : Blk w g (bcs b).toArray 5) (hb : b.length = n) (hn : n ≤ 4194304) (o : Nat) (s : ByteArray) (hfit : o + s.size ≤ n) :
    Calls Try.prog 27 #[.slice (some ⟨g, 0, none⟩) n n, .int .i64 (o : Nat), .string s] w fun e w' => e = .returned (.tuple #[]) ∧ Blk w' g (bcs (putB b o (bts s))).toArray 5 ∧ Frm (fun k => k = g) w w' := by
  have hsz : (bts s).length = s.size := rfl
  have HB := Lib.hid (fun k (hk : k < s.size) => putB_step b o k (bts s) hk (by rw [hb]; exact hfit))
  have HG := Lib.hid hg
  have hbl := Lib.hid (fun k (hk : k ≤ s.size) => show (putB b o ((bts s).take k)).length = n by rw [putB_len (by rw [List.length_take, hb, hsz]; omega), hb])
  clear hg hb hsz
  go_enter Try.func27, Try.ntmps27
  go_wp2
  go_loopw [6] (fun u6 wr => ∃ k : Nat, k ≤ s.size ∧ u6 = .int .i64 k ∧ Blk wr g (bcs (putB b o ((bts s).take k))).toArray 5 ∧ Frm (fun i => i = g) w wr) (fun u6 _ => (s.size - intOf u6).toNat)
  case atStart => exact ⟨0, by omega, rfl, by rw [List.take_zero, putB_zero]; exact HG.out, Frm.refl _ _⟩
  case round =>
    obtain ⟨k, hk, rfl, hgk, hfk⟩ := hrel
    by_cases hkl : k < s.size
    · have hx : Hid ((bts s).getD k 0 = s[k]) := by show _ = _; rw [List.getD_eq_getElem?_getD, List.getElem?_eq_getElem (show k < (bts s).length from hkl)]; rfl
      have hstep := HB.out k hkl
      have hcell : ∃ y, wr.cell? ⟨g, o + k, none⟩ = some y := by
        have hl := hbl.out k (by omega)
        refine ⟨_, (hgk.cell (o + k)).trans (Array.getElem?_eq_getElem ?_)⟩
        simp [bcs_len]; omega
      obtain ⟨y, hcell⟩ := hcell
      have hfz := hgk.frozen (o + k)
      have hki : (0 : Int) ≤ (k : Int) ∧ (k : Int) < (s.size : Int) := by omega
      have hoi : (0 : Int) ≤ (o : Int) + (k : Int) ∧ (o : Int) + (k : Int) < (n : Int) := by omega
      have hw : IntKind.i64.wrap ((o : Int) + (k : Int)) = (o : Int) + (k : Int) := wrapS _ (by omega) (by omega)
      have hnat : ((o : Int) + (k : Int)).toNat = o + k := by omega
      have hgs := hgk.set (o + k) (.int .u8 (s[k].toNat : Int))
      rw [bcs_set, ← hx.out, hstep] at hgs
      have HGS := Lib.hid hgs
      clear hgs hgk hstep
      go_wp2
      go_roundw
      case rel => exact ⟨k + 1, by omega, by go_num, by have := HGS.out; rw [hx.out] at this; exact this, hfk.setCell (fun _ => rfl) _⟩
      case measure => simp [intOf]; omega
    · obtain rfl : k = s.size := by omega
      go_wp2
      go_end0
      exact ⟨rfl, by rw [List.take_of_length_le (show (bts s).length ≤ s.size from Nat.le_refl _)] at hgk; exact hgk, hfk⟩
end Go.Proofs.Ytfmdpmcniccioaa
