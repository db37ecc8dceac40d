/- Plain: a journal on a disk of 6000 bytes, of which a byte is changed. -/
import Derived.Test.YtnckpnbecmmcpaaGreatDoorJQ
namespace Go.Proofs.YtnckpnbecmmcpaaGreatDoor
open Go.RowKit
open W01 (putsT)
theorem tapeN_few : ∀ (l : List ByteArray), (∀ t ∈ l, t.size ≤ 100) → tapeN l ≤ 135 * l.length
  | [], _ => Nat.le_refl 0
  | t :: l, h => by
    have h1 := tapeN_append [t] l
    rw [List.singleton_append, tapeN_one] at h1
    have h2 := tapeN_few l (fun x hx => h x (List.mem_cons_of_mem _ hx))
    have h3 := h t List.mem_cons_self
    have h4 : (putsT t).size ≤ t.size + 2 := by
      by_cases h5 : t.size < 64
      · rw [putsT_len1 h5]; omega
      · rw [putsT_len2 (by omega) (by omega)]; omega
    rw [h1, List.length_cons]; omega
structure DamI (k : Nat) (L : List ByteArray) (D : DiskD) : Prop where
  good : Good 6000 L D
  left : D.left = 0
  fit : tapeN L ≤ 810 * k
theorem DamI.app {k : Nat} {L l : List ByteArray} {D : DiskD} (h : DamI k L D) (hk : k < 6) (hl : ∀ t ∈ l, t.size ≤ 100) (hl6 : l.length ≤ 6) :
    appE 6000 ⟨L, false⟩ D l = 0 ∧ appJ 6000 ⟨L, false⟩ D l = ⟨L ++ l, false⟩ ∧ DamI (k + 1) (L ++ l) (appD 6000 ⟨L, false⟩ D l) := by
  have hf := tapeN_few l hl
  have := h.fit
  rcases app_on h.good h.left (fun t ht => Nat.le_trans (hl t ht) (by decide)) with ⟨-, e1, e2, g, l0⟩ | ⟨hc, -⟩
  · exact ⟨e1, e2, g, l0, by rw [tapeN_append]; omega⟩
  · omega
theorem heads_mem {t : ByteArray} : ∀ (l : List ByteArray) (h : ByteArray), h.size = 32 → (∀ x ∈ l, x.size ≤ 65536) → t ∈ headsL h l → t.size ≤ 100000
  | [], _, _, _, ht => by cases ht
  | x :: l, h, hh, hx, ht => by
    rcases List.mem_cons.1 ht with rfl | ht
    · have h1 := hx x List.mem_cons_self
      have : m2.size = 1 := rfl
      rw [ByteArray.size_append, ByteArray.size_append, hh, this]; omega
    · exact heads_mem l _ (chainS_size h x) (fun y hy => hx y (List.mem_cons_of_mem _ hy)) ht
/-- What is read of the disk once a byte is changed. -/
theorem dam_open {n : Nat} {L : List ByteArray} {D : DiskD} (h : Good n L D) (hl : D.left = 0) {p : Nat} {c : UInt8} (hp : p < tapeN L) (hc : D.vis[p]? ≠ some c) (hs : sizedB L p = false) :
    (writeD D p ⟨#[c]⟩).pend.length ≤ 1 ∧ (openE n (writeD D p ⟨#[c]⟩) = 342 ∨ (openE n (writeD D p ⟨#[c]⟩) = 0 ∧ ∃ M, openL n (writeD D p ⟨#[c]⟩) = M ∧ M.length ≤ n ∧ (∀ t ∈ M, t.size ≤ 65536) ∧ Changed c z32 L M)) := by
  have hfit := h.full.2.1
  have hOn : OnD n D := ⟨h.inv, h.on, hl⟩
  obtain ⟨-, a2, -, -, a5⟩ := on_write hOn p ⟨#[c]⟩ (by show p + 1 ≤ n; omega)
  have hv : (bts (tapeS z32 L))[p]? ≠ some c := by
    rw [h.full.2.2, List.getElem?_append_left (by rw [bts_len]; exact hp)] at hc
    exact hc
  refine ⟨by rw [a5, h.pend]; exact Nat.le_refl 1, ?_⟩
  rcases damaged_open h hl hp hv hs with h1 | ⟨h1, h2⟩
  · exact .inl h1
  · refine .inr ⟨h1, _, rfl, ?_⟩
    obtain ⟨r1, r2⟩ := on_read a2
    generalize hD' : writeD D p ⟨#[c]⟩ = D' at *
    have hsz : (strOf D'.vis).size = n := by
      show (strOf D'.vis).data.size = n
      have : D'.vis.length = n := by rw [a2.inv.vis]; exact foldl_len _ _ a2.inv.dur a2.inv.fit
      simp [strOf, this]
    cases hload : loadS (readS D' 0 n) with
    | none =>
      have : openL n D' = [] := by unfold openL; rw [hload]
      rw [this] at h2 ⊢
      exact ⟨by simp, fun t ht => (by cases ht), h2⟩
    | some q =>
      obtain ⟨M, e⟩ := q
      have hM : openL n D' = M := by unfold openL; rw [hload]
      rw [hM] at h2 ⊢
      obtain ⟨f1, f2, -, f4, -⟩ := load_facts hload
      have f5 := tapeN_len M
      have : (readS D' 0 n).size = n := by rw [r2]; exact hsz
      exact ⟨by omega, f4, h2⟩
/-- The content of a good disk. -/
theorem dam_read {n : Nat} {L : List ByteArray} {D : DiskD} (h : Good n L D) (hl : D.left = 0) : ∃ s : ByteArray, readS D 0 n = s ∧ s.size = n ∧ ∀ p, p < n → ∃ x : UInt8, D.vis[p]? = some x ∧ ∀ h : p < s.size, s[p]'h = x := by
  obtain ⟨-, r2⟩ := on_read ⟨h.inv, h.on, hl⟩
  have hlen := h.full.len
  refine ⟨_, r2, ?_, fun p hp => ⟨D.vis[p], List.getElem?_eq_getElem (by omega), ?_⟩⟩
  · show (strOf D.vis).data.size = n
    simp [strOf, hlen]
  · intro h
    show (strOf D.vis).data[p] = _
    simp [strOf]
end Go.Proofs.YtnckpnbecmmcpaaGreatDoor
