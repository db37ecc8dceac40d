/- package journal: Open. -/
import Derived.Test.YtnckpnbecmmcpaaGreatDoorJE
namespace Go.Proofs.YtnckpnbecmmcpaaGreatDoor
open Go.RowKit Lib
theorem dropWhile_nil {p : UInt8 → Bool} : ∀ {l : List UInt8}, l.dropWhile p = [] ↔ ∀ x ∈ l, p x = true
  | [] => by simp
  | x :: l => by
    rw [List.dropWhile_cons]
    cases h : p x with
    | true => simp only [if_true]; rw [dropWhile_nil]; simp [h]
    | false => simp [h]
theorem dropWhile_head {p : UInt8 → Bool} : ∀ {l : List UInt8} {x : UInt8} {t : List UInt8}, l.dropWhile p = x :: t → p x = false
  | [], x, t, h => by cases h
  | y :: l, x, t, h => by
    rw [List.dropWhile_cons] at h
    cases hp : p y with
    | true => rw [hp] at h; simp only [if_true] at h; exact dropWhile_head h
    | false => rw [hp] at h; simp at h; rw [← h.1]; exact hp
theorem trim_nil {l : List UInt8} : Lib.trimB l 0 = [] ↔ l = List.replicate l.length 0 := by
  unfold Lib.trimB Lib.trimLeftB Lib.trimRightB
  rw [dropWhile_nil]
  constructor
  · intro h
    cases hd : l.reverse.dropWhile (· == 0) with
    | nil =>
      rw [dropWhile_nil] at hd
      refine List.eq_replicate_iff.2 ⟨rfl, fun x hx => ?_⟩
      have := hd x (by simpa using hx)
      simpa using this
    | cons x t =>
      exfalso
      rw [hd] at h
      have h1 := h x (by simp)
      have h2 := dropWhile_head hd
      rw [h1] at h2; cases h2
  · intro h
    have : l.reverse.dropWhile (· == 0) = [] := by
      rw [dropWhile_nil]
      intro x hx
      rw [List.mem_reverse, h] at hx
      simp [List.eq_of_mem_replicate hx]
    rw [this]
    simp
theorem allZ_trim {s : ByteArray} {e : Nat} (_he : e ≤ s.size) : allZ s e = true ↔ Lib.trimB (s.extract e s.size).data.toList 0 = [] := by
  rw [trim_nil, allZ_iff]
  have h : (s.extract e s.size).data.toList = (bts s).drop e := by
    rw [Lib.extract_data]
    exact List.take_of_length_le (by rw [List.length_drop]; show (bts s).length - e ≤ _; rw [bts_len]; omega)
  rw [h, List.length_drop, bts_len]
theorem read_size {n : Nat} {D : DiskD} (hI : Inv n D) (h : readE D 0 n = 0) : (readS D 0 n).size = n := by
  unfold readS
  rw [if_pos h]
  show (List.toArray _).size = n
  have := hI.visLen
  simp; omega
theorem openE_of {n : Nat} {D : DiskD} (h : readE D 0 n ≠ 0) : openE n D = readE D 0 n ∧ openD n D = D := by unfold openE openD; rw [if_pos h, if_pos h]; exact ⟨rfl, rfl⟩
theorem openE_none {n : Nat} {D : DiskD} (h : readE D 0 n = 0) (hl : loadS (readS D 0 n) = none) : openE n D = 342 ∧ openD n D = D := by
  unfold openE openD; rw [if_neg (by rw [h]; decide), if_neg (by rw [h]; decide), hl]; exact ⟨rfl, rfl⟩
theorem openE_some {n : Nat} {D : DiskD} {L : List ByteArray} {e : Nat} (h : readE D 0 n = 0) (hl : loadS (readS D 0 n) = some (L, e)) :
    openE n D = (if allZ (readS D 0 n) e = true then 0 else (seqD (trim2 n e) D).1) ∧ openD n D = (if allZ (readS D 0 n) e = true then D else (seqD (trim2 n e) D).2) ∧ openL n D = L := by
  refine ⟨?_, ?_, ?_⟩ <;> simp [openE, openD, openL, h, hl]
theorem own_first {W V : World} {B n : Nat} {D : DiskD} {F : Nat → Prop} (h : OwnF W B n D F) (hb : Below W.heap.size W V) : OwnF V B n D (fun k => (F k ∧ k < W.heap.size) ∨ V.heap.size ≤ k) :=
  (h.mono (G := fun k => (F k ∧ k < W.heap.size) ∨ V.heap.size ≤ k) (fun _ hk hf => .inl ⟨hf, hk⟩)).below hb
abbrev boxes3 (V1 : World) (Jb : Nat) (at_ : Int) (s : ByteArray) : World := ((V1.alloc (.cells #[.pointer (some ⟨Jb, 0, none⟩)] 28)).alloc (.cells #[.int .i64 at_] 3)).alloc (.cells #[.string s] 9)
abbrev fvW (q : Nat) : Value := .func (.func 72) #[] #[.pointer (some ⟨q, 0, none⟩), .pointer (some ⟨q + 1, 0, none⟩), .pointer (some ⟨q + 2, 0, none⟩)]
abbrev fvS (B : Nat) : Value := .func (.func 42) #[.pointer (some ⟨B, 0, none⟩)] #[]
theorem boxes3_facts (V1 : World) (Jb : Nat) (at_ : Int) (s : ByteArray) : (boxes3 V1 Jb at_ s).cell? ⟨V1.heap.size, 0, none⟩ = some (.pointer (some ⟨Jb, 0, none⟩)) ∧ (boxes3 V1 Jb at_ s).cell? ⟨V1.heap.size + 1, 0, none⟩ = some (.int .i64 at_) ∧ (boxes3 V1 Jb at_ s).cell? ⟨V1.heap.size + 2, 0, none⟩ = some (.string s) ∧
    Below V1.heap.size V1 (boxes3 V1 Jb at_ s) ∧ (boxes3 V1 Jb at_ s).heap.size = V1.heap.size + 3 :=
  ⟨(((Blk.new V1 _ 28).alloc _).alloc _).cell 0, ((Blk.newAt (V1.alloc _) #[.int .i64 at_] 3 (n := V1.heap.size + 1) (by simp)).alloc _).cell 0, (Blk.newAt ((V1.alloc _).alloc _) #[.string s] 9 (n := V1.heap.size + 2) (by simp)).cell 0,
   (((Below.refl _ _).alloc (Nat.le_refl _) _).alloc (by simp) _).alloc (by simp; omega) _, by simp⟩
theorem open_first {W V1 V2 : World} {B n Jb e k : Nat} {D : DiskD} {F : Nat → Prop} {J : JouD} (h : OwnF W B n D F) (hF : ∀ k, W.heap.size ≤ k → F k) (hp : D.pend.length ≤ 90000) (hb : Below W.heap.size W V1) (hJb : W.heap.size ≤ Jb) (hJ : JouAt V1 W.heap.size Jb B J)
    (hV2 : V2 = boxes3 V1 Jb (e : Int) (zeroS k)) :
    V2.cell? ⟨Jb, 2, none⟩ = some (.int .i64 (tapeN J.L : Int)) ∧ (V2.alloc (.cells #[fvW V1.heap.size, fvS B] 85)).cell? ⟨Jb, 2, none⟩ = some (.int .i64 (tapeN J.L : Int)) ∧
    Calls Tryz.prog 40 #[.slice (some ⟨V2.heap.size, 0, none⟩) 2 2] (V2.alloc (.cells #[fvW V1.heap.size, fvS B] 85)) fun e' w' =>
      e' = .returned (.int .i64 (seqD [wrO (e : Int) (zeroS k), syO] D).1) ∧ OwnF w' B n (seqD [wrO (e : Int) (zeroS k), syO] D).2 F ∧ Frm F W w' ∧ JouAt w' W.heap.size Jb B J ∧ w'.cell? ⟨Jb, 2, none⟩ = some (.int .i64 (tapeN J.L : Int)) := by
  obtain ⟨p1, p2, p3, p4, p5⟩ := boxes3_facts V1 Jb (e : Int) (zeroS k)
  rw [← hV2] at p1 p2 p3 p4 p5
  clear hV2
  have hJlt : Jb < V1.heap.size := by obtain ⟨vr, hbk, -⟩ := hJ.ex; exact hbk.lt
  have hVs := hb.size
  have hJc : ∀ V, Below V1.heap.size V1 V → V.cell? ⟨Jb, 2, none⟩ = some (.int .i64 (tapeN J.L : Int)) ∧ V.cell? ⟨Jb, 3, none⟩ = some (.pointer (some ⟨B, 0, none⟩)) := fun V hV => by
    obtain ⟨vr, hbk, -⟩ := (hJ.below hV).ex
    exact ⟨hbk.cell 2, hbk.cell 3⟩
  have hb3 : Below V2.heap.size V2 (V2.alloc (.cells #[fvW V1.heap.size, fvS B] 85)) := (Below.refl _ _).alloc (Nat.le_refl _) _
  have hg : Blk (V2.alloc (.cells #[fvW V1.heap.size, fvS B] 85)) V2.heap.size #[fvW V1.heap.size, fvS B] 85 := Blk.new _ _ _
  have hs3 : (V2.alloc (.cells #[fvW V1.heap.size, fvS B] 85)).heap.size = V1.heap.size + 4 := by simp; omega
  have hb13 := p4.trans (hb3.mono p4.size)
  have hbW := hb.trans (hb13.mono hb.size)
  refine ⟨(hJc V2 p4).1, (hJc _ hb13).1, ?_⟩
  generalize V2.alloc (.cells #[fvW V1.heap.size, fvS B] 85) = V3 at hb3 hg hs3 hb13 hbW
  have hO := own_first h hbW
  have hin : ∀ q, W.heap.size ≤ q → q < V3.heap.size → ¬ ((F q ∧ q < W.heap.size) ∨ V3.heap.size ≤ q) := fun q h1 h2 h3 => by
    rcases h3 with ⟨-, h3⟩ | h3 <;> omega
  have hcell : ∀ {q : Nat} {v : Value}, q < V2.heap.size → V2.cell? ⟨q, 0, none⟩ = some v → V3.cell? ⟨q, 0, none⟩ = some v := fun {q v} hq hc => (hb3.cell (p := ⟨q, 0, none⟩) hq).trans hc
  have hw := write_acts (w0 := V3) (B := B) (n := n) (F := fun k => (F k ∧ k < W.heap.size) ∨ V3.heap.size ≤ k) (q1 := V1.heap.size) (q2 := V1.heap.size + 1) (q3 := V1.heap.size + 2) (Jb := Jb) (at_ := (e : Int)) (s := zeroS k) (fun k hk => .inr hk)
    (hcell (by omega) p1) (hcell (by omega) p2) (hcell (by omega) p3) (hJc V3 hb13).2 (hin _ (by omega) (by omega)) (hin _ (by omega) (by omega)) (hin _ (by omega) (by omega)) (hin _ hJb (by omega))
  have hf := first40 (w0 := V3) [(fvW V1.heap.size, wrO (e : Int) (zeroS k)), (fvS B, syO)] V2.heap.size hg (hin _ (by omega) (by have := hg.lt; omega)) (fun p hp => by
    simp only [List.mem_cons, List.mem_nil_iff, or_false] at hp
    rcases hp with rfl | rfl
    · exact hw
    · exact sync_acts _ _ _ _) (by simp) (by simp) hO (by omega)
  refine hf.mono ?_
  rintro e' w' ⟨h1, h2, h3⟩
  have hJ3 := (hJ.below hb13).frm h3 (hin _ hJb (by omega)) (fun q cs hq hb => hin _ hb hq.lt)
  refine ⟨h1, h2.mono (fun q hq hc => ?_), (Frm.of_below hbW).trans h3 (fun q hq hc => ?_), hJ3, ?_⟩
  · rcases hc with hc | hc
    · exact hc.1
    · exact hF q (by omega)
  · rcases hc with hc | hc
    · exact hc.1
    · omega
  · obtain ⟨vr, hbk, -⟩ := hJ3.ex
    exact hbk.cell 2
/-- What Open returns. -/
def Opened (w' : World) (base B n : Nat) (D : DiskD) (e : Ending) : Prop :=
  (openE n D ≠ 0 ∧ e = .returned (.tuple #[.pointer none, .int .i64 (openE n D)])) ∨ (openE n D = 0 ∧ ∃ Jb, e = .returned (.tuple #[.pointer (some ⟨Jb, 0, none⟩), .int .i64 0]) ∧ base ≤ Jb ∧ JouAt w' base Jb B ⟨openL n D, false⟩)
attribute [local irreducible] wpStill
set_option maxRecDepth 100000 in
set_option maxHeartbeats 4000000 in
theorem open25 {W : World} {B n : Nat} {D : DiskD} {F : Nat → Prop} (h : OwnF W B n D F) (hF : ∀ k, W.heap.size ≤ k → F k) (hp : D.pend.length ≤ 90000) (hn : n ≤ 100000) (hT : RoundT W) (hE : ErrD W) :
    Calls Tryz.prog 25 #[.pointer (some ⟨B, 0, none⟩)] W fun e w' => Opened w' W.heap.size B n D e ∧ OwnF w' B n (openD n D) F ∧ Frm F W w' := by
  have HH := Lib.hid h
  have HTE := Lib.hid (And.intro hT hE)
  have hI := h.inv
  have hsz := read_size hI
  have hsize := size_f h
  have hread := read_f h 0 (n : Int)
  clear h hT hE
  by_cases hr : readE D 0 n = 0
  · have hsz := hsz hr
    have q0 : (readE D 0 n == 0) = true := beq_iff_eq.2 hr
    have q0n : (readE D 0 n != 0) = false := by rw [bne, q0]; rfl
    have hop := open54 B (readS D 0 n) W (by rw [hsz]; exact hn) HTE.out.1 HTE.out.2
    cases hl : loadS (readS D 0 n) with
    | none =>
      obtain ⟨o1, o2⟩ := openE_none hr hl
      unfold Opened
      rw [o1, o2]
      rw [hl] at hop
      have HOP := Lib.hid hop
      clear hop hl hr o1 o2
      go_enter Tryz.func25, Tryz.ntmps25
      go_wp2_with (first
        | (go_at_call 51; refine hsize.mono ?_; rintro e w9 ⟨rfl, rfl⟩)
        | (go_at_call 52; refine hread.mono ?_; rintro e w9 ⟨rfl, rfl⟩)
        | (go_at_call 54; refine HOP.out.mono ?_; rintro e w9 ⟨hb, ⟨-, rfl⟩ | ⟨L, hcon, -⟩⟩; all_goals first | cases hcon | skip))
      go_ret2
      exact ⟨.inl ⟨by decide, rfl⟩, HH.out.below hb, Frm.of_below hb⟩
    | some x =>
      obtain ⟨L, e⟩ := x
      have hfacts := load_facts hl
      obtain ⟨o1, o2, o3⟩ := openE_some hr hl
      obtain ⟨f1, f2, -, -, -⟩ := hfacts
      rw [hsz] at f1
      subst f2
      rw [hl] at hop
      unfold Opened
      rw [o1, o2, o3]
      have hstl : ¬ 9223372036854775807 < (readS D 0 n).size := by omega
      have hex := allZ_trim (s := readS D 0 n) (e := tapeN L) (by omega)
      rw [hsz] at hex
      have HOP := Lib.hid hop
      obtain ⟨rs, hrs⟩ : ∃ rs, readS D 0 n = rs := ⟨_, rfl⟩
      rw [hrs] at hsz hex HOP hread ⊢
      have e0 : (0 : Int) ≤ (tapeN L : Int) ∧ (tapeN L : Int) ≤ (n : Int) := by omega
      have e1 : tapeN L ≤ n := f1
      have hTr := fun V => Tryz.strings_Trim_one (rs.extract (tapeN L) n) 0 (by decide) V (by rw [ByteArray.size_extract]; omega)
      have HTR := Lib.hid hTr
      clear hop hl hr o1 o2 o3 hrs hTr hstl
      cases hz : allZ rs (tapeN L) with
      | true =>
        rw [hex.1 hz] at HTR
        simp only [if_true]
        clear hex hz
        go_enter Tryz.func25, Tryz.ntmps25
        go_wp2_with (first
          | (go_at_call 51; refine hsize.mono ?_; rintro e w9 ⟨rfl, rfl⟩)
          | (go_at_call 52; refine hread.mono ?_; rintro e w9 ⟨rfl, rfl⟩)
          | (go_at_call 54; refine HOP.out.mono ?_; rintro e w9 ⟨hb, ⟨hcon, -⟩ | ⟨L', hL', Jb, rfl, hJb, hJ⟩⟩; all_goals first | cases hcon | (cases hL'; have hJ2 := hJ; obtain ⟨vr, hbk, -⟩ := hJ2.ex; have c2 := hbk.cell 2; simp only [List.getElem?_toArray, List.getElem?_cons_zero, List.getElem?_cons_succ] at c2; clear hJ2 hbk))
          | (go_at_call 55; refine (HTR.out _).mono ?_; rintro e w8 ⟨rfl, hw8⟩))
        have hb8 : Below w9.heap.size w9 w8 := by
          rcases hw8 with rfl | rfl
          · exact Below.refl _ _
          · exact (Below.refl _ _).drew
        have hbb := hb.trans (hb8.mono hb.size)
        go_ret2
        exact ⟨.inr ⟨trivial, Jb, rfl, hJb, hJ.below hb8⟩, HH.out.below hbb, Frm.of_below hbb⟩
      | false =>
        have hne : ¬ Lib.trimB (rs.extract (tapeN L) n).data.toList 0 = [] := fun hc => by
          have := hex.2 hc
          rw [hz] at this; cases this
        obtain ⟨t, ht⟩ : ∃ t : ByteArray, (⟨(Lib.trimB (rs.extract (tapeN L) n).data.toList 0).toArray⟩ : ByteArray) = t := ⟨_, rfl⟩
        have hte : t ≠ ⟨#[]⟩ := fun h2 => hne (by
          rw [← ht] at h2
          have h3 := congrArg (fun b : ByteArray => b.data.toList) h2
          simpa using h3)
        have htn : t.toList.isEmpty = false := by
          rw [List.isEmpty_eq_false_iff]
          intro hc
          exact hte (W01.str_toList (hc.trans (Lib.toList_data (⟨#[]⟩ : ByteArray)).symm))
        obtain ⟨k, hk⟩ : ∃ k, n - tapeN L = k := ⟨_, rfl⟩
        have hT2 : trim2 n (tapeN L) = [wrO (tapeN L : Int) (zeroS k), syO] := by unfold trim2; rw [hk]
        rw [hT2]
        have HKK := Lib.hid hk
        rw [ht] at HTR
        simp only [Bool.false_eq_true, if_false]
        clear hex hz hne ht hte hT2 hk
        go_enter Tryz.func25, Tryz.ntmps25
        go_upto_region 10 with (first
          | (go_at_call 51; refine hsize.mono ?_; rintro e w9 ⟨rfl, rfl⟩)
          | (go_at_call 52; refine hread.mono ?_; rintro e w9 ⟨rfl, rfl⟩)
          | (go_at_call 54; refine HOP.out.mono ?_; rintro e w9 ⟨hb, ⟨hcon, -⟩ | ⟨L', hL', Jb, rfl, hJb, hJ⟩⟩; all_goals first | cases hcon | (cases hL'; have hJ2 := hJ; obtain ⟨vr, hbk, -⟩ := hJ2.ex; have c2 := hbk.cell 2; simp only [List.getElem?_toArray, List.getElem?_cons_zero, List.getElem?_cons_succ] at c2; clear hJ2 hbk))
          | (go_at_call 55; refine (HTR.out _).mono ?_; rintro e w8 ⟨rfl, hw8⟩))
        have hb8 : Below w9.heap.size w9 w8 := by
          rcases hw8 with rfl | rfl
          · exact Below.refl _ _
          · exact (Below.refl _ _).drew
        have hJ8 := hJ.below hb8
        have hbb := hb.trans (hb8.mono hb.size)
        clear hJ hb hb8 hw8 c2 vr HOP hsize hread HTR htn
        have hk := HKK.out
        have wsub : IntKind.i64.wrap ((n : Int) - (tapeN L : Int)) = (k : Int) := by rw [wrapS _ (by omega) (by omega)]; omega
        have hmk : ∀ V : World, (Instr.makeSlice 39 (.int .i64 (k : Int)) (.int .i64 (k : Int))).run Tryz.prog V = .ok (.slice (some ⟨V.heap.size, 0, none⟩) k k) (V.alloc (.cells (bcs (List.replicate k 0)).toArray 5)) := fun V => mk40 k (by omega) V
        generalize hzc : (bcs (List.replicate k 0)).toArray = zc at hmk
        have hb1 : Below w8.heap.size w8 (w8.alloc (.cells zc 5)).drew := ((Below.refl _ _).alloc (Nat.le_refl _) _).drew
        have hcv : (convert 39 9 (.slice (some ⟨w8.heap.size, 0, none⟩) k k)).run Tryz.prog (w8.alloc (.cells zc 5)).drew = .ok (.string (zeroS k)) (w8.alloc (.cells zc 5)).drew := by
          have : strOf (List.replicate k 0) = zeroS k := zero_made k
          rw [← this, ← hzc]
          exact conv_all (w := (w8.alloc (.cells (bcs (List.replicate k 0)).toArray 5)).drew) (n := k) (Blk.new w8 _ 5) (by rw [List.length_replicate])
        have hJV := hJ8.below hb1
        have hbV := hbb.trans (hb1.mono hbb.size)
        have c2 : w8.drew.cell? ⟨Jb, 2, none⟩ = some (.int .i64 (tapeN L : Int)) := by obtain ⟨vr, hbk, -⟩ := hJ8.ex; exact hbk.cell 2
        have HC1 : Hid ((w8.alloc (.cells zc 5)).drew.cell? ⟨Jb, 2, none⟩ = some (.int .i64 (tapeN L : Int))) := by obtain ⟨vr, hbk, -⟩ := hJV.ex; exact hbk.cell 2
        obtain ⟨V1, hV1⟩ : ∃ V1, (w8.alloc (.cells zc 5)).drew = V1 := ⟨_, rfl⟩
        have HV1 := Lib.hid hV1
        rw [hV1] at hJV hbV
        have hw2 := fun V2 (h2 : V2 = boxes3 V1 Jb (tapeN L : Int) (zeroS k)) => open_first (e := tapeN L) (k := k) HH.out hF hp hbV hJb hJV h2
        have HW2 := Lib.hid hw2
        clear hw2 hV1 hzc hb1 hJ8 hbb hk hJV hbV HKK
        refine wp_region_noPanic ?_
        refine wp_region_held_drew (S := (fun w' => w'.cell? ⟨Jb, 2, none⟩ = some (.int .i64 (tapeN L : Int)))) (by kernel_rfl) c2 (fun hHeld => ?_)
        refine wpAnyH_take (i := 0) (oi := { dst := some 37, op := Op.move (Operand.tmp 6), type := 28, pos := "journal.go:104", after := #[], guard := none }) (v := ?_) rfl (by kernel_rfl) (by kernel_rfl) (by kernel_rfl) (fun _ _ _ h => h) (Or.inl ⟨by kernel_rfl, ?_⟩) (by assumption) ?_
        rotate_left
        · intro w hSw
          (try dsimp only at hSw)
          go_simp
          all_goals (with_reducible rfl)
        (try simp only [Act.put, List.setIfInBounds_toArray, List.set_cons_zero, List.set_cons_succ])
        refine wpAnyH_take (i := 1) (oi := { dst := some 38, op := Op.move (Operand.tmp 6), type := 28, pos := "journal.go:104", after := #[], guard := none }) (v := ?_) rfl (by kernel_rfl) (by kernel_rfl) (by kernel_rfl) (fun _ _ _ h => h) (Or.inl ⟨by kernel_rfl, ?_⟩) (by assumption) ?_
        rotate_left
        · intro w hSw
          (try dsimp only at hSw)
          go_simp
          all_goals (with_reducible rfl)
        (try simp only [Act.put, List.setIfInBounds_toArray, List.set_cons_zero, List.set_cons_succ])
        refine wpAnyH_take (i := 2) (oi := { dst := some 39, op := Op.nilCheck (Operand.tmp 38), type := 0, pos := "journal.go:104", after := #[{ on := 1, ground := Ground.data }], guard := none }) (v := ?_) rfl (by kernel_rfl) (by kernel_rfl) (by kernel_rfl) (fun _ _ _ h => h) (Or.inl ⟨by kernel_rfl, ?_⟩) (by assumption) ?_
        rotate_left
        · intro w hSw
          (try dsimp only at hSw)
          go_simp
          all_goals (with_reducible rfl)
        (try simp only [Act.put, List.setIfInBounds_toArray, List.set_cons_zero, List.set_cons_succ])
        refine wpAnyH_take (i := 3) (oi := { dst := some 40, op := Op.fieldAddr 74 (Operand.tmp 39) 0, type := 0, pos := "journal.go:104", after := #[{ on := 2, ground := Ground.data }], guard := none }) (v := ?_) rfl (by kernel_rfl) (by kernel_rfl) (by kernel_rfl) (fun _ _ _ h => h) (Or.inl ⟨by kernel_rfl, ?_⟩) (by assumption) ?_
        rotate_left
        · intro w hSw
          (try dsimp only at hSw)
          go_simp
          all_goals (with_reducible rfl)
        (try simp only [Act.put, List.setIfInBounds_toArray, List.set_cons_zero, List.set_cons_succ])
        refine wpAnyH_take (i := 4) (oi := { dst := some 41, op := Op.fieldAddr 72 (Operand.tmp 40) 2, type := 0, pos := "journal.go:104", after := #[{ on := 3, ground := Ground.data }], guard := none }) (v := ?_) rfl (by kernel_rfl) (by kernel_rfl) (by kernel_rfl) (fun _ _ _ h => h) (Or.inl ⟨by kernel_rfl, ?_⟩) (by assumption) ?_
        rotate_left
        · intro w hSw
          (try dsimp only at hSw)
          go_simp
          all_goals (with_reducible rfl)
        (try simp only [Act.put, List.setIfInBounds_toArray, List.set_cons_zero, List.set_cons_succ])
        refine wpAnyH_take (i := 5) (oi := { dst := some 42, op := Op.load 3 (Operand.tmp 41), type := 3, pos := "journal.go:104", after := #[{ on := 4, ground := Ground.data }], guard := none }) (v := ?_) rfl (by kernel_rfl) (by kernel_rfl) (by kernel_rfl) (fun _ _ _ h => h) (Or.inl ⟨by kernel_rfl, ?_⟩) (by assumption) ?_
        rotate_left
        · intro w hSw
          (try dsimp only at hSw)
          go_simp
          all_goals (with_reducible rfl)
        (try simp only [Act.put, List.setIfInBounds_toArray, List.set_cons_zero, List.set_cons_succ])
        refine wpAnyH_take (i := 6) (oi := { dst := some 43, op := Op.move (Operand.tmp 4), type := 9, pos := "journal.go:104", after := #[], guard := none }) (v := ?_) rfl (by kernel_rfl) (by kernel_rfl) (by kernel_rfl) (fun _ _ _ h => h) (Or.inl ⟨by kernel_rfl, ?_⟩) (by assumption) ?_
        rotate_left
        · intro w hSw
          (try dsimp only at hSw)
          go_simp
          all_goals (with_reducible rfl)
        (try simp only [Act.put, List.setIfInBounds_toArray, List.set_cons_zero, List.set_cons_succ])
        refine wpAnyH_take (i := 7) (oi := { dst := some 44, op := Op.call { callee := Callee.builtin Builtin.len, args := #[Operand.tmp 43], argTypes := #[9] }, type := 3, pos := "journal.go:104", after := #[{ on := 6, ground := Ground.data }], guard := none }) (v := ?_) rfl (by kernel_rfl) (by kernel_rfl) (by kernel_rfl) (fun _ _ _ h => h) (Or.inl ⟨by kernel_rfl, ?_⟩) (by assumption) ?_
        rotate_left
        · intro w hSw
          (try dsimp only at hSw)
          go_simp
          all_goals (with_reducible rfl)
        (try simp only [Act.put, List.setIfInBounds_toArray, List.set_cons_zero, List.set_cons_succ])
        refine wpAnyH_take (i := 8) (oi := { dst := some 45, op := Op.move (Operand.tmp 6), type := 28, pos := "journal.go:104", after := #[], guard := none }) (v := ?_) rfl (by kernel_rfl) (by kernel_rfl) (by kernel_rfl) (fun _ _ _ h => h) (Or.inl ⟨by kernel_rfl, ?_⟩) (by assumption) ?_
        rotate_left
        · intro w hSw
          (try dsimp only at hSw)
          go_simp
          all_goals (with_reducible rfl)
        (try simp only [Act.put, List.setIfInBounds_toArray, List.set_cons_zero, List.set_cons_succ])
        refine wpAnyH_take (i := 9) (oi := { dst := some 46, op := Op.nilCheck (Operand.tmp 45), type := 0, pos := "journal.go:104", after := #[{ on := 8, ground := Ground.data }], guard := none }) (v := ?_) rfl (by kernel_rfl) (by kernel_rfl) (by kernel_rfl) (fun _ _ _ h => h) (Or.inl ⟨by kernel_rfl, ?_⟩) (by assumption) ?_
        rotate_left
        · intro w hSw
          (try dsimp only at hSw)
          go_simp
          all_goals (with_reducible rfl)
        (try simp only [Act.put, List.setIfInBounds_toArray, List.set_cons_zero, List.set_cons_succ])
        refine wpAnyH_take (i := 10) (oi := { dst := some 47, op := Op.fieldAddr 74 (Operand.tmp 46) 0, type := 0, pos := "journal.go:104", after := #[{ on := 9, ground := Ground.data }], guard := none }) (v := ?_) rfl (by kernel_rfl) (by kernel_rfl) (by kernel_rfl) (fun _ _ _ h => h) (Or.inl ⟨by kernel_rfl, ?_⟩) (by assumption) ?_
        rotate_left
        · intro w hSw
          (try dsimp only at hSw)
          go_simp
          all_goals (with_reducible rfl)
        (try simp only [Act.put, List.setIfInBounds_toArray, List.set_cons_zero, List.set_cons_succ])
        refine wpAnyH_take (i := 11) (oi := { dst := some 48, op := Op.fieldAddr 72 (Operand.tmp 47) 2, type := 0, pos := "journal.go:104", after := #[{ on := 10, ground := Ground.data }], guard := none }) (v := ?_) rfl (by kernel_rfl) (by kernel_rfl) (by kernel_rfl) (fun _ _ _ h => h) (Or.inl ⟨by kernel_rfl, ?_⟩) (by assumption) ?_
        rotate_left
        · intro w hSw
          (try dsimp only at hSw)
          go_simp
          all_goals (with_reducible rfl)
        (try simp only [Act.put, List.setIfInBounds_toArray, List.set_cons_zero, List.set_cons_succ])
        refine wpAnyH_take (i := 12) (oi := { dst := some 49, op := Op.load 3 (Operand.tmp 48), type := 3, pos := "journal.go:104", after := #[{ on := 11, ground := Ground.data }], guard := none }) (v := ?_) rfl (by kernel_rfl) (by kernel_rfl) (by kernel_rfl) (fun _ _ _ h => h) (Or.inl ⟨by kernel_rfl, ?_⟩) (by assumption) ?_
        rotate_left
        · intro w hSw
          (try dsimp only at hSw)
          go_simp
          all_goals (with_reducible rfl)
        (try simp only [Act.put, List.setIfInBounds_toArray, List.set_cons_zero, List.set_cons_succ])
        refine wpAnyH_take (i := 13) (oi := { dst := some 50, op := Op.binOp BinOp.sub 3 (Operand.tmp 44) (Operand.tmp 49) 3, type := 3, pos := "journal.go:104", after := #[{ on := 7, ground := Ground.data }, { on := 12, ground := Ground.data }], guard := none }) (v := ?_) rfl (by kernel_rfl) (by kernel_rfl) (by kernel_rfl) (fun _ _ _ h => h) (Or.inl ⟨by kernel_rfl, ?_⟩) (by assumption) ?_
        rotate_left
        · intro w hSw
          (try dsimp only at hSw)
          go_simp
          all_goals (with_reducible rfl)
        (try simp only [Act.put, List.setIfInBounds_toArray, List.set_cons_zero, List.set_cons_succ])
        refine wpAnyH_take (i := 17) (oi := { dst := some 54, op := Op.move (Operand.tmp 0), type := 27, pos := "journal.go:104", after := #[], guard := none }) (v := ?_) rfl (by kernel_rfl) (by kernel_rfl) (by kernel_rfl) (fun _ _ _ h => h) (Or.inl ⟨by kernel_rfl, ?_⟩) (by assumption) ?_
        rotate_left
        · intro w hSw
          (try dsimp only at hSw)
          go_simp
          all_goals (with_reducible rfl)
        (try simp only [Act.put, List.setIfInBounds_toArray, List.set_cons_zero, List.set_cons_succ])
        refine wpAnyH_take (i := 18) (oi := { dst := some 55, op := Op.makeFunc (Fn.func 42) #[Operand.tmp 54] #[], type := 85, pos := "journal.go:104", after := #[{ on := 17, ground := Ground.data }], guard := none }) (v := ?_) rfl (by kernel_rfl) (by kernel_rfl) (by kernel_rfl) (fun _ _ _ h => h) (Or.inl ⟨by kernel_rfl, ?_⟩) (by assumption) ?_
        rotate_left
        · intro w hSw
          (try dsimp only at hSw)
          go_simp
          all_goals (with_reducible rfl)
        (try simp only [Act.put, List.setIfInBounds_toArray, List.set_cons_zero, List.set_cons_succ])
        refine wpAnyH_one1 (i := 14) (o := { dst := some 51, op := Op.makeSlice 39 (Operand.tmp 50) (Operand.tmp 50), type := 39, pos := "journal.go:104", after := #[{ on := 13, ground := Ground.data }, { on := 13, ground := Ground.data }], guard := none }) (by kernel_rfl) rfl (fun K hK => ?_)
        go_simp
        refine hK.out _ _ ?_ (fun hHeld2 => ?_)
        · exact HC1.out
        clear hHeld
        have hHeld := hHeld2
        clear hHeld2
        clear hK K
        (try simp only [Act.put, List.setIfInBounds_toArray, List.set_cons_zero, List.set_cons_succ])
        refine wpAnyH_one1 (i := 15) (o := { dst := some 52, op := Op.convert 39 9 (Operand.tmp 51), type := 9, pos := "journal.go:104", after := #[{ on := 14, ground := Ground.data }], guard := none }) (by kernel_rfl) rfl (fun K hK => ?_)
        go_simp
        refine hK.out _ _ ?_ (fun hHeld2 => ?_)
        · exact HC1.out
        clear hHeld
        have hHeld := hHeld2
        clear hHeld2
        clear hK K
        (try simp only [Act.put, List.setIfInBounds_toArray, List.set_cons_zero, List.set_cons_succ])
        refine wpAnyH_one1 (i := 16) (o := { dst := some 53, op := Op.call { callee := Callee.value (Operand.func 41), args := #[Operand.tmp 37, Operand.tmp 42, Operand.tmp 52], argTypes := #[28, 3, 9] }, type := 85, pos := "journal.go:104", after := #[{ on := 0, ground := Ground.data }, { on := 5, ground := Ground.data }, { on := 15, ground := Ground.data }], guard := none }) (by kernel_rfl) rfl (fun K hK => ?_)
        go_simp
        go_at_call 41
        refine (writing41 Jb (tapeN L : Int) (zeroS k) _).mono ?_
        rintro e V2 ⟨rfl, hV2⟩
        rw [HV1.out] at hV2 ⊢
        have HX2 := HW2.out V2 hV2.symm
        refine hK.out _ _ ?_ (fun hHeld2 => ?_)
        · exact HX2.1
        clear hHeld
        have hHeld := hHeld2
        clear hHeld2
        clear hK K
        (try simp only [Act.put, List.setIfInBounds_toArray, List.set_cons_zero, List.set_cons_succ])
        refine wpAnyH_one1 (i := 19) (o := { dst := some 56, op := Op.buildSlice 127 2 #[(0, Operand.tmp 53), (1, Operand.tmp 55)], type := 127, pos := "journal.go:104", after := #[{ on := 16, ground := Ground.data }, { on := 18, ground := Ground.data }], guard := none }) (by kernel_rfl) rfl (fun K hK => ?_)
        go_simp
        refine hK.out _ _ ?_ (fun hHeld2 => ?_)
        · exact HX2.2.1
        clear hHeld
        have hHeld := hHeld2
        clear hHeld2
        clear hK K
        (try simp only [Act.put, List.setIfInBounds_toArray, List.set_cons_zero, List.set_cons_succ])
        refine wpAnyH_one1 (i := 20) (o := { dst := some 57, op := Op.call { callee := Callee.value (Operand.func 40), args := #[Operand.tmp 56], argTypes := #[127] }, type := 33, pos := "journal.go:104", after := #[{ on := 19, ground := Ground.data }, { on := 16, ground := Ground.chain }], guard := none }) (by kernel_rfl) rfl (fun K hK => ?_)
        go_simp
        go_at_call 40
        refine HX2.2.2.mono ?_
        rintro e w9 ⟨rfl, h9, f9, j9, c9⟩
        refine hK.out _ _ ?_ (fun hHeld2 => ?_)
        · exact c9
        clear hHeld
        have hHeld := hHeld2
        clear hHeld2
        clear hK K
        (try simp only [Act.put, List.setIfInBounds_toArray, List.set_cons_zero, List.set_cons_succ])
        refine wpAnyH_take (i := 21) (oi := { dst := some 5, op := Op.assign (Operand.tmp 57), type := 33, pos := "journal.go:104", after := #[{ on := 20, ground := Ground.data }, { on := 20, ground := Ground.chain }, { on := 0, ground := Ground.phase }, { on := 1, ground := Ground.phase }, { on := 2, ground := Ground.phase }, { on := 3, ground := Ground.phase }, { on := 4, ground := Ground.phase }, { on := 5, ground := Ground.phase }, { on := 6, ground := Ground.phase }, { on := 7, ground := Ground.phase }, { on := 8, ground := Ground.phase }, { on := 9, ground := Ground.phase }, { on := 10, ground := Ground.phase }, { on := 11, ground := Ground.phase }, { on := 12, ground := Ground.phase }, { on := 13, ground := Ground.phase }, { on := 14, ground := Ground.phase }, { on := 15, ground := Ground.phase }, { on := 16, ground := Ground.phase }, { on := 17, ground := Ground.phase }, { on := 18, ground := Ground.phase }, { on := 19, ground := Ground.phase }, { on := 20, ground := Ground.phase }], guard := none }) (v := ?_) rfl (by kernel_rfl) (by kernel_rfl) (by kernel_rfl) (fun _ _ _ h => h) (Or.inl ⟨by kernel_rfl, ?_⟩) (by assumption) ?_
        rotate_left
        · intro w hSw
          (try dsimp only at hSw)
          go_simp
          all_goals (with_reducible rfl)
        (try simp only [Act.put, List.setIfInBounds_toArray, List.set_cons_zero, List.set_cons_succ])
        refine wpAnyH_done (by kernel_rfl) ?_ _
        refine NoPanic.normal ?_
        clear hHeld
        clear HX2 hV2 HW2 HV1 HC1 hcv hmk c9 c2
        obtain ⟨z, hz⟩ : ∃ z, (seqD [wrO (tapeN L : Int) (zeroS k), syO] D).1 = z := ⟨_, rfl⟩
        rw [hz]
        have HX := Lib.hid (And.intro h9 (And.intro f9 j9))
        have HZZ := Lib.hid hz
        clear h9 f9 j9 hz
        by_cases hz0 : z = 0
        · have q2 : (z == 0) = true := beq_iff_eq.2 hz0
          have q3 : (z != 0) = false := by rw [bne, q2]; rfl
          have HZ := Lib.hid hz0
          clear hz0
          go_wp2
          go_ret2
          exact ⟨.inr ⟨HZZ.out.trans HZ.out, Jb, rfl, hJb, HX.out.2.2⟩, HX.out.1, HX.out.2.1⟩
        · have q2 : (z == 0) = false := beq_eq_false_iff_ne.2 hz0
          have q3 : (z != 0) = true := by rw [bne, q2]; rfl
          have HZ := Lib.hid hz0
          clear hz0
          go_wp2
          go_ret2
          exact ⟨.inl ⟨fun h => HZ.out (HZZ.out.symm.trans h), by rw [HZZ.out]; rfl⟩, HX.out.1, HX.out.2.1⟩
  · have q0 : (readE D 0 n == 0) = false := beq_eq_false_iff_ne.2 hr
    have q0n : (readE D 0 n != 0) = true := by rw [bne, q0]; rfl
    obtain ⟨o1, o2⟩ := openE_of hr
    unfold Opened
    rw [o1, o2]
    have HR := Lib.hid hr
    clear hr o1 o2 hsz
    go_enter Tryz.func25, Tryz.ntmps25
    go_wp2_with (first
      | (go_at_call 51; refine hsize.mono ?_; rintro e w9 ⟨rfl, rfl⟩)
      | (go_at_call 52; refine hread.mono ?_; rintro e w9 ⟨rfl, rfl⟩))
    go_ret2
    exact ⟨.inl ⟨HR.out, rfl⟩, HH.out, Frm.refl _ _⟩
end Go.Proofs.YtnckpnbecmmcpaaGreatDoor
