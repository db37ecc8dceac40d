/- package rational: Print, Parse. -/
import Derived.Test.YtjnpenljgfdaiaaGreatDoorQ6
namespace Go.Proofs.YtjnpenljgfdaiaaGreatDoor
open Go.RowKit Go.Shelf Lib

/-- What package rational asks of the library's variables. -/
structure EnvR (w : World) : Prop where
  env : EnvW w
  len : ∃ m, w.cell? ⟨2, 0, none⟩ = some (.int .i64 m)
theorem EnvR.below {w w' : World} (h : EnvR w) (hb : Below w.heap.size w w') : EnvR w' :=
  ⟨h.env.below hb, h.len.elim fun m hm => ⟨m, cell_keep hb hm⟩⟩
def joinR (n d : ByteArray) : ByteArray := ⟨(Lib.join [n.data.toList, d.data.toList] [47]).toArray⟩
def printR (n d : ByteArray) : ByteArray := if validR n d = true then (if d.data.toList = [49] then n else joinR n d) else ⟨#[]⟩
theorem join_size (n d : ByteArray) : (joinR n d).size = n.size + 1 + d.size := by
  have : (joinR n d).size = (Lib.join [n.data.toList, d.data.toList] [47]).length := by rw [Lib.size_eq]; rfl
  rw [this, Lib.join_cons]
  simp only [Lib.joinTail, List.map_cons, List.map_nil, List.flatten_cons, List.flatten_nil, List.append_nil, List.length_append, List.length_cons, List.length_nil, Lib.size_eq]
  omega
theorem str_eq49 {t : ByteArray} (h : t.data.toList = [49]) : (t.toList == [49]) = true := by rw [← ByteArray.toList_eq] at h; rw [h]; rfl
theorem str_ne49 {t : ByteArray} (h : t.data.toList ≠ [49]) : (t.toList == [49]) = false := by rw [← ByteArray.toList_eq] at h; exact beq_eq_false_iff_ne.2 h
theorem str_eqE {t : ByteArray} (h : t.data.toList = []) : (t.toList == []) = true := by rw [← ByteArray.toList_eq] at h; rw [h]; rfl
theorem str_neE {t : ByteArray} (h : t.data.toList ≠ []) : (t.toList == []) = false := by rw [← ByteArray.toList_eq] at h; exact beq_eq_false_iff_ne.2 h
theorem str_neq {s t : ByteArray} (h : s ≠ t) : (s.toList == t.toList) = false := beq_eq_false_iff_ne.2 fun k => h (Go.WideShapes.bytes_inj (by rw [← ByteArray.toList_eq, ← ByteArray.toList_eq, k]))
set_option maxRecDepth 100000 in
set_option maxHeartbeats 4000000 in
theorem print04 (n d : ByteArray) (w : World) (s1 : n.size ≤ 1000000) (s2 : d.size ≤ 1000000) (he : EnvW w) :
    Calls Tryz.prog 57 #[ratV n d] w fun r w' => r = .returned (.string (printR n d)) ∧ Below w.heap.size w w' := by
  obtain ⟨W, hW⟩ : ∃ W, w.alloc (.cells #[.string n, .string d] 26) = W := ⟨_, rfl⟩
  have k1 : BlkT W w.heap.size #[.string n, .string d] 26 := hW ▸ BlkT.newAt w _ _ rfl
  have hB : Below w.heap.size w W := hW ▸ (Below.refl _ _).alloc (Nat.le_refl _) _
  have VA := Lib.hid (valid04 n d W (by omega) (by omega) (he.below hB))
  have x0 := k1.cell 0
  have x1 := k1.cell 1
  simp only [List.getElem?_toArray, List.getElem?_cons_succ, List.getElem?_cons_zero] at x0 x1
  have K1 := Lib.hid k1
  clear k1 he
  cases hv : validR n d with
  | false =>
    have e : printR n d = ⟨#[]⟩ := by unfold printR; rw [hv]; rfl
    rw [e]
    rw [hv] at VA
    clear hv e
    go_enter Tryz.func57, Tryz.ntmps57
    go_wp2_with (simp only [hW])
    refine VA.out.mono ?_
    rintro r V ⟨rfl, hb⟩
    have hB1 := hB.trans (hb.mono hB.size)
    go_wp2
    go_ret
    exact ⟨rfl, hB1⟩
  | true =>
    rw [hv] at VA
    by_cases h1 : d.data.toList = [49]
    · have e : printR n d = n := by unfold printR; rw [if_pos hv, if_pos h1]
      have hst := str_eq49 h1
      rw [e]
      clear hv e h1
      go_enter Tryz.func57, Tryz.ntmps57
      go_wp2_with (simp only [hW])
      refine VA.out.mono ?_
      rintro r V ⟨rfl, hb⟩
      have hB1 := hB.trans (hb.mono hB.size)
      have y0 := cell_keep hb x0
      have y1 := cell_keep hb x1
      clear x0 x1
      go_wp2
      go_ret
      exact ⟨rfl, hB1⟩
    · have e : printR n d = joinR n d := by unfold printR; rw [if_pos hv, if_neg h1]
      have hst := str_ne49 h1
      have hjs := join_size n d
      have hjl : (Lib.join [n.data.toList, d.data.toList] [47]).length = (joinR n d).size := by rw [Lib.size_eq]; rfl
      have HJ := Lib.hid (fun (V : World) (bk : Nat) (hb : BlkT V bk #[.string n, .string d] 9) => Tryz.strings_Join bk 0 2 [n, d] ⟨#[47]⟩ V (by
        intro j x hj
        rw [Nat.zero_add, hb.cell]
        rcases j with _ | _ | j
        · obtain rfl : n = x := by simpa using hj
          rfl
        · obtain rfl : d = x := by simpa using hj
          rfl
        · simp at hj) hb.lt (by simp) (by simp) (by show (Lib.join [n.data.toList, d.data.toList] [47]).length ≤ _; omega))
      have HJ2 : Hid (∀ (V : World) (bk : Nat), BlkT V bk #[.string n, .string d] 9 → Calls Tryz.prog 105 #[.slice (some ⟨bk, 0, none⟩) 2 2, .string ⟨#[47]⟩] V fun e w' => e = .returned (.string (joinR n d)) ∧ Below V.heap.size V w') := Lib.hid (fun V bk hb => HJ.out V bk hb)
      rw [e]
      clear hv e h1 hjs hjl HJ
      generalize joinR n d = jn at *
      go_enter Tryz.func57, Tryz.ntmps57
      go_wp2_with (simp only [hW])
      refine VA.out.mono ?_
      rintro r V ⟨rfl, hb⟩
      have hB1 := hB.trans (hb.mono hB.size)
      have y0 := cell_keep hb x0
      have y1 := cell_keep hb x1
      clear x0 x1
      have hnb := BlkT.newAt V #[.string n, .string d] 9 rfl
      have hb2 := (Below.refl V.heap.size V).alloc (Nat.le_refl _) (.cells #[.string n, .string d] 9)
      have HN := Lib.hid hnb
      clear hnb
      go_wp2_with fail
      refine (HJ2.out _ _ HN.out).mono ?_
      rintro r X ⟨rfl, hb3⟩
      have hB2 := hB1.trans ((hb2.trans (hb3.mono hb2.size)).mono hB1.size)
      go_wp2
      go_ret
      exact ⟨rfl, hB2⟩
def cutR (s : ByteArray) : ByteArray × ByteArray := (⟨(Lib.cut s.data.toList [47]).1.toArray⟩, if (Lib.cut s.data.toList [47]).2.2 = true then ⟨(Lib.cut s.data.toList [47]).2.1.toArray⟩ else ⟨#[49]⟩)
def parseR (s : ByteArray) : Option (ByteArray × ByteArray) := if printR (cutR s).1 (cutR s).2 ≠ s ∨ s.data.toList = [] then none else some (cutR s)
theorem cut_size (s : ByteArray) : (cutR s).1.size ≤ s.size ∧ (cutR s).2.size ≤ s.size + 1 := by
  have h1 : (Lib.cut s.data.toList [47]).1.length ≤ s.size ∧ (Lib.cut s.data.toList [47]).2.1.length ≤ s.size := by
    unfold Lib.cut
    rw [Lib.size_eq]
    split
    · exact ⟨by rw [List.length_take]; omega, by rw [List.length_drop]; omega⟩
    · exact ⟨Nat.le_refl _, Nat.zero_le _⟩
  unfold cutR
  refine ⟨by rw [Lib.size_eq]; exact h1.1, ?_⟩
  show ByteArray.size (if _ then _ else _) ≤ _
  split
  · rw [Lib.size_eq]; exact Nat.le_trans h1.2 (Nat.le_succ _)
  · show 1 ≤ _; omega
set_option maxRecDepth 100000 in
set_option maxHeartbeats 4000000 in
theorem parse04 (s : ByteArray) (w : World) (hs : s.size ≤ 900000) (he : EnvR w) :
    Calls Tryz.prog 58 #[.string s] w fun r w' => r = .returned (.tuple #[valR (parseR s), .int .i64 (errR (parseR s))]) ∧ Below w.heap.size w w' := by
  obtain ⟨W, hW⟩ : ∃ W, (w.alloc (.cells #[.string ⟨#[]⟩, .string ⟨#[]⟩] 26)).alloc (.cells #[.string ⟨#[]⟩, .string ⟨#[49]⟩] 26) = W := ⟨_, rfl⟩
  have k1 : BlkT W w.heap.size #[.string ⟨#[]⟩, .string ⟨#[]⟩] 26 := hW ▸ (BlkT.newAt w _ _ rfl).alloc _
  have k2 : BlkT W (w.heap.size + 1) #[.string ⟨#[]⟩, .string ⟨#[49]⟩] 26 := hW ▸ BlkT.newAt _ _ _ (by simp)
  have hB : Below w.heap.size w W := hW ▸ (((Below.refl _ _).alloc (Nat.le_refl _) _).alloc (by simp) _)
  obtain ⟨mx, hmx⟩ := (he.below hB).len
  have HC := Lib.hid (Tryz.strings_Cut s ⟨#[47]⟩ mx W (by omega) hmx)
  have hcut := cut_size s
  obtain ⟨num, hnum⟩ : ∃ t : ByteArray, (⟨(Lib.cut s.data.toList (⟨#[47]⟩ : ByteArray).data.toList).1.toArray⟩ : ByteArray) = t := ⟨_, rfl⟩
  obtain ⟨den, hden⟩ : ∃ t : ByteArray, (⟨(Lib.cut s.data.toList (⟨#[47]⟩ : ByteArray).data.toList).2.1.toArray⟩ : ByteArray) = t := ⟨_, rfl⟩
  obtain ⟨iss, hiss⟩ : ∃ t : Bool, (Lib.cut s.data.toList (⟨#[47]⟩ : ByteArray).data.toList).2.2 = t := ⟨_, rfl⟩
  rw [hnum, hden, hiss] at HC
  have hcr : cutR s = (num, if iss = true then den else ⟨#[49]⟩) := by rw [← hnum, ← hden, ← hiss]; rfl
  obtain ⟨dd, hdd⟩ : ∃ t, t = (if iss = true then den else (⟨#[49]⟩ : ByteArray)) := ⟨_, rfl⟩
  rw [← hdd] at hcr
  rw [hcr] at hcut
  have HP := Lib.hid (fun V (hV : EnvW V) => print04 num dd V (by have := hcut.1; show num.size ≤ _; have h2 : num.size ≤ s.size := hcut.1; omega) (by have h2 : dd.size ≤ s.size + 1 := hcut.2; omega) hV)
  have EP : Hid (parseR s = if printR num dd ≠ s ∨ s.data.toList = [] then none else some (num, dd)) := Lib.hid (by unfold parseR; rw [hcr])
  generalize printR num dd = pr at *
  have HE := Lib.hid he
  have K1 := Lib.hid k1
  have K2 := Lib.hid k2
  clear hcut hnum hden hiss hcr hmx he k1 k2
  cases iss with
  | true =>
    rw [if_pos rfl] at hdd
    subst hdd
    go_enter Tryz.func58, Tryz.ntmps58
    go_wp2_with (simp only [hW])
    refine HC.out.mono ?_
    rintro r V0 ⟨rfl, nd, hnd⟩
    have hbV : Below W.heap.size W V0 := hnd ▸ below_drewN (Below.refl _ _) _
    have k1 := BlkT.keep K1.out hbV
    have k2 := BlkT.keep K2.out hbV
    have hB0 := hB.trans (hbV.mono hB.size)
    clear hnd hbV
    have x0 := k2.cell 0
    have x1 := k2.cell 1
    have f0 := k2.frozen 0
    have f1 := k2.frozen 1
    simp only [List.getElem?_toArray, List.getElem?_cons_succ, List.getElem?_cons_zero] at x0 x1
    have kk : BlkT ((V0.setCell ⟨w.heap.size + 1, 0, none⟩ (.string num)).setCell ⟨w.heap.size + 1, 1, none⟩ (.string dd)) (w.heap.size + 1) #[.string num, .string dd] 26 := (k2.set 0 _).set 1 _
    have kr : BlkT ((V0.setCell ⟨w.heap.size + 1, 0, none⟩ (.string num)).setCell ⟨w.heap.size + 1, 1, none⟩ (.string dd)) w.heap.size #[.string ⟨#[]⟩, .string ⟨#[]⟩] 26 := (k1.other _ (by simp)).other _ (by simp)
    have hBk : Below w.heap.size w ((V0.setCell ⟨w.heap.size + 1, 0, none⟩ (.string num)).setCell ⟨w.heap.size + 1, 1, none⟩ (.string dd)) := (hB0.setCell (by simp) _).setCell (by simp) _
    have KK := Lib.hid kk
    have KR := Lib.hid kr
    have HV := Lib.hid (HE.out.below hBk)
    clear kk kr k1 k2
    go_wp2_with fail
    refine (HP.out _ HV.out.env).mono ?_
    rintro r V ⟨rfl, hb⟩
    have hB1 := hBk.trans (hb.mono hBk.size)
    have k1 := BlkT.keep KR.out hb
    have k2 := BlkT.keep KK.out hb
    clear x0 x1 f0 f1
    have y0 := k2.cell 0
    have y1 := k2.cell 1
    have x0 := k1.cell 0
    have x1 := k1.cell 1
    have f0 := k1.frozen 0
    have f1 := k1.frozen 1
    simp only [List.getElem?_toArray, List.getElem?_cons_succ, List.getElem?_cons_zero] at x0 x1 y0 y1
    have HK := Lib.hid k1
    clear k1 k2
    by_cases hps : pr = s
    · subst hps
      by_cases hse : pr.data.toList = []
      · have hst := str_eqE hse
        rw [if_pos (.inr hse)] at EP
        clear hse
        go_wp2_with fail
        have hz : BlkT _ _ #[.string ⟨#[]⟩, .string ⟨#[]⟩] 26 := (HK.out.set 0 (.string ⟨#[]⟩)).set 1 (.string ⟨#[]⟩)
        have z0 := hz.cell 0
        have z1 := hz.cell 1
        simp only [List.getElem?_toArray, List.getElem?_cons_succ, List.getElem?_cons_zero] at z0 z1
        refine bodyPost_ret (v := .tuple #[ratV ⟨#[]⟩ ⟨#[]⟩, .int .i64 40]) (by simp [results, Tryz.results58, go_sem, z0, z1]) rfl ?_
        exact ⟨by rw [EP.out]; rfl, (hB1.setCell (Nat.le_refl _) _).setCell (Nat.le_refl _) _⟩
      · have hst := str_neE hse
        rw [if_neg (fun k => k.elim (fun h => h rfl) hse)] at EP
        clear hse
        go_wp2_with fail
        have hz : BlkT _ _ #[.string num, .string dd] 26 := (HK.out.set 0 (.string num)).set 1 (.string dd)
        have z0 := hz.cell 0
        have z1 := hz.cell 1
        simp only [List.getElem?_toArray, List.getElem?_cons_succ, List.getElem?_cons_zero] at z0 z1
        refine bodyPost_ret (v := .tuple #[ratV num dd, .int .i64 0]) (by simp [results, Tryz.results58, go_sem, z0, z1]) rfl ?_
        exact ⟨by rw [EP.out]; rfl, (hB1.setCell (Nat.le_refl _) _).setCell (Nat.le_refl _) _⟩
    · have hst := str_neq hps
      have hst2 : (pr.toList != s.toList) = true := by rw [bne, hst]; rfl
      rw [if_pos (.inl hps)] at EP
      clear hps
      go_wp2_with fail
      have hz : BlkT _ _ #[.string ⟨#[]⟩, .string ⟨#[]⟩] 26 := (HK.out.set 0 (.string ⟨#[]⟩)).set 1 (.string ⟨#[]⟩)
      have z0 := hz.cell 0
      have z1 := hz.cell 1
      simp only [List.getElem?_toArray, List.getElem?_cons_succ, List.getElem?_cons_zero] at z0 z1
      refine bodyPost_ret (v := .tuple #[ratV ⟨#[]⟩ ⟨#[]⟩, .int .i64 40]) (by simp [results, Tryz.results58, go_sem, z0, z1]) rfl ?_
      exact ⟨by rw [EP.out]; rfl, (hB1.setCell (Nat.le_refl _) _).setCell (Nat.le_refl _) _⟩
  | false =>
    rw [if_neg (by decide)] at hdd
    subst hdd
    go_enter Tryz.func58, Tryz.ntmps58
    go_wp2_with (simp only [hW])
    refine HC.out.mono ?_
    rintro r V0 ⟨rfl, nd, hnd⟩
    have hbV : Below W.heap.size W V0 := hnd ▸ below_drewN (Below.refl _ _) _
    have k1 := BlkT.keep K1.out hbV
    have k2 := BlkT.keep K2.out hbV
    have hB0 := hB.trans (hbV.mono hB.size)
    clear hnd hbV
    have x0 := k2.cell 0
    have x1 := k2.cell 1
    have f0 := k2.frozen 0
    have f1 := k2.frozen 1
    simp only [List.getElem?_toArray, List.getElem?_cons_succ, List.getElem?_cons_zero] at x0 x1
    have kk : BlkT (V0.setCell ⟨w.heap.size + 1, 0, none⟩ (.string num)) (w.heap.size + 1) #[.string num, .string ⟨#[49]⟩] 26 := k2.set 0 _
    have kr : BlkT (V0.setCell ⟨w.heap.size + 1, 0, none⟩ (.string num)) w.heap.size #[.string ⟨#[]⟩, .string ⟨#[]⟩] 26 := k1.other _ (by simp)
    have hBk : Below w.heap.size w (V0.setCell ⟨w.heap.size + 1, 0, none⟩ (.string num)) := hB0.setCell (by simp) _
    have KK := Lib.hid kk
    have KR := Lib.hid kr
    have HV := Lib.hid (HE.out.below hBk)
    clear kk kr k1 k2
    go_wp2_with fail
    refine (HP.out _ HV.out.env).mono ?_
    rintro r V ⟨rfl, hb⟩
    have hB1 := hBk.trans (hb.mono hBk.size)
    have k1 := BlkT.keep KR.out hb
    have k2 := BlkT.keep KK.out hb
    clear x0 x1 f0 f1
    have y0 := k2.cell 0
    have y1 := k2.cell 1
    have x0 := k1.cell 0
    have x1 := k1.cell 1
    have f0 := k1.frozen 0
    have f1 := k1.frozen 1
    simp only [List.getElem?_toArray, List.getElem?_cons_succ, List.getElem?_cons_zero] at x0 x1 y0 y1
    have HK := Lib.hid k1
    clear k1 k2
    by_cases hps : pr = s
    · subst hps
      by_cases hse : pr.data.toList = []
      · have hst := str_eqE hse
        rw [if_pos (.inr hse)] at EP
        clear hse
        go_wp2_with fail
        have hz : BlkT _ _ #[.string ⟨#[]⟩, .string ⟨#[]⟩] 26 := (HK.out.set 0 (.string ⟨#[]⟩)).set 1 (.string ⟨#[]⟩)
        have z0 := hz.cell 0
        have z1 := hz.cell 1
        simp only [List.getElem?_toArray, List.getElem?_cons_succ, List.getElem?_cons_zero] at z0 z1
        refine bodyPost_ret (v := .tuple #[ratV ⟨#[]⟩ ⟨#[]⟩, .int .i64 40]) (by simp [results, Tryz.results58, go_sem, z0, z1]) rfl ?_
        exact ⟨by rw [EP.out]; rfl, (hB1.setCell (Nat.le_refl _) _).setCell (Nat.le_refl _) _⟩
      · have hst := str_neE hse
        rw [if_neg (fun k => k.elim (fun h => h rfl) hse)] at EP
        clear hse
        go_wp2_with fail
        have hz : BlkT _ _ #[.string num, .string ⟨#[49]⟩] 26 := (HK.out.set 0 (.string num)).set 1 (.string ⟨#[49]⟩)
        have z0 := hz.cell 0
        have z1 := hz.cell 1
        simp only [List.getElem?_toArray, List.getElem?_cons_succ, List.getElem?_cons_zero] at z0 z1
        refine bodyPost_ret (v := .tuple #[ratV num ⟨#[49]⟩, .int .i64 0]) (by simp [results, Tryz.results58, go_sem, z0, z1]) rfl ?_
        exact ⟨by rw [EP.out]; rfl, (hB1.setCell (Nat.le_refl _) _).setCell (Nat.le_refl _) _⟩
    · have hst := str_neq hps
      have hst2 : (pr.toList != s.toList) = true := by rw [bne, hst]; rfl
      rw [if_pos (.inl hps)] at EP
      clear hps
      go_wp2_with fail
      have hz : BlkT _ _ #[.string ⟨#[]⟩, .string ⟨#[]⟩] 26 := (HK.out.set 0 (.string ⟨#[]⟩)).set 1 (.string ⟨#[]⟩)
      have z0 := hz.cell 0
      have z1 := hz.cell 1
      simp only [List.getElem?_toArray, List.getElem?_cons_succ, List.getElem?_cons_zero] at z0 z1
      refine bodyPost_ret (v := .tuple #[ratV ⟨#[]⟩ ⟨#[]⟩, .int .i64 40]) (by simp [results, Tryz.results58, go_sem, z0, z1]) rfl ?_
      exact ⟨by rw [EP.out]; rfl, (hB1.setCell (Nat.le_refl _) _).setCell (Nat.le_refl _) _⟩
end Go.Proofs.YtjnpenljgfdaiaaGreatDoor
