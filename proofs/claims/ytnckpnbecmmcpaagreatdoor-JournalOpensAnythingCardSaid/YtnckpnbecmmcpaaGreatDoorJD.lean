/- package journal: open, which recovers. -/
import Derived.Test.YtnckpnbecmmcpaaGreatDoorJC
import Derived.Test.YtnckpnbecmmcpaaGreatDoorP2
import Derived.Defers
import Derived.Recover
import Derived.Laws.Pointers
import Derived.RegionTactic
import Derived.ChangeAlike
namespace Go.Proofs.YtnckpnbecmmcpaaGreatDoor
open Go.RowKit Lib
theorem assert_yes (ea : Addr) (w : World) : (Instr.typeAssert (.iface 222 (.pointer (some ea))) 20 80 true).run Tryz.prog w = .ok (.tuple #[.iface 222 (.pointer (some ea)), .bool true]) w := by kernel_rfl
theorem assert_no (w : World) : (Instr.typeAssert .nilIface 20 80 true).run Tryz.prog w = .ok (.tuple #[.nilIface, .bool false]) w := by kernel_rfl
set_option maxRecDepth 100000 in
set_option maxHeartbeats 4000000 in
theorem catch_panicking (p q : Nat) (vp ve : Value) (ea : Addr) (w : World) (hE : w.cell? ⟨0, 0, none⟩ = some (.iface 222 (.pointer (some ea)))) (hp : Blk w p #[vp] 28) (hq : Blk w q #[ve] 33) :
    CallsD Tryz.prog 76 #[.pointer (some ⟨p, 0, none⟩), .pointer (some ⟨q, 0, none⟩)] (.panicking [dmg ea]) w fun e u' w' =>
      e = .returned (.tuple #[]) ∧ u' = .panicking [{ v := .iface 222 (.pointer (some ea)), recovered := true }] ∧ w' = (w.setCell ⟨p, 0, none⟩ (.pointer none)).setCell ⟨q, 0, none⟩ (.int .i64 342) := by
  refine callsD_of_wpS Tryz.func76 rfl fun c₀ cs hu => ?_
  unfold dmg at hu
  have hta := assert_yes ea
  have hne : p ≠ q := hp.ne hq (by decide)
  have h1 := hp.cell 0
  have h2 := hq.cell 0
  have h3 := hp.frozen 0
  have h4 := hq.frozen 0
  simp only [List.getElem?_toArray, List.getElem?_cons_zero] at h1 h2
  simp only [Tryz.ntmps76, List.size_toArray, List.length_cons, List.length_nil, Nat.reduceAdd, Nat.reduceSub, Array.replicate_succ, Array.replicate_zero, List.push_toArray, List.append_toArray, List.nil_append, List.cons_append]
  apply wpS_seq
  apply wpS_region
  simp [wpOpsS, go_sem, recoverD, hu, Exit.thenS, hta]
  refine wpS_of_wp ?_
  have hS := is_same ea w
  have hpq : Blk (w.setCell ⟨p, 0, none⟩ (.pointer none)) q #[ve] 33 := hq.other _ (Ne.symm hne)
  have h2' := hpq.cell 0
  have h4' := hpq.frozen 0
  simp only [List.getElem?_toArray, List.getElem?_cons_zero] at h2'
  clear hp hq hpq hta
  go_wp2_with (go_at_call 77; refine hS.mono ?_; rintro e w9 ⟨rfl, rfl⟩)
  all_goals simp [bodyPostS, results, Tryz.results76]
set_option maxRecDepth 100000 in
set_option maxHeartbeats 4000000 in
theorem catch_idle (p q : Nat) (w : World) :
    CallsD Tryz.prog 76 #[.pointer (some ⟨p, 0, none⟩), .pointer (some ⟨q, 0, none⟩)] .returning w fun e u' w' =>
      e = .returned (.tuple #[]) ∧ u' = .returning ∧ w' = w := by
  refine callsD_of_wpS Tryz.func76 rfl fun c₀ cs hu => ?_
  have hta := assert_no
  simp only [Tryz.ntmps76, List.size_toArray, List.length_cons, List.length_nil, Nat.reduceAdd, Nat.reduceSub, Array.replicate_succ, Array.replicate_zero, List.push_toArray, List.append_toArray, List.nil_append, List.cons_append]
  apply wpS_seq
  apply wpS_region
  simp [wpOpsS, go_sem, recoverD, hu, Exit.thenS, hta]
  refine wpS_of_wp ?_
  clear hta
  go_wp2
  cases c₀
  simp_all [bodyPostS, results, Tryz.results76]
set_option maxRecDepth 100000 in
theorem end_panic {N1 N2 : Nat} {W : World} {vp ve : Value} {ea : Addr} {tmps : Array Value} {R : Ending → World → Prop} (hE : W.cell? ⟨0, 0, none⟩ = some (.iface 222 (.pointer (some ea)))) (b1 : Blk W N1 #[vp] 28) (b2 : Blk W N2 #[ve] 33) (h6 : tmps[4]? = some (.pointer (some ⟨N1, 0, none⟩))) (h7 : tmps[5]? = some (.pointer (some ⟨N2, 0, none⟩)))
    (hR : R (.returned (.tuple #[.pointer none, .int .i64 342])) ((W.setCell ⟨N1, 0, none⟩ (.pointer none)).setCell ⟨N2, 0, none⟩ (.int .i64 342))) :
    bodyPostD Tryz.prog Tryz.f54 R (Exit.panic [dmg ea]) ⟨tmps, [{ target := .fn (.func 76) #[.pointer (some ⟨N1, 0, none⟩), .pointer (some ⟨N2, 0, none⟩)], args := #[] }]⟩ W := by
  have hne : N1 ≠ N2 := b1.ne b2 (by decide)
  have k1 : ((W.setCell ⟨N1, 0, none⟩ (.pointer none)).setCell ⟨N2, 0, none⟩ (.int .i64 342)).cell? ⟨N1, 0, none⟩ = some (.pointer none) := ((b1.set 0 _).other _ hne).cell 0
  have k2 : ((W.setCell ⟨N1, 0, none⟩ (.pointer none)).setCell ⟨N2, 0, none⟩ (.int .i64 342)).cell? ⟨N2, 0, none⟩ = some (.int .i64 342) := ((b2.other _ (Ne.symm hne)).set 0 _).cell 0
  refine leaves_cons (f := 76) (args := #[.pointer (some ⟨N1, 0, none⟩), .pointer (some ⟨N2, 0, none⟩)]) (by simp) (by simp [go_sem]) ?_
  refine (catch_panicking N1 N2 vp ve ea W hE b1 b2).mono ?_
  rintro e u' w'' ⟨rfl, rfl, rfl⟩
  generalize (W.setCell ⟨N1, 0, none⟩ (.pointer none)).setCell ⟨N2, 0, none⟩ (.int .i64 342) = W2 at *
  simp [Leaves, settle, results, Tryz.results54, go_sem, k1, k2, h6, h7]
  exact hR
set_option maxRecDepth 100000 in
theorem end_ret {N1 N2 : Nat} {W : World} {vp ve : Value} {tmps : Array Value} {R : Ending → World → Prop} (b1 : Blk W N1 #[vp] 28) (b2 : Blk W N2 #[ve] 33) (h6 : tmps[4]? = some (.pointer (some ⟨N1, 0, none⟩))) (h7 : tmps[5]? = some (.pointer (some ⟨N2, 0, none⟩)))
    (hR : R (.returned (.tuple #[vp, ve])) W) :
    bodyPostD Tryz.prog Tryz.f54 R Exit.ret ⟨tmps, [{ target := .fn (.func 76) #[.pointer (some ⟨N1, 0, none⟩), .pointer (some ⟨N2, 0, none⟩)], args := #[] }]⟩ W := by
  have k1 := b1.cell 0
  have k2 := b2.cell 0
  simp only [List.getElem?_toArray, List.getElem?_cons_zero] at k1 k2
  refine leaves_cons (f := 76) (args := #[.pointer (some ⟨N1, 0, none⟩), .pointer (some ⟨N2, 0, none⟩)]) (by simp) (by simp [go_sem]) ?_
  refine (catch_idle N1 N2 W).mono ?_
  rintro e u' w'' ⟨rfl, rfl, rfl⟩
  simp [Leaves, settle, results, Tryz.results54, go_sem, k1, k2, h6, h7]
  exact hR
/-- A journal in memory. -/
structure JouAt (W : World) (base Jb B : Nat) (J : JouD) : Prop where
  ex : ∃ vr, Blk W Jb #[vr, .string (headS J.L), .int .i64 (tapeN J.L : Int), .pointer (some ⟨B, 0, none⟩), .bool J.broken] 74 ∧ W.ownsRow base 9 1 vr J.L.length (J.L.map Value.string)
theorem JouAt.frm {G : Nat → Prop} {W W' : World} {base Jb B : Nat} {J : JouD} (h : JouAt W base Jb B J) (hf : Frm G W W') (hJ : ¬ G Jb) (hr : ∀ k cs, Blk W k cs 9 → base ≤ k → ¬ G k) : JouAt W' base Jb B J := by
  obtain ⟨vr, h1, h2⟩ := h.ex
  refine ⟨vr, h1.frm hf hJ, owned_kept h2 (fun g hg => ?_)⟩
  obtain ⟨cur, hc, hb⟩ := owned_block h2 hg
  exact hf.block g hc.lt (hr g _ hc hb)
theorem JouAt.below {W W' : World} {base Jb B : Nat} {J : JouD} (h : JouAt W base Jb B J) (hb : Below W.heap.size W W') : JouAt W' base Jb B J := h.frm (G := fun _ => False) (Frm.of_below hb) (fun h => h) (fun _ _ _ _ h => h)
theorem JouAt.mono {W : World} {base base' Jb B : Nat} {J : JouD} (h : JouAt W base Jb B J) (hb : base' ≤ base) : JouAt W base' Jb B J := by
  obtain ⟨vr, h1, h2⟩ := h.ex
  exact ⟨vr, h1, ownsRow_base h2 hb⟩
theorem strs_own {W : World} {B : Nat} {v : Value} {L : List ByteArray} (h : W.ownsRow B 9 1 v L.length (L.map Value.string)) : StrsAt W v L := by
  rcases h.2 with ⟨rfl, hn⟩ | ⟨g, cap, cur, rfl, hb, hg, h1, h2, -⟩
  · exact ⟨none, 0, by rw [hn], by omega, by unfold maxLen; decide, fun hp => by omega⟩
  · refine ⟨_, cap, rfl, h1, h2, fun _ => ⟨g, 0, rfl, fun j y hj => ?_⟩⟩
    have q := h.cells (g := g) rfl j (.string y) (by rw [List.getElem?_map, hj]; rfl)
    rw [add_zero_off] at q
    rw [Nat.zero_add]; exact q
set_option maxRecDepth 100000 in
set_option maxHeartbeats 4000000 in
theorem open54 (B : Nat) (s : ByteArray) (w : World) (hs : s.size ≤ 100000) (hT : RoundT w) (hE : ErrD w) :
    Calls Tryz.prog 54 #[.pointer (some ⟨B, 0, none⟩), .string s] w fun e w' => Below w.heap.size w w' ∧
      ((loadS s = none ∧ e = .returned (.tuple #[.pointer none, .int .i64 342])) ∨ ∃ L, loadS s = some (L, tapeN L) ∧ ∃ Jb, e = .returned (.tuple #[.pointer (some ⟨Jb, 0, none⟩), .int .i64 0]) ∧ w.heap.size ≤ Jb ∧ JouAt w' w.heap.size Jb B ⟨L, false⟩) := by
  obtain ⟨ea, hEc, -⟩ := hE
  have h3 := hT.1
  have hmk : ∀ W : World, (Instr.makeSlice 39 (.int .i64 32) (.int .i64 32)).run Tryz.prog W = .ok (.slice (some ⟨W.heap.size, 0, none⟩) 32 32) (W.alloc (.cells (bcs (List.replicate 32 0)).toArray 5)) := fun W => mk40 32 (by decide) W
  generalize hzc : (bcs (List.replicate 32 0)).toArray = zc at hmk
  have hcv : ∀ W : World, (convert 39 9 (.slice (some ⟨W.heap.size, 0, none⟩) 32 32)).run Tryz.prog (W.alloc (.cells zc 5)) = .ok (.string z32) (W.alloc (.cells zc 5)) := fun W => by
    rw [← z32_made, ← hzc]
    exact conv_all (n := 32) (Blk.new W _ 5) (by rw [List.length_replicate])
  clear hzc
  have HT := Lib.hid hT
  have HE := Lib.hid hEc
  clear hT hEc
  have hcvp := hcv ((w.alloc (.cells #[.pointer none] 28)).alloc (.cells #[.int .i64 0] 33))
  rw [show ((w.alloc (.cells #[.pointer none] 28)).alloc (.cells #[.int .i64 0] 33)).heap.size = w.heap.size + 1 + 1 by simp] at hcvp
  clear hcv
  go_enter_defers Tryz.func54, Tryz.ntmps54
  go_upto_region 3 with (fail)
  have b1 : Blk ((((w.alloc (.cells #[.pointer (some ⟨w.heap.size + 1 + 1 + 1, 0, none⟩)] 28)).alloc (.cells #[.int .i64 0] 33)).alloc (.cells zc 5)).alloc (.cells #[.slice none 0 0, .string z32, .int .i64 0, .pointer (some ⟨B, 0, none⟩), .bool false] 74)) w.heap.size #[.pointer (some ⟨w.heap.size + 1 + 1 + 1, 0, none⟩)] 28 := (((Blk.new _ _ _).alloc _).alloc _).alloc _
  have b2 : Blk ((((w.alloc (.cells #[.pointer (some ⟨w.heap.size + 1 + 1 + 1, 0, none⟩)] 28)).alloc (.cells #[.int .i64 0] 33)).alloc (.cells zc 5)).alloc (.cells #[.slice none 0 0, .string z32, .int .i64 0, .pointer (some ⟨B, 0, none⟩), .bool false] 74)) (w.heap.size + 1) #[.int .i64 0] 33 := ((Blk.newAt _ _ _ (by simp)).alloc _).alloc _
  have b4 : Blk ((((w.alloc (.cells #[.pointer (some ⟨w.heap.size + 1 + 1 + 1, 0, none⟩)] 28)).alloc (.cells #[.int .i64 0] 33)).alloc (.cells zc 5)).alloc (.cells #[.slice none 0 0, .string z32, .int .i64 0, .pointer (some ⟨B, 0, none⟩), .bool false] 74)) (w.heap.size + 1 + 1 + 1) #[.slice none 0 0, .string z32, .int .i64 0, .pointer (some ⟨B, 0, none⟩), .bool false] 74 := Blk.newAt _ _ _ (by simp)
  have hB : Below w.heap.size w ((((w.alloc (.cells #[.pointer (some ⟨w.heap.size + 1 + 1 + 1, 0, none⟩)] 28)).alloc (.cells #[.int .i64 0] 33)).alloc (.cells zc 5)).alloc (.cells #[.slice none 0 0, .string z32, .int .i64 0, .pointer (some ⟨B, 0, none⟩), .bool false] 74)) := ((((Below.refl _ _).alloc (Nat.le_refl _) _).alloc (by simp) _).alloc (by simp; omega) _).alloc (by simp; omega) _
  generalize (((w.alloc (.cells #[.pointer (some ⟨w.heap.size + 1 + 1 + 1, 0, none⟩)] 28)).alloc (.cells #[.int .i64 0] 33)).alloc (.cells zc 5)).alloc (.cells #[.slice none 0 0, .string z32, .int .i64 0, .pointer (some ⟨B, 0, none⟩), .bool false] 74) = W4 at b1 b2 b4 hB ⊢
  have hTW := HT.out.below HT.out.1 hB
  have hEW := (hB.cell (p := ⟨0, 0, none⟩) (by show 0 < w.heap.size; omega)).trans HE.out
  have hld := load78 (w.heap.size + 1 + 1 + 1) 74 [.pointer (some ⟨B, 0, none⟩), .bool false] s ea W4 b4 (by decide) hs hTW hEW (by omega)
  have c1 := b1.cell 0
  simp only [List.getElem?_toArray, List.getElem?_cons_zero] at c1
  have HLD := Lib.hid hld
  have HB := Lib.hid (And.intro b1 (And.intro b2 hB))
  have HZ := Lib.hid b4.lt
  clear hld b1 b2 b4 hB hTW hcvp hmk
  go_wp2_with fail
  refine HLD.out.mono ?_
  rintro e w6 ⟨hf, ⟨hl, rfl⟩ | ⟨L, hl, rfl, vr, hb, ho⟩⟩
  · have k1 := HB.out.1.frm hf (by omega)
    have k2 := HB.out.2.1.frm hf (by omega)
    have hbe : Below w.heap.size w w6 := HB.out.2.2.trans (hf.below (by have := HB.out.2.2.size; omega) (fun k hk => by omega))
    refine end_panic (hbe.cell (p := ⟨0, 0, none⟩) (by show 0 < w.heap.size; omega) |>.trans HE.out) k1 k2 rfl rfl ⟨?_, .inl ⟨hl, rfl⟩⟩
    exact (hbe.setCell (p := ⟨w.heap.size, 0, none⟩) (Nat.le_refl _) _).setCell (p := ⟨w.heap.size + 1, 0, none⟩) (by simp) _
  · have k1 := HB.out.1.frm hf (by omega)
    have k2 := HB.out.2.1.frm hf (by omega)
    have hbe : Below w.heap.size w w6 := HB.out.2.2.trans (hf.below (by have := HB.out.2.2.size; omega) (fun k hk => by omega))
    have e1 := k1.cell 0
    have e2 := k2.cell 0
    have f1 := k1.frozen 0
    have f2 := k2.frozen 0
    simp only [List.getElem?_toArray, List.getElem?_cons_zero] at e1 e2
    have hne : w.heap.size ≠ w.heap.size + 1 := by omega
    have s1 := k1.set 0 (.pointer (some ⟨w.heap.size + 1 + 1 + 1, 0, none⟩))
    have s2 := k2.other (a := ⟨w.heap.size, 0, none⟩) (.pointer (some ⟨w.heap.size + 1 + 1 + 1, 0, none⟩)) (by simp)
    have g2 := s2.cell 0
    have h2 := s2.frozen 0
    have t1 := s1.other (a := ⟨w.heap.size + 1, 0, none⟩) (.int .i64 0) hne
    have t2 := s2.set 0 (.int .i64 0)
    have jb := (hb.other (a := ⟨w.heap.size, 0, none⟩) (.pointer (some ⟨w.heap.size + 1 + 1 + 1, 0, none⟩)) (by simp; omega)).other (a := ⟨w.heap.size + 1, 0, none⟩) (.int .i64 0) (by simp; omega)
    have hbe2 := (hbe.setCell (p := ⟨w.heap.size, 0, none⟩) (Nat.le_refl _) (.pointer (some ⟨w.heap.size + 1 + 1 + 1, 0, none⟩))).setCell (p := ⟨w.heap.size + 1, 0, none⟩) (by simp) (.int .i64 0)
    have ho2 : ((w6.setCell ⟨w.heap.size, 0, none⟩ (.pointer (some ⟨w.heap.size + 1 + 1 + 1, 0, none⟩))).setCell ⟨w.heap.size + 1, 0, none⟩ (.int .i64 0)).ownsRow W4.heap.size 9 1 vr L.length (L.map Value.string) := by
      have hz := HZ.out
      refine owned_kept ho (fun g hg => ?_)
      obtain ⟨cur, -, hg2⟩ := owned_block ho hg
      exact (Below.heap_setCell _ _ _ _ (by simp; omega)).trans (Below.heap_setCell _ _ _ _ (by simp; omega))
    have HX := Lib.hid (And.intro t1 (And.intro t2 (And.intro jb (And.intro hbe2 ho2))))
    clear s1 s2 k1 k2 t1 t2 jb hbe2 ho2 hb ho hf hbe
    go_wp2
    refine end_ret HX.out.1 HX.out.2.1 rfl rfl ⟨HX.out.2.2.2.1, .inr ⟨L, hl, w.heap.size + 1 + 1 + 1, rfl, by omega, ⟨vr, HX.out.2.2.1, ownsRow_base HX.out.2.2.2.2 (by have := HZ.out; omega)⟩⟩⟩
end Go.Proofs.YtnckpnbecmmcpaaGreatDoor
