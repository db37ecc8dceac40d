/- nadirlaw04: RationalField. -/
import Derived.Deep.RegionHeld3
import Derived.Deep.CutRange
import Derived.Test.YtjnpenljgfdaiaaGreatDoorNB
import Derived.Test.YtjnpenljgfdaiaaGreatDoorHA
namespace Go.Proofs.YtjnpenljgfdaiaaGreatDoor
open Go.RowKit Go.Shelf Lib

theorem valid_none : validR ⟨#[]⟩ ⟨#[]⟩ = false := by decide +kernel
theorem chk_none (x y : ByteArray) : chkL false [(⟨#[]⟩, ⟨#[]⟩), (x, y)] = true := by
  unfold chkL chk
  simp only [List.foldl_cons, List.foldl_nil, valid_none]; rfl
theorem doB_tt (e : Int) : doB true e = true := rfl
theorem sumR_none (op : ByteArray → ByteArray → Option Int) (x y : ByteArray) : sumR op ⟨#[]⟩ ⟨#[]⟩ x y = none := by
  unfold sumR; simp only [chk_none, doB_tt]; rfl
theorem mulR_none (x y : ByteArray) : mulR ⟨#[]⟩ ⟨#[]⟩ x y = none := by
  unfold mulR; simp only [chk_none, doB_tt]; rfl
theorem divR_none (x y : ByteArray) : divR ⟨#[]⟩ ⟨#[]⟩ x y = none := by
  unfold divR; simp only [chk_none, doB_tt]; rfl
theorem mul_o {o : Option (Int × Int)} (ho : ∀ t, o = some t → Fit t) {s : Int × Int} (k : Fit s) (V : World) (hV : EnvR V) :
    Calls Tryz.prog 27 #[ratV (nQ o) (dQ o), ratV (N3.S s.1) (N3.S s.2)] V fun e w' => e = .returned (.tuple #[ratV (nQ (o.bind fun t => mulQ t s)) (dQ (o.bind fun t => mulQ t s)), .int .i64 (qE (o.bind fun t => mulQ t s))]) ∧ Below V.heap.size V w' := by
  cases o with
  | none =>
    have z3 := S_size k.num; have z4 := S_size k.den
    have q := mul04 ⟨#[]⟩ ⟨#[]⟩ (N3.S s.1) (N3.S s.2) V (by decide) (by decide) (by omega) (by omega) hV.env
    rw [mulR_none] at q; exact q
  | some t =>
    have q := mul_q (ho t rfl) k V hV
    rw [qV_parts] at q; exact q
theorem sub_o {o : Option (Int × Int)} (ho : ∀ t, o = some t → Fit t) {s : Int × Int} (k : Fit s) (V : World) (hV : EnvR V) :
    Calls Tryz.prog 24 #[ratV (nQ o) (dQ o), ratV (N3.S s.1) (N3.S s.2)] V fun e w' => e = .returned (.tuple #[ratV (nQ (o.bind fun t => subQ t s)) (dQ (o.bind fun t => subQ t s)), .int .i64 (qE (o.bind fun t => subQ t s))]) ∧ Below V.heap.size V w' := by
  cases o with
  | none =>
    have z3 := S_size k.num; have z4 := S_size k.den
    have q := sub04 ⟨#[]⟩ ⟨#[]⟩ (N3.S s.1) (N3.S s.2) V (by decide) (by decide) (by omega) (by omega) hV.env
    rw [sumR_none] at q; exact q
  | some t =>
    have q := sub_q (ho t rfl) k V hV
    rw [qV_parts] at q; exact q
theorem add_sQ {r s : Int × Int} (h : Fit r) (k : Fit s) (V : World) (hV : EnvR V) :
    Calls Tryz.prog 26 #[ratV (N3.S r.1) (N3.S r.2), ratV (N3.S s.1) (N3.S s.2)] V fun e w' => e = .returned (.tuple #[ratV (nQ (addQ r s)) (dQ (addQ r s)), .int .i64 (qE (addQ r s))]) ∧ Below V.heap.size V w' := by
  have q := add_q h k V hV
  rw [qV_parts] at q; exact q
theorem mul_s' {r s : Int × Int} (h : Fit r) (k : Fit s) (V : World) (hV : EnvR V) :
    Calls Tryz.prog 27 #[ratV (N3.S r.1) (N3.S r.2), ratV (N3.S s.1) (N3.S s.2)] V fun e w' => e = .returned (.tuple #[ratV (nQ (mulQ r s)) (dQ (mulQ r s)), .int .i64 (qE (mulQ r s))]) ∧ Below V.heap.size V w' := by
  have q := mul_q h k V hV
  rw [qV_parts] at q; exact q
theorem four_o {o : Option (Int × Int)} (ho : ∀ t, o = some t → Fit t) {s : Int × Int} (k : Fit s) (V : World) (hV : EnvR V) :
    Calls Tryz.prog 64 #[ratV (nQ o) (dQ o), ratV (N3.S s.1) (N3.S s.2)] V fun e w' => e = .returned (.tuple #[.agg #[.string (nQ (o.bind fun t => addQ t s)), .string (dQ (o.bind fun t => addQ t s)), .string (nQ (o.bind fun t => subQ t s)), .string (dQ (o.bind fun t => subQ t s)), .string (nQ (o.bind fun t => mulQ t s)), .string (dQ (o.bind fun t => mulQ t s)), .string (nQ (o.bind fun t => divQ t s)), .string (dQ (o.bind fun t => divQ t s))], .agg #[.int .i64 (qE (o.bind fun t => addQ t s)), .int .i64 (qE (o.bind fun t => subQ t s)), .int .i64 (qE (o.bind fun t => mulQ t s)), .int .i64 (qE (o.bind fun t => divQ t s))]]) ∧ Below V.heap.size V w' := by
  cases o with
  | none =>
    have z3 := S_size k.num; have z4 := S_size k.den
    have q := four64 ⟨#[]⟩ ⟨#[]⟩ (N3.S s.1) (N3.S s.2) V (by decide) (by decide) (by omega) (by omega) hV.env
    rw [sumR_none, sumR_none, mulR_none, divR_none] at q; exact q
  | some t => exact four_Q (ho t rfl) k V hV
def Big (n : Nat) (r : Int × Int) : Prop := Fit r ∧ r.1.natAbs < 10 ^ n ∧ r.2.natAbs < 10 ^ n
theorem Big.up {n m : Nat} {r : Int × Int} (h : Big n r) (hm : n ≤ m) : Big m r := ⟨h.1, Nat.lt_of_lt_of_le h.2.1 (Nat.pow_le_pow_right (by decide) hm), Nat.lt_of_lt_of_le h.2.2 (Nat.pow_le_pow_right (by decide) hm)⟩
theorem addQ_comm {r s : Int × Int} (h : Fit r) (k : Fit s) : addQ s r = addQ r s := by
  unfold addQ
  have e1 : s.1 * r.2 + r.1 * s.2 = r.1 * s.2 + s.1 * r.2 := Int.add_comm _ _
  have e2 : s.2 * r.2 = r.2 * s.2 := Int.mul_comm _ _
  rw [N3.add_comm' k.low h.low, e1, e2]
  by_cases c1 : (r.1 * s.2).natAbs < N3.lim <;> by_cases c2 : (s.1 * r.2).natAbs < N3.lim <;> simp only [c1, c2, true_and, false_and]
theorem mulQ_comm {r s : Int × Int} (h : Fit r) (k : Fit s) : mulQ s r = mulQ r s := by
  unfold mulQ
  rw [N3.mul_comm' k.low h.low, Int.mul_comm s.1, Int.mul_comm s.2]
theorem qE_or (x : Option (Int × Int)) : qE x = 0 ∨ qE x = 40 := by cases x <;> simp [qE]
/-- A test: an error, or equal answers. -/
theorem tested {x y : Option (Int × Int)} (h : ∀ t u, x = some t → y = some u → t = u) : qE x = 40 ∨ (qE x = 0 ∧ (qE y = 40 ∨ (qE y = 0 ∧ nQ x = nQ y ∧ dQ x = dQ y))) := by
  cases x with
  | none => exact .inl rfl
  | some t =>
    cases y with
    | none => exact .inr ⟨rfl, .inl rfl⟩
    | some u => rw [h t u rfl rfl]; exact .inr ⟨rfl, .inr ⟨rfl, rfl, rfl⟩⟩

structure FieldF (lng : Bool) (an ad bn bd cn cd r0n r0d r1n r1d r2n r2d r3n r3d s1n s1d s3n s3d u0n u0d u1n u1d u2n u2d u3n u3d t0n t0d t1n t1d t2n t2d t3n t3d on od tn td ln ld acn acd sn sd wn wd kn kd gn gd : ByteArray) (e0 e1 e3 f1 f3 g1 g3 h0 h1 h2 h3 i j k m n q v : Int) : Prop where
  FO1 : ∀ V, EnvR V → Calls Tryz.prog 64 #[ratV an ad, ratV bn bd] V fun e w' => e = .returned (.tuple #[.agg #[.string r0n, .string r0d, .string r1n, .string r1d, .string r2n, .string r2d, .string r3n, .string r3d], .agg #[.int .i64 e0, .int .i64 e1, .int .i64 0, .int .i64 e3]]) ∧ Below V.heap.size V w'
  FO2 : ∀ V, EnvR V → Calls Tryz.prog 64 #[ratV bn bd, ratV an ad] V fun e w' => e = .returned (.tuple #[.agg #[.string r0n, .string r0d, .string s1n, .string s1d, .string r2n, .string r2d, .string s3n, .string s3d], .agg #[.int .i64 e0, .int .i64 f1, .int .i64 0, .int .i64 f3]]) ∧ Below V.heap.size V w'
  FO3 : ∀ V, EnvR V → Calls Tryz.prog 64 #[ratV bn bd, ratV cn cd] V fun e w' => e = .returned (.tuple #[.agg #[.string u0n, .string u0d, .string u1n, .string u1d, .string u2n, .string u2d, .string u3n, .string u3d], .agg #[.int .i64 0, .int .i64 g1, .int .i64 0, .int .i64 g3]]) ∧ Below V.heap.size V w'
  FO4 : ∀ V, EnvR V → Calls Tryz.prog 64 #[ratV r0n r0d, ratV cn cd] V fun e w' => e = .returned (.tuple #[.agg #[.string t0n, .string t0d, .string t1n, .string t1d, .string t2n, .string t2d, .string t3n, .string t3d], .agg #[.int .i64 h0, .int .i64 h1, .int .i64 h2, .int .i64 h3]]) ∧ Below V.heap.size V w'
  A1 : ∀ V, EnvR V → Calls Tryz.prog 26 #[ratV an ad, ratV u0n u0d] V fun e w' => e = .returned (.tuple #[ratV on od, .int .i64 i]) ∧ Below V.heap.size V w'
  M1 : ∀ V, EnvR V → Calls Tryz.prog 27 #[ratV an ad, ratV u2n u2d] V fun e w' => e = .returned (.tuple #[ratV tn td, .int .i64 j]) ∧ Below V.heap.size V w'
  M2 : ∀ V, EnvR V → Calls Tryz.prog 27 #[ratV r2n r2d, ratV cn cd] V fun e w' => e = .returned (.tuple #[ratV ln ld, .int .i64 k]) ∧ Below V.heap.size V w'
  M3 : ∀ V, EnvR V → Calls Tryz.prog 27 #[ratV an ad, ratV cn cd] V fun e w' => e = .returned (.tuple #[ratV acn acd, .int .i64 0]) ∧ Below V.heap.size V w'
  A2 : ∀ V, EnvR V → Calls Tryz.prog 26 #[ratV acn acd, ratV u2n u2d] V fun e w' => e = .returned (.tuple #[ratV sn sd, .int .i64 m]) ∧ Below V.heap.size V w'
  M4 : ∀ V, EnvR V → Calls Tryz.prog 27 #[ratV r0n r0d, ratV cn cd] V fun e w' => e = .returned (.tuple #[ratV wn wd, .int .i64 n]) ∧ Below V.heap.size V w'
  S1 : ∀ V, EnvR V → Calls Tryz.prog 24 #[ratV r0n r0d, ratV bn bd] V fun e w' => e = .returned (.tuple #[ratV kn kd, .int .i64 q]) ∧ Below V.heap.size V w'
  M5 : ∀ V, EnvR V → Calls Tryz.prog 27 #[ratV r3n r3d, ratV bn bd] V fun e w' => e = .returned (.tuple #[ratV gn gd, .int .i64 v]) ∧ Below V.heap.size V w'
  F0 : (e0 = 0 ∧ lng = true) ∨ (e0 = 0 ∧ lng = false) ∨ (e0 = 40 ∧ lng = true)
  F1 : e0 = 40 ∨ (e0 = 0 ∧ (h0 = 40 ∨ (h0 = 0 ∧ (i = 40 ∨ (i = 0 ∧ t0n = on ∧ t0d = od)))))
  F2 : j = 40 ∨ (j = 0 ∧ (k = 40 ∨ (k = 0 ∧ tn = ln ∧ td = ld)))
  F3 : e0 = 40 ∨ (e0 = 0 ∧ (m = 40 ∨ (m = 0 ∧ (n = 40 ∨ (n = 0 ∧ sn = wn ∧ sd = wd)))))
  F4 : e0 = 40 ∨ (e0 = 0 ∧ (q = 40 ∨ (q = 0 ∧ kn = an ∧ kd = ad)))
  F5 : e3 = 40 ∨ (e3 = 0 ∧ (v = 40 ∨ (v = 0 ∧ gn = an ∧ gd = ad)))
theorem field_facts {ra rb rc : Int × Int} (lng : Bool) (ha : Big 100 ra) (hb : Big 100 rb) (hc : Big 3 rc) (hs : lng = true ∨ (Big 3 ra ∧ Big 3 rb)) :
    ∃ r0n r0d r1n r1d r2n r2d r3n r3d s1n s1d s3n s3d u0n u0d u1n u1d u2n u2d u3n u3d t0n t0d t1n t1d t2n t2d t3n t3d on od tn td ln ld acn acd sn sd wn wd kn kd gn gd e0 e1 e3 f1 f3 g1 g3 h0 h1 h2 h3 i j k m n q v, FieldF lng (N3.S ra.1) (N3.S ra.2) (N3.S rb.1) (N3.S rb.2) (N3.S rc.1) (N3.S rc.2) r0n r0d r1n r1d r2n r2d r3n r3d s1n s1d s3n s3d u0n u0d u1n u1d u2n u2d u3n u3d t0n t0d t1n t1d t2n t2d t3n t3d on od tn td ln ld acn acd sn sd wn wd kn kd gn gd e0 e1 e3 f1 f3 g1 g3 h0 h1 h2 h3 i j k m n q v := by
  have la := ha.1.low; have lb := hb.1.low; have lc := hc.1.low
  have o2 : mulQ ra rb = some (N3.mulF ra rb) := mulQ_ok (a := 100) (b := 100) ha.2.1 ha.2.2 hb.2.1 hb.2.2 (by decide)
  have o3 : addQ rb rc = some (N3.addF rb rc) := addQ_ok (a := 100) (b := 3) hb.2.1 hb.2.2 hc.2.1 hc.2.2 (by decide)
  have o4 : mulQ rb rc = some (N3.mulF rb rc) := mulQ_ok (a := 100) (b := 3) hb.2.1 hb.2.2 hc.2.1 hc.2.2 (by decide)
  have o5 : mulQ ra rc = some (N3.mulF ra rc) := mulQ_ok (a := 100) (b := 3) ha.2.1 ha.2.2 hc.2.1 hc.2.2 (by decide)
  have f2 : Fit (N3.mulF ra rb) := (mulQ_fit ha.1 hb.1 o2).2
  have f3 : Fit (N3.addF rb rc) := (addQ_fit hb.1 hc.1 o3).2
  have f4 : Fit (N3.mulF rb rc) := (mulQ_fit hb.1 hc.1 o4).2
  have f5 : Fit (N3.mulF ra rc) := (mulQ_fit ha.1 hc.1 o5).2
  have h0 : ∀ t, addQ ra rb = some t → Fit t := fun t e => (addQ_fit ha.1 hb.1 e).2
  have h3 : ∀ t, divQ ra rb = some t → Fit t := fun t e => (divQ_fit ha.1 e).2.2
  refine ⟨nQ (addQ ra rb), dQ (addQ ra rb), nQ (subQ ra rb), dQ (subQ ra rb), nQ (mulQ ra rb), dQ (mulQ ra rb), nQ (divQ ra rb), dQ (divQ ra rb), nQ (subQ rb ra), dQ (subQ rb ra), nQ (divQ rb ra), dQ (divQ rb ra), nQ (addQ rb rc), dQ (addQ rb rc), nQ (subQ rb rc), dQ (subQ rb rc), nQ (mulQ rb rc), dQ (mulQ rb rc), nQ (divQ rb rc), dQ (divQ rb rc), nQ ((addQ ra rb).bind fun t => addQ t rc), dQ ((addQ ra rb).bind fun t => addQ t rc), nQ ((addQ ra rb).bind fun t => subQ t rc), dQ ((addQ ra rb).bind fun t => subQ t rc), nQ ((addQ ra rb).bind fun t => mulQ t rc), dQ ((addQ ra rb).bind fun t => mulQ t rc), nQ ((addQ ra rb).bind fun t => divQ t rc), dQ ((addQ ra rb).bind fun t => divQ t rc), nQ (addQ ra (N3.addF rb rc)), dQ (addQ ra (N3.addF rb rc)), nQ (mulQ ra (N3.mulF rb rc)), dQ (mulQ ra (N3.mulF rb rc)), nQ (mulQ (N3.mulF ra rb) rc), dQ (mulQ (N3.mulF ra rb) rc), nQ (mulQ ra rc), dQ (mulQ ra rc), nQ (addQ (N3.mulF ra rc) (N3.mulF rb rc)), dQ (addQ (N3.mulF ra rc) (N3.mulF rb rc)), nQ ((addQ ra rb).bind fun t => mulQ t rc), dQ ((addQ ra rb).bind fun t => mulQ t rc), nQ ((addQ ra rb).bind fun t => subQ t rb), dQ ((addQ ra rb).bind fun t => subQ t rb), nQ ((divQ ra rb).bind fun t => mulQ t rb), dQ ((divQ ra rb).bind fun t => mulQ t rb), qE (addQ ra rb), qE (subQ ra rb), qE (divQ ra rb), qE (subQ rb ra), qE (divQ rb ra), qE (subQ rb rc), qE (divQ rb rc), qE ((addQ ra rb).bind fun t => addQ t rc), qE ((addQ ra rb).bind fun t => subQ t rc), qE ((addQ ra rb).bind fun t => mulQ t rc), qE ((addQ ra rb).bind fun t => divQ t rc), qE (addQ ra (N3.addF rb rc)), qE (mulQ ra (N3.mulF rb rc)), qE (mulQ (N3.mulF ra rb) rc), qE (addQ (N3.mulF ra rc) (N3.mulF rb rc)), qE ((addQ ra rb).bind fun t => mulQ t rc), qE ((addQ ra rb).bind fun t => subQ t rb), qE ((divQ ra rb).bind fun t => mulQ t rb), ?_⟩
  constructor
  · intro V hV
    have q := four_Q ha.1 hb.1 V hV
    rw [show qE (mulQ ra rb) = 0 from by rw [o2]; rfl] at q; exact q
  · intro V hV
    have q := four_Q hb.1 ha.1 V hV
    rw [addQ_comm ha.1 hb.1, mulQ_comm ha.1 hb.1, show qE (mulQ ra rb) = 0 from by rw [o2]; rfl] at q; exact q
  · intro V hV
    have q := four_Q hb.1 hc.1 V hV
    rw [show qE (mulQ rb rc) = 0 from by rw [o4]; rfl, show qE (addQ rb rc) = 0 from by rw [o3]; rfl] at q; exact q
  · exact fun V hV => four_o h0 hc.1 V hV
  · intro V hV
    have q := add_sQ ha.1 f3 V hV
    rw [show nQ (addQ rb rc) = N3.S (N3.addF rb rc).1 from by rw [o3]; rfl, show dQ (addQ rb rc) = N3.S (N3.addF rb rc).2 from by rw [o3]; rfl]; exact q
  · intro V hV
    have q := mul_s' ha.1 f4 V hV
    rw [show nQ (mulQ rb rc) = N3.S (N3.mulF rb rc).1 from by rw [o4]; rfl, show dQ (mulQ rb rc) = N3.S (N3.mulF rb rc).2 from by rw [o4]; rfl]; exact q
  · intro V hV
    have q := mul_s' f2 hc.1 V hV
    rw [show nQ (mulQ ra rb) = N3.S (N3.mulF ra rb).1 from by rw [o2]; rfl, show dQ (mulQ ra rb) = N3.S (N3.mulF ra rb).2 from by rw [o2]; rfl]; exact q
  · intro V hV
    have q := mul_s' ha.1 hc.1 V hV
    rw [show qE (mulQ ra rc) = 0 from by rw [o5]; rfl] at q; exact q
  · intro V hV
    have q := add_sQ f5 f4 V hV
    rw [show nQ (mulQ rb rc) = N3.S (N3.mulF rb rc).1 from by rw [o4]; rfl, show dQ (mulQ rb rc) = N3.S (N3.mulF rb rc).2 from by rw [o4]; rfl, show nQ (mulQ ra rc) = N3.S (N3.mulF ra rc).1 from by rw [o5]; rfl, show dQ (mulQ ra rc) = N3.S (N3.mulF ra rc).2 from by rw [o5]; rfl]; exact q
  · exact fun V hV => mul_o h0 hc.1 V hV
  · exact fun V hV => sub_o h0 hb.1 V hV
  · exact fun V hV => mul_o h3 hb.1 V hV
  · rcases hs with rfl | ⟨q1, q2⟩
    · rcases qE_or (addQ ra rb) with e | e
      · exact .inl ⟨e, rfl⟩
      · exact .inr (.inr ⟨e, rfl⟩)
    · have e : qE (addQ ra rb) = 0 := by rw [show addQ ra rb = some (N3.addF ra rb) from addQ_ok (a := 3) (b := 3) q1.2.1 q1.2.2 q2.2.1 q2.2.2 (by decide)]; rfl
      cases lng
      · exact .inr (.inl ⟨e, rfl⟩)
      · exact .inl ⟨e, rfl⟩
  · cases hP : addQ ra rb with
    | none => exact .inl rfl
    | some t =>
      obtain ⟨rfl, ft⟩ := addQ_fit ha.1 hb.1 hP
      refine .inr ⟨rfl, tested fun x y hx hy => ?_⟩
      obtain ⟨rfl, -⟩ := addQ_fit ft hc.1 hx
      obtain ⟨rfl, -⟩ := addQ_fit ha.1 f3 hy
      exact N3.add_assoc' la lb lc
  · refine tested fun x y hx hy => ?_
    obtain ⟨rfl, -⟩ := mulQ_fit ha.1 f4 hx
    obtain ⟨rfl, -⟩ := mulQ_fit f2 hc.1 hy
    exact (N3.mul_assoc' la lb lc).symm
  · cases hP : addQ ra rb with
    | none => exact .inl rfl
    | some t =>
      obtain ⟨rfl, ft⟩ := addQ_fit ha.1 hb.1 hP
      refine .inr ⟨rfl, tested fun x y hx hy => ?_⟩
      obtain ⟨rfl, -⟩ := addQ_fit f5 f4 hx
      obtain ⟨rfl, -⟩ := mulQ_fit ft hc.1 hy
      exact N3.distrib' la lb lc
  · cases hP : addQ ra rb with
    | none => exact .inl rfl
    | some t =>
      obtain ⟨rfl, ft⟩ := addQ_fit ha.1 hb.1 hP
      refine .inr ⟨rfl, ?_⟩
      cases hS : subQ (N3.addF ra rb) rb with
      | none => left; show qE (subQ (N3.addF ra rb) rb) = 40; rw [hS]; rfl
      | some x =>
        obtain ⟨rfl, -⟩ := subQ_fit ft hb.1 hS
        rw [N3.sub_add la lb] at hS
        refine .inr ⟨?_, ?_, ?_⟩
        · show qE (subQ (N3.addF ra rb) rb) = 0; rw [hS]; rfl
        · show nQ (subQ (N3.addF ra rb) rb) = _; rw [hS]; rfl
        · show dQ (subQ (N3.addF ra rb) rb) = _; rw [hS]; rfl
  · cases hP : divQ ra rb with
    | none => exact .inl rfl
    | some t =>
      obtain ⟨hb0, rfl, ft⟩ := divQ_fit ha.1 hP
      refine .inr ⟨rfl, ?_⟩
      cases hS : mulQ (N3.divF ra rb) rb with
      | none => left; show qE (mulQ (N3.divF ra rb) rb) = 40; rw [hS]; rfl
      | some x =>
        obtain ⟨rfl, -⟩ := mulQ_fit ft hb.1 hS
        rw [N3.div_mul la lb hb0] at hS
        refine .inr ⟨?_, ?_, ?_⟩
        · show qE (mulQ (N3.divF ra rb) rb) = 0; rw [hS]; rfl
        · show nQ (mulQ (N3.divF ra rb) rb) = _; rw [hS]; rfl
        · show dQ (mulQ (N3.divF ra rb) rb) = _; rw [hS]; rfl
theorem bytes_same19 (s : ByteArray) : (s.toList == s.toList) = true := beq_self_eq_true _
theorem small_num19 (x y : Int) : (smallF x y).1.natAbs < 10 ^ 3 ∧ (smallF x y).2.natAbs < 10 ^ 3 := by
  have h := small_bd x y
  have q := mk_natAbs (n := pickN x 1999 - 999) (d := 1 + pickN y 60) (by omega)
  unfold smallF
  rw [show (10 : Nat) ^ 3 = 1000 from rfl]
  omega
set_option maxRecDepth 100000 in
set_option maxHeartbeats 16000000 in
theorem law_field4 (x0 x1 x2 x3 x4 x5 x6 x7 x8 x9 : Int) (lng : Bool) (w : World) (he : EnvR w) (m0 : -9223372036854775808 ≤ x0 ∧ x0 ≤ 9223372036854775807) (m1 : -9223372036854775808 ≤ x1 ∧ x1 ≤ 9223372036854775807) (m2 : -9223372036854775808 ≤ x2 ∧ x2 ≤ 9223372036854775807) (m3 : -9223372036854775808 ≤ x3 ∧ x3 ≤ 9223372036854775807) (m4 : -9223372036854775808 ≤ x4 ∧ x4 ≤ 9223372036854775807) (m5 : -9223372036854775808 ≤ x5 ∧ x5 ≤ 9223372036854775807) (m6 : -9223372036854775808 ≤ x6 ∧ x6 ≤ 9223372036854775807) (m7 : -9223372036854775808 ≤ x7 ∧ x7 ≤ 9223372036854775807) (m8 : -9223372036854775808 ≤ x8 ∧ x8 ≤ 9223372036854775807) (m9 : -9223372036854775808 ≤ x9 ∧ x9 ≤ 9223372036854775807) :
    Calls Tryz.prog 19 #[.agg #[.int .i64 x0, .int .i64 x1, .int .i64 x2, .int .i64 x3], .agg #[.int .i64 x4, .int .i64 x5, .int .i64 x6, .int .i64 x7], .agg #[.int .i64 x8, .int .i64 x9], .bool lng] w fun e w' => e = .returned (.bool true) ∧ Below w.heap.size w w' := by
  have HE := Lib.hid he
  clear he
  have SM0 := Lib.hid (fun V => small22 x0 x1 V m0.1 m0.2 m1.1 m1.2)
  have tf0 := small_fitF x0 x1
  have tn0 := small_num19 x0 x1
  have SM1 := Lib.hid (fun V => small22 x4 x5 V m4.1 m4.2 m5.1 m5.2)
  have tf1 := small_fitF x4 x5
  have tn1 := small_num19 x4 x5
  have SM2 := Lib.hid (fun V => small22 x8 x9 V m8.1 m8.2 m9.1 m9.2)
  have tf2 := small_fitF x8 x9
  have tn2 := small_num19 x8 x9
  have LG0 := Lib.hid (fun V => long21 x0 x1 x2 x3 V m0.1 m0.2 m1.1 m1.2 m2.1 m2.2 m3.1 m3.2)
  have LG1 := Lib.hid (fun V => long21 x4 x5 x6 x7 V m4.1 m4.2 m5.1 m5.2 m6.1 m6.2 m7.1 m7.2)
  clear m0 m1 m2 m3 m4 m5 m6 m7 m8 m9
  have BG0 : Big 3 (smallF x0 x1) := ⟨tf0, tn0.1, tn0.2⟩
  clear tf0 tn0
  generalize smallF x0 x1 = q0 at *
  have BG1 : Big 3 (smallF x4 x5) := ⟨tf1, tn1.1, tn1.2⟩
  clear tf1 tn1
  generalize smallF x4 x5 = q1 at *
  have BG2 : Big 3 (smallF x8 x9) := ⟨tf2, tn2.1, tn2.2⟩
  clear tf2 tn2
  generalize smallF x8 x9 = q2 at *
  obtain ⟨W0, hW0⟩ : ∃ W, ((w.alloc (.cells #[.int .i64 x0, .int .i64 x1, .int .i64 x2, .int .i64 x3] 22)).alloc (.cells #[.int .i64 x4, .int .i64 x5, .int .i64 x6, .int .i64 x7] 22)).alloc (.cells #[.int .i64 x8, .int .i64 x9] 23) = W := ⟨_, rfl⟩
  have b0 : BlkT W0 w.heap.size #[.int .i64 x0, .int .i64 x1, .int .i64 x2, .int .i64 x3] 22 := hW0 ▸ ((BlkT.newAt w _ _ rfl).alloc _).alloc _
  have b1 : BlkT W0 (w.heap.size + 1) #[.int .i64 x4, .int .i64 x5, .int .i64 x6, .int .i64 x7] 22 := hW0 ▸ (BlkT.newAt _ _ _ (by simp)).alloc _
  have b2 : BlkT W0 (w.heap.size + 1 + 1) #[.int .i64 x8, .int .i64 x9] 23 := hW0 ▸ BlkT.newAt _ _ _ (by simp)
  have hBw0 : Below w.heap.size w W0 := hW0 ▸ (((Below.refl _ _).alloc (Nat.le_refl _) _).alloc (by simp) _).alloc (by simp; omega) _
  have same := bytes_same19
  go_enter Tryz.func19, Tryz.ntmps19
  go_wp2_with (simp only [hW0])
  refine (sane04 _ (HE.out.below hBw0)).mono ?_
  rintro r V1 ⟨rfl, hb1⟩
  have hB1 := hBw0.trans (hb1.mono hBw0.size)
  have b0 := BlkT.keep b0 hb1
  have b1 := BlkT.keep b1 hb1
  have b2 := BlkT.keep b2 hb1
  have b0c0 := b0.cell 0
  have b0c1 := b0.cell 1
  simp only [List.getElem?_toArray, List.getElem?_cons_succ, List.getElem?_cons_zero] at b0c0 b0c1
  go_wp2_with fail
  refine (SM0.out _).mono ?_
  rintro r V2 ⟨rfl, hb2⟩
  have hB2 := hB1.trans (hb2.mono hB1.size)
  clear b0c0 b0c1
  have b0 := BlkT.keep b0 hb2
  have b1 := BlkT.keep b1 hb2
  have b2 := BlkT.keep b2 hb2
  dsimp only [strR]
  go_upto_region 3 with (fail)
  have lb0k10 := Lib.hid b0.lt
  have lb1k10 := Lib.hid b1.lt
  have lb2k10 := Lib.hid b2.lt
  generalize hW2 : World.alloc V2 _ = W2
  have hw2 : Below V2.heap.size V2 W2 := hW2 ▸ (Below.refl _ _).alloc (Nat.le_refl _) _
  have hBw2 := hB2.trans (hw2.mono hB2.size)
  have b0 := BlkT.keep b0 hw2
  have b1 := BlkT.keep b1 hw2
  have b2 := BlkT.keep b2 hw2
  have k10 : BlkT W2 V2.heap.size #[(.string (N3.S q0.1)), (.string (N3.S q0.2))] 26 := hW2 ▸ BlkT.newAt _ _ _ rfl
  clear hW2
  have b1c0 := b1.cell 0
  have b1c1 := b1.cell 1
  simp only [List.getElem?_toArray, List.getElem?_cons_succ, List.getElem?_cons_zero] at b1c0 b1c1
  go_wp2_with fail
  refine (SM1.out _).mono ?_
  rintro r V3 ⟨rfl, hb3⟩
  have hB3 := hBw2.trans (hb3.mono hBw2.size)
  clear b1c0 b1c1
  have b0 := BlkT.keep b0 hb3
  have b1 := BlkT.keep b1 hb3
  have b2 := BlkT.keep b2 hb3
  have k10 := BlkT.keep k10 hb3
  dsimp only [strR]
  go_upto_region 4 with (fail)
  have lb0k11 := Lib.hid b0.lt
  have lb1k11 := Lib.hid b1.lt
  have lb2k11 := Lib.hid b2.lt
  have lk10k11 := Lib.hid k10.lt
  generalize hW3 : World.alloc V3 _ = W3
  have hw3 : Below V3.heap.size V3 W3 := hW3 ▸ (Below.refl _ _).alloc (Nat.le_refl _) _
  have hBw3 := hB3.trans (hw3.mono hB3.size)
  have b0 := BlkT.keep b0 hw3
  have b1 := BlkT.keep b1 hw3
  have b2 := BlkT.keep b2 hw3
  have k10 := BlkT.keep k10 hw3
  have k11 : BlkT W3 V3.heap.size #[(.string (N3.S q1.1)), (.string (N3.S q1.2))] 26 := hW3 ▸ BlkT.newAt _ _ _ rfl
  clear hW3
  have b2c0 := b2.cell 0
  have b2c1 := b2.cell 1
  simp only [List.getElem?_toArray, List.getElem?_cons_succ, List.getElem?_cons_zero] at b2c0 b2c1
  go_wp2_with fail
  refine (SM2.out _).mono ?_
  rintro r V4 ⟨rfl, hb4⟩
  have hB4 := hBw3.trans (hb4.mono hBw3.size)
  clear b2c0 b2c1
  have b0 := BlkT.keep b0 hb4
  have b1 := BlkT.keep b1 hb4
  have b2 := BlkT.keep b2 hb4
  have k10 := BlkT.keep k10 hb4
  have k11 := BlkT.keep k11 hb4
  dsimp only [strR]
  go_upto_region 5 with (fail)
  have lb0k12 := Lib.hid b0.lt
  have lb1k12 := Lib.hid b1.lt
  have lk10k12 := Lib.hid k10.lt
  have lk11k12 := Lib.hid k11.lt
  generalize hW4 : World.alloc V4 _ = W4
  have hw4 : Below V4.heap.size V4 W4 := hW4 ▸ (Below.refl _ _).alloc (Nat.le_refl _) _
  have hBw4 := hB4.trans (hw4.mono hB4.size)
  have b0 := BlkT.keep b0 hw4
  have b1 := BlkT.keep b1 hw4
  have k10 := BlkT.keep k10 hw4
  have k11 := BlkT.keep k11 hw4
  have k12 : BlkT W4 V4.heap.size #[(.string (N3.S q2.1)), (.string (N3.S q2.2))] 26 := hW4 ▸ BlkT.newAt _ _ _ rfl
  clear hW4
  go_upto_if 52 with (fail)
  go_cut [] from 53 to 56 (fun wx => ∃ ra rb : Int × Int, Big 100 ra ∧ Big 100 rb ∧ (lng = true ∨ (Big 3 ra ∧ Big 3 rb)) ∧ Below w.heap.size w wx ∧ BlkT wx V2.heap.size #[.string (N3.S ra.1), .string (N3.S ra.2)] 26 ∧ BlkT wx V3.heap.size #[.string (N3.S rb.1), .string (N3.S rb.2)] 26 ∧ BlkT wx V4.heap.size #[.string (N3.S q2.1), .string (N3.S q2.2)] 26)
  case first =>
    cases lng with
    | false =>
      go_wp2_with fail
      go_meet
      exact ⟨q0, q1, BG0.up (by decide), BG1.up (by decide), .inr ⟨BG0, BG1⟩, hBw4, k10, k11, k12⟩
    | true =>
      have b0c0 := b0.cell 0
      have b0c1 := b0.cell 1
      have b0c2 := b0.cell 2
      have b0c3 := b0.cell 3
      simp only [List.getElem?_toArray, List.getElem?_cons_succ, List.getElem?_cons_zero] at b0c0 b0c1 b0c2 b0c3
      go_wp2_with fail
      refine (LG0.out _).mono ?_
      rintro r V5 ⟨la, rfl, laf, lan, lad, hb5⟩
      have hB5 := hBw4.trans (hb5.mono hBw4.size)
      clear b0c0 b0c1 b0c2 b0c3
      have b0 := BlkT.keep b0 hb5
      have b1 := BlkT.keep b1 hb5
      have k10 := BlkT.keep k10 hb5
      have k11 := BlkT.keep k11 hb5
      have k12 := BlkT.keep k12 hb5
      dsimp only [strR]
      have k10c0 := k10.cell 0
      have k10c1 := k10.cell 1
      simp only [List.getElem?_toArray, List.getElem?_cons_succ, List.getElem?_cons_zero] at k10c0 k10c1
      have k10f0 := k10.frozen 0
      have k10f1 := k10.frozen 1
      go_upto_region 7 with (fail)
      clear k10c0 k10c1 k10f0 k10f1
      have b0 : BlkT ((V5.setCell ⟨V2.heap.size, 0, none⟩ (.string (N3.S la.1))).setCell ⟨V2.heap.size, 1, none⟩ (.string (N3.S la.2))) (w.heap.size) #[(.int .i64 x0), (.int .i64 x1), (.int .i64 x2), (.int .i64 x3)] 22 := ((b0.other (a := ⟨V2.heap.size, 0, none⟩) (.string (N3.S la.1)) (Nat.ne_of_lt lb0k10.out)).other (a := ⟨V2.heap.size, 1, none⟩) (.string (N3.S la.2)) (Nat.ne_of_lt lb0k10.out))
      have b1 : BlkT ((V5.setCell ⟨V2.heap.size, 0, none⟩ (.string (N3.S la.1))).setCell ⟨V2.heap.size, 1, none⟩ (.string (N3.S la.2))) (w.heap.size + 1) #[(.int .i64 x4), (.int .i64 x5), (.int .i64 x6), (.int .i64 x7)] 22 := ((b1.other (a := ⟨V2.heap.size, 0, none⟩) (.string (N3.S la.1)) (Nat.ne_of_lt lb1k10.out)).other (a := ⟨V2.heap.size, 1, none⟩) (.string (N3.S la.2)) (Nat.ne_of_lt lb1k10.out))
      have k10 : BlkT ((V5.setCell ⟨V2.heap.size, 0, none⟩ (.string (N3.S la.1))).setCell ⟨V2.heap.size, 1, none⟩ (.string (N3.S la.2))) (V2.heap.size) #[(.string (N3.S la.1)), (.string (N3.S la.2))] 26 := ((k10.set 0 (.string (N3.S la.1))).set 1 (.string (N3.S la.2)))
      have k11 : BlkT ((V5.setCell ⟨V2.heap.size, 0, none⟩ (.string (N3.S la.1))).setCell ⟨V2.heap.size, 1, none⟩ (.string (N3.S la.2))) (V3.heap.size) #[(.string (N3.S q1.1)), (.string (N3.S q1.2))] 26 := ((k11.other (a := ⟨V2.heap.size, 0, none⟩) (.string (N3.S la.1)) (Nat.ne_of_gt lk10k11.out)).other (a := ⟨V2.heap.size, 1, none⟩) (.string (N3.S la.2)) (Nat.ne_of_gt lk10k11.out))
      have k12 : BlkT ((V5.setCell ⟨V2.heap.size, 0, none⟩ (.string (N3.S la.1))).setCell ⟨V2.heap.size, 1, none⟩ (.string (N3.S la.2))) (V4.heap.size) #[(.string (N3.S q2.1)), (.string (N3.S q2.2))] 26 := ((k12.other (a := ⟨V2.heap.size, 0, none⟩) (.string (N3.S la.1)) (Nat.ne_of_gt lk10k12.out)).other (a := ⟨V2.heap.size, 1, none⟩) (.string (N3.S la.2)) (Nat.ne_of_gt lk10k12.out))
      have hBu5 : Below w.heap.size w ((V5.setCell ⟨V2.heap.size, 0, none⟩ (.string (N3.S la.1))).setCell ⟨V2.heap.size, 1, none⟩ (.string (N3.S la.2))) := ((hB5.setCell (by have := hB2.size; dsimp only; omega) _).setCell (by have := hB2.size; dsimp only; omega) _)
      generalize ((V5.setCell ⟨V2.heap.size, 0, none⟩ (.string (N3.S la.1))).setCell ⟨V2.heap.size, 1, none⟩ (.string (N3.S la.2))) = U5 at *
      have b1c0 := b1.cell 0
      have b1c1 := b1.cell 1
      have b1c2 := b1.cell 2
      have b1c3 := b1.cell 3
      simp only [List.getElem?_toArray, List.getElem?_cons_succ, List.getElem?_cons_zero] at b1c0 b1c1 b1c2 b1c3
      go_wp2_with fail
      refine (LG1.out _).mono ?_
      rintro r V6 ⟨lb, rfl, lbf, lbn, lbd, hb6⟩
      have hB6 := hBu5.trans (hb6.mono hBu5.size)
      clear b1c0 b1c1 b1c2 b1c3
      have b0 := BlkT.keep b0 hb6
      have b1 := BlkT.keep b1 hb6
      have k10 := BlkT.keep k10 hb6
      have k11 := BlkT.keep k11 hb6
      have k12 := BlkT.keep k12 hb6
      dsimp only [strR]
      have k11c0 := k11.cell 0
      have k11c1 := k11.cell 1
      simp only [List.getElem?_toArray, List.getElem?_cons_succ, List.getElem?_cons_zero] at k11c0 k11c1
      have k11f0 := k11.frozen 0
      have k11f1 := k11.frozen 1
      have HK := Lib.hid (And.intro k10 (And.intro k11 k12))
      clear k10 k11 k12 b0 b1
      go_wp2_with fail
      go_meet
      refine ⟨la, lb, ⟨laf, lan, lad⟩, ⟨lbf, lbn, lbd⟩, .inl (by first | rfl | trivial), ?_, ?_, ?_, ?_⟩
      · exact (hB6.setCell (by have := hB3.size; dsimp only; omega) _).setCell (by have := hB3.size; dsimp only; omega) _
      · exact (HK.out.1.other (a := ⟨V3.heap.size, 0, none⟩) _ (Nat.ne_of_lt lk10k11.out)).other (a := ⟨V3.heap.size, 1, none⟩) _ (Nat.ne_of_lt lk10k11.out)
      · exact (HK.out.2.1.set 0 _).set 1 _
      · exact (HK.out.2.2.other (a := ⟨V3.heap.size, 0, none⟩) _ (Nat.ne_of_gt lk11k12.out)).other (a := ⟨V3.heap.size, 1, none⟩) _ (Nat.ne_of_gt lk11k12.out)
  case rest =>
    rename World => V20
    obtain ⟨ra, rb, hra, hrb, hrs, hB20, m10, m11, m12⟩ := hcut
    clear k10 k11 k12 b0 b1 SM0 SM1 SM2 LG0 LG1 BG0 BG1
    have k10 := m10; have k11 := m11; have k12 := m12
    clear m10 m11 m12
    obtain ⟨r0n, r0d, r1n, r1d, r2n, r2d, r3n, r3d, s1n, s1d, s3n, s3d, u0n, u0d, u1n, u1d, u2n, u2d, u3n, u3d, t0n, t0d, t1n, t1d, t2n, t2d, t3n, t3d, on, od, tn, td, ln, ld, acn, acd, sn, sd, wn, wd, kn, kd, gn, gd, e0, e1, e3, f1, f3, g1, g3, h0, h1, h2, h3, i, j, k, m, n, q, v, G⟩ := field_facts lng hra hrb BG2 hrs
    clear hra hrb BG2 hrs
    generalize N3.S ra.1 = an at *
    generalize N3.S ra.2 = ad at *
    generalize N3.S rb.1 = bn at *
    generalize N3.S rb.2 = bd at *
    generalize N3.S q2.1 = cn at *
    generalize N3.S q2.2 = cd at *
    have FO1 := Lib.hid G.FO1
    have FO2 := Lib.hid G.FO2
    have FO3 := Lib.hid G.FO3
    have FO4 := Lib.hid G.FO4
    have A1 := Lib.hid G.A1
    have M1 := Lib.hid G.M1
    have M2 := Lib.hid G.M2
    have M3 := Lib.hid G.M3
    have A2 := Lib.hid G.A2
    have M4 := Lib.hid G.M4
    have S1 := Lib.hid G.S1
    have M5 := Lib.hid G.M5
    have F0 := Lib.hid G.F0
    have F1 := Lib.hid G.F1
    have F2 := Lib.hid G.F2
    have F3 := Lib.hid G.F3
    have F4 := Lib.hid G.F4
    have F5 := Lib.hid G.F5
    clear G
    go_upto_region 8 with (fail)
    have k10c0 := k10.cell 0
    have k10c1 := k10.cell 1
    have k11c0 := k11.cell 0
    have k11c1 := k11.cell 1
    simp only [List.getElem?_toArray, List.getElem?_cons_succ, List.getElem?_cons_zero] at k10c0 k10c1 k11c0 k11c1
    go_wp2_with fail
    refine (FO1.out _ (HE.out.below hB20)).mono ?_
    rintro r V21 ⟨rfl, hb21⟩
    have hB21 := hB20.trans (hb21.mono hB20.size)
    clear k10c0 k10c1 k11c0 k11c1
    have k10 := BlkT.keep k10 hb21
    have k11 := BlkT.keep k11 hb21
    have k12 := BlkT.keep k12 hb21
    go_upto_region 9 with (fail)
    generalize hW21 : World.alloc (World.alloc V21 _) _ = W21
    have hw21 : Below V21.heap.size V21 W21 := hW21 ▸ ((Below.refl _ _).alloc (Nat.le_refl _) _).alloc (by simp) _
    have hBw21 := hB21.trans (hw21.mono hB21.size)
    have k10 := BlkT.keep k10 hw21
    have k11 := BlkT.keep k11 hw21
    have k12 := BlkT.keep k12 hw21
    have r13 : BlkT W21 (V21.heap.size) #[(.string r0n), (.string r0d), (.string r1n), (.string r1d), (.string r2n), (.string r2d), (.string r3n), (.string r3d)] 68 := hW21 ▸ (BlkT.newAt _ _ _ rfl).alloc _
    have r14 : BlkT W21 (V21.heap.size + 1) #[(.int .i64 e0), (.int .i64 e1), (.int .i64 0), (.int .i64 e3)] 69 := hW21 ▸ BlkT.newAt _ _ _ (by simp)
    clear hW21
    have k11c0 := k11.cell 0
    have k11c1 := k11.cell 1
    have k10c0 := k10.cell 0
    have k10c1 := k10.cell 1
    simp only [List.getElem?_toArray, List.getElem?_cons_succ, List.getElem?_cons_zero] at k11c0 k11c1 k10c0 k10c1
    go_wp2_with fail
    refine (FO2.out _ (HE.out.below hBw21)).mono ?_
    rintro r V22 ⟨rfl, hb22⟩
    have hB22 := hBw21.trans (hb22.mono hBw21.size)
    clear k11c0 k11c1 k10c0 k10c1
    have k10 := BlkT.keep k10 hb22
    have k11 := BlkT.keep k11 hb22
    have k12 := BlkT.keep k12 hb22
    have r13 := BlkT.keep r13 hb22
    have r14 := BlkT.keep r14 hb22
    go_upto_region 10 with (fail)
    generalize hW22 : World.alloc (World.alloc V22 _) _ = W22
    have hw22 : Below V22.heap.size V22 W22 := hW22 ▸ ((Below.refl _ _).alloc (Nat.le_refl _) _).alloc (by simp) _
    have hBw22 := hB22.trans (hw22.mono hB22.size)
    have k10 := BlkT.keep k10 hw22
    have k11 := BlkT.keep k11 hw22
    have k12 := BlkT.keep k12 hw22
    have r13 := BlkT.keep r13 hw22
    have r14 := BlkT.keep r14 hw22
    have r15 : BlkT W22 (V22.heap.size) #[(.string r0n), (.string r0d), (.string s1n), (.string s1d), (.string r2n), (.string r2d), (.string s3n), (.string s3d)] 68 := hW22 ▸ (BlkT.newAt _ _ _ rfl).alloc _
    have r16 : BlkT W22 (V22.heap.size + 1) #[(.int .i64 e0), (.int .i64 f1), (.int .i64 0), (.int .i64 f3)] 69 := hW22 ▸ BlkT.newAt _ _ _ (by simp)
    clear hW22
    go_cut [108] from 69 to 108 (fun c wx => c = .bool false ∧ W22 = wx)
    case first =>
      have r13c0 := r13.cell 0
      have r13c1 := r13.cell 1
      have r13c4 := r13.cell 4
      have r13c5 := r13.cell 5
      have r15c0 := r15.cell 0
      have r15c1 := r15.cell 1
      have r15c4 := r15.cell 4
      have r15c5 := r15.cell 5
      have r14c0 := r14.cell 0
      have r14c2 := r14.cell 2
      have r16c0 := r16.cell 0
      have r16c2 := r16.cell 2
      simp only [List.getElem?_toArray, List.getElem?_cons_succ, List.getElem?_cons_zero] at r13c0 r13c1 r13c4 r13c5 r15c0 r15c1 r15c4 r15c5 r14c0 r14c2 r16c0 r16c2
      have f0 := F0.out
      rcases f0 with ⟨rfl, rfl⟩ | ⟨rfl, rfl⟩ | ⟨rfl, rfl⟩
      all_goals (
        go_wp2_with fail
        go_meet
        exact ⟨rfl, rfl⟩)
    case rest =>
      obtain ⟨rfl, rfl⟩ := hcut
      go_upto_region 12 with (fail)
      have k11c0 := k11.cell 0
      have k11c1 := k11.cell 1
      have k12c0 := k12.cell 0
      have k12c1 := k12.cell 1
      simp only [List.getElem?_toArray, List.getElem?_cons_succ, List.getElem?_cons_zero] at k11c0 k11c1 k12c0 k12c1
      go_wp2_with fail
      refine (FO3.out _ (HE.out.below hBw22)).mono ?_
      rintro r V23 ⟨rfl, hb23⟩
      have hB23 := hBw22.trans (hb23.mono hBw22.size)
      clear k11c0 k11c1 k12c0 k12c1
      have k10 := BlkT.keep k10 hb23
      have k11 := BlkT.keep k11 hb23
      have k12 := BlkT.keep k12 hb23
      have r13 := BlkT.keep r13 hb23
      have r14 := BlkT.keep r14 hb23
      go_upto_region 13 with (fail)
      generalize hW23 : World.alloc (World.alloc V23 _) _ = W23
      have hw23 : Below V23.heap.size V23 W23 := hW23 ▸ ((Below.refl _ _).alloc (Nat.le_refl _) _).alloc (by simp) _
      have hBw23 := hB23.trans (hw23.mono hB23.size)
      have k10 := BlkT.keep k10 hw23
      have k11 := BlkT.keep k11 hw23
      have k12 := BlkT.keep k12 hw23
      have r13 := BlkT.keep r13 hw23
      have r14 := BlkT.keep r14 hw23
      have r17 : BlkT W23 (V23.heap.size) #[(.string u0n), (.string u0d), (.string u1n), (.string u1d), (.string u2n), (.string u2d), (.string u3n), (.string u3d)] 68 := hW23 ▸ (BlkT.newAt _ _ _ rfl).alloc _
      have r18 : BlkT W23 (V23.heap.size + 1) #[(.int .i64 0), (.int .i64 g1), (.int .i64 0), (.int .i64 g3)] 69 := hW23 ▸ BlkT.newAt _ _ _ (by simp)
      clear hW23
      have r13c0 := r13.cell 0
      have r13c1 := r13.cell 1
      have k12c0 := k12.cell 0
      have k12c1 := k12.cell 1
      simp only [List.getElem?_toArray, List.getElem?_cons_succ, List.getElem?_cons_zero] at r13c0 r13c1 k12c0 k12c1
      go_wp2_with fail
      refine (FO4.out _ (HE.out.below hBw23)).mono ?_
      rintro r V24 ⟨rfl, hb24⟩
      have hB24 := hBw23.trans (hb24.mono hBw23.size)
      clear r13c0 r13c1 k12c0 k12c1
      have k10 := BlkT.keep k10 hb24
      have k11 := BlkT.keep k11 hb24
      have k12 := BlkT.keep k12 hb24
      have r13 := BlkT.keep r13 hb24
      have r14 := BlkT.keep r14 hb24
      have r17 := BlkT.keep r17 hb24
      have r18 := BlkT.keep r18 hb24
      go_upto_region 14 with (fail)
      generalize hW24 : World.alloc (World.alloc V24 _) _ = W24
      have hw24 : Below V24.heap.size V24 W24 := hW24 ▸ ((Below.refl _ _).alloc (Nat.le_refl _) _).alloc (by simp) _
      have hBw24 := hB24.trans (hw24.mono hB24.size)
      have k10 := BlkT.keep k10 hw24
      have k11 := BlkT.keep k11 hw24
      have k12 := BlkT.keep k12 hw24
      have r13 := BlkT.keep r13 hw24
      have r14 := BlkT.keep r14 hw24
      have r17 := BlkT.keep r17 hw24
      have r18 := BlkT.keep r18 hw24
      have r19 : BlkT W24 (V24.heap.size) #[(.string t0n), (.string t0d), (.string t1n), (.string t1d), (.string t2n), (.string t2d), (.string t3n), (.string t3d)] 68 := hW24 ▸ (BlkT.newAt _ _ _ rfl).alloc _
      have r20 : BlkT W24 (V24.heap.size + 1) #[(.int .i64 h0), (.int .i64 h1), (.int .i64 h2), (.int .i64 h3)] 69 := hW24 ▸ BlkT.newAt _ _ _ (by simp)
      clear hW24
      have k10c0 := k10.cell 0
      have k10c1 := k10.cell 1
      have r17c0 := r17.cell 0
      have r17c1 := r17.cell 1
      simp only [List.getElem?_toArray, List.getElem?_cons_succ, List.getElem?_cons_zero] at k10c0 k10c1 r17c0 r17c1
      go_wp2_with fail
      refine (A1.out _ (HE.out.below hBw24)).mono ?_
      rintro r V25 ⟨rfl, hb25⟩
      have hB25 := hBw24.trans (hb25.mono hBw24.size)
      clear k10c0 k10c1 r17c0 r17c1
      have k10 := BlkT.keep k10 hb25
      have k11 := BlkT.keep k11 hb25
      have k12 := BlkT.keep k12 hb25
      have r13 := BlkT.keep r13 hb25
      have r14 := BlkT.keep r14 hb25
      have r17 := BlkT.keep r17 hb25
      have r18 := BlkT.keep r18 hb25
      have r19 := BlkT.keep r19 hb25
      have r20 := BlkT.keep r20 hb25
      go_upto_region 15 with (fail)
      have lk10k21 := Lib.hid k10.lt
      have lk11k21 := Lib.hid k11.lt
      have lk12k21 := Lib.hid k12.lt
      have lr13k21 := Lib.hid r13.lt
      have lr14k21 := Lib.hid r14.lt
      have lr17k21 := Lib.hid r17.lt
      have lr18k21 := Lib.hid r18.lt
      have lr19k21 := Lib.hid r19.lt
      have lr20k21 := Lib.hid r20.lt
      generalize hW25 : World.alloc V25 _ = W25
      have hw25 : Below V25.heap.size V25 W25 := hW25 ▸ (Below.refl _ _).alloc (Nat.le_refl _) _
      have hBw25 := hB25.trans (hw25.mono hB25.size)
      have k10 := BlkT.keep k10 hw25
      have k11 := BlkT.keep k11 hw25
      have k12 := BlkT.keep k12 hw25
      have r13 := BlkT.keep r13 hw25
      have r14 := BlkT.keep r14 hw25
      have r17 := BlkT.keep r17 hw25
      have r18 := BlkT.keep r18 hw25
      have r19 := BlkT.keep r19 hw25
      have r20 := BlkT.keep r20 hw25
      have k21 : BlkT W25 V25.heap.size #[(.string on), (.string od)] 26 := hW25 ▸ BlkT.newAt _ _ _ rfl
      clear hW25
      go_cut [151] from 129 to 151 (fun c wx => c = .bool false ∧ W25 = wx)
      case first =>
        have r14c0 := r14.cell 0
        have r18c0 := r18.cell 0
        have r20c0 := r20.cell 0
        have r19c0 := r19.cell 0
        have r19c1 := r19.cell 1
        have k21c0 := k21.cell 0
        have k21c1 := k21.cell 1
        simp only [List.getElem?_toArray, List.getElem?_cons_succ, List.getElem?_cons_zero] at r14c0 r18c0 r20c0 r19c0 r19c1 k21c0 k21c1
        have f := F1.out
        rcases f with rfl | ⟨rfl, rfl | ⟨rfl, rfl | ⟨rfl, rfl, rfl⟩⟩⟩
        all_goals (
          go_wp2_with fail
          go_meet
          exact ⟨rfl, rfl⟩)
      case rest =>
        obtain ⟨rfl, rfl⟩ := hcut
        go_upto_region 17 with (fail)
        have k10c0 := k10.cell 0
        have k10c1 := k10.cell 1
        have r17c4 := r17.cell 4
        have r17c5 := r17.cell 5
        simp only [List.getElem?_toArray, List.getElem?_cons_succ, List.getElem?_cons_zero] at k10c0 k10c1 r17c4 r17c5
        go_wp2_with fail
        refine (M1.out _ (HE.out.below hBw25)).mono ?_
        rintro r V26 ⟨rfl, hb26⟩
        have hB26 := hBw25.trans (hb26.mono hBw25.size)
        clear k10c0 k10c1 r17c4 r17c5
        have k10 := BlkT.keep k10 hb26
        have k11 := BlkT.keep k11 hb26
        have k12 := BlkT.keep k12 hb26
        have r13 := BlkT.keep r13 hb26
        have r14 := BlkT.keep r14 hb26
        have r17 := BlkT.keep r17 hb26
        have r18 := BlkT.keep r18 hb26
        go_upto_region 18 with (fail)
        have lk10k23 := Lib.hid k10.lt
        have lk11k23 := Lib.hid k11.lt
        have lk12k23 := Lib.hid k12.lt
        have lr13k23 := Lib.hid r13.lt
        have lr14k23 := Lib.hid r14.lt
        have lr17k23 := Lib.hid r17.lt
        have lr18k23 := Lib.hid r18.lt
        generalize hW26 : World.alloc V26 _ = W26
        have hw26 : Below V26.heap.size V26 W26 := hW26 ▸ (Below.refl _ _).alloc (Nat.le_refl _) _
        have hBw26 := hB26.trans (hw26.mono hB26.size)
        have k10 := BlkT.keep k10 hw26
        have k11 := BlkT.keep k11 hw26
        have k12 := BlkT.keep k12 hw26
        have r13 := BlkT.keep r13 hw26
        have r14 := BlkT.keep r14 hw26
        have r17 := BlkT.keep r17 hw26
        have r18 := BlkT.keep r18 hw26
        have k23 : BlkT W26 V26.heap.size #[(.string tn), (.string td)] 26 := hW26 ▸ BlkT.newAt _ _ _ rfl
        clear hW26
        have r13c4 := r13.cell 4
        have r13c5 := r13.cell 5
        have k12c0 := k12.cell 0
        have k12c1 := k12.cell 1
        simp only [List.getElem?_toArray, List.getElem?_cons_succ, List.getElem?_cons_zero] at r13c4 r13c5 k12c0 k12c1
        go_wp2_with fail
        refine (M2.out _ (HE.out.below hBw26)).mono ?_
        rintro r V27 ⟨rfl, hb27⟩
        have hB27 := hBw26.trans (hb27.mono hBw26.size)
        clear r13c4 r13c5 k12c0 k12c1
        have k10 := BlkT.keep k10 hb27
        have k11 := BlkT.keep k11 hb27
        have k12 := BlkT.keep k12 hb27
        have r13 := BlkT.keep r13 hb27
        have r14 := BlkT.keep r14 hb27
        have r17 := BlkT.keep r17 hb27
        have r18 := BlkT.keep r18 hb27
        have k23 := BlkT.keep k23 hb27
        go_upto_region 19 with (fail)
        have lk10k25 := Lib.hid k10.lt
        have lk11k25 := Lib.hid k11.lt
        have lk12k25 := Lib.hid k12.lt
        have lr13k25 := Lib.hid r13.lt
        have lr14k25 := Lib.hid r14.lt
        have lr17k25 := Lib.hid r17.lt
        have lr18k25 := Lib.hid r18.lt
        have lk23k25 := Lib.hid k23.lt
        generalize hW27 : World.alloc V27 _ = W27
        have hw27 : Below V27.heap.size V27 W27 := hW27 ▸ (Below.refl _ _).alloc (Nat.le_refl _) _
        have hBw27 := hB27.trans (hw27.mono hB27.size)
        have k10 := BlkT.keep k10 hw27
        have k11 := BlkT.keep k11 hw27
        have k12 := BlkT.keep k12 hw27
        have r13 := BlkT.keep r13 hw27
        have r14 := BlkT.keep r14 hw27
        have r17 := BlkT.keep r17 hw27
        have r18 := BlkT.keep r18 hw27
        have k23 := BlkT.keep k23 hw27
        have k25 : BlkT W27 V27.heap.size #[(.string ln), (.string ld)] 26 := hW27 ▸ BlkT.newAt _ _ _ rfl
        clear hW27
        go_cut [186] from 166 to 186 (fun c wx => c = .bool false ∧ W27 = wx)
        case first =>
          have r14c2 := r14.cell 2
          have r18c2 := r18.cell 2
          have k23c0 := k23.cell 0
          have k23c1 := k23.cell 1
          have k25c0 := k25.cell 0
          have k25c1 := k25.cell 1
          simp only [List.getElem?_toArray, List.getElem?_cons_succ, List.getElem?_cons_zero] at r14c2 r18c2 k23c0 k23c1 k25c0 k25c1
          have f := F2.out
          rcases f with rfl | ⟨rfl, rfl | ⟨rfl, rfl, rfl⟩⟩
          all_goals (
            go_wp2_with fail
            go_meet
            exact ⟨rfl, rfl⟩)
        case rest =>
          obtain ⟨rfl, rfl⟩ := hcut
          go_upto_region 21 with (fail)
          have k10c0 := k10.cell 0
          have k10c1 := k10.cell 1
          have k12c0 := k12.cell 0
          have k12c1 := k12.cell 1
          simp only [List.getElem?_toArray, List.getElem?_cons_succ, List.getElem?_cons_zero] at k10c0 k10c1 k12c0 k12c1
          go_wp2_with fail
          refine (M3.out _ (HE.out.below hBw27)).mono ?_
          rintro r V28 ⟨rfl, hb28⟩
          have hB28 := hBw27.trans (hb28.mono hBw27.size)
          clear k10c0 k10c1 k12c0 k12c1
          have k10 := BlkT.keep k10 hb28
          have k11 := BlkT.keep k11 hb28
          have k12 := BlkT.keep k12 hb28
          have r13 := BlkT.keep r13 hb28
          have r14 := BlkT.keep r14 hb28
          have r17 := BlkT.keep r17 hb28
          have r18 := BlkT.keep r18 hb28
          go_upto_region 22 with (fail)
          have lk10k27 := Lib.hid k10.lt
          have lk11k27 := Lib.hid k11.lt
          have lk12k27 := Lib.hid k12.lt
          have lr13k27 := Lib.hid r13.lt
          have lr14k27 := Lib.hid r14.lt
          have lr17k27 := Lib.hid r17.lt
          have lr18k27 := Lib.hid r18.lt
          generalize hW28 : World.alloc V28 _ = W28
          have hw28 : Below V28.heap.size V28 W28 := hW28 ▸ (Below.refl _ _).alloc (Nat.le_refl _) _
          have hBw28 := hB28.trans (hw28.mono hB28.size)
          have k10 := BlkT.keep k10 hw28
          have k11 := BlkT.keep k11 hw28
          have k12 := BlkT.keep k12 hw28
          have r13 := BlkT.keep r13 hw28
          have r14 := BlkT.keep r14 hw28
          have r17 := BlkT.keep r17 hw28
          have r18 := BlkT.keep r18 hw28
          have k27 : BlkT W28 V28.heap.size #[(.string acn), (.string acd)] 26 := hW28 ▸ BlkT.newAt _ _ _ rfl
          clear hW28
          have k27c0 := k27.cell 0
          have k27c1 := k27.cell 1
          have r17c4 := r17.cell 4
          have r17c5 := r17.cell 5
          simp only [List.getElem?_toArray, List.getElem?_cons_succ, List.getElem?_cons_zero] at k27c0 k27c1 r17c4 r17c5
          go_wp2_with fail
          refine (A2.out _ (HE.out.below hBw28)).mono ?_
          rintro r V29 ⟨rfl, hb29⟩
          have hB29 := hBw28.trans (hb29.mono hBw28.size)
          clear k27c0 k27c1 r17c4 r17c5
          have k10 := BlkT.keep k10 hb29
          have k11 := BlkT.keep k11 hb29
          have k12 := BlkT.keep k12 hb29
          have r13 := BlkT.keep r13 hb29
          have r14 := BlkT.keep r14 hb29
          have r17 := BlkT.keep r17 hb29
          have r18 := BlkT.keep r18 hb29
          have k27 := BlkT.keep k27 hb29
          go_upto_region 23 with (fail)
          have lk10k29 := Lib.hid k10.lt
          have lk11k29 := Lib.hid k11.lt
          have lk12k29 := Lib.hid k12.lt
          have lr13k29 := Lib.hid r13.lt
          have lr14k29 := Lib.hid r14.lt
          have lr17k29 := Lib.hid r17.lt
          have lr18k29 := Lib.hid r18.lt
          have lk27k29 := Lib.hid k27.lt
          generalize hW29 : World.alloc V29 _ = W29
          have hw29 : Below V29.heap.size V29 W29 := hW29 ▸ (Below.refl _ _).alloc (Nat.le_refl _) _
          have hBw29 := hB29.trans (hw29.mono hB29.size)
          have k10 := BlkT.keep k10 hw29
          have k11 := BlkT.keep k11 hw29
          have k12 := BlkT.keep k12 hw29
          have r13 := BlkT.keep r13 hw29
          have r14 := BlkT.keep r14 hw29
          have r17 := BlkT.keep r17 hw29
          have r18 := BlkT.keep r18 hw29
          have k27 := BlkT.keep k27 hw29
          have k29 : BlkT W29 V29.heap.size #[(.string sn), (.string sd)] 26 := hW29 ▸ BlkT.newAt _ _ _ rfl
          clear hW29
          have r13c0 := r13.cell 0
          have r13c1 := r13.cell 1
          have k12c0 := k12.cell 0
          have k12c1 := k12.cell 1
          simp only [List.getElem?_toArray, List.getElem?_cons_succ, List.getElem?_cons_zero] at r13c0 r13c1 k12c0 k12c1
          go_wp2_with fail
          refine (M4.out _ (HE.out.below hBw29)).mono ?_
          rintro r V30 ⟨rfl, hb30⟩
          have hB30 := hBw29.trans (hb30.mono hBw29.size)
          clear r13c0 r13c1 k12c0 k12c1
          have k10 := BlkT.keep k10 hb30
          have k11 := BlkT.keep k11 hb30
          have k12 := BlkT.keep k12 hb30
          have r13 := BlkT.keep r13 hb30
          have r14 := BlkT.keep r14 hb30
          have r17 := BlkT.keep r17 hb30
          have r18 := BlkT.keep r18 hb30
          have k27 := BlkT.keep k27 hb30
          have k29 := BlkT.keep k29 hb30
          go_upto_region 24 with (fail)
          have lk10k31 := Lib.hid k10.lt
          have lk11k31 := Lib.hid k11.lt
          have lk12k31 := Lib.hid k12.lt
          have lr13k31 := Lib.hid r13.lt
          have lr14k31 := Lib.hid r14.lt
          have lr17k31 := Lib.hid r17.lt
          have lr18k31 := Lib.hid r18.lt
          have lk27k31 := Lib.hid k27.lt
          have lk29k31 := Lib.hid k29.lt
          generalize hW30 : World.alloc V30 _ = W30
          have hw30 : Below V30.heap.size V30 W30 := hW30 ▸ (Below.refl _ _).alloc (Nat.le_refl _) _
          have hBw30 := hB30.trans (hw30.mono hB30.size)
          have k10 := BlkT.keep k10 hw30
          have k11 := BlkT.keep k11 hw30
          have k12 := BlkT.keep k12 hw30
          have r13 := BlkT.keep r13 hw30
          have r14 := BlkT.keep r14 hw30
          have r17 := BlkT.keep r17 hw30
          have r18 := BlkT.keep r18 hw30
          have k27 := BlkT.keep k27 hw30
          have k29 := BlkT.keep k29 hw30
          have k31 : BlkT W30 V30.heap.size #[(.string wn), (.string wd)] 26 := hW30 ▸ BlkT.newAt _ _ _ rfl
          clear hW30
          go_cut [231] from 207 to 231 (fun c wx => c = .bool false ∧ W30 = wx)
          case first =>
            have r14c0 := r14.cell 0
            have r18c2 := r18.cell 2
            have k29c0 := k29.cell 0
            have k29c1 := k29.cell 1
            have k31c0 := k31.cell 0
            have k31c1 := k31.cell 1
            simp only [List.getElem?_toArray, List.getElem?_cons_succ, List.getElem?_cons_zero] at r14c0 r18c2 k29c0 k29c1 k31c0 k31c1
            have f := F3.out
            rcases f with rfl | ⟨rfl, rfl | ⟨rfl, rfl | ⟨rfl, rfl, rfl⟩⟩⟩
            all_goals (
              go_wp2_with fail
              go_meet
              exact ⟨rfl, rfl⟩)
          case rest =>
            obtain ⟨rfl, rfl⟩ := hcut
            go_upto_region 26 with (fail)
            have r13c0 := r13.cell 0
            have r13c1 := r13.cell 1
            have k11c0 := k11.cell 0
            have k11c1 := k11.cell 1
            simp only [List.getElem?_toArray, List.getElem?_cons_succ, List.getElem?_cons_zero] at r13c0 r13c1 k11c0 k11c1
            go_wp2_with fail
            refine (S1.out _ (HE.out.below hBw30)).mono ?_
            rintro r V31 ⟨rfl, hb31⟩
            have hB31 := hBw30.trans (hb31.mono hBw30.size)
            clear r13c0 r13c1 k11c0 k11c1
            have k10 := BlkT.keep k10 hb31
            have k11 := BlkT.keep k11 hb31
            have k12 := BlkT.keep k12 hb31
            have r13 := BlkT.keep r13 hb31
            have r14 := BlkT.keep r14 hb31
            have r17 := BlkT.keep r17 hb31
            have r18 := BlkT.keep r18 hb31
            go_upto_region 27 with (fail)
            have lk10k33 := Lib.hid k10.lt
            have lk11k33 := Lib.hid k11.lt
            have lk12k33 := Lib.hid k12.lt
            have lr13k33 := Lib.hid r13.lt
            have lr14k33 := Lib.hid r14.lt
            have lr17k33 := Lib.hid r17.lt
            have lr18k33 := Lib.hid r18.lt
            generalize hW31 : World.alloc V31 _ = W31
            have hw31 : Below V31.heap.size V31 W31 := hW31 ▸ (Below.refl _ _).alloc (Nat.le_refl _) _
            have hBw31 := hB31.trans (hw31.mono hB31.size)
            have k10 := BlkT.keep k10 hw31
            have k11 := BlkT.keep k11 hw31
            have k12 := BlkT.keep k12 hw31
            have r13 := BlkT.keep r13 hw31
            have r14 := BlkT.keep r14 hw31
            have r17 := BlkT.keep r17 hw31
            have r18 := BlkT.keep r18 hw31
            have k33 : BlkT W31 V31.heap.size #[(.string kn), (.string kd)] 26 := hW31 ▸ BlkT.newAt _ _ _ rfl
            clear hW31
            have r13c6 := r13.cell 6
            have r13c7 := r13.cell 7
            have k11c0 := k11.cell 0
            have k11c1 := k11.cell 1
            simp only [List.getElem?_toArray, List.getElem?_cons_succ, List.getElem?_cons_zero] at r13c6 r13c7 k11c0 k11c1
            go_wp2_with fail
            refine (M5.out _ (HE.out.below hBw31)).mono ?_
            rintro r V32 ⟨rfl, hb32⟩
            have hB32 := hBw31.trans (hb32.mono hBw31.size)
            clear r13c6 r13c7 k11c0 k11c1
            have k10 := BlkT.keep k10 hb32
            have k11 := BlkT.keep k11 hb32
            have k12 := BlkT.keep k12 hb32
            have r13 := BlkT.keep r13 hb32
            have r14 := BlkT.keep r14 hb32
            have r17 := BlkT.keep r17 hb32
            have r18 := BlkT.keep r18 hb32
            have k33 := BlkT.keep k33 hb32
            go_upto_region 28 with (fail)
            have lk10k35 := Lib.hid k10.lt
            have lk11k35 := Lib.hid k11.lt
            have lk12k35 := Lib.hid k12.lt
            have lr13k35 := Lib.hid r13.lt
            have lr14k35 := Lib.hid r14.lt
            have lr17k35 := Lib.hid r17.lt
            have lr18k35 := Lib.hid r18.lt
            have lk33k35 := Lib.hid k33.lt
            generalize hW32 : World.alloc V32 _ = W32
            have hw32 : Below V32.heap.size V32 W32 := hW32 ▸ (Below.refl _ _).alloc (Nat.le_refl _) _
            have hBw32 := hB32.trans (hw32.mono hB32.size)
            have k10 := BlkT.keep k10 hw32
            have k11 := BlkT.keep k11 hw32
            have k12 := BlkT.keep k12 hw32
            have r13 := BlkT.keep r13 hw32
            have r14 := BlkT.keep r14 hw32
            have r17 := BlkT.keep r17 hw32
            have r18 := BlkT.keep r18 hw32
            have k33 := BlkT.keep k33 hw32
            have k35 : BlkT W32 V32.heap.size #[(.string gn), (.string gd)] 26 := hW32 ▸ BlkT.newAt _ _ _ rfl
            clear hW32
            have r14c0 := r14.cell 0
            have r14c3 := r14.cell 3
            have k33c0 := k33.cell 0
            have k33c1 := k33.cell 1
            have k10c0 := k10.cell 0
            have k10c1 := k10.cell 1
            have k35c0 := k35.cell 0
            have k35c1 := k35.cell 1
            simp only [List.getElem?_toArray, List.getElem?_cons_succ, List.getElem?_cons_zero] at r14c0 r14c3 k33c0 k33c1 k10c0 k10c1 k35c0 k35c1
            have f := F4.out
            have g := F5.out
            rcases f with rfl | ⟨rfl, rfl | ⟨rfl, rfl, rfl⟩⟩ <;> rcases g with rfl | ⟨rfl, rfl | ⟨rfl, h1, h2⟩⟩ <;> (try subst h1) <;> (try subst h2)
            all_goals (
              go_wp2_with fail
              go_ret
              exact ⟨rfl, hBw32⟩)
end Go.Proofs.YtjnpenljgfdaiaaGreatDoor
