/- package nadirref02: Sum. -/
import Derived.Test.YtnckpnbecmmcpaaDoorP1
namespace Go.Proofs.YtnckpnbecmmcpaaDoor
open Go.RowKit
/-- Further elements, as a step of a drawn region. -/
theorem step_pushM {P : Program} {ops : Array Oper} {o : Oper} {a : Act} {K : Act → World → Prop} {Q : Exit → Act → World → Prop} {F : Prop} {t e : TypeId} {z : Value} {size bytes : Nat} {w0 : World} {us : List Value}
    (E : ElemOK P t e z size bytes) (hg : o.guard = none) (s x : Operand) (ho : o.op = .call { callee := .builtin .append, args := #[s, x], argTypes := #[t, t] })
    (B : Nat) {v : Value} {n m : Nat} {xs : List Value} (hown : w0.ownsRow B e size v n xs) (hs : a.eval s = v) (hx : a.eval x = .slice (some ⟨w0.heap.size, 0, none⟩) m m)
    (hus : us.length = m * size) (h1 : ∀ u ∈ us, u.oneCell' = true) (h63 : n + m ≤ maxLen) (hbytes : (n + m) * bytes ≤ 140737488355328) (hB : B ≤ w0.heap.size)
    (h : ∀ v' w', w'.ownsRow B e size v' (n + m) (xs ++ us) → Below B w0 w' → K (a.put o.dst v') w') :
    if Region.wanted o (yielded ops a.tmps) = true then Oper.wp P o a (w0.alloc (.cells us.toArray e)) K Q else F := by
  have hw : Region.wanted o (yielded ops a.tmps) = true := by simp [Region.wanted, hg]
  rw [if_pos hw]
  obtain ⟨i, hi, hz0, hz1, hz2⟩ := info_parts E.info
  have hown1 : (w0.alloc (.cells us.toArray e)).ownsRow B e size v n xs := World.ownsRow.alloc hown _
  obtain ⟨v', w', hrun, r1, r2, -⟩ := run_append_where (P := P) (w0.alloc (.cells us.toArray e)) B t o.type e i z size bytes E.und hi hz0 hz1 hz2 E.zs E.pos v n xs hown1 ⟨w0.heap.size, 0, none⟩ m m us hus
    (fun j u hj => by rw [add_zero_off, World.cell?_alloc_at _ _ _ _ rfl]; simpa using hj) h1 h63 hbytes (by simp; omega)
  unfold Oper.wp
  simp [execOp, ho, resolve, invoke, builtin, hs, hx, hrun, Result.andThen]
  refine h v' w' r1 ?_
  have hb1 : Below B w0 (w0.alloc (.cells us.toArray e)) := (Below.refl _ _).alloc hB _
  refine hb1.trans ⟨r2.os, r2.tape, r2.output, r2.size, fun k hk => r2.block k (by simp; omega) (fun e => ?_)⟩
  obtain ⟨cur, -, hg⟩ := owned_block hown1 e.symm
  omega
/-- A row of bytes of one's own, seen as bytes. -/
theorem OwnBy.bytes {W : World} {B : Nat} {v : Value} {bs : List Int} {l : List UInt8} (h : OwnBy W B v bs) (hl : l.map (fun u : UInt8 => (u.toNat : Int)) = bs) (_hm : bs.length ≤ maxLen) : BytesAt W v l := by
  have hll : l.length = bs.length := by rw [← hl, List.length_map]
  unfold OwnBy at h
  rcases h.2 with ⟨rfl, hn⟩ | ⟨g, cap, cur, rfl, hb, hg, h1, h2, -⟩
  · exact ⟨none, 0, by rw [hll, hn], by omega, by unfold maxLen; decide, fun hp => by omega⟩
  · refine ⟨_, cap, by rw [hll], by omega, h2, fun _ => ⟨g, 0, rfl, fun j y hj => ?_⟩⟩
    have q := h.cells (g := g) rfl j (.int .u8 (y.toNat : Int)) (by rw [← hl, List.map_map, List.getElem?_map, hj]; rfl)
    rw [add_zero_off] at q
    rw [Nat.zero_add]; exact q
/-- A part of a row that is seen. -/
theorem bytes_part {W : World} {b o n c : Nat} {l : List UInt8} (h : BytesAt W (.slice (some ⟨b, o, none⟩) n c) l) {lo k c' : Nat} (hlo : lo + k ≤ n) (hk : 0 < k) (hc : k ≤ c') (hc' : c' ≤ maxLen) :
    BytesAt W (.slice (some ⟨b, o + lo, none⟩) k c') ((l.drop lo).take k) := by
  obtain ⟨a, cap, e, h1, h2, h3⟩ := h
  cases e
  have hl : ((l.drop lo).take k).length = k := by rw [List.length_take, List.length_drop]; omega
  obtain ⟨b', o', e, h4⟩ := h3 (by omega)
  cases e
  refine ⟨_, c', by rw [hl], by omega, hc', fun _ => ⟨b, o + lo, rfl, fun j y hj => ?_⟩⟩
  rw [Nat.add_assoc]
  refine h4 (lo + j) y ?_
  rw [List.getElem?_take] at hj
  split at hj
  · rw [List.getElem?_drop] at hj; exact hj
  · cases hj
theorem digL_four (h : V8) (i : Nat) : digL h (4 * i + 4) = digL h (4 * i) ++ [byteD (getV h i) 0, byteD (getV h i) 1, byteD (getV h i) 2, byteD (getV h i) 3] := by
  rw [show 4 * i + 4 = 4 * i + 3 + 1 from rfl, digL_succ h i 3 (by decide), show 4 * i + 3 = 4 * i + 2 + 1 from rfl, digL_succ h i 2 (by decide), show 4 * i + 2 = 4 * i + 1 + 1 from rfl, digL_succ h i 1 (by decide), show 4 * i + 1 = 4 * i + 0 + 1 from rfl, digL_succ h i 0 (by decide)]
  simp
theorem listV_get (h : V8) {j : Nat} (hj : j < 8) : (listV h)[j]? = some (getV h j) := by
  match j, hj with
  | 0, _ => rfl
  | 1, _ => rfl
  | 2, _ => rfl
  | 3, _ => rfl
  | 4, _ => rfl
  | 5, _ => rfl
  | 6, _ => rfl
  | 7, _ => rfl
attribute [local irreducible] wpStill
end Go.Proofs.YtnckpnbecmmcpaaDoor
