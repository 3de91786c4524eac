
/- copy into a row that is known whole, of elements of one or more cells. No function of the program is named here. -/
import Derived.Test.YtibihiejpieadaaAp
import Derived.Laws.CopyOwn
namespace Go.Proofs.Ytibihiejpieadaa
open Go.RowKit
set_option linter.unusedVariables false

theorem run_copy_rowN {P : Program} (w : World) (dT sT ty elem : TypeId) (N g o dLen dCap : Nat) (a : Addr) (sLen sCap : Nat) (cur : Array Value) (t : TypeId) (cs : List Value)
    (hu : P.underlying dT = some (.slice elem)) (hs : (P.info? elem).map (·.size) = some N)
    (hg : w.heap[g]? = some (.cells cur t (0, 0))) (m : Nat) (hm : m = Nat.min sLen dLen) (hn : cs.length = m * N)
    (hsrc : ∀ j v, cs[j]? = some v → w.cell? (a.add j) = some v) (hfit : o + cs.length ≤ cur.size) (h1 : ∀ v ∈ cs, v.oneCell' = true) :
    (Builtin.copy_ #[dT, sT] ty #[.slice (some ⟨g, o, none⟩) dLen dCap, .slice (some a) sLen sCap]).run P w =
      .ok (goInt m) (w.setRow g (cur.toList.take o ++ cs ++ cur.toList.drop (o + cs.length)).toArray) := by
  have hl := run_loadCells_list (P := P) w a cs hsrc
  have hst := run_storeCells_at P g o t cs 0 cur w hg (by simpa using hfit) h1
  cases hq : P.info? elem with
  | none => simp [hq] at hs
  | some i =>
    have hi : i.size = N := by simpa [hq] using hs
    subst hm
    simp [Builtin.copy_, run_underlying hu, Builtin.lenOf, Builtin.firstCells, sizeOf, typeInfo, hq, hi, ← hn, hl, hst]

/-- copy at a single operation: the row behind it is a splice. -/
theorem wp_copy_at {P : Program} {w : World} {o : Oper} {a : Act} {K : Act → World → Prop} {Q : Exit → Act → World → Prop} (d s : Operand) (dT sT : TypeId)
    (ho : o.op = .call { callee := .builtin .copy, args := #[d, s], argTypes := #[dT, sT] }) (elem : TypeId) (hu : P.underlying dT = some (.slice elem)) (N : Nat) (hsz : (P.info? elem).map (·.size) = some N)
    (g off dLen dCap : Nat) (ad : Addr) (sLen sCap : Nat) (hd : a.eval d = .slice (some ⟨g, off, none⟩) dLen dCap) (hs : a.eval s = .slice (some ad) sLen sCap)
    (cur : List Value) (t : TypeId) (hg : w.heap[g]? = some (.cells cur.toArray t (0, 0))) (cs : List Value) (m : Nat) (hm : m = Nat.min sLen dLen) (hn : cs.length = m * N)
    (hsrc : ∀ j v, cs[j]? = some v → w.cell? (ad.add j) = some v) (hfit : off + cs.length ≤ cur.length) (h1 : ∀ v ∈ cs, v.oneCell' = true)
    (h : ∀ w', w'.heap[g]? = some (.cells (splice cur off cs).toArray t (0, 0)) → (∀ k, k ≠ g → w'.heap[k]? = w.heap[k]?) → Below g w w' → K (a.put o.dst (goInt m)) w') : o.wp P a w K Q := by
  have hrun := run_copy_rowN (P := P) w dT sT o.type elem N g off dLen dCap ad sLen sCap cur.toArray t cs hu hsz hg m hm hn hsrc (by simpa using hfit) h1
  unfold Oper.wp
  simp [execOp, ho, resolve, invoke, builtin, hd, hs, hrun, Result.andThen]
  refine h _ ?_ (fun k hk => setRow_other w g k _ hk) (below_setRow (Below.refl _ _) (Nat.le_refl _) _)
  simpa [splice] using setRow_heap w g _ _ t _ hg
theorem wpList_copy_at {P : Program} {w : World} {ops : Array Oper} {rest : List Oper} {o : Oper} {a : Act} {Q : Exit → Act → World → Prop} (hgd : o.guard = none) (d s : Operand) (dT sT : TypeId)
    (ho : o.op = .call { callee := .builtin .copy, args := #[d, s], argTypes := #[dT, sT] }) (elem : TypeId) (hu : P.underlying dT = some (.slice elem)) (N : Nat) (hsz : (P.info? elem).map (·.size) = some N)
    (g off dLen dCap : Nat) (ad : Addr) (sLen sCap : Nat) (hd : a.eval d = .slice (some ⟨g, off, none⟩) dLen dCap) (hs : a.eval s = .slice (some ad) sLen sCap)
    (cur : List Value) (t : TypeId) (hg : w.heap[g]? = some (.cells cur.toArray t (0, 0))) (cs : List Value) (m : Nat) (hm : m = Nat.min sLen dLen) (hn : cs.length = m * N)
    (hsrc : ∀ j v, cs[j]? = some v → w.cell? (ad.add j) = some v) (hfit : off + cs.length ≤ cur.length) (h1 : ∀ v ∈ cs, v.oneCell' = true)
    (h : ∀ w', w'.heap[g]? = some (.cells (splice cur off cs).toArray t (0, 0)) → (∀ k, k ≠ g → w'.heap[k]? = w.heap[k]?) → Below g w w' → wpList P ops Q rest (a.put o.dst (goInt m)) w') : wpList P ops Q (o :: rest) a w :=
  wpList_plain hgd fun _ hK => wp_copy_at d s dT sT ho elem hu N hsz g off dLen dCap ad sLen sCap hd hs cur t hg cs m hm hn hsrc hfit h1 fun w' a1 a2 a3 => hK _ _ (h w' a1 a2 a3)

/-- A row of the call's own, as its block stands. -/
theorem own_row {w : World} {base : Nat} {e : TypeId} {size g n cap : Nat} {xs : List Value} (h : w.ownsRow base e size (.slice (some ⟨g, 0, none⟩) n cap) n xs) :
    ∃ cur : List Value, w.heap[g]? = some (.cells cur.toArray e (0, 0)) ∧ cur.length = cap * size ∧ cur.take (n * size) = xs ∧ n ≤ cap ∧ cap ≤ maxLen ∧ base ≤ g := by
  obtain ⟨h1, h2⟩ := h
  rcases h2 with ⟨hv, _⟩ | ⟨g', cap', cur, hv, hg, hh, hnc, hcm, hsz, hxs⟩
  · cases hv
  · injection hv with hv1 _ hv2
    injection hv1 with hv1
    injection hv1 with hv1 _ _
    subst hv1 hv2
    exact ⟨cur.toList, by simpa using hh, by simpa using hsz, hxs, hnc, hcm, hg⟩
theorem own_of_row {w : World} {base : Nat} {e : TypeId} {size g n cap : Nat} {xs cur : List Value} (hh : w.heap[g]? = some (.cells cur.toArray e (0, 0))) (hb : base ≤ g) (hnc : n ≤ cap) (hcm : cap ≤ maxLen) (hsz : cur.length = cap * size) (hxs : cur.take (n * size) = xs) :
    w.ownsRow base e size (.slice (some ⟨g, 0, none⟩) n cap) n xs := by
  refine ⟨?_, .inr ⟨g, cap, cur.toArray, rfl, hb, hh, hnc, hcm, by simpa using hsz, by simpa using hxs⟩⟩
  rw [← hxs, List.length_take, hsz, Nat.min_eq_left (Nat.mul_le_mul_right _ hnc)]
theorem row_cell {w : World} {g : Nat} {e : TypeId} {cur : List Value} (hh : w.heap[g]? = some (.cells cur.toArray e (0, 0))) (j : Nat) : w.cell? ⟨g, j, none⟩ = cur[j]? := by
  simp [World.cell?, hh]
/-- Put in within the room: what stands behind is moved first. -/
theorem splice_shift {cur A t B : List Value} {p q r : Nat} (hc : cur.take (p + q) = A ++ B) (hA : A.length = p) (hB : B.length = q) (ht : t.length = r) (hl : p + r + q ≤ cur.length) :
    (splice (splice cur (p + r) B) p t).take (p + r + q) = A ++ (t ++ B) := by
  have hpA : cur.take p = A := by
    have := congrArg (List.take p) hc
    rw [List.take_take, Nat.min_eq_left (by omega), List.take_append_of_le_length (by omega), ← hA, List.take_length] at this
    rw [hA] at this; exact this
  have e1 : splice cur (p + r) B = cur.take (p + r) ++ (B ++ cur.drop (p + r + q)) := by rw [splice, hB]
  have hl1 : (cur.take (p + r)).length = p + r := by rw [List.length_take]; omega
  have e2 : (cur.take (p + r) ++ (B ++ cur.drop (p + r + q))).take p = A := by
    rw [List.take_append_of_le_length (by omega), List.take_take, Nat.min_eq_left (by omega), hpA]
  have e3 : (cur.take (p + r) ++ (B ++ cur.drop (p + r + q))).drop (p + r) = B ++ cur.drop (p + r + q) := by
    rw [List.drop_append_of_le_length (by omega), List.drop_of_length_le (by omega), List.nil_append]
  rw [e1, splice, ht, e2, e3, ← List.append_assoc, ← List.append_assoc, List.take_append_of_le_length (by simp; omega), List.take_of_length_le (by simp; omega), List.append_assoc]
/-- Put in into a new row: the element, then what stands behind. -/
theorem splice_fill {cur A t B : List Value} {p q r : Nat} (hc : cur.take p = A) (hA : A.length = p) (hB : B.length = q) (ht : t.length = r) (hl : p + r + q ≤ cur.length) :
    (splice (splice cur p t) (p + r) B).take (p + r + q) = A ++ (t ++ B) := by
  have e1 : splice cur p t = A ++ (t ++ cur.drop (p + r)) := by rw [splice, ht, hc]
  have e2 : (A ++ (t ++ cur.drop (p + r))).take (p + r) = A ++ t := by
    rw [← List.append_assoc, List.take_append_of_le_length (by simp; omega), List.take_of_length_le (by simp; omega)]
  rw [e1, splice, e2, ← List.append_assoc, List.take_append_of_le_length (by simp; omega), List.take_of_length_le (by simp; omega), List.append_assoc]
end Go.Proofs.Ytibihiejpieadaa
