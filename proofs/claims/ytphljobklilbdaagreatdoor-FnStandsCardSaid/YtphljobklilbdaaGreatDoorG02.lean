/- Parts of the proof: Ke, Ap, Cr, Ig, Ow, Tk, Ds, Fk, Sf, Law, LawS, Si. -/
import Derived.Test.YtphljobklilbdaaGreatDoorG01
import Derived.Laws.OwnMore
import Derived.Maps.AppendAt
import Derived.Laws.CopyOwn
import Derived.Lib.AppendZerosOnto
import Derived.Lib.Overlaps
import Derived.Laws.Externs
import Derived.Deep.RegionHeld
import Derived.Deep.CutRange
import Derived.ProofKit
import Derived.ChangeSame
import Derived.HandedShaped
import Derived.Shelf.Vars
namespace Go.Proofs.YtphljobklilbdaaGreatDoor
open Go.RowKit
set_option linter.unusedVariables false

def std0 : DStand := ⟨⟨#[]⟩, 0, 0, 0, 0⟩
/-- How many of the first k stands protect enough. -/
def protTo (xs : List DStand) (snow least : Int) : Nat → Int
  | 0 => 0
  | k + 1 => protTo xs snow least k + if least ≤ protF (xs.getD k std0) snow then 1 else 0
theorem protTo_in (xs : List DStand) (snow least : Int) (k : Nat) : 0 ≤ protTo xs snow least k ∧ protTo xs snow least k ≤ (k : Int) := by
  induction k with
  | zero => exact ⟨Int.le_refl _, Int.le_refl _⟩
  | succ k ih => rw [protTo]; split <;> omega
def costS (cs : List Int) : List Nat → Int
  | [] => 0
  | p :: P => cs.getD p 0 + costS cs P
theorem costS_snoc (cs : List Int) (P : List Nat) (i : Nat) : costS cs (P ++ [i]) = costS cs P + cs.getD i 0 := by
  induction P with
  | nil => simp [costS]
  | cons p P ih => simp only [List.cons_append, costS, ih]; omega
/-- A set of stands below i, rising, within the money; many is what it protects. -/
structure PlantP (xs : List DStand) (cs : List Int) (snow least money : Int) (i : Nat) (P : List Nat) (m many : Int) : Prop where
  up : P.Pairwise (· < ·)
  lt : ∀ p ∈ P, p < i
  cost : costS cs P + m = money
  mn : 0 ≤ m
  lo : protTo xs snow least i ≤ many
  hi : many ≤ protTo xs snow least i + (P.length : Int)
def PlantGood (xs : List DStand) (cs : List Int) (snow least money : Int) (Q : List Nat) (most : Int) : Prop := ∃ m, PlantP xs cs snow least money xs.length Q m most
def PlantInv (xs : List DStand) (cs : List Int) (snow least money : Int) (Q : List Nat) (most : Int) : Prop := (most = -1 ∧ Q = []) ∨ PlantGood xs cs snow least money Q most
theorem PlantP.len {xs : List DStand} {cs : List Int} {snow least money : Int} {i : Nat} {P : List Nat} {m many : Int} (h : PlantP xs cs snow least money i P m many) : P.length ≤ i := by
  have key : ∀ (P : List Nat) (b : Nat), P.Pairwise (· < ·) → (∀ p ∈ P, b ≤ p ∧ p < i) → P.length ≤ i - b := by
    intro P
    induction P with
    | nil => intro b _ _; simp
    | cons a P ih =>
      intro b hp hl
      have ha := hl a (by simp)
      rw [List.pairwise_cons] at hp
      have := ih (a + 1) hp.2 (fun p hpm => ⟨hp.1 p hpm, (hl p (by simp [hpm])).2⟩)
      rw [List.length_cons]; omega
  have := key P 0 h.up (fun p hp => ⟨Nat.zero_le _, h.lt p hp⟩)
  omega
theorem PlantP.start (xs : List DStand) (cs : List Int) (snow least : Int) {money : Int} (hm : 0 ≤ money) : PlantP xs cs snow least money 0 [] money 0 :=
  ⟨List.Pairwise.nil, fun p hp => by simp at hp, by simp [costS], hm, Int.le_refl _, by simp [protTo]⟩
/-- The stand is planted. -/
theorem PlantP.plant {xs : List DStand} {cs : List Int} {snow least money : Int} {i : Nat} {P : List Nat} {m many : Int} (h : PlantP xs cs snow least money i P m many) (hc : cs.getD i 0 ≤ m)
    (hs : least ≤ 1000) (hx : ∀ k, k < xs.length → standB (xs.getD k std0) = true) (hi : i < xs.length) :
    PlantP xs cs snow least money (i + 1) (P ++ [i]) (m - cs.getD i 0) (if least ≤ protF (plantedF (xs.getD i std0)) snow then many + 1 else many) := by
  have hk : least ≤ protF (xs.getD i std0) snow → least ≤ protF (plantedF (xs.getD i std0)) snow := fun e => planted_keeps e hs (hx i hi)
  have h1 := h.lo
  have h2 := h.hi
  refine ⟨?_, ?_, ?_, by omega, ?_, ?_⟩
  · rw [List.pairwise_append]
    exact ⟨h.up, List.pairwise_singleton _ _, fun p hp q hq => by rw [List.mem_singleton] at hq; subst hq; exact h.lt p hp⟩
  · intro p hp
    rcases List.mem_append.1 hp with hp | hp
    · have := h.lt p hp; omega
    · rw [List.mem_singleton] at hp; omega
  · rw [costS_snoc]; have := h.cost; omega
  · rw [protTo]
    by_cases e : least ≤ protF (xs.getD i std0) snow
    · rw [if_pos e, if_pos (hk e)]; omega
    · rw [if_neg e]; split <;> omega
  · rw [protTo, List.length_append, List.length_singleton]
    split <;> split <;> omega
/-- The stand stays as it is. -/
theorem PlantP.stay {xs : List DStand} {cs : List Int} {snow least money : Int} {i : Nat} {P : List Nat} {m many : Int} (h : PlantP xs cs snow least money i P m many) :
    PlantP xs cs snow least money (i + 1) P m (if least ≤ protF (xs.getD i std0) snow then many + 1 else many) := by
  have h1 := h.lo
  have h2 := h.hi
  refine ⟨h.up, fun p hp => by have := h.lt p hp; omega, h.cost, h.mn, ?_, ?_⟩
  · rw [protTo]; split <;> omega
  · rw [protTo]; split <;> omega
/-- At a leaf what is not taken is no better than what there is. -/
theorem PlantInv.leaf {xs : List DStand} {cs : List Int} {snow least money : Int} {Q : List Nat} {most many : Int} (h : PlantInv xs cs snow least money Q most) (h0 : 0 ≤ many) (hc : ¬ most < many) : PlantGood xs cs snow least money Q most := by
  rcases h with ⟨h1, _⟩ | h
  · omega
  · exact h
theorem PlantP.many0 {xs : List DStand} {cs : List Int} {snow least money : Int} {i : Nat} {P : List Nat} {m many : Int} (h : PlantP xs cs snow least money i P m many) : 0 ≤ many ∧ many ≤ 2 * (i : Int) := by
  have h1 := protTo_in xs snow least i
  have h2 := h.lo
  have h3 := h.hi
  have h4 := h.len
  omega
end Go.Proofs.YtphljobklilbdaaGreatDoor

namespace Go.Proofs.YtphljobklilbdaaGreatDoor
open Go.RowKit
set_option linter.unusedVariables false

/-- What a region may leave behind that only adds above base, X kept. -/
structure KeptW (base : Nat) (w : World) (X : World → Prop) where
  v : World
  below : Below base w v
  x : X v
/-- append of one element, as an operation alone. -/
theorem wp_append_at1 {P : Program} (w : World) {o : Oper} {a : Act} {K : Act → World → Prop} {Q : Exit → Act → World → Prop}
    (s x : Operand) (t : TypeId) (ho : o.op = .call { callee := .builtin .append, args := #[s, x], argTypes := #[t, t] })
    (base : Nat) (e : TypeId) (i : TypeInfo) (z : Value) (size bytes : Nat) (ht : P.underlying t = some (.slice e)) (hi : P.info? e = some i) (hz : i.zero = some z)
    (hsize : i.size = size) (hby : i.bytes = bytes) (hzs : z.cells.size = size) (hsz : 0 < size)
    (v : Value) (n : Nat) (xs : List Value) (hs : a.eval s = v) (hown : w.ownsRow base e size v n xs) (us : List Value) (hul : us.length = size) (h1 : ∀ u ∈ us, u.oneCell' = true)
    (ad : Nat) (hx : a.eval x = .slice (some ⟨ad, 0, none⟩) 1 1) (hc : ∀ j u, us[j]? = some u → w.cell? ⟨ad, j, none⟩ = some u) (hn : n ≤ 1000000000) (hb : bytes ≤ 1000) (hbase : base ≤ w.heap.size)
    (h : ∀ v' w', w'.ownsRow base e size v' (n + 1) (xs ++ us) → Below base w w' → w.grownBy w' v.ownBlock → K (a.put o.dst v') w') : o.wp P a w K Q := by
  have hbytes : (n + 1) * bytes ≤ 140737488355328 := by
    have : (n + 1) * bytes ≤ 1000000001 * 1000 := Nat.mul_le_mul (by omega) hb
    omega
  obtain ⟨v', w', hr, h2, h3, h4, h5⟩ := run_append_own_at (P := P) w base t o.type e i z size bytes ht hi hz hsize hby hzs hsz v n xs hown ⟨ad, 0, none⟩ 1 1 us (by omega) (fun j u hj => by
    have e0 : (⟨ad, 0, none⟩ : Addr).add j = ⟨ad, j, none⟩ := by unfold Addr.add; by_cases h0 : j = 0 <;> simp [h0]
    rw [e0]; exact hc j u hj) h1 (by unfold maxLen; omega) hbytes hbase
  have hbw : Below base w w' := (Below.refl base w).grown h3 hbase (fun k hk => (hown.lt k hk).1)
  unfold Oper.wp execOp
  simp only [ho, resolve, invoke, builtin, Sem.run_bind, Sem.run_pure, Result.andThen_ok, List.map_toArray, List.map_cons, List.map_nil, hs, hx, hr]
  exact h v' w' h2 hbw h3
/-- append of one element, as an operation alone, with the block that it went to. -/
theorem wp_append_at2 {P : Program} (w : World) {o : Oper} {a : Act} {K : Act → World → Prop} {Q : Exit → Act → World → Prop}
    (s x : Operand) (t : TypeId) (ho : o.op = .call { callee := .builtin .append, args := #[s, x], argTypes := #[t, t] })
    (base : Nat) (e : TypeId) (i : TypeInfo) (z : Value) (size bytes : Nat) (ht : P.underlying t = some (.slice e)) (hi : P.info? e = some i) (hz : i.zero = some z)
    (hsize : i.size = size) (hby : i.bytes = bytes) (hzs : z.cells.size = size) (hsz : 0 < size)
    (v : Value) (n : Nat) (xs : List Value) (hs : a.eval s = v) (hown : w.ownsRow base e size v n xs) (us : List Value) (hul : us.length = size) (h1 : ∀ u ∈ us, u.oneCell' = true)
    (ad : Nat) (hx : a.eval x = .slice (some ⟨ad, 0, none⟩) 1 1) (hc : ∀ j u, us[j]? = some u → w.cell? ⟨ad, j, none⟩ = some u) (hn : n ≤ 1000000000) (hb : bytes ≤ 1000) (hbase : base ≤ w.heap.size)
    (h : ∀ v' w', w'.ownsRow base e size v' (n + 1) (xs ++ us) → Below base w w' → w.grownBy w' v.ownBlock → (v'.ownBlock = v.ownBlock ∨ v'.ownBlock = some w.heap.size) → K (a.put o.dst v') w') : o.wp P a w K Q := by
  have hbytes : (n + 1) * bytes ≤ 140737488355328 := by
    have : (n + 1) * bytes ≤ 1000000001 * 1000 := Nat.mul_le_mul (by omega) hb
    omega
  obtain ⟨v', w', hr, h2, h3, h4, h5⟩ := run_append_own_at (P := P) w base t o.type e i z size bytes ht hi hz hsize hby hzs hsz v n xs hown ⟨ad, 0, none⟩ 1 1 us (by omega) (fun j u hj => by
    have e0 : (⟨ad, 0, none⟩ : Addr).add j = ⟨ad, j, none⟩ := by unfold Addr.add; by_cases h0 : j = 0 <;> simp [h0]
    rw [e0]; exact hc j u hj) h1 (by unfold maxLen; omega) hbytes hbase
  have hbw : Below base w w' := (Below.refl base w).grown h3 hbase (fun k hk => (hown.lt k hk).1)
  unfold Oper.wp execOp
  simp only [ho, resolve, invoke, builtin, Sem.run_bind, Sem.run_pure, Result.andThen_ok, List.map_toArray, List.map_cons, List.map_nil, hs, hx, hr]
  exact h v' w' h2 hbw h3 h5

theorem run_append_none {P : Program} {w : World} (base : Nat) (t ty e : TypeId) (i : TypeInfo) (size c : Nat) (ht : P.underlying t = some (.slice e)) (hi : P.info? e = some i)
    (v : Value) (n : Nat) (xs : List Value) (hown : w.ownsRow base e size v n xs) :
    (Builtin.append_ #[t, t] ty #[v, .slice none 0 c]).run P w = .ok v w := by
  rcases hown.2 with ⟨rfl, rfl⟩ | ⟨g, cap, cur, rfl, _, _, hnc, _⟩
  · simp [Builtin.append_, run_underlying ht, sizeOf, typeInfo, hi, Builtin.lenOf, Builtin.firstCells]
  · simp [Builtin.append_, run_underlying ht, sizeOf, typeInfo, hi, Builtin.lenOf, Builtin.firstCells, hnc, storeCells]

/-- What may be copied out of a slice value: the list M. -/
def Src {α : Type} (E : Flat α) (w : World) (v : Value) (M : List α) : Prop :=
  ∃ A c, v = .slice A M.length c ∧ (A = none → M = []) ∧ ∀ ad, A = some ad → ∀ (j : Nat) u, (M.flatMap E.enc)[j]? = some u → w.cell? (ad.add j) = some u

theorem addr_add (b off j : Nat) : (⟨b, off, none⟩ : Addr).add j = ⟨b, off + j, none⟩ := by
  unfold Addr.add; by_cases h0 : j = 0 <;> simp [h0]
section
variable {α : Type} {E : Flat α} {w w' : World} {A : Option Addr} {len cap : Nat} {xs : List α} {fp : List Nat}
theorem Sl.src (h : Sl E.cod w (.slice A len cap) xs fp) : Src E w (.slice A len cap) xs := by
  obtain ⟨A', cap', hv, _, _, _⟩ := id h
  injection hv with hA hl hc
  subst hl
  refine ⟨A, cap, rfl, fun hn => ?_, fun ad had j u hu => ?_⟩
  · rcases Nat.eq_zero_or_pos xs.length with h0 | h0
    · exact List.eq_nil_of_length_eq_zero h0
    · obtain ⟨b, off, hA', _⟩ := h.cells h0
      rw [hn] at hA'; cases hA'
  · rcases Nat.eq_zero_or_pos xs.length with h0 | h0
    · rw [List.eq_nil_of_length_eq_zero h0] at hu; simp at hu
    · obtain ⟨b, off, hA', _, _, hc⟩ := h.cells h0
      rw [had] at hA'
      injection hA' with e
      subst e
      have hj : j < (xs.flatMap E.enc).length := by
        rcases Nat.lt_or_ge j (xs.flatMap E.enc).length with h1 | h1
        · exact h1
        · rw [List.getElem?_eq_none h1] at hu; cases hu
      rw [addr_add, (hc j hj).1, hu]
theorem Sl.src_take (h : Sl E.cod w (.slice A len cap) xs fp) {k : Nat} (hk : k ≤ xs.length) {c : Nat} : Src E w (.slice A k c) (xs.take k) := by
  obtain ⟨A', c', hv, h1, h2⟩ := h.src
  injection hv with hA hl hc
  subst hA
  have hlk : (xs.take k).length = k := by simp; omega
  refine ⟨A, c, by rw [hlk], fun hn => by rw [h1 hn]; simp, fun ad had j u hu => h2 ad had j u ?_⟩
  have e : xs.flatMap E.enc = (xs.take k).flatMap E.enc ++ (xs.drop k).flatMap E.enc := by rw [← List.flatMap_append, List.take_append_drop]
  rw [e, List.getElem?_append_left]
  · exact hu
  · rcases Nat.lt_or_ge j ((xs.take k).flatMap E.enc).length with h3 | h3
    · exact h3
    · rw [List.getElem?_eq_none h3] at hu; cases hu
theorem Sl.src_drop {b off : Nat} (h : Sl E.cod w (.slice (some ⟨b, off, none⟩) len cap) xs fp) {k : Nat} (hk : k ≤ xs.length) {c : Nat} : Src E w (.slice (some ⟨b, off + k * E.n, none⟩) (xs.length - k) c) (xs.drop k) := by
  obtain ⟨A', c', hv, h1, h2⟩ := h.src
  injection hv with hA hl hc
  subst hA
  refine ⟨some ⟨b, off + k * E.n, none⟩, c, by simp, fun hn => (by cases hn), fun ad had j u hu => ?_⟩
  obtain rfl : (⟨b, off + k * E.n, none⟩ : Addr) = ad := Option.some.inj had
  have hlt : ((xs.take k).flatMap E.enc).length = k * E.n := by
    rw [flat_len E.enc E.n _ (fun x _ => E.len x)]; simp; rw [Nat.min_eq_left hk]
  have e : xs.flatMap E.enc = (xs.take k).flatMap E.enc ++ (xs.drop k).flatMap E.enc := by rw [← List.flatMap_append, List.take_append_drop]
  have := h2 _ rfl (k * E.n + j) u (by rw [e, List.getElem?_append_right (by omega), hlt]; simpa using hu)
  rw [addr_add] at this ⊢
  rw [← this]; congr 2; omega
theorem Src.empty {A : Option Addr} {c : Nat} : Src E w (.slice A 0 c) ([] : List α) := ⟨A, c, rfl, fun _ => rfl, fun _ _ j u hu => by simp at hu⟩
theorem Src.below {v : Value} (h : Src E w v xs) (hb : ∀ a, (∃ u, w.cell? a = some u) → w'.cell? a = w.cell? a) : Src E w' v xs := by
  obtain ⟨A, c, h1, h2, h3⟩ := h
  exact ⟨A, c, h1, h2, fun ad had j u hu => (hb _ ⟨u, h3 ad had j u hu⟩).trans (h3 ad had j u hu)⟩
theorem Src.belowB {v : Value} (h : Src E w v xs) (hb : Below w.heap.size w w') : Src E w' v xs :=
  h.below fun a ⟨u, hu⟩ => hb.cell (block_lt_of_cell hu)
end

theorem grown_below {base : Nat} {w w' : World} {v : Value} {e : TypeId} {size n : Nat} {xs : List Value} (hown : w.ownsRow base e size v n xs) (hg : w.grownBy w' v.ownBlock) (hb : base ≤ w.heap.size) : Below base w w' :=
  (Below.refl base w).grown hg hb (fun k hk => (hown.lt k hk).1)

/-- append(own, other...) -/
theorem wpList_append_src {α : Type} {E : Flat α} {P : Program} {w : World} {ops : Array Oper} {rest : List Oper} {o : Oper} {a : Act} {Q : Exit → Act → World → Prop} (hgd : o.guard = none) (s x : Operand) (t : TypeId)
    (ho : o.op = .call { callee := .builtin .append, args := #[s, x], argTypes := #[t, t] })
    (base : Nat) (e : TypeId) (i : TypeInfo) (z : Value) (bytes : Nat) (ht : P.underlying t = some (.slice e)) (hi : P.info? e = some i) (hz : i.zero = some z)
    (hsize : i.size = E.n) (hby : i.bytes = bytes) (hzs : z.cells.size = E.n)
    (v : Value) (L : List α) (hs : a.eval s = v) (hown : Own E w base e v L) (v2 : Value) (M : List α) (hx : a.eval x = v2) (hM : Src E w v2 M)
    (hn : L.length + M.length ≤ 1000000000) (hb : bytes ≤ 1000) (hbase : base ≤ w.heap.size)
    (h : ∀ v' w', Own E w' base e v' (L ++ M) → Below base w w' → wpList P ops Q rest (a.put o.dst v') w') : wpList P ops Q (o :: rest) a w := by
  obtain ⟨A, c, rfl, hnone, hnews⟩ := hM
  have hone : ∀ u ∈ M.flatMap E.enc, u.oneCell' = true := fun u hu => by
    obtain ⟨y, _, hy⟩ := List.mem_flatMap.1 hu
    exact E.one y u hy
  cases A with
  | none =>
    have hm := hnone rfl
    subst hm
    refine wpList_plain hgd fun K hK => ?_
    have hrun := run_append_none (P := P) (w := w) base t o.type e i E.n c ht hi v L.length _ hown
    unfold Oper.wp
    simp [execOp, ho, resolve, invoke, builtin, hs, hx, hrun, Result.andThen]
    refine hK _ _ (h v w ?_ (Below.refl _ _))
    rw [List.append_nil]; exact hown
  | some ad =>
    refine wpList_append_own w hgd s x t ho base e i z E.n bytes ht hi hz hsize hby hzs E.pos v L.length _ hs hown ad M.length c (M.flatMap E.enc) hx (flat_len E.enc E.n M (fun x _ => E.len x)) (hnews ad rfl) hone (by unfold maxLen; omega) ?_ hbase ?_
    · have : (L.length + M.length) * bytes ≤ 1000000000 * 1000 := Nat.mul_le_mul hn hb
      omega
    · intro v' w' h2 h3 _
      refine h v' w' ?_ (grown_below hown h3 hbase)
      show w'.ownsRow base e E.n v' (L ++ M).length ((L ++ M).flatMap E.enc)
      rw [List.flatMap_append, List.length_append]
      exact h2

/-- append within the room of an own row, at a single operation. -/
theorem wp_append_fits_ {P : Program} (w : World) {o : Oper} {a : Act} {K : Act → World → Prop} {Q : Exit → Act → World → Prop}
    (s x : Operand) (t : TypeId) (hop : o.op = Op.call { callee := Callee.builtin Builtin.append, args := #[s, x], argTypes := #[t, t] })
    (base : Nat) (e : TypeId) (i : TypeInfo) (size : Nat) (h1 : P.underlying t = some (.slice e)) (h2 : P.info? e = some i) (h4 : i.size = size)
    (g k cap : Nat) (xs : List Value) (hs : a.eval s = .slice (some ⟨g, 0, none⟩) k cap) (hown : w.ownsRow base e size (.slice (some ⟨g, 0, none⟩) k cap) k xs) (ad : Addr) (m c : Nat) (news : List Value) (hx : a.eval x = .slice (some ad) m c) (hn : news.length = m * size)
    (hc : ∀ j u, news[j]? = some u → w.cell? (ad.add j) = some u) (h1c : ∀ u ∈ news, u.oneCell' = true) (b1 : k + m ≤ cap)
    (hK : ∀ w', w'.ownsRow base e size (.slice (some ⟨g, 0, none⟩) (k + m) cap) (k + m) (xs ++ news) → w.grownBy w' (some g) → K (a.put o.dst (.slice (some ⟨g, 0, none⟩) (k + m) cap)) w') :
    o.wp P a w K Q := by
  obtain ⟨w', hrun, r1, r2⟩ := run_append_fits (P := P) w base t o.type e i size h1 h2 h4 g k cap xs hown ad m c news hn hc h1c b1
  unfold Oper.wp
  simp [execOp, hop, resolve, invoke, builtin, hs, hx, hrun, Result.andThen]
  exact hK w' r1 r2
theorem own_beyond {w : World} {base : Nat} {e : TypeId} {size g n cap : Nat} {xs : List Value} (h : w.ownsRow base e size (.slice (some ⟨g, 0, none⟩) n cap) n xs) {p : Nat} (hp : n * size ≤ p) (u : Value) :
    (w.setCell ⟨g, p, none⟩ u).ownsRow base e size (.slice (some ⟨g, 0, none⟩) n cap) n xs := by
  obtain ⟨h1, h2⟩ := h
  refine ⟨h1, ?_⟩
  rcases h2 with ⟨hv, _⟩ | ⟨g', cap', cur, hv, hg, hh, hnc, hcm, hsz, hxs⟩
  · cases hv
  · injection hv with hv1 _ hv2
    injection hv1 with hv1
    injection hv1 with hv1 _ _
    subst hv1 hv2
    refine .inr ⟨g, cap, cur.setIfInBounds p u, rfl, hg, ?_, hnc, hcm, by simpa using hsz, ?_⟩
    · have hl : g < w.heap.size := by
        rcases Nat.lt_or_ge g w.heap.size with hlt | hge
        · exact hlt
        · rw [Array.getElem?_eq_none hge] at hh; cases hh
      simp only [World.setCell]
      rw [Array.getElem?_modify, if_pos rfl, hh]
      rfl
    · rw [Array.toList_setIfInBounds, List.take_set_of_le hp]; exact hxs
theorem own_cell {w : World} {base : Nat} {e : TypeId} {size g n cap : Nat} {xs : List Value} (h : w.ownsRow base e size (.slice (some ⟨g, 0, none⟩) n cap) n xs) {p : Nat} (hp : p < cap * size) :
    (∃ u, w.cell? ⟨g, p, none⟩ = some u) ∧ w.frozen? ⟨g, p, none⟩ = false := by
  obtain ⟨h1, h2⟩ := h
  rcases h2 with ⟨hv, _⟩ | ⟨g', cap', cur, hv, hg, hh, hnc, hcm, hsz, hxs⟩
  · cases hv
  · injection hv with hv1 _ hv2
    injection hv1 with hv1
    injection hv1 with hv1 _ _
    subst hv1 hv2
    refine ⟨⟨cur[p]'(by omega), ?_⟩, ?_⟩
    · simp [World.cell?, hh, hsz, hp]
    · simp [World.frozen?, hh]
theorem own_prefix {w : World} {base : Nat} {e : TypeId} {size g n k cap : Nat} {xs ys : List Value} (h : w.ownsRow base e size (.slice (some ⟨g, 0, none⟩) n cap) n xs) (hk : k ≤ n) (hy : ys.length = k * size) (hp : ys <+: xs) :
    w.ownsRow base e size (.slice (some ⟨g, 0, none⟩) k cap) k ys := by
  obtain ⟨h1, h2⟩ := h
  refine ⟨hy, ?_⟩
  rcases h2 with ⟨hv, _⟩ | ⟨g', cap', cur, hv, hg, hh, hnc, hcm, hsz, hxs⟩
  · cases hv
  · injection hv with hv1 _ hv2
    injection hv1 with hv1
    injection hv1 with hv1 _ _
    subst hv1 hv2
    refine .inr ⟨g, cap, cur, rfl, hg, hh, by omega, hcm, hsz, ?_⟩
    have hle : k * size ≤ n * size := Nat.mul_le_mul_right _ hk
    rw [List.prefix_iff_eq_take] at hp
    rw [hp, ← hxs, List.take_take, hy, Nat.min_eq_left hle]
theorem own_tail {α : Type} {E : Flat α} {w : World} {base : Nat} {e : TypeId} {g n cap : Nat} {xs : List α} (h : w.ownsRow base e E.n (.slice (some ⟨g, 0, none⟩) n cap) n (xs.flatMap E.enc)) {k : Nat} (hk : k ≤ xs.length) :
    ∀ (j : Nat) u, ((xs.drop k).flatMap E.enc)[j]? = some u → w.cell? ⟨g, k * E.n + j, none⟩ = some u := by
  intro j u hu
  have hlt : ((xs.take k).flatMap E.enc).length = k * E.n := by
    rw [flat_len E.enc E.n _ (fun x _ => E.len x)]; simp; rw [Nat.min_eq_left hk]
  have e2 : xs.flatMap E.enc = (xs.take k).flatMap E.enc ++ (xs.drop k).flatMap E.enc := by rw [← List.flatMap_append, List.take_append_drop]
  have h3 : (xs.flatMap E.enc)[k * E.n + j]? = some u := by rw [e2, List.getElem?_append_right (by omega), hlt]; simpa using hu
  have h4 : k * E.n + j < n * E.n := by
    have := h.1
    rw [← this]
    rcases Nat.lt_or_ge (k * E.n + j) (xs.flatMap E.enc).length with h5 | h5
    · exact h5
    · rw [List.getElem?_eq_none h5] at h3; cases h3
  rw [h.cellAt (k * E.n + j) h4]; exact h3
end Go.Proofs.YtphljobklilbdaaGreatDoor

namespace Go.Proofs.YtphljobklilbdaaGreatDoor
open Go.RowKit
set_option linter.unusedVariables false

theorem run_copy_rowN {P : Program} (w : World) (dT sT ty elem : TypeId) (N g o dLen dCap : Nat) (a : Addr) (sLen sCap : Nat) (cur : Array Value) (t : TypeId) (cs : List Value)
    (hu : P.underlying dT = some (.slice elem)) (hs : (P.info? elem).map (·.size) = some N)
    (hg : w.heap[g]? = some (.cells cur t (0, 0))) (m : Nat) (hm : m = Nat.min sLen dLen) (hn : cs.length = m * N)
    (hsrc : ∀ j v, cs[j]? = some v → w.cell? (a.add j) = some v) (hfit : o + cs.length ≤ cur.size) (h1 : ∀ v ∈ cs, v.oneCell' = true) :
    (Builtin.copy_ #[dT, sT] ty #[.slice (some ⟨g, o, none⟩) dLen dCap, .slice (some a) sLen sCap]).run P w =
      .ok (goInt m) (w.setRow g (cur.toList.take o ++ cs ++ cur.toList.drop (o + cs.length)).toArray) := by
  have hl := run_loadCells_list (P := P) w a cs hsrc
  have hst := run_storeCells_at P g o t cs 0 cur w hg (by simpa using hfit) h1
  cases hq : P.info? elem with
  | none => simp [hq] at hs
  | some i =>
    have hi : i.size = N := by simpa [hq] using hs
    subst hm
    simp [Builtin.copy_, run_underlying hu, Builtin.lenOf, Builtin.firstCells, sizeOf, typeInfo, hq, hi, ← hn, hl, hst]

/-- copy at a single operation: the row behind it is a splice. -/
theorem wp_copy_at {P : Program} {w : World} {o : Oper} {a : Act} {K : Act → World → Prop} {Q : Exit → Act → World → Prop} (d s : Operand) (dT sT : TypeId)
    (ho : o.op = .call { callee := .builtin .copy, args := #[d, s], argTypes := #[dT, sT] }) (elem : TypeId) (hu : P.underlying dT = some (.slice elem)) (N : Nat) (hsz : (P.info? elem).map (·.size) = some N)
    (g off dLen dCap : Nat) (ad : Addr) (sLen sCap : Nat) (hd : a.eval d = .slice (some ⟨g, off, none⟩) dLen dCap) (hs : a.eval s = .slice (some ad) sLen sCap)
    (cur : List Value) (t : TypeId) (hg : w.heap[g]? = some (.cells cur.toArray t (0, 0))) (cs : List Value) (m : Nat) (hm : m = Nat.min sLen dLen) (hn : cs.length = m * N)
    (hsrc : ∀ j v, cs[j]? = some v → w.cell? (ad.add j) = some v) (hfit : off + cs.length ≤ cur.length) (h1 : ∀ v ∈ cs, v.oneCell' = true)
    (h : ∀ w', w'.heap[g]? = some (.cells (splice cur off cs).toArray t (0, 0)) → (∀ k, k ≠ g → w'.heap[k]? = w.heap[k]?) → Below g w w' → K (a.put o.dst (goInt m)) w') : o.wp P a w K Q := by
  have hrun := run_copy_rowN (P := P) w dT sT o.type elem N g off dLen dCap ad sLen sCap cur.toArray t cs hu hsz hg m hm hn hsrc (by simpa using hfit) h1
  unfold Oper.wp
  simp [execOp, ho, resolve, invoke, builtin, hd, hs, hrun, Result.andThen]
  refine h _ ?_ (fun k hk => setRow_other w g k _ hk) (below_setRow (Below.refl _ _) (Nat.le_refl _) _)
  simpa [splice] using setRow_heap w g _ _ t _ hg
theorem wpList_copy_at {P : Program} {w : World} {ops : Array Oper} {rest : List Oper} {o : Oper} {a : Act} {Q : Exit → Act → World → Prop} (hgd : o.guard = none) (d s : Operand) (dT sT : TypeId)
    (ho : o.op = .call { callee := .builtin .copy, args := #[d, s], argTypes := #[dT, sT] }) (elem : TypeId) (hu : P.underlying dT = some (.slice elem)) (N : Nat) (hsz : (P.info? elem).map (·.size) = some N)
    (g off dLen dCap : Nat) (ad : Addr) (sLen sCap : Nat) (hd : a.eval d = .slice (some ⟨g, off, none⟩) dLen dCap) (hs : a.eval s = .slice (some ad) sLen sCap)
    (cur : List Value) (t : TypeId) (hg : w.heap[g]? = some (.cells cur.toArray t (0, 0))) (cs : List Value) (m : Nat) (hm : m = Nat.min sLen dLen) (hn : cs.length = m * N)
    (hsrc : ∀ j v, cs[j]? = some v → w.cell? (ad.add j) = some v) (hfit : off + cs.length ≤ cur.length) (h1 : ∀ v ∈ cs, v.oneCell' = true)
    (h : ∀ w', w'.heap[g]? = some (.cells (splice cur off cs).toArray t (0, 0)) → (∀ k, k ≠ g → w'.heap[k]? = w.heap[k]?) → Below g w w' → wpList P ops Q rest (a.put o.dst (goInt m)) w') : wpList P ops Q (o :: rest) a w :=
  wpList_plain hgd fun _ hK => wp_copy_at d s dT sT ho elem hu N hsz g off dLen dCap ad sLen sCap hd hs cur t hg cs m hm hn hsrc hfit h1 fun w' a1 a2 a3 => hK _ _ (h w' a1 a2 a3)

/-- A row of the call's own, as its block stands. -/
theorem own_row {w : World} {base : Nat} {e : TypeId} {size g n cap : Nat} {xs : List Value} (h : w.ownsRow base e size (.slice (some ⟨g, 0, none⟩) n cap) n xs) :
    ∃ cur : List Value, w.heap[g]? = some (.cells cur.toArray e (0, 0)) ∧ cur.length = cap * size ∧ cur.take (n * size) = xs ∧ n ≤ cap ∧ cap ≤ maxLen ∧ base ≤ g := by
  obtain ⟨h1, h2⟩ := h
  rcases h2 with ⟨hv, _⟩ | ⟨g', cap', cur, hv, hg, hh, hnc, hcm, hsz, hxs⟩
  · cases hv
  · injection hv with hv1 _ hv2
    injection hv1 with hv1
    injection hv1 with hv1 _ _
    subst hv1 hv2
    exact ⟨cur.toList, by simpa using hh, by simpa using hsz, hxs, hnc, hcm, hg⟩
theorem own_of_row {w : World} {base : Nat} {e : TypeId} {size g n cap : Nat} {xs cur : List Value} (hh : w.heap[g]? = some (.cells cur.toArray e (0, 0))) (hb : base ≤ g) (hnc : n ≤ cap) (hcm : cap ≤ maxLen) (hsz : cur.length = cap * size) (hxs : cur.take (n * size) = xs) :
    w.ownsRow base e size (.slice (some ⟨g, 0, none⟩) n cap) n xs := by
  refine ⟨?_, .inr ⟨g, cap, cur.toArray, rfl, hb, hh, hnc, hcm, by simpa using hsz, by simpa using hxs⟩⟩
  rw [← hxs, List.length_take, hsz, Nat.min_eq_left (Nat.mul_le_mul_right _ hnc)]
theorem row_cell {w : World} {g : Nat} {e : TypeId} {cur : List Value} (hh : w.heap[g]? = some (.cells cur.toArray e (0, 0))) (j : Nat) : w.cell? ⟨g, j, none⟩ = cur[j]? := by
  simp [World.cell?, hh]
/-- Put in within the room: what stands behind is moved first. -/
theorem splice_shift {cur A t B : List Value} {p q r : Nat} (hc : cur.take (p + q) = A ++ B) (hA : A.length = p) (hB : B.length = q) (ht : t.length = r) (hl : p + r + q ≤ cur.length) :
    (splice (splice cur (p + r) B) p t).take (p + r + q) = A ++ (t ++ B) := by
  have hpA : cur.take p = A := by
    have := congrArg (List.take p) hc
    rw [List.take_take, Nat.min_eq_left (by omega), List.take_append_of_le_length (by omega), ← hA, List.take_length] at this
    rw [hA] at this; exact this
  have e1 : splice cur (p + r) B = cur.take (p + r) ++ (B ++ cur.drop (p + r + q)) := by rw [splice, hB]
  have hl1 : (cur.take (p + r)).length = p + r := by rw [List.length_take]; omega
  have e2 : (cur.take (p + r) ++ (B ++ cur.drop (p + r + q))).take p = A := by
    rw [List.take_append_of_le_length (by omega), List.take_take, Nat.min_eq_left (by omega), hpA]
  have e3 : (cur.take (p + r) ++ (B ++ cur.drop (p + r + q))).drop (p + r) = B ++ cur.drop (p + r + q) := by
    rw [List.drop_append_of_le_length (by omega), List.drop_of_length_le (by omega), List.nil_append]
  rw [e1, splice, ht, e2, e3, ← List.append_assoc, ← List.append_assoc, List.take_append_of_le_length (by simp; omega), List.take_of_length_le (by simp; omega), List.append_assoc]
/-- Put in into a new row: the element, then what stands behind. -/
theorem splice_fill {cur A t B : List Value} {p q r : Nat} (hc : cur.take p = A) (hA : A.length = p) (hB : B.length = q) (ht : t.length = r) (hl : p + r + q ≤ cur.length) :
    (splice (splice cur p t) (p + r) B).take (p + r + q) = A ++ (t ++ B) := by
  have e1 : splice cur p t = A ++ (t ++ cur.drop (p + r)) := by rw [splice, ht, hc]
  have e2 : (A ++ (t ++ cur.drop (p + r))).take (p + r) = A ++ t := by
    rw [← List.append_assoc, List.take_append_of_le_length (by simp; omega), List.take_of_length_le (by simp; omega)]
  rw [e1, splice, e2, ← List.append_assoc, List.take_append_of_le_length (by simp; omega), List.take_of_length_le (by simp; omega), List.append_assoc]
end Go.Proofs.YtphljobklilbdaaGreatDoor

namespace Go.Proofs.YtphljobklilbdaaGreatDoor
open Go.RowKit
set_option linter.unusedVariables false

/-- A row of the call's own that holds the list. -/
def OwnK {α : Type} (E : Flat α) (T : TypeId) (w : World) (xs : List α) (e : Ending) (w' : World) : Prop := ∃ v, e = .returned v ∧ Own E w' w.heap.size T v xs ∧ Below w.heap.size w w'
theorem rowp_ {cur A B : List Value} {n p j : Nat} {u : Value} (hct : cur.take n = A ++ B) (hA : A.length = p) (hu : B[j]? = some u) : cur[p + j]? = some u := by
  have hj : p + j < n := by
    have h1 : (A ++ B).length ≤ n := by rw [← hct, List.length_take]; omega
    rw [List.length_append] at h1
    have h2 : j < B.length := by
      rcases Nat.lt_or_ge j B.length with h | h
      · exact h
      · rw [List.getElem?_eq_none h] at hu; cases hu
    omega
  have h := congrArg (fun l : List Value => l[p + j]?) hct
  simp only [List.getElem?_take, if_pos hj] at h
  rw [h, List.getElem?_append_right (by omega), hA, Nat.add_sub_cancel_left]
  exact hu
theorem arr3_ (A : List Value) (X Y : Array Value) : (A ++ (X.toList ++ Y.toList)).toArray = A.toArray ++ X ++ Y := by
  apply Array.ext'; simp
theorem rowh_ {cur A B : List Value} {n j : Nat} {u : Value} (hct : cur.take n = A ++ B) (hu : A[j]? = some u) : cur[j]? = some u := by
  have h2 : j < A.length := by
    rcases Nat.lt_or_ge j A.length with h | h
    · exact h
    · rw [List.getElem?_eq_none h] at hu; cases hu
  have hj : j < n := by
    have h1 : (A ++ B).length ≤ n := by rw [← hct, List.length_take]; omega
    rw [List.length_append] at h1
    omega
  have h := congrArg (fun l : List Value => l[j]?) hct
  simp only [List.getElem?_take, if_pos hj] at h
  rw [h, List.getElem?_append_left h2]
  exact hu
theorem ownM_ {w : World} {base base' : Nat} {e : TypeId} {size : Nat} {v : Value} {n : Nat} {xs : List Value} (h : w.ownsRow base e size v n xs) (hb : base' ≤ base) : w.ownsRow base' e size v n xs := by
  obtain ⟨h1, h2⟩ := h
  refine ⟨h1, ?_⟩
  rcases h2 with h2 | ⟨g, cap, cur, hv, hg, r⟩
  · exact .inl h2
  · exact .inr ⟨g, cap, cur, hv, by omega, r⟩
theorem ownO_ {w : World} {base : Nat} {e : TypeId} {size : Nat} {v : Value} {n : Nat} {xs : List Value} (h : w.ownsRow base e size v n xs) (hn : 0 < n) :
    ∃ g cap, v = .slice (some ⟨g, 0, none⟩) n cap ∧ base ≤ g ∧ g < w.heap.size ∧ n ≤ cap ∧ cap ≤ 9223372036854775807 := by
  obtain ⟨h1, h2⟩ := h
  rcases h2 with ⟨_, h0⟩ | ⟨g, cap, cur, hv, hg, hh, hnc, hcm, _, _⟩
  · omega
  · refine ⟨g, cap, hv, hg, ?_, hnc, by unfold maxLen at hcm; exact hcm⟩
    rcases Nat.lt_or_ge g w.heap.size with hlt | hge
    · exact hlt
    · rw [Array.getElem?_eq_none hge] at hh; cases hh
/-- How many stand ahead. -/
def posF {α : Type} (p : α → Bool) (xs : List α) : Nat := (xs.takeWhile p).length
theorem posF_is {α : Type} (p : α → Bool) (xs : List α) (k : Nat) (hk : k ≤ xs.length) (h1 : ∀ m (h : m < xs.length), m < k → p xs[m] = true) (h2 : ∀ h : k < xs.length, p xs[k] = false) : posF p xs = k := by
  unfold posF
  induction xs generalizing k with
  | nil => simp at hk; subst hk; rfl
  | cons x xs ih =>
    cases k with
    | zero =>
      have := h2 (by simp)
      rw [List.takeWhile_cons, show p x = false from this]; rfl
    | succ k =>
      have h3 : p x = true := h1 0 (by simp) (by omega)
      rw [List.takeWhile_cons, h3, if_pos rfl, List.length_cons]
      congr 1
      refine ih k (by simpa using hk) (fun m h hm => ?_) (fun h => ?_)
      · have := h1 (m + 1) (by simpa using h) (by omega); simpa using this
      · have := h2 (by simpa using h); simpa using this
theorem posF_le {α : Type} (p : α → Bool) (xs : List α) : posF p xs ≤ xs.length := by
  unfold posF
  exact (List.takeWhile_prefix p).length_le
end Go.Proofs.YtphljobklilbdaaGreatDoor

namespace Go.Proofs.YtphljobklilbdaaGreatDoor
open Go.RowKit
set_option linter.unusedVariables false

theorem flat_set {α : Type} {E : Flat α} : ∀ (L : List α) (k j : Nat) (y : α) (u : Value) (hk : k < L.length), j < E.n → E.enc y = (E.enc L[k]).set j u → (L.flatMap E.enc).set (k * E.n + j) u = (L.set k y).flatMap E.enc
  | [], k, j, y, u, hk, _, _ => absurd hk (Nat.not_lt_zero _)
  | x :: L, 0, j, y, u, hk, hj, hu => by
    have hl := E.len x
    rw [List.getElem_cons_zero] at hu
    rw [Nat.zero_mul, Nat.zero_add, List.flatMap_cons, List.set_cons_zero, List.flatMap_cons, List.set_append_left _ _ (by omega), hu]
  | x :: L, k + 1, j, y, u, hk, hj, hu => by
    have hl := E.len x
    have ih := flat_set L k j y u (by simpa using hk) hj (by simpa using hu)
    have e : (k + 1) * E.n + j - (E.enc x).length = k * E.n + j := by rw [hl, Nat.succ_mul]; omega
    have h2 : (E.enc x).length ≤ (k + 1) * E.n + j := by rw [hl, Nat.succ_mul]; omega
    rw [List.flatMap_cons, List.set_cons_succ, List.flatMap_cons, List.set_append_right _ _ h2, e, ih]
theorem Own.len_eq {α : Type} {E : Flat α} {w : World} {base : Nat} {e : TypeId} {A : Option Addr} {n cap : Nat} {L : List α} (h : Own E w base e (.slice A n cap) L) (hL : L ≠ []) : n = L.length := by
  rcases h.2 with ⟨hv, h0⟩ | ⟨g', cap', cur, hv, _⟩
  · injection hv with _ h1 _
    first | omega | exact absurd (List.length_eq_zero_iff.1 (by first | exact h0.1 | exact h0 | omega)) hL
  · injection hv
theorem Own.setF {α : Type} {E : Flat α} {w : World} {base : Nat} {e : TypeId} {g n cap : Nat} {L : List α} (h : Own E w base e (.slice (some ⟨g, 0, none⟩) n cap) L) {k : Nat} (hk : k < L.length) (j : Nat) (hj : j < E.n) (y : α) (u : Value) (hu : E.enc y = (E.enc L[k]).set j u) :
    Own E (w.setCell ⟨g, k * E.n + j, none⟩ u) base e (.slice (some ⟨g, 0, none⟩) n cap) (L.set k y) := by
  have hn : n = L.length := by
    rcases h.2 with ⟨hv, _⟩ | ⟨g', cap', cur, hv, _⟩
    · cases hv
    · injection hv
  have h' : w.ownsRow base e E.n (.slice (some ⟨g, 0, none⟩) L.length cap) L.length (L.flatMap E.enc) := by rw [hn] at h; exact h
  have h2 := (h'.stored (k * E.n + j) u).1
  rw [flat_set L k j y u hk hj hu] at h2
  show World.ownsRow _ base e E.n _ (L.set k y).length _
  rw [List.length_set, hn]
  exact h2
theorem Own.cellF {α : Type} {E : Flat α} {w : World} {base : Nat} {e : TypeId} {g n cap : Nat} {L : List α} (h : Own E w base e (.slice (some ⟨g, 0, none⟩) n cap) L) {k : Nat} (hk : k < L.length) {j : Nat} (hj : j < E.n) {u : Value} (hu : (E.enc L[k])[j]? = some u) : w.cell? ⟨g, k * E.n + j, none⟩ = some u := by
  have hn : n = L.length := by
    rcases h.2 with ⟨hv, _⟩ | ⟨g', cap', cur, hv, _⟩
    · cases hv
    · injection hv
  have h' : w.ownsRow base e E.n (.slice (some ⟨g, 0, none⟩) L.length cap) L.length (L.flatMap E.enc) := by rw [hn] at h; exact h
  have hlt : k * E.n + j < L.length * E.n := by
    calc k * E.n + j < k * E.n + E.n := by omega
      _ = (k + 1) * E.n := by rw [Nat.succ_mul]
      _ ≤ L.length * E.n := Nat.mul_le_mul_right _ hk
  rw [h'.cellAt (k * E.n + j) hlt]
  have := flat_get E.enc E.n L (fun x _ => E.len x) k hk j hj
  rw [this]; exact hu
theorem Own.frozenF {α : Type} {E : Flat α} {w : World} {base : Nat} {e : TypeId} {g n cap : Nat} {L : List α} (h : Own E w base e (.slice (some ⟨g, 0, none⟩) n cap) L) (k : Nat) : w.frozen? ⟨g, k, none⟩ = false := by
  have hn : n = L.length := by
    rcases h.2 with ⟨hv, _⟩ | ⟨g', cap', cur, hv, _⟩
    · cases hv
    · injection hv
  have h' : w.ownsRow base e E.n (.slice (some ⟨g, 0, none⟩) L.length cap) L.length (L.flatMap E.enc) := by rw [hn] at h; exact h
  exact h'.frozenAt k
end Go.Proofs.YtphljobklilbdaaGreatDoor

namespace Go.Proofs.YtphljobklilbdaaGreatDoor
open Go.RowKit
section
variable {P : Program} {ops : Array Oper} {Q : Exit → Act → World → Prop} {md : Region.Mode} {C : World → Prop} {t : Nat}

/-- Whichever comes up: behind each but number 't' the class holds. -/
def wpSink (P : Program) (md : Region.Mode) (ops : Array Oper) (Q : Exit → Act → World → Prop) (C : World → Prop) (t : Nat) : Nat → Array Bool → Act → World → Prop
  | 0, L, a, w => Region.ready md ops L = [] ∧ Q .normal a w
  | n + 1, L, a, w => (Region.ready md ops L = [] → Q .normal a w) ∧ ∀ i, i ∈ Region.ready md ops L → wpOp P ops Q i (fun b v => (i ≠ t → C v) ∧ wpSink P md ops Q C t n (L.setIfInBounds i true) b v) a w
theorem any_of_sink : ∀ (n : Nat) (L : Array Bool) (a : Act) (w : World), wpSink P md ops Q C t n L a w → wpAny P md ops Q n L a w
  | 0, _, _, _, h => h
  | n + 1, _, _, _, h => And.intro h.1 fun i hi => wpOp_mono (fun b v g => any_of_sink n _ b v g.2) (h.2 i hi)
/-- Does number 't' wait for number 'i'? -/
def waitsOn (md : Region.Mode) (ops : Array Oper) (t i : Nat) : Bool := match ops[t]? with | some o => o.after.any (fun e => Region.binds md e && e.on == i) | none => false
theorem waitsOn_not {i : Nat} {L : Array Bool} (hw : waitsOn md ops t i = true) (hi : L.getD i true = false) : t ∉ Region.ready md ops L := by
  intro ht
  obtain ⟨_, o, ho, hall⟩ := mem_ready.1 ht
  unfold waitsOn at hw
  rw [ho] at hw
  simp only at hw
  obtain ⟨e, he, hb⟩ := Array.any_eq_true'.1 hw
  simp only [Bool.and_eq_true, beq_iff_eq] at hb
  have h1 := hall e he hb.1
  rw [hb.2] at h1
  rcases Nat.lt_or_ge i L.size with h' | h'
  · simp [h'] at hi h1; rw [hi] at h1; cases h1
  · simp [Array.getElem?_eq_none h'] at h1
/-- Does number 't' wait for number 'i', or for one that is not listed yet and that waits for 'i', and so on? -/
def waitsDeep (md : Region.Mode) (ops : Array Oper) (i : Nat) (L : Array Bool) : Nat → Nat → Bool
  | 0, j => waitsOn md ops j i
  | d + 1, j => waitsOn md ops j i || (List.range ops.size).any fun k => !(L.getD k true) && waitsOn md ops j k && waitsDeep md ops i L d k
def waitsBy (md : Region.Mode) (ops : Array Oper) (t i : Nat) (L : Array Bool) : Bool := waitsDeep md ops i L 12 t
theorem waitsDeep_not {i : Nat} {L : Array Bool} (hi : L.getD i true = false) : ∀ (d j : Nat), waitsDeep md ops i L d j = true → j ∉ Region.ready md ops L := by
  intro d j h
  cases d with
  | zero => exact waitsOn_not h hi
  | succ d =>
    simp only [waitsDeep, Bool.or_eq_true] at h
    rcases h with h | h
    · exact waitsOn_not h hi
    · obtain ⟨k, _, hk⟩ := List.any_eq_true.1 h
      simp only [Bool.and_eq_true, Bool.not_eq_true'] at hk
      exact waitsOn_not hk.1.2 hk.1.1
theorem waitsBy_not {i : Nat} {L : Array Bool} (hw : waitsBy md ops t i L = true) (hi : L.getD i true = false) : t ∉ Region.ready md ops L := waitsDeep_not hi _ _ hw
theorem waitsDeep_keep {i x : Nat} {L : Array Bool} (hi : L.getD i true = false) (hx : x ∈ Region.ready md ops L) : ∀ (d j : Nat), waitsDeep md ops i L d j = true → waitsDeep md ops i (L.setIfInBounds x true) d j = true := by
  intro d
  induction d with
  | zero => intro j h; exact h
  | succ d ih =>
    intro j h
    simp only [waitsDeep, Bool.or_eq_true] at h ⊢
    rcases h with h | h
    · exact .inl h
    · right
      obtain ⟨k, hkr, hk⟩ := List.any_eq_true.1 h
      simp only [Bool.and_eq_true, Bool.not_eq_true'] at hk
      refine List.any_eq_true.2 ⟨k, hkr, ?_⟩
      have hne : x ≠ k := fun e => waitsDeep_not hi d k hk.2 (e ▸ hx)
      simp only [Bool.and_eq_true, Bool.not_eq_true']
      exact ⟨⟨by rw [getD_set_ne true hne]; exact hk.1.1, hk.1.2⟩, ih k hk.2⟩
theorem waitsBy_keep {i k : Nat} {L : Array Bool} (hw : waitsBy md ops t i L = true) (hi : L.getD i true = false) (hk : k ∈ Region.ready md ops L) : waitsBy md ops t i (L.setIfInBounds k true) = true := waitsDeep_keep hi hk _ _ hw
theorem sink_first {i : Nat} {o : Oper} {v : Value} (ho : ops[i]? = some o) (hs : Region.noSelect ops = true) (hit : i ≠ t)
    (hQ : ∀ c a w, Q (.panic c) (a.put o.dst v) w → Q (.panic c) a w) : ∀ (n : Nat) (L : Array Bool) (a : Act) (w : World),
      (∀ j p, ops[j]? = some p → j ≠ i → L.getD j true = false → (∀ e ∈ p.after, Region.binds md e = true → e.on ≠ i) → o.apart ops p = true) →
      waitsBy md ops t i L = true → i ∈ Region.ready md ops L → YieldsIf P ops C o v a → C w → wpSink P md ops Q C t n (L.setIfInBounds i true) (a.put o.dst v) w → wpSink P md ops Q C t (n + 1) L a w := by
  intro n
  induction n with
  | zero =>
    intro L a w _ _ hr hy hC H
    constructor
    · intro h; rw [h] at hr; exact absurd hr List.not_mem_nil
    · intro j hj
      rcases Decidable.em (j = i) with rfl | e
      · exact hy.wpOp ho hC ⟨fun _ => hC, H⟩
      · have h2 := ready_mono hj e
        rw [H.1] at h2
        exact absurd h2 List.not_mem_nil
  | succ n ih =>
    intro L a w hf hwt hr hy hC H
    constructor
    · intro h; rw [h] at hr; exact absurd hr List.not_mem_nil
    · intro j hj
      rcases Decidable.em (j = i) with rfl | e
      · exact hy.wpOp ho hC ⟨fun _ => hC, H⟩
      · have hun := (mem_ready.1 hr).1
        have hjt : j ≠ t := fun h => waitsBy_not hwt hun (h ▸ hj)
        obtain ⟨hju, p, hp, hall⟩ := mem_ready.1 hj
        have hno : ∀ e ∈ p.after, Region.binds md e = true → e.on ≠ i := fun e he hb h => by
          have h1 := hall e he hb
          rw [h] at h1
          rcases Nat.lt_or_ge i L.size with h' | h'
          · simp [h'] at hun h1; rw [hun] at h1; cases h1
          · simp [Array.getElem?_eq_none h'] at h1
        have h2 := wpOp_putIf hp (hf j p hp e hju hno) (fun cs b => Region.noSelect_spec hs i o cs b ho) (fun cs b => Region.noSelect_spec hs j p cs b hp) hQ hy (H.2 j (ready_mono hj e))
        refine wpOp_mono (fun b u g => ?_) h2
        have hCu := g.2.1 hjt
        refine ⟨fun _ => hCu, ih _ b u (fun k q hk hki hku hkn => ?_) (waitsBy_keep hwt hun hj) (ready_mono hr (Ne.symm e)) g.1 hCu ?_⟩
        · refine hf k q hk hki ?_ hkn
          rcases Decidable.em (j = k) with rfl | hjk
          · exact hju
          · rw [getD_set_ne true hjk] at hku; exact hku
        · rw [Array.setIfInBounds_comm _ _ e]
          exact g.2.2

def wpMixS (P : Program) (ops : Array Oper) (Q : Exit → Act → World → Prop) (C : World → Prop) : List Bool → List Oper → Act → World → Prop
  | _, [], a, w => Q .normal a w
  | [], _ :: _, _, _ => False
  | true :: ks, o :: l, a, w => if Region.wanted o (yielded ops a.tmps) then o.quiet P a C (fun a' => wpMixS P ops Q C ks l a' w) else wpMixS P ops Q C ks l (a.put o.dst undef) w
  | false :: ks, o :: l, a, w => if Region.wanted o (yielded ops a.tmps) then o.wp P a w (fun a' w' => (l ≠ [] → C w') ∧ wpMixS P ops Q C ks l a' w') Q else wpMixS P ops Q C ks l (a.put o.dst undef) w
def mixSB (md : Region.Mode) (ops : Array Oper) (t : Nat) : List Nat → List Bool → Array Bool → Bool
  | [], _, L => (Region.ready md ops L).isEmpty
  | i :: is, true :: ks, L => (Region.ready md ops L).contains i && Region.free md ops L i && ((ops[i]?).map valueOnly).getD false && !(i == t) && waitsBy md ops t i L && mixSB md ops t is ks (L.setIfInBounds i true)
  | i :: is, false :: ks, L => (Region.ready md ops L == [i]) && (is.isEmpty == (i == t)) && mixSB md ops t is ks (L.setIfInBounds i true)
  | _ :: _, [], _ => false
theorem sink_of_mix (hs : Region.noSelect ops = true) (hQ : ∀ (c : _) (a : Act) (d : Option Tmp) (v : Value) (w : World), Q (.panic c) (a.put d v) w → Q (.panic c) a w) :
    ∀ (is : List Nat) (ks : List Bool) (l : List Oper) (L : Array Bool) (a : Act) (w : World), (∀ j : Nat, l[j]? = (is[j]?).bind (fun i => ops[i]?)) → l.length = is.length →
      mixSB md ops t is ks L = true → (l ≠ [] → C w) → wpMixS P ops Q C ks l a w → wpSink P md ops Q C t is.length L a w := by
  intro is
  induction is with
  | nil =>
    intro ks l L a w _ hn hB _ h
    obtain rfl : l = [] := List.eq_nil_of_length_eq_zero hn
    have h' : Q .normal a w := by cases ks <;> exact h
    exact ⟨by simpa [mixSB] using hB, h'⟩
  | cons i is ih =>
    intro ks l L a w hl hn hB hC h
    cases l with
    | nil => simp at hn
    | cons o l =>
      have hC := hC (by simp)
      have ho : ops[i]? = some o := by simpa using (hl 0).symm
      have hl' : ∀ j : Nat, l[j]? = (is[j]?).bind (fun i => ops[i]?) := fun j => by simpa using hl (j + 1)
      have hn' : l.length = is.length := by simpa using hn
      cases ks with
      | nil => simp [mixSB] at hB
      | cons k ks =>
        cases k with
        | true =>
          simp only [mixSB, Bool.and_eq_true, ho, Option.map_some, Option.getD_some, Bool.not_eq_true', beq_eq_false_iff_ne] at hB
          obtain ⟨⟨⟨⟨⟨hr, hf⟩, hv⟩, hit⟩, hwt⟩, hB'⟩ := hB
          simp only [wpMixS] at h
          have hr' : i ∈ Region.ready md ops L := by simpa using hr
          by_cases hw : Region.wanted o (yielded ops a.tmps) = true
          · rw [if_pos hw] at h
            obtain ⟨v, h1, h2⟩ := yieldsIf_of_quiet hv h
            exact sink_first ho hs hit (fun c a w => hQ c a _ _ w) _ L a w (Region.free_spec ho hf) hwt hr' (.inl ⟨hw, h1⟩) hC (ih ks l _ _ w hl' hn' hB' (fun _ => hC) h2)
          · rw [if_neg hw] at h
            exact sink_first ho hs hit (fun c a w => hQ c a _ _ w) _ L a w (Region.free_spec ho hf) hwt hr' (.inr ⟨by simpa using hw, rfl⟩) hC (ih ks l _ _ w hl' hn' hB' (fun _ => hC) h)
        | false =>
          simp only [mixSB, Bool.and_eq_true, beq_iff_eq] at hB
          obtain ⟨⟨hr, he⟩, hB'⟩ := hB
          simp only [wpMixS] at h
          have hlt : i ≠ t → l ≠ [] := fun hne hl0 => by
            subst hl0
            have : is = [] := List.eq_nil_of_length_eq_zero hn'.symm
            rw [this] at he
            exact hne (by simpa using he.symm)
          refine ⟨fun h0 => by rw [h0] at hr; simp at hr, fun j hj => ?_⟩
          rw [hr, List.mem_singleton] at hj
          subst hj
          unfold wpOp
          simp only [ho]
          by_cases hw : Region.wanted o (yielded ops a.tmps) = true
          · rw [if_pos hw] at h ⊢
            exact .inl (Oper.wp_mono (fun a' w' hh => ⟨fun hne => hh.1 (hlt hne), ih ks l _ a' w' hl' hn' hB' hh.1 hh.2⟩) h)
          · rw [if_neg hw] at h ⊢
            exact ⟨fun _ => hC, ih ks l _ _ w hl' hn' hB' (fun _ => hC) h⟩
structure MixS (P : Program) (ops : Array Oper) (Q : Exit → Act → World → Prop) (C : World → Prop) (ks : List Bool) (l : List Oper) (a : Act) (w : World) : Prop where
  out : wpMixS P ops Q C ks l a w
theorem wp_region_sink {id : Nat} {l : List Oper} {a : Act} {w : World} (is : List Nat) (ks : List Bool) (t : Nat) (hm : P.follows .mixedOrders = true) (hs : Region.noSelect l.toArray = true)
    (hB : (is.all (fun i => decide (i < l.length)) && decide (is.length = l.length) && mixSB .any l.toArray t is ks (Array.replicate l.length false)) = true)
    (hQ : ∀ (c : _) (a : Act) (d : Option Tmp) (v : Value) (w : World), Q (.panic c) (a.put d v) w → Q (.panic c) a w) (hC : C w.drew) (h : MixS P l.toArray Q C ks (is.map fun i => l.getD i default) a w.drew) : (Code.region id l.toArray true).wp P Q a w := by
  simp only [Bool.and_eq_true, decide_eq_true_eq, List.all_eq_true] at hB
  obtain ⟨⟨h1, h2⟩, h3⟩ := hB
  refine wp_region_any hm (any_of_sink (C := C) (t := t) _ _ _ _ ?_)
  have := sink_of_mix (md := .any) hs hQ is ks (is.map fun i => l.getD i default) (Array.replicate l.length false) a w.drew (fun j => by
    rw [List.getElem?_map]
    cases hj : is[j]? with
    | none => rfl
    | some i =>
      have hi := h1 i (List.mem_of_getElem? hj)
      simp [hi, List.getD_eq_getElem?_getD]) (by simp) h3 (fun _ => hC) h.out
  rw [h2] at this
  simpa using this
theorem wpMixS_pure {ks : List Bool} {o : Oper} {l : List Oper} {a : Act} {w : World} (hw : Region.wanted o (yielded ops a.tmps) = true)
    (h : ∀ K : Act → Prop, (∀ a', MixS P ops Q C ks l a' w → K a') → o.quiet P a C K) : MixS P ops Q C (true :: ks) (o :: l) a w := by
  refine ⟨?_⟩
  simp only [wpMixS]; rw [if_pos hw]; exact h _ fun _ h => h.out
theorem wpMixS_skip {k : Bool} {ks : List Bool} {o : Oper} {l : List Oper} {a : Act} {w : World} (hw : Region.wanted o (yielded ops a.tmps) = false)
    (h : ∀ K : Act → Prop, (∀ a', MixS P ops Q C ks l a' w → K a') → K (a.put o.dst undef)) : MixS P ops Q C (k :: ks) (o :: l) a w := by
  have h' : wpMixS P ops Q C ks l (a.put o.dst undef) w := h _ fun _ h => h.out
  refine ⟨?_⟩
  cases k <;> (simp only [wpMixS]; rw [if_neg (by rw [hw]; exact Bool.false_ne_true)]; exact h')
theorem wpMixS_act {ks : List Bool} {o : Oper} {l : List Oper} {a : Act} {w : World} (hw : Region.wanted o (yielded ops a.tmps) = true)
    (h : ∀ K : Act → World → Prop, (∀ a' w', C w' → MixS P ops Q C ks l a' w' → K a' w') → o.wp P a w K Q) : MixS P ops Q C (false :: ks) (o :: l) a w := by
  refine ⟨?_⟩
  simp only [wpMixS]; rw [if_pos hw]; exact h _ fun _ _ hc h => ⟨fun _ => hc, h.out⟩
theorem wpMixS_last {ks : List Bool} {o : Oper} {a : Act} {w : World} (hw : Region.wanted o (yielded ops a.tmps) = true)
    (h : ∀ K : Act → World → Prop, (∀ a' w', Q .normal a' w' → K a' w') → o.wp P a w K Q) : MixS P ops Q C (false :: ks) [o] a w := by
  refine ⟨?_⟩
  simp only [wpMixS]; rw [if_pos hw]; exact h _ fun _ _ hq => ⟨fun h0 => absurd rfl h0, by cases ks <;> exact hq⟩
theorem mixS_world {ks : List Bool} {l : List Oper} {a : Act} {w : World} (X : World → Prop) (hX : X w) (h : ∀ N, X N → MixS P ops Q C ks l a N) : MixS P ops Q C ks l a w := h w hX
end
end Go.Proofs.YtphljobklilbdaaGreatDoor

namespace Go.Proofs.YtphljobklilbdaaGreatDoor
open Go.RowKit
set_option linter.unusedVariables false

/-- The source at block g: no more than n bytes have been drawn. -/
def SrcD (n : Nat) (g : Nat) (w : World) : Prop := ∃ (v : Value) (xs : List UInt8) (fp : List Nat) (k : Nat) (seed : Int), w.cell? ⟨g, 0, none⟩ = some v ∧ w.cell? ⟨g, 1, none⟩ = some (.int .i64 k) ∧ w.cell? ⟨g, 2, none⟩ = some (.int .u64 seed) ∧
  w.frozen? ⟨g, 1, none⟩ = false ∧ w.frozen? ⟨g, 2, none⟩ = false ∧ k ≤ n ∧ Sl fByte.cod w v xs fp ∧ (∀ b ∈ fp, b < g)
theorem Only.cell {fp : List Nat} {w w' : World} (h : Only fp w w') {p : Addr} (hp : p.block < w.heap.size) (hn : p.block ∉ fp) : w'.cell? p = w.cell? p := World.cell?_of_block (w := w) (h.block p.block hp hn)
theorem Only.frozen {fp : List Nat} {w w' : World} (h : Only fp w w') {p : Addr} (hp : p.block < w.heap.size) (hn : p.block ∉ fp) : w'.frozen? p = w.frozen? p := World.frozen?_of_block (w := w) (h.block p.block hp hn)
theorem Only.drewN {fp : List Nat} {w w' : World} (h : Only fp w w') (n : Nat) : Only fp w (w'.drewN n) := h.trans (.of_below (below_drewN (Below.refl _ _) n))
theorem SrcD.mono {n m g : Nat} {w : World} (h : SrcD n g w) (hm : n ≤ m) : SrcD m g w := by
  obtain ⟨v, xs, fp, k, seed, h0, h1, h2, h3, h4, h5, h6, h7⟩ := h
  exact ⟨v, xs, fp, k, seed, h0, h1, h2, h3, h4, by omega, h6, h7⟩
theorem SrcD.lt {n g : Nat} {w : World} (h : SrcD n g w) : g < w.heap.size := by
  obtain ⟨v, xs, fp, k, seed, h0, _⟩ := h
  exact block_lt_of_cell h0
theorem SrcD.below {n g : Nat} {w w' : World} (h : SrcD n g w) (hb : Below w.heap.size w w') : SrcD n g w' := by
  have hg := h.lt
  obtain ⟨v, xs, fp, k, seed, h0, h1, h2, h3, h4, h5, h6, h7⟩ := h
  exact ⟨v, xs, fp, k, seed, (hb.cell (p := ⟨g, 0, none⟩) hg).trans h0, (hb.cell (p := ⟨g, 1, none⟩) hg).trans h1, (hb.cell (p := ⟨g, 2, none⟩) hg).trans h2, (hb.frozen (p := ⟨g, 1, none⟩) hg).trans h3, (hb.frozen (p := ⟨g, 2, none⟩) hg).trans h4, h5, h6.below' hb, h7⟩
theorem SrcD.belowB {n g B : Nat} {w w' : World} (h : SrcD n g w) (hb : Below B w w') (hB : g < B) : SrcD n g w' := by
  obtain ⟨v, xs, fp, k, seed, h0, h1, h2, h3, h4, h5, h6, h7⟩ := h
  exact ⟨v, xs, fp, k, seed, (hb.cell (p := ⟨g, 0, none⟩) hB).trans h0, (hb.cell (p := ⟨g, 1, none⟩) hB).trans h1, (hb.cell (p := ⟨g, 2, none⟩) hB).trans h2, (hb.frozen (p := ⟨g, 1, none⟩) hB).trans h3, (hb.frozen (p := ⟨g, 2, none⟩) hB).trans h4, h5, h6.below hb (fun b hm => by have := h7 b hm; omega), h7⟩
theorem Only.then {fp : List Nat} {a b c : World} (h : Only fp a b) (k : Below a.heap.size b c) : Only fp a c :=
  ⟨k.os.trans h.os, k.tape.trans h.tape, k.output.trans h.output, Nat.le_trans h.size k.size, fun i hi hn => (k.block i hi).trans (h.block i hi hn)⟩
theorem Only.put {fp : List Nat} {a b : World} (h : Only fp a b) {p : Addr} (hp : a.heap.size ≤ p.block) (v : Value) : Only fp a (b.setCell p v) :=
  h.then ((Below.refl _ _).setCell hp v)
theorem Only.new {fp : List Nat} {a b : World} (h : Only fp a b) (o : Obj) : Only fp a (b.alloc o) := h.then ((Below.refl _ _).alloc h.size o)
theorem Only.later {fp : List Nat} {a b c : World} (h : Below a.heap.size a b) (k : Only fp b c) : Only fp a c :=
  (Only.of_below h).trans k
theorem Only.lift {g : Nat} {a b c : World} (h : Only [g] a b) (k : Only [g] b c) : Only [g] a c := h.trans k
theorem Own.only {α : Type} {E : Flat α} {w w' : World} {base : Nat} {e : TypeId} {v : Value} {L : List α} {fp : List Nat} (h : Own E w base e v L) (hb : Only fp w w') (hn : ∀ g ∈ fp, g < base) : Own E w' base e v L := by
  obtain ⟨h1, h2⟩ := h
  refine ⟨h1, ?_⟩
  rcases h2 with h2 | ⟨g, cap, cur, hv, hg, hh, r⟩
  · exact .inl h2
  · have hgl : g < w.heap.size := by
      rcases Nat.lt_or_ge g w.heap.size with h | h
      · exact h
      · rw [Array.getElem?_eq_none h] at hh; cases hh
    exact .inr ⟨g, cap, cur, hv, hg, by rw [hb.block g hgl (fun hm => by have := hn g hm; omega)]; exact hh, r⟩
theorem w64_inD (n : Int) (h : -9223372036854775808 ≤ n ∧ n ≤ 9223372036854775807) : wrap64 n = n := by unfold wrap64; omega
theorem and255 (x : Int) : 0 ≤ bits .and .u64 x 255 ∧ bits .and .u64 x 255 ≤ 255 := by
  have h : bits .and .u64 x 255 = IntKind.u64.wrap ((BitVec.ofInt 64 x &&& BitVec.ofInt 64 255).toNat : Int) := rfl
  rw [h, BitVec.toNat_and, show (BitVec.ofInt 64 255).toNat = 255 from by decide]
  have h1 : (BitVec.ofInt 64 x).toNat &&& 255 ≤ 255 := Nat.and_le_right
  generalize (BitVec.ofInt 64 x).toNat &&& 255 = m at *
  simp [IntKind.wrap, IntKind.bits, IntKind.signed]
  omega
def SrcAt (v : Value) (xs : List UInt8) (fp : List Nat) (k : Nat) (seed : Int) (n g : Nat) (w : World) : Prop := w.cell? ⟨g, 0, none⟩ = some v ∧ w.cell? ⟨g, 1, none⟩ = some (.int .i64 k) ∧ w.cell? ⟨g, 2, none⟩ = some (.int .u64 seed) ∧
  w.frozen? ⟨g, 1, none⟩ = false ∧ w.frozen? ⟨g, 2, none⟩ = false ∧ k ≤ n ∧ Sl fByte.cod w v xs fp ∧ (∀ b ∈ fp, b < g)
theorem src_step {v : Value} {xs : List UInt8} {fp : List Nat} {k n g : Nat} {seed : Int} {w : World} (h : SrcAt v xs fp k seed n g w) (i j : Nat) (s2 : Int) :
    SrcD (n + 1) g ((((w.drewN i).setCell ⟨g, 1, none⟩ (.int .i64 ((k : Int) + 1))).setCell ⟨g, 2, none⟩ (.int .u64 s2)).drewN j) := by
  obtain ⟨c0, c1, c2, z1, z2, hk, hsl, hne⟩ := h
  have hO : Only [g] w ((((w.drewN i).setCell ⟨g, 1, none⟩ (.int .i64 ((k : Int) + 1))).setCell ⟨g, 2, none⟩ (.int .u64 s2)).drewN j) := ((((Only.refl [g] w).drewN _).set 1 _).set 2 _).drewN _
  have d0 : (w.drewN i).cell? ⟨g, 0, none⟩ = some v := c0
  have d1 : (w.drewN i).cell? ⟨g, 1, none⟩ = some (.int .i64 k) := c1
  have d2 : (w.drewN i).cell? ⟨g, 2, none⟩ = some (.int .u64 seed) := c2
  have y1 : (w.drewN i).frozen? ⟨g, 1, none⟩ = false := z1
  have y2 : (w.drewN i).frozen? ⟨g, 2, none⟩ = false := z2
  refine ⟨v, xs, fp, k + 1, s2, ?_, ?_, ?_, ?_, ?_, by omega, hsl.only hO (fun b hb => by have := hne b hb; simp; omega), hne⟩
  · show World.cell? (World.setCell _ _ _) _ = _
    rw [World.cell?_setCell_other _ _ _ _ (by simp), World.cell?_setCell_other _ _ _ _ (by simp)]; exact d0
  · show World.cell? (World.setCell _ _ _) _ = _
    rw [World.cell?_setCell_other _ _ _ _ (by simp)]
    exact World.cell?_setCell_same _ _ _ d1
  · show World.cell? (World.setCell _ _ _) _ = _
    exact World.cell?_setCell_same _ _ _ ((World.cell?_setCell_other _ _ _ _ (by simp)).trans d2)
  · show World.frozen? (World.setCell _ _ _) _ = _
    rw [frozen?_setCell, frozen?_setCell]; exact y1
  · show World.frozen? (World.setCell _ _ _) _ = _
    rw [frozen?_setCell, frozen?_setCell]; exact y2
set_option maxRecDepth 100000 in
set_option maxHeartbeats 2000000 in
theorem next_any (n g : Nat) (w : World) (hs : SrcD n g w) (hn : n ≤ 1000000000000) :
    Calls Tryz.prog 45 #[.pointer (some ⟨g, 0, none⟩)] w fun e w' => ∃ r : Int, e = .returned (.int .i64 r) ∧ (0 ≤ r ∧ r ≤ 255) ∧ SrcD (n + 1) g w' ∧ Only [g] w w' := by
  have hg := hs.lt
  obtain ⟨v, xs, fp, k, seed, c0, c1, c2, z1, z2, hk, hsl, hne⟩ := hs
  obtain ⟨A, cap, rfl, hle, hca⟩ := hsl.form
  have hlen : xs.length ≤ 9223372036854775807 := by unfold maxLen at *; omega
  by_cases hat : k < xs.length
  · obtain ⟨b, off, rfl, hbm, _, hc, _⟩ := hsl.cell1 rfl hat rfl
    have hx := xs[k].toNat_lt
    go_enter Tryz.func45, Tryz.ntmps45
    go_wp2
    go_quiet (fail)
    go_wp2
    go_quiet (fail)
    go_wp2
    go_quiet (fail)
    go_wp2
    go_ret
    have hw : wrap64 (xs[k].toNat : Int) = xs[k].toNat := w64_inD _ (by omega)
    refine ⟨_, rfl, by first | (rw [hw]; omega) | omega, src_step ⟨c0, c1, c2, z1, z2, hk, hsl, hne⟩ _ _ _, ?_⟩
    exact ((((Only.refl [g] w).drewN _).set 1 _).set 2 _).drewN _
  · go_enter Tryz.func45, Tryz.ntmps45
    go_wp2
    go_quiet (fail)
    go_wp2
    go_quiet (fail)
    go_wp2
    go_ret
    have hw := and255 (IntKind.u64.wrap (IntKind.u64.wrap (IntKind.u64.wrap (seed * 6364136223846793005)) + 1442695040888963407) / 1099511627776)
    generalize bits BinOp.and IntKind.u64 (IntKind.u64.wrap (IntKind.u64.wrap (IntKind.u64.wrap (seed * 6364136223846793005)) + 1442695040888963407) / 1099511627776) 255 = r at *
    have hw2 : wrap64 r = r := w64_inD _ (by omega)
    refine ⟨_, rfl, by rw [hw2]; exact hw, src_step ⟨c0, c1, c2, z1, z2, hk, hsl, hne⟩ _ _ _, ?_⟩
    exact ((((Only.refl [g] w).drewN _).set 1 _).set 2 _).drewN _
set_option maxRecDepth 100000 in
set_option maxHeartbeats 2000000 in
theorem pick_any (n g : Nat) (m : Int) (w : World) (hs : SrcD n g w) (hn : n ≤ 999999999000) (hm : m ≤ 1000000000) :
    Calls Tryz.prog 29 #[.pointer (some ⟨g, 0, none⟩), .int .i64 m] w fun e w' => ∃ r : Int, e = .returned (.int .i64 r) ∧ (0 ≤ r ∧ (1 ≤ m → r < m) ∧ (m ≤ 1 → r = 0)) ∧ SrcD (n + 2) g w' ∧ Only [g] w w' := by
  by_cases h1 : m ≤ 1
  · go_enter Tryz.func29, Tryz.ntmps29
    go_wp2
    go_ret
    exact ⟨0, rfl, ⟨by omega, fun h => by omega, fun _ => rfl⟩, hs.mono (by omega), Only.refl _ _⟩
  · go_enter Tryz.func29, Tryz.ntmps29
    go_wp2_with fail
    refine (next_any n g _ hs (by omega)).mono ?_
    rintro e w1 ⟨x, rfl, hx, hs1, ho1⟩
    by_cases h2 : 200 < m
    · go_wp2_with fail
      refine (next_any (n + 1) g _ hs1 (by omega)).mono ?_
      rintro e w2 ⟨y, rfl, hy, hs2, ho2⟩
      have e1 : 0 ≤ Int.tmod (x * 256 + y) m := Int.tmod_nonneg _ (by omega)
      have e2 : Int.tmod (x * 256 + y) m < m := Int.tmod_lt_of_pos _ (by omega)
      have e3 : wrap64 (x * 256) = x * 256 := w64_inD _ (by omega)
      have e4 : wrap64 (x * 256 + y) = x * 256 + y := w64_inD _ (by omega)
      have e5 : wrap64 (Int.tmod (x * 256 + y) m) = Int.tmod (x * 256 + y) m := w64_inD _ (by omega)
      go_wp2
      go_ret
      refine ⟨_, rfl, ?_, hs2, ho1.trans ho2⟩
      first | exact ⟨e1, fun _ => e2, fun h => by omega⟩ | exact ⟨Int.emod_nonneg _ (by omega), fun _ => Int.emod_lt_of_pos _ (by omega), fun h => by omega⟩ | (simp only [e3, e4, e5]; exact ⟨e1, fun _ => e2, fun h => by omega⟩) | skip
    · have e1 : 0 ≤ Int.tmod x m := Int.tmod_nonneg _ (by omega)
      have e2 : Int.tmod x m < m := Int.tmod_lt_of_pos _ (by omega)
      have e5 : wrap64 (Int.tmod x m) = Int.tmod x m := w64_inD _ (by omega)
      go_wp2
      go_ret
      refine ⟨_, rfl, ?_, hs1.mono (by omega), ho1⟩
      first | exact ⟨e1, fun _ => e2, fun h => by omega⟩ | exact ⟨Int.emod_nonneg _ (by omega), fun _ => Int.emod_lt_of_pos _ (by omega), fun h => by omega⟩ | (simp only [e5]; exact ⟨e1, fun _ => e2, fun h => by omega⟩) | skip
set_option maxRecDepth 100000 in
set_option maxHeartbeats 2000000 in
theorem one_any (n g : Nat) (m : Int) (w : World) (hs : SrcD n g w) (hn : n ≤ 999999999000) (hm : m ≤ 1000000000) :
    Calls Tryz.prog 42 #[.pointer (some ⟨g, 0, none⟩), .int .i64 m] w fun e w' => ∃ r : Bool, e = .returned (.bool r) ∧ SrcD (n + 2) g w' ∧ Only [g] w w' := by
  go_enter Tryz.func42, Tryz.ntmps42
  go_wp2_with fail
  refine (pick_any n g m _ hs hn hm).mono ?_
  rintro e w1 ⟨x, rfl, hx, hs1, ho1⟩
  go_wp2
  go_ret
  exact ⟨_, rfl, hs1, ho1⟩
set_option maxRecDepth 100000 in
set_option maxHeartbeats 2000000 in
theorem among_any (n g : Nat) (v : Value) (xs : List Int) (fp : List Nat) (w : World) (hs : SrcD n g w) (hn : n ≤ 999999999000) (hx : Sl fInt.cod w v xs fp) (hg : g ∉ fp) (h0 : 0 < xs.length) (h1 : xs.length ≤ 1000) :
    Calls Tryz.prog 30 #[.pointer (some ⟨g, 0, none⟩), v] w fun e w' => ∃ t ∈ xs, e = .returned (.int .i64 t) ∧ SrcD (n + 2) g w' ∧ Only [g] w w' := by
  obtain ⟨A, cap, rfl, hle, hca⟩ := hx.form
  go_enter Tryz.func30, Tryz.ntmps30
  go_wp2_with fail
  refine (pick_any n g _ _ hs hn (by omega)).mono ?_
  rintro e w1 ⟨r, rfl, ⟨hr0, hr1, _⟩, hs1, ho1⟩
  have hr2 := hr1 (by omega)
  obtain ⟨k, rfl⟩ : ∃ k : Nat, r = k := ⟨r.toNat, by omega⟩
  have hk : k < xs.length := by omega
  obtain ⟨b, off, rfl, _, _, hc, _⟩ := (hx.only ho1 (fun b hb => by simp; intro e; subst e; exact hg hb)).cell1 rfl hk rfl
  go_wp2
  go_ret
  exact ⟨_, List.getElem_mem hk, rfl, hs1, ho1⟩
set_option maxRecDepth 100000 in
set_option maxHeartbeats 2000000 in
theorem l00From_any (v : Value) (xs : List UInt8) (fp : List Nat) (w : World) (hx : Sl fByte.cod w v xs fp) :
    Calls Tryz.prog 18 #[v] w fun e w' => e = .returned (.pointer (some ⟨w.heap.size, 0, none⟩)) ∧ SrcD 0 w.heap.size w' ∧ Below w.heap.size w w' := by
  obtain ⟨A, cap, rfl, hlen, hcap⟩ := hx.form
  have hB : ∀ T, Below w.heap.size w (w.alloc (.cells #[.slice A xs.length cap, .int .i64 0, .int .u64 0] T)) := fun T => (Below.refl _ _).alloc (Nat.le_refl _) _
  have hlt := hx.lt
  go_enter Tryz.func18, Tryz.ntmps18
  go_wp2
  go_ret
  exact ⟨rfl, ⟨_, xs, fp, 0, 0, by simp, by simp, by simp, World.frozen?_alloc_at _ _ _ _ rfl, World.frozen?_alloc_at _ _ _ _ rfl, Nat.le_refl _, hx.below' (hB _), hlt⟩, hB _⟩
theorem slLit (V : World) (T : TypeId) (xs : List ByteArray) (cs : Array Value) (hcs : cs = (xs.flatMap fStr.enc).toArray) (hok : ∀ x ∈ xs, x.size ≤ 1000) (hne : 0 < xs.length) (hm : xs.length ≤ 1000) (k m : Nat) (hk : k = V.heap.size) (hn : m = xs.length) :
    Sl fStr.cod (V.alloc (.cells cs T)) (.slice (some ⟨k, 0, none⟩) m m) xs [k] := by
  subst hk hn
  exact Sl.lit2 (E := fStr) V xs T cs hcs (fun x hx => by have := hok x hx; show _ ≤ _; omega) hne (by omega)
theorem slLitI (V : World) (T : TypeId) (xs : List Int) (cs : Array Value) (hcs : cs = (xs.flatMap fInt.enc).toArray) (hok : ∀ x ∈ xs, -9223372036854775808 ≤ x ∧ x ≤ 9223372036854775807) (hne : 0 < xs.length) (hm : xs.length ≤ 1000) (k m : Nat) (hk : k = V.heap.size) (hn : m = xs.length) :
    Sl fInt.cod (V.alloc (.cells cs T)) (.slice (some ⟨k, 0, none⟩) m m) xs [k] := by
  subst hk hn
  exact Sl.lit2 (E := fInt) V xs T cs hcs hok hne (by omega)

end Go.Proofs.YtphljobklilbdaaGreatDoor

namespace Go.Proofs.YtphljobklilbdaaGreatDoor
open Go.RowKit
section
variable {P : Program} {ops : Array Oper} {Q : Exit → Act → World → Prop} {md : Region.Mode} {C : World → Prop}

def mixF (md : Region.Mode) (ops : Array Oper) (i : Nat) (is1 : List Nat) (ks1 : List Bool) (j : Nat) (is2 : List Nat) (ks2 : List Bool) : List Nat → Array Bool → Bool
  | [], listed => (Region.ready md ops listed == [i, j]) && mixB md ops is1 ks1 (listed.setIfInBounds i true) && mixB md ops is2 ks2 (listed.setIfInBounds j true)
  | p :: ps, listed => (Region.ready md ops listed).contains p && Region.free md ops listed p && ((ops[p]?).map valueOnly).getD false && mixF md ops i is1 ks1 j is2 ks2 ps (listed.setIfInBounds p true)
def wpFork (P : Program) (ops : Array Oper) (Q : Exit → Act → World → Prop) (C : World → Prop) (ks1 : List Bool) (l1 : List Oper) (ks2 : List Bool) (l2 : List Oper) : List Oper → Act → World → Prop
  | [], a, w => wpMix P ops Q C (false :: ks1) l1 a w ∧ wpMix P ops Q C (false :: ks2) l2 a w
  | o :: lp, a, w => if Region.wanted o (yielded ops a.tmps) then o.quiet P a C (fun a' => wpFork P ops Q C ks1 l1 ks2 l2 lp a' w) else wpFork P ops Q C ks1 l1 ks2 l2 lp (a.put o.dst undef) w

theorem wpOp_of_mix (hs : Region.noSelect ops = true) (hQ : ∀ (c : _) (a : Act) (d : Option Tmp) (v : Value) (w : World), Q (.panic c) (a.put d v) w → Q (.panic c) a w)
    {i : Nat} {is : List Nat} {ks : List Bool} {listed : Array Bool} {a : Act} {w : World} (hi : i < ops.size) (his : ∀ x ∈ is, x < ops.size) (hB : mixB md ops is ks (listed.setIfInBounds i true) = true) (hC : C w)
    (h : wpMix P ops Q C (false :: ks) ((i :: is).map fun i => ops.getD i default) a w) :
    wpOp P ops Q i (fun a' w' => C w' ∧ wpAnyH P md ops Q C is.length (listed.setIfInBounds i true) a' w') a w := by
  have ho : ops[i]? = some (ops.getD i default) := by simp [hi]
  have hl : ∀ j : Nat, (is.map fun i => ops.getD i default)[j]? = (is[j]?).bind (fun i => ops[i]?) := fun j => by
    rw [List.getElem?_map]
    cases hj : is[j]? with
    | none => rfl
    | some x => have := his x (List.mem_of_getElem? hj); simp [this]
  rw [List.map_cons] at h
  simp only [wpMix] at h
  unfold wpOp
  simp only [ho]
  by_cases hw : Region.wanted (ops.getD i default) (yielded ops a.tmps) = true
  · rw [if_pos hw] at h ⊢
    exact .inl (Oper.wp_mono (fun a' w' hh => ⟨hh.1, wpAnyH_of_mix hs hQ is ks _ _ a' w' hl (by simp) hB hh.1 hh.2⟩) h)
  · rw [if_neg hw] at h ⊢
    exact ⟨hC, wpAnyH_of_mix hs hQ is ks _ _ _ w hl (by simp) hB hC h⟩

theorem wpAnyH_of_fork (hs : Region.noSelect ops = true) (hQ : ∀ (c : _) (a : Act) (d : Option Tmp) (v : Value) (w : World), Q (.panic c) (a.put d v) w → Q (.panic c) a w)
    {i : Nat} {is1 : List Nat} {ks1 : List Bool} {j : Nat} {is2 : List Nat} {ks2 : List Bool} (hi : i < ops.size) (hj : j < ops.size) (h1 : ∀ x ∈ is1, x < ops.size) (h2 : ∀ x ∈ is2, x < ops.size) (hlen : is1.length = is2.length) :
    ∀ (ps : List Nat) (listed : Array Bool) (a : Act) (w : World), (∀ x ∈ ps, x < ops.size) → mixF md ops i is1 ks1 j is2 ks2 ps listed = true → C w →
      wpFork P ops Q C ks1 ((i :: is1).map fun i => ops.getD i default) ks2 ((j :: is2).map fun i => ops.getD i default) (ps.map fun i => ops.getD i default) a w → wpAnyH P md ops Q C (ps.length + (is1.length + 1)) listed a w := by
  intro ps
  induction ps with
  | nil =>
    intro listed a w _ hB hC h
    simp only [mixF, Bool.and_eq_true, beq_iff_eq] at hB
    obtain ⟨⟨hr, hb1⟩, hb2⟩ := hB
    simp only [List.map_nil, wpFork] at h
    rw [List.length_nil, Nat.zero_add]
    refine wpAnyH_all hr (by simp) (fun x hx => ?_)
    rcases List.mem_cons.1 hx with rfl | hx
    · exact wpOp_of_mix hs hQ hi h1 hb1 hC h.1
    · rw [List.mem_singleton] at hx; subst hx
      rw [hlen]
      exact wpOp_of_mix hs hQ hj h2 hb2 hC h.2
  | cons p ps ih =>
    intro listed a w hps hB hC h
    have hp : p < ops.size := hps p (by simp)
    have ho : ops[p]? = some (ops.getD p default) := by simp [hp]
    simp only [mixF, Bool.and_eq_true, ho, Option.map_some, Option.getD_some] at hB
    obtain ⟨⟨⟨hr, hf⟩, hv⟩, hB'⟩ := hB
    rw [show ((p :: ps).map fun i => ops.getD i default) = ops.getD p default :: ps.map (fun i => ops.getD i default) from rfl] at h
    simp only [wpFork] at h
    rw [List.length_cons, show ps.length + 1 + (is1.length + 1) = (ps.length + (is1.length + 1)) + 1 by omega]
    by_cases hw : Region.wanted (ops.getD p default) (yielded ops a.tmps) = true
    · rw [if_pos hw] at h
      obtain ⟨v, q1, q2⟩ := yieldsIf_of_quiet hv h
      exact wpAnyH_take ho hs hf hr (fun c a w => hQ c a _ _ w) (.inl ⟨hw, q1⟩) hC (ih _ _ w (fun x hx => hps x (by simp [hx])) hB' hC q2)
    · rw [if_neg hw] at h
      exact wpAnyH_take ho hs hf hr (fun c a w => hQ c a _ _ w) (.inr ⟨by simpa using hw, rfl⟩) hC (ih _ _ w (fun x hx => hps x (by simp [hx])) hB' hC h)

structure Fork (P : Program) (ops : Array Oper) (Q : Exit → Act → World → Prop) (C : World → Prop) (ks1 : List Bool) (l1 : List Oper) (ks2 : List Bool) (l2 : List Oper) (lp : List Oper) (a : Act) (w : World) : Prop where
  out : wpFork P ops Q C ks1 l1 ks2 l2 lp a w
theorem wp_region_fork {id : Nat} {l : List Oper} {a : Act} {w : World} (ps : List Nat) (i : Nat) (is1 : List Nat) (ks1 : List Bool) (j : Nat) (is2 : List Nat) (ks2 : List Bool) (hm : P.follows .mixedOrders = true) (hs : Region.noSelect l.toArray = true)
    (hB : (((i :: j :: (ps ++ is1 ++ is2)).all (fun x => decide (x < l.length))) && decide (is1.length = is2.length) && decide (ps.length + (is1.length + 1) = l.length) && mixF .any l.toArray i is1 ks1 j is2 ks2 ps (Array.replicate l.length false)) = true)
    (hQ : ∀ (c : _) (a : Act) (d : Option Tmp) (v : Value) (w : World), Q (.panic c) (a.put d v) w → Q (.panic c) a w) (hC : C w.drew)
    (h : Fork P l.toArray Q C ks1 ((i :: is1).map fun i => l.getD i default) ks2 ((j :: is2).map fun i => l.getD i default) (ps.map fun i => l.getD i default) a w.drew) : (Code.region id l.toArray true).wp P Q a w := by
  simp only [Bool.and_eq_true, decide_eq_true_eq, List.all_eq_true] at hB
  obtain ⟨⟨⟨h1, h2⟩, h3⟩, h4⟩ := hB
  refine wp_region_held (S := C) hm ?_
  have hg : (fun i => l.toArray.getD i default) = (fun i => l.getD i default) := by funext x; simp [Array.getD_eq_getD_getElem?, List.getD_eq_getElem?_getD]
  have := wpAnyH_of_fork (md := .any) (ops := l.toArray) hs hQ (i := i) (is1 := is1) (ks1 := ks1) (j := j) (is2 := is2) (ks2 := ks2) (by simpa using h1 i (by simp)) (by simpa using h1 j (by simp))
    (fun x hx => by simpa using h1 x (by simp [hx])) (fun x hx => by simpa using h1 x (by simp [hx])) h2 ps (Array.replicate l.length false) a w.drew (fun x hx => by simpa using h1 x (by simp [hx])) h4 hC (by rw [hg]; exact h.out)
  rw [h3] at this
  simpa using this
theorem wpFork_pure {ks1 ks2 : List Bool} {l1 l2 : List Oper} {o : Oper} {l : List Oper} {a : Act} {w : World} (hw : Region.wanted o (yielded ops a.tmps) = true)
    (h : ∀ K : Act → Prop, (∀ a', Fork P ops Q C ks1 l1 ks2 l2 l a' w → K a') → o.quiet P a C K) : Fork P ops Q C ks1 l1 ks2 l2 (o :: l) a w := by
  refine ⟨?_⟩
  simp only [wpFork]; rw [if_pos hw]; exact h _ fun _ h => h.out
theorem wpFork_split {ks1 ks2 : List Bool} {l1 l2 : List Oper} {a : Act} {w : World} (h1 : Mix P ops Q C (false :: ks1) l1 a w) (h2 : Mix P ops Q C (false :: ks2) l2 a w) : Fork P ops Q C ks1 l1 ks2 l2 [] a w := ⟨⟨h1.out, h2.out⟩⟩
end
end Go.Proofs.YtphljobklilbdaaGreatDoor

namespace Go.Proofs.YtphljobklilbdaaGreatDoor
open Go.RowKit
set_option linter.unusedVariables false

theorem hit_cellX {w : World} {p : Addr} {x : Value} (h : (w.cell? p).isSome = true) : (w.setCell p x).cell? p = some x := by
  obtain ⟨v, hv⟩ := Option.isSome_iff_exists.1 h
  exact World.cell?_setCell_same w p x hv
def agStand (x : DStand) : Value := .agg #[.string x.id, .int .i64 x.trees, .int .i64 x.height, .int .i64 x.cover, .int .i64 x.gap]
/-- A drawn Stand: small numbers and short texts. -/
def SmStand (x : DStand) : Prop := x.id.size ≤ 100 ∧ (-1000000000 ≤ x.trees ∧ x.trees ≤ 1000000000) ∧ (-1000000000 ≤ x.height ∧ x.height ≤ 1000000000) ∧ (-1000000000 ≤ x.cover ∧ x.cover ≤ 1000000000) ∧ (-1000000000 ≤ x.gap ∧ x.gap ≤ 1000000000)
theorem SmStand.ok {x : DStand} (h : SmStand x) : fStand.ok x := by
  unfold SmStand at h
  exact ⟨by show _ ≤ _; omega, by show _ ∧ _; omega, by show _ ∧ _; omega, by show _ ∧ _; omega, by show _ ∧ _; omega⟩
structure BxStand (w : World) (g : Nat) : Prop where
  d0 : w.cell? ⟨g, 0, none⟩ = some (.string ⟨#[]⟩)
  d1 : w.cell? ⟨g, 1, none⟩ = some (.int .i64 0)
  d2 : w.cell? ⟨g, 2, none⟩ = some (.int .i64 0)
  d3 : w.cell? ⟨g, 3, none⟩ = some (.int .i64 0)
  d4 : w.cell? ⟨g, 4, none⟩ = some (.int .i64 0)
  z0 : w.frozen? ⟨g, 0, none⟩ = false
  z1 : w.frozen? ⟨g, 1, none⟩ = false
  z2 : w.frozen? ⟨g, 2, none⟩ = false
  z3 : w.frozen? ⟨g, 3, none⟩ = false
  z4 : w.frozen? ⟨g, 4, none⟩ = false
theorem BxStand.new (w : World) (T : TypeId) : BxStand (w.alloc (.cells #[.string ⟨#[]⟩, .int .i64 0, .int .i64 0, .int .i64 0, .int .i64 0] T)) w.heap.size := by
  constructor <;> simp
theorem BxStand.keep {w w' : World} {g : Nat} (h : BxStand w g) (hk : w'.heap[g]? = w.heap[g]?) : BxStand w' g := by
  have kc : ∀ j, w'.cell? ⟨g, j, none⟩ = w.cell? ⟨g, j, none⟩ := fun j => World.cell?_of_block (w := w) (a := ⟨g, j, none⟩) hk
  have kf : ∀ j, w'.frozen? ⟨g, j, none⟩ = w.frozen? ⟨g, j, none⟩ := fun j => World.frozen?_of_block (w := w) (a := ⟨g, j, none⟩) hk
  exact ⟨(kc _).trans h.d0, (kc _).trans h.d1, (kc _).trans h.d2, (kc _).trans h.d3, (kc _).trans h.d4, (kf _).trans h.z0, (kf _).trans h.z1, (kf _).trans h.z2, (kf _).trans h.z3, (kf _).trans h.z4⟩
theorem BxStand.lt {w : World} {g : Nat} (h : BxStand w g) : g < w.heap.size := block_lt_of_cell h.d0
theorem BxStand.belowB {w w' : World} {g B : Nat} (h : BxStand w g) (hb : Below B w w') (hg : g < B) : BxStand w' g := h.keep (hb.block g hg)
theorem BxStand.far {V : World} {b g j : Nat} {v : Value} (h : BxStand V b) (hne : b ≠ g) : BxStand (V.setCell ⟨g, j, none⟩ v) b := by
  have k : ∀ i, (V.setCell ⟨g, j, none⟩ v).cell? ⟨b, i, none⟩ = V.cell? ⟨b, i, none⟩ := fun i => World.cell?_setCell_far V ⟨g, j, none⟩ ⟨b, i, none⟩ v (fun e => hne e.symm)
  have f : ∀ i, (V.setCell ⟨g, j, none⟩ v).frozen? ⟨b, i, none⟩ = V.frozen? ⟨b, i, none⟩ := fun i => frozen?_setCell _ _ _ _
  exact ⟨(k _).trans h.d0, (k _).trans h.d1, (k _).trans h.d2, (k _).trans h.d3, (k _).trans h.d4, (f _).trans h.z0, (f _).trans h.z1, (f _).trans h.z2, (f _).trans h.z3, (f _).trans h.z4⟩
/-- A draw under way: the source g, the result's box r, the struct x at b; behind w0 all but g is as it was. -/
structure DrStand (n g r b : Nat) (x : DStand) (w0 w : World) : Prop where
  src : SrcD n g w
  only : Only [g] w0 w
  box : BxStand w r
  pg : PStand w b 0 x
  zf : ∀ j, w.frozen? ⟨b, j, none⟩ = false
  l0 : g < w0.heap.size
  l1 : w0.heap.size ≤ r
  l2 : w0.heap.size ≤ b
  l3 : r ≠ b
theorem DrStand.next {n m g r b : Nat} {x : DStand} {w0 w w' : World} (h : DrStand n g r b x w0 w) (ho : Only [g] w w') (hs : SrcD m g w') : DrStand m g r b x w0 w' := by
  have l0 := h.l0; have l1 := h.l1; have l2 := h.l2; have lb := h.pg.lt; have lr := h.box.lt
  have hbb : w'.heap[b]? = w.heap[b]? := ho.block b lb (by simp; omega)
  have kc : ∀ j, w'.cell? ⟨b, j, none⟩ = w.cell? ⟨b, j, none⟩ := fun j => World.cell?_of_block (w := w) (a := ⟨b, j, none⟩) hbb
  have kf : ∀ j, w'.frozen? ⟨b, j, none⟩ = w.frozen? ⟨b, j, none⟩ := fun j => World.frozen?_of_block (w := w) (a := ⟨b, j, none⟩) hbb
  exact ⟨hs, h.only.trans ho, h.box.keep (ho.block r lr (by simp; omega)), ⟨(kc _).trans h.pg.c0, (kc _).trans h.pg.c1, (kc _).trans h.pg.c2, (kc _).trans h.pg.c3, (kc _).trans h.pg.c4⟩, fun j => (kf j).trans (h.zf j), l0, l1, l2, h.l3⟩
theorem DrStand.grow {n g r b : Nat} {x : DStand} {w0 w w' : World} (h : DrStand n g r b x w0 w) (hb : Below w.heap.size w w') : DrStand n g r b x w0 w' := h.next (Only.of_below hb) (h.src.below hb)
theorem DrStand.mono {n m g r b : Nat} {x : DStand} {w0 w : World} (h : DrStand n g r b x w0 w) (hm : n ≤ m) : DrStand m g r b x w0 w := ⟨h.src.mono hm, h.only, h.box, h.pg, h.zf, h.l0, h.l1, h.l2, h.l3⟩
theorem DrStand.fin {n g r b : Nat} {x : DStand} {w0 w w' : World} (h : DrStand n g r b x w0 w) (hb : Below w0.heap.size w w') : SrcD n g w' ∧ Only [g] w0 w' :=
  ⟨h.src.belowB hb h.l0, h.only.then hb⟩
theorem DrStand.fb {n g r b : Nat} {x : DStand} {w0 w : World} (h : DrStand n g r b x w0 w) (j : Nat) (v : Value) {w' : World} (hb : Below w0.heap.size w w') : Below w0.heap.size w (w'.setCell ⟨r, j, none⟩ v) := hb.setCell (p := ⟨r, j, none⟩) h.l1 v
theorem PStand.keepB {w w' : World} {b : Nat} {x : DStand} (h : PStand w b 0 x) (hk : w'.heap[b]? = w.heap[b]?) : PStand w' b 0 x := by
  have kc : ∀ j, w'.cell? ⟨b, j, none⟩ = w.cell? ⟨b, j, none⟩ := fun j => World.cell?_of_block (w := w) (a := ⟨b, j, none⟩) hk
  exact ⟨(kc _).trans h.c0, (kc _).trans h.c1, (kc _).trans h.c2, (kc _).trans h.c3, (kc _).trans h.c4⟩
theorem PStand.vset0 {V : World} {g : Nat} {x : DStand} (h : PStand V g 0 x) (c : ByteArray) : PStand (V.setCell ⟨g, 0, none⟩ (.string c)) g 0 ⟨c, x.trees, x.height, x.cover, x.gap⟩ := by
  have nk : ∀ j, j ≠ 0 → (⟨g, 0, none⟩ : Addr) ≠ ⟨g, j, none⟩ := fun j hj e => by injection e with _ e _; exact hj e.symm
  have k : ∀ j, j ≠ 0 → (V.setCell ⟨g, 0, none⟩ (.string c)).cell? ⟨g, j, none⟩ = V.cell? ⟨g, j, none⟩ := fun j hj => World.cell?_setCell_other _ _ _ _ (nk j hj)
  exact ⟨hit_cellX (by rw [h.c0]; rfl), (k _ (by decide)).trans h.c1, (k _ (by decide)).trans h.c2, (k _ (by decide)).trans h.c3, (k _ (by decide)).trans h.c4⟩
theorem DrStand.set0 {n g r b : Nat} {x : DStand} {w0 V : World} (h : DrStand n g r b x w0 V) (c : ByteArray) : DrStand n g r b ⟨c, x.trees, x.height, x.cover, x.gap⟩ w0 (V.setCell ⟨b, 0, none⟩ (.string c)) := by
  have hb : Below w0.heap.size V (V.setCell ⟨b, 0, none⟩ (.string c)) := (Below.refl _ _).setCell (p := ⟨b, 0, none⟩) h.l2 _
  exact ⟨h.src.belowB hb h.l0, h.only.then hb, h.box.far h.l3, h.pg.vset0 c, fun j => (frozen?_setCell _ _ _ _).trans (h.zf j), h.l0, h.l1, h.l2, h.l3⟩
theorem PStand.vset1 {V : World} {g : Nat} {x : DStand} (h : PStand V g 0 x) (c : Int) : PStand (V.setCell ⟨g, 1, none⟩ (.int .i64 c)) g 0 ⟨x.id, c, x.height, x.cover, x.gap⟩ := by
  have nk : ∀ j, j ≠ 1 → (⟨g, 1, none⟩ : Addr) ≠ ⟨g, j, none⟩ := fun j hj e => by injection e with _ e _; exact hj e.symm
  have k : ∀ j, j ≠ 1 → (V.setCell ⟨g, 1, none⟩ (.int .i64 c)).cell? ⟨g, j, none⟩ = V.cell? ⟨g, j, none⟩ := fun j hj => World.cell?_setCell_other _ _ _ _ (nk j hj)
  exact ⟨(k _ (by decide)).trans h.c0, hit_cellX (by have := h.c1; rw [show (0 + 1 : Nat) = 1 from rfl] at this; rw [this]; rfl), (k _ (by decide)).trans h.c2, (k _ (by decide)).trans h.c3, (k _ (by decide)).trans h.c4⟩
theorem DrStand.set1 {n g r b : Nat} {x : DStand} {w0 V : World} (h : DrStand n g r b x w0 V) (c : Int) : DrStand n g r b ⟨x.id, c, x.height, x.cover, x.gap⟩ w0 (V.setCell ⟨b, 1, none⟩ (.int .i64 c)) := by
  have hb : Below w0.heap.size V (V.setCell ⟨b, 1, none⟩ (.int .i64 c)) := (Below.refl _ _).setCell (p := ⟨b, 1, none⟩) h.l2 _
  exact ⟨h.src.belowB hb h.l0, h.only.then hb, h.box.far h.l3, h.pg.vset1 c, fun j => (frozen?_setCell _ _ _ _).trans (h.zf j), h.l0, h.l1, h.l2, h.l3⟩
theorem PStand.vset2 {V : World} {g : Nat} {x : DStand} (h : PStand V g 0 x) (c : Int) : PStand (V.setCell ⟨g, 2, none⟩ (.int .i64 c)) g 0 ⟨x.id, x.trees, c, x.cover, x.gap⟩ := by
  have nk : ∀ j, j ≠ 2 → (⟨g, 2, none⟩ : Addr) ≠ ⟨g, j, none⟩ := fun j hj e => by injection e with _ e _; exact hj e.symm
  have k : ∀ j, j ≠ 2 → (V.setCell ⟨g, 2, none⟩ (.int .i64 c)).cell? ⟨g, j, none⟩ = V.cell? ⟨g, j, none⟩ := fun j hj => World.cell?_setCell_other _ _ _ _ (nk j hj)
  exact ⟨(k _ (by decide)).trans h.c0, (k _ (by decide)).trans h.c1, hit_cellX (by have := h.c2; rw [show (0 + 2 : Nat) = 2 from rfl] at this; rw [this]; rfl), (k _ (by decide)).trans h.c3, (k _ (by decide)).trans h.c4⟩
theorem DrStand.set2 {n g r b : Nat} {x : DStand} {w0 V : World} (h : DrStand n g r b x w0 V) (c : Int) : DrStand n g r b ⟨x.id, x.trees, c, x.cover, x.gap⟩ w0 (V.setCell ⟨b, 2, none⟩ (.int .i64 c)) := by
  have hb : Below w0.heap.size V (V.setCell ⟨b, 2, none⟩ (.int .i64 c)) := (Below.refl _ _).setCell (p := ⟨b, 2, none⟩) h.l2 _
  exact ⟨h.src.belowB hb h.l0, h.only.then hb, h.box.far h.l3, h.pg.vset2 c, fun j => (frozen?_setCell _ _ _ _).trans (h.zf j), h.l0, h.l1, h.l2, h.l3⟩
theorem PStand.vset3 {V : World} {g : Nat} {x : DStand} (h : PStand V g 0 x) (c : Int) : PStand (V.setCell ⟨g, 3, none⟩ (.int .i64 c)) g 0 ⟨x.id, x.trees, x.height, c, x.gap⟩ := by
  have nk : ∀ j, j ≠ 3 → (⟨g, 3, none⟩ : Addr) ≠ ⟨g, j, none⟩ := fun j hj e => by injection e with _ e _; exact hj e.symm
  have k : ∀ j, j ≠ 3 → (V.setCell ⟨g, 3, none⟩ (.int .i64 c)).cell? ⟨g, j, none⟩ = V.cell? ⟨g, j, none⟩ := fun j hj => World.cell?_setCell_other _ _ _ _ (nk j hj)
  exact ⟨(k _ (by decide)).trans h.c0, (k _ (by decide)).trans h.c1, (k _ (by decide)).trans h.c2, hit_cellX (by have := h.c3; rw [show (0 + 3 : Nat) = 3 from rfl] at this; rw [this]; rfl), (k _ (by decide)).trans h.c4⟩
theorem DrStand.set3 {n g r b : Nat} {x : DStand} {w0 V : World} (h : DrStand n g r b x w0 V) (c : Int) : DrStand n g r b ⟨x.id, x.trees, x.height, c, x.gap⟩ w0 (V.setCell ⟨b, 3, none⟩ (.int .i64 c)) := by
  have hb : Below w0.heap.size V (V.setCell ⟨b, 3, none⟩ (.int .i64 c)) := (Below.refl _ _).setCell (p := ⟨b, 3, none⟩) h.l2 _
  exact ⟨h.src.belowB hb h.l0, h.only.then hb, h.box.far h.l3, h.pg.vset3 c, fun j => (frozen?_setCell _ _ _ _).trans (h.zf j), h.l0, h.l1, h.l2, h.l3⟩
theorem PStand.vset4 {V : World} {g : Nat} {x : DStand} (h : PStand V g 0 x) (c : Int) : PStand (V.setCell ⟨g, 4, none⟩ (.int .i64 c)) g 0 ⟨x.id, x.trees, x.height, x.cover, c⟩ := by
  have nk : ∀ j, j ≠ 4 → (⟨g, 4, none⟩ : Addr) ≠ ⟨g, j, none⟩ := fun j hj e => by injection e with _ e _; exact hj e.symm
  have k : ∀ j, j ≠ 4 → (V.setCell ⟨g, 4, none⟩ (.int .i64 c)).cell? ⟨g, j, none⟩ = V.cell? ⟨g, j, none⟩ := fun j hj => World.cell?_setCell_other _ _ _ _ (nk j hj)
  exact ⟨(k _ (by decide)).trans h.c0, (k _ (by decide)).trans h.c1, (k _ (by decide)).trans h.c2, (k _ (by decide)).trans h.c3, hit_cellX (by have := h.c4; rw [show (0 + 4 : Nat) = 4 from rfl] at this; rw [this]; rfl)⟩
theorem DrStand.set4 {n g r b : Nat} {x : DStand} {w0 V : World} (h : DrStand n g r b x w0 V) (c : Int) : DrStand n g r b ⟨x.id, x.trees, x.height, x.cover, c⟩ w0 (V.setCell ⟨b, 4, none⟩ (.int .i64 c)) := by
  have hb : Below w0.heap.size V (V.setCell ⟨b, 4, none⟩ (.int .i64 c)) := (Below.refl _ _).setCell (p := ⟨b, 4, none⟩) h.l2 _
  exact ⟨h.src.belowB hb h.l0, h.only.then hb, h.box.far h.l3, h.pg.vset4 c, fun j => (frozen?_setCell _ _ _ _).trans (h.zf j), h.l0, h.l1, h.l2, h.l3⟩
set_option maxRecDepth 100000 in
set_option maxHeartbeats 4000000 in
theorem l10DrawOne_any (n g : Nat) (name : ByteArray) (w : World) (hs : SrcD n g w) (hn : n ≤ 999999980000) (hnm : name.size ≤ 100) :
    Calls Tryz.prog 20 #[.pointer (some ⟨g, 0, none⟩), .string name] w fun e w' => ∃ x : DStand, e = .returned (agStand x) ∧ SmStand x ∧ SrcD (n + 20) g w' ∧ Only [g] w w' := by
  have hg := hs.lt
  go_enter Tryz.func20, Tryz.ntmps20
  have hB0 : Below w.heap.size w (w.alloc (.cells #[.string ⟨#[]⟩, .int .i64 0, .int .i64 0, .int .i64 0, .int .i64 0] 25)) := (Below.refl _ _).alloc (Nat.le_refl _) _
  go_wp2_with fail
  refine (pick_any _ g 60 _ (hs.below hB0) (by omega) (by omega)).mono ?_
  rintro e w1 ⟨a, rfl, ⟨a0, a1, _⟩, hs1, ho1⟩
  replace a1 := a1 (by omega)
  have hbx1 : BxStand w1 w.heap.size := (BxStand.new w _).keep (ho1.block w.heap.size (by simp) (by simp; omega))
  have hr1 : w.heap.size < w1.heap.size := by have := ho1.size; simp at this; omega
  have hO1 : Only [g] w w1 := Only.later hB0 ho1
  clear hB0 ho1
  go_wp2_with fail
  refine (pick_any _ g 60 _ hs1 (by omega) (by omega)).mono ?_
  rintro e w2 ⟨c, rfl, ⟨c0, c1, _⟩, hs2, ho2⟩
  replace c1 := c1 (by omega)
  have hbx2 : BxStand w2 w.heap.size := hbx1.keep (ho2.block w.heap.size hbx1.lt (by simp; omega))
  have hr2 : w.heap.size < w2.heap.size := hbx2.lt
  have hO2 : Only [g] w w2 := hO1.trans ho2
  clear hbx1 hr1 hO1 hs1 ho2
  have e1 : wrap64 (20 * a) = 20 * a := w64_inD _ (by omega)
  have e3 : wrap64 (50 * c) = 50 * c := w64_inD _ (by omega)
  have hBA : Below w2.heap.size w2 (w2.alloc (.cells #[.string name, .int .i64 (20 * a), .int .i64 (50 * c), .int .i64 0, .int .i64 0] 25)) := (Below.refl _ _).alloc (Nat.le_refl _) _
  have hD : DrStand (n + 2 + 2) g w.heap.size w2.heap.size ⟨name, 20 * a, 50 * c, 0, 0⟩ w (w2.alloc (.cells #[.string name, .int .i64 (20 * a), .int .i64 (50 * c), .int .i64 0, .int .i64 0] 25)) := ⟨hs2.below hBA, hO2.then (hBA.mono hO2.size), hbx2.belowB hBA hr2, PStand.box w2 ⟨name, 20 * a, 50 * c, 0, 0⟩ _, fun j => World.frozen?_alloc_at _ _ _ _ rfl, hg, Nat.le_refl _, Nat.le_of_lt hr2, Nat.ne_of_lt hr2⟩
  clear hBA hbx2 hs2 hO2
  go_upto_region 2 with fail
  refine at_world (fun W => DrStand (n + 2 + 2) g w.heap.size w2.heap.size ⟨name, 20 * a, 50 * c, 0, 0⟩ w W) hD ?_
  clear hD
  have hbl : w.heap.size ≤ w2.heap.size := Nat.le_of_lt hr2
  clear hr2
  generalize w2.heap.size = b at *
  intro V0 hD
  obtain ⟨x0, x1, x2, x3, x4⟩ := id hD.pg
  go_wp2_with fail
  refine (pick_any _ g 100 _ hD.src (by omega) (by omega)).mono ?_
  rintro e V2 ⟨d, rfl, ⟨d0, d1, _⟩, hsN, hoN⟩
  replace d1 := d1 (by omega)
  clear x0 x1 x2 x3 x4
  replace hD := hD.next hoN hsN
  clear hsN hoN
  have c3 : V2.cell? ⟨b, 3, none⟩ = some (.int .i64 0) := hD.pg.c3
  have z3 := hD.zf 3
  have e5 : wrap64 (10 * d) = 10 * d := w64_inD _ (by omega)
  replace hD := hD.set3 (10 * d)
  go_wp2_with fail
  generalize V2.setCell ⟨b, 3, none⟩ (.int .i64 (10 * d)) = V3 at *
  refine (pick_any _ g 60 _ hD.src (by omega) (by omega)).mono ?_
  rintro e V4 ⟨h, rfl, ⟨h0, h1, _⟩, hsN, hoN⟩
  replace h1 := h1 (by omega)
  replace hD := hD.next hoN hsN
  clear hsN hoN c3 z3
  have c4 : V4.cell? ⟨b, 4, none⟩ = some (.int .i64 0) := hD.pg.c4
  have z4 := hD.zf 4
  replace hD := hD.set4 h
  have hDz := hD
  obtain ⟨d0, d1, d2, d3, d4, z0, z1, z2, z3, z4⟩ := hDz.box
  obtain ⟨x0, x1, x2, x3, x4⟩ := id hDz.pg
  go_wp2
  exact bodyPost_ret (v := agStand ⟨name, 20 * a, 50 * c, 10 * d, h⟩) (by simp [agStand, results, hit_cellX, d0, d1, d2, d3, d4, Tryz.results20, go_sem]) rfl ⟨_, rfl, by unfold SmStand; simp only; omega, ((hDz.fin (by (repeat (refine Below.setCell ?_ hDz.l1 _)); exact Below.refl _ _)).1).mono (by omega), (hDz.fin (by (repeat (refine Below.setCell ?_ hDz.l1 _)); exact Below.refl _ _)).2⟩
set_option maxRecDepth 100000 in
set_option maxHeartbeats 4000000 in
theorem l10Bend_any (n g : Nat) (y : DStand) (w : World) (hs : SrcD n g w) (hn : n ≤ 999999980000) (hy : SmStand y) :
    Calls Tryz.prog 19 #[.pointer (some ⟨g, 0, none⟩), agStand y] w fun e w' => ∃ x : DStand, e = .returned (agStand x) ∧ SmStand x ∧ SrcD (n + 20) g w' ∧ Only [g] w w' := by
  have hg := hs.lt
  have hB0 : Below w.heap.size w (w.alloc (.cells #[.string y.id, .int .i64 y.trees, .int .i64 y.height, .int .i64 y.cover, .int .i64 y.gap] 25)) := (Below.refl _ _).alloc (Nat.le_refl _) _
  have hB1 : Below (w.heap.size + 1) (w.alloc (.cells #[.string y.id, .int .i64 y.trees, .int .i64 y.height, .int .i64 y.cover, .int .i64 y.gap] 25)) ((w.alloc (.cells #[.string y.id, .int .i64 y.trees, .int .i64 y.height, .int .i64 y.cover, .int .i64 y.gap] 25)).alloc (.cells #[.string ⟨#[]⟩, .int .i64 0, .int .i64 0, .int .i64 0, .int .i64 0] 25)) := (Below.refl _ _).alloc (by simp) _
  have hD : DrStand n g (w.heap.size + 1) w.heap.size y w ((w.alloc (.cells #[.string y.id, .int .i64 y.trees, .int .i64 y.height, .int .i64 y.cover, .int .i64 y.gap] 25)).alloc (.cells #[.string ⟨#[]⟩, .int .i64 0, .int .i64 0, .int .i64 0, .int .i64 0] 25)) := by
    refine ⟨hs.below (hB0.trans (hB1.mono (Nat.le_succ _))), Only.of_below (hB0.trans (hB1.mono (Nat.le_succ _))), ?_, (PStand.box w y _).below hB1 (Nat.lt_succ_self _), fun j => ?_, hg, Nat.le_succ _, Nat.le_refl _, by omega⟩
    · have h := BxStand.new (w.alloc (.cells #[.string y.id, .int .i64 y.trees, .int .i64 y.height, .int .i64 y.cover, .int .i64 y.gap] 25)) 25
      rw [World.size_alloc] at h; exact h
    · rw [hB1.frozen (p := ⟨w.heap.size, j, none⟩) (Nat.lt_succ_self _)]; exact World.frozen?_alloc_at _ _ _ _ rfl
  clear hB0 hB1
  unfold agStand
  go_enter Tryz.func19, Tryz.ntmps19
  go_upto_region 1 with fail
  refine at_world (fun W => DrStand n g (w.heap.size + 1) w.heap.size y w W) hD ?_
  clear hD hs
  generalize w.heap.size + 1 = r at *
  generalize hbw : w.heap.size = b at *
  intro V0 hD
  clear hbw hg
  go_wp2_with fail
  refine (pick_any _ g 18 _ hD.src (by omega) (by omega)).mono ?_
  rintro e V1 ⟨q, rfl, ⟨q0, q1, _⟩, hsN, hoN⟩
  replace hD := hD.next hoN hsN
  clear hsN hoN V0
  by_cases h0 : q = 0
  · subst h0
    have hBL : Below V1.heap.size V1 (V1.alloc (.cells #[.int .i64 (-1), .int .i64 0, .int .i64 2000, .int .i64 2001] 2)) := (Below.refl _ _).alloc (Nat.le_refl _) _
    have hgl := hD.src.lt
    go_wp2_with fail
    refine (among_any _ g _ [-1, 0, 2000, 2001] [V1.heap.size] _ (hD.src.below hBL) (by omega) (slLitI V1 2 [-1, 0, 2000, 2001] _ rfl (by decide) (by decide) (by decide) _ _ rfl rfl) (by simp; omega) (by decide) (by decide)).mono ?_
    rintro e V2 ⟨t, ht, rfl, hsN, hoN⟩
    replace hD := (hD.grow hBL).next hoN hsN
    have htb : -1000000000 ≤ t ∧ t ≤ 1000000000 := by simp at ht; omega
    clear hsN hoN hBL hgl ht
    have cK : V2.cell? ⟨b, 1, none⟩ = some (.int .i64 y.trees) := hD.pg.c1
    have zK := hD.zf 1
    replace hD := hD.set1 t
    have hDz := hD
    obtain ⟨d0, d1, d2, d3, d4, z0, z1, z2, z3, z4⟩ := hDz.box
    obtain ⟨x0, x1, x2, x3, x4⟩ := id hDz.pg
    go_wp2
    exact bodyPost_ret (v := agStand ⟨y.id, t, y.height, y.cover, y.gap⟩) (by simp [agStand, results, hit_cellX, d0, d1, d2, d3, d4, Tryz.results19, go_sem]) rfl ⟨_, rfl, by unfold SmStand at *; simp only; omega, ((hDz.fin (by (repeat (refine Below.setCell ?_ hDz.l1 _)); exact Below.refl _ _)).1).mono (by omega), (hDz.fin (by (repeat (refine Below.setCell ?_ hDz.l1 _)); exact Below.refl _ _)).2⟩
  · have e0 : (q == 0) = false := by rw [beq_eq_false_iff_ne]; exact h0
    by_cases h1 : q = 1
    · subst h1
      have hBL : Below V1.heap.size V1 (V1.alloc (.cells #[.int .i64 (-1), .int .i64 0, .int .i64 5000, .int .i64 5001] 2)) := (Below.refl _ _).alloc (Nat.le_refl _) _
      have hgl := hD.src.lt
      go_wp2_with fail
      refine (among_any _ g _ [-1, 0, 5000, 5001] [V1.heap.size] _ (hD.src.below hBL) (by omega) (slLitI V1 2 [-1, 0, 5000, 5001] _ rfl (by decide) (by decide) (by decide) _ _ rfl rfl) (by simp; omega) (by decide) (by decide)).mono ?_
      rintro e V2 ⟨t, ht, rfl, hsN, hoN⟩
      replace hD := (hD.grow hBL).next hoN hsN
      have htb : -1000000000 ≤ t ∧ t ≤ 1000000000 := by simp at ht; omega
      clear hsN hoN hBL hgl ht
      have cK : V2.cell? ⟨b, 2, none⟩ = some (.int .i64 y.height) := hD.pg.c2
      have zK := hD.zf 2
      replace hD := hD.set2 t
      have hDz := hD
      obtain ⟨d0, d1, d2, d3, d4, z0, z1, z2, z3, z4⟩ := hDz.box
      obtain ⟨x0, x1, x2, x3, x4⟩ := id hDz.pg
      go_wp2
      exact bodyPost_ret (v := agStand ⟨y.id, y.trees, t, y.cover, y.gap⟩) (by simp [agStand, results, hit_cellX, d0, d1, d2, d3, d4, Tryz.results19, go_sem]) rfl ⟨_, rfl, by unfold SmStand at *; simp only; omega, ((hDz.fin (by (repeat (refine Below.setCell ?_ hDz.l1 _)); exact Below.refl _ _)).1).mono (by omega), (hDz.fin (by (repeat (refine Below.setCell ?_ hDz.l1 _)); exact Below.refl _ _)).2⟩
    · have e1 : (q == 1) = false := by rw [beq_eq_false_iff_ne]; exact h1
      by_cases h2 : q = 2
      · subst h2
        have hBL : Below V1.heap.size V1 (V1.alloc (.cells #[.int .i64 (-1), .int .i64 0, .int .i64 1000, .int .i64 1001] 2)) := (Below.refl _ _).alloc (Nat.le_refl _) _
        have hgl := hD.src.lt
        go_wp2_with fail
        refine (among_any _ g _ [-1, 0, 1000, 1001] [V1.heap.size] _ (hD.src.below hBL) (by omega) (slLitI V1 2 [-1, 0, 1000, 1001] _ rfl (by decide) (by decide) (by decide) _ _ rfl rfl) (by simp; omega) (by decide) (by decide)).mono ?_
        rintro e V2 ⟨t, ht, rfl, hsN, hoN⟩
        replace hD := (hD.grow hBL).next hoN hsN
        have htb : -1000000000 ≤ t ∧ t ≤ 1000000000 := by simp at ht; omega
        clear hsN hoN hBL hgl ht
        have cK : V2.cell? ⟨b, 3, none⟩ = some (.int .i64 y.cover) := hD.pg.c3
        have zK := hD.zf 3
        replace hD := hD.set3 t
        have hDz := hD
        obtain ⟨d0, d1, d2, d3, d4, z0, z1, z2, z3, z4⟩ := hDz.box
        obtain ⟨x0, x1, x2, x3, x4⟩ := id hDz.pg
        go_wp2
        exact bodyPost_ret (v := agStand ⟨y.id, y.trees, y.height, t, y.gap⟩) (by simp [agStand, results, hit_cellX, d0, d1, d2, d3, d4, Tryz.results19, go_sem]) rfl ⟨_, rfl, by unfold SmStand at *; simp only; omega, ((hDz.fin (by (repeat (refine Below.setCell ?_ hDz.l1 _)); exact Below.refl _ _)).1).mono (by omega), (hDz.fin (by (repeat (refine Below.setCell ?_ hDz.l1 _)); exact Below.refl _ _)).2⟩
      · have e2 : (q == 2) = false := by rw [beq_eq_false_iff_ne]; exact h2
        by_cases h3 : q = 3
        · subst h3
          have hBL : Below V1.heap.size V1 (V1.alloc (.cells #[.int .i64 (-1), .int .i64 20, .int .i64 21, .int .i64 100, .int .i64 101] 2)) := (Below.refl _ _).alloc (Nat.le_refl _) _
          have hgl := hD.src.lt
          go_wp2_with fail
          refine (among_any _ g _ [-1, 20, 21, 100, 101] [V1.heap.size] _ (hD.src.below hBL) (by omega) (slLitI V1 2 [-1, 20, 21, 100, 101] _ rfl (by decide) (by decide) (by decide) _ _ rfl rfl) (by simp; omega) (by decide) (by decide)).mono ?_
          rintro e V2 ⟨t, ht, rfl, hsN, hoN⟩
          replace hD := (hD.grow hBL).next hoN hsN
          have htb : -1000000000 ≤ t ∧ t ≤ 1000000000 := by simp at ht; omega
          clear hsN hoN hBL hgl ht
          have cK : V2.cell? ⟨b, 4, none⟩ = some (.int .i64 y.gap) := hD.pg.c4
          have zK := hD.zf 4
          replace hD := hD.set4 t
          have hDz := hD
          obtain ⟨d0, d1, d2, d3, d4, z0, z1, z2, z3, z4⟩ := hDz.box
          obtain ⟨x0, x1, x2, x3, x4⟩ := id hDz.pg
          go_wp2
          exact bodyPost_ret (v := agStand ⟨y.id, y.trees, y.height, y.cover, t⟩) (by simp [agStand, results, hit_cellX, d0, d1, d2, d3, d4, Tryz.results19, go_sem]) rfl ⟨_, rfl, by unfold SmStand at *; simp only; omega, ((hDz.fin (by (repeat (refine Below.setCell ?_ hDz.l1 _)); exact Below.refl _ _)).1).mono (by omega), (hDz.fin (by (repeat (refine Below.setCell ?_ hDz.l1 _)); exact Below.refl _ _)).2⟩
        · have e3 : (q == 3) = false := by rw [beq_eq_false_iff_ne]; exact h3
          have hDz := hD
          obtain ⟨d0, d1, d2, d3, d4, z0, z1, z2, z3, z4⟩ := hDz.box
          obtain ⟨x0, x1, x2, x3, x4⟩ := id hDz.pg
          go_wp2
          exact bodyPost_ret (v := agStand y) (by simp [agStand, results, hit_cellX, d0, d1, d2, d3, d4, Tryz.results19, go_sem]) rfl ⟨_, rfl, hy, ((hDz.fin (by (repeat (refine Below.setCell ?_ hDz.l1 _)); exact Below.refl _ _)).1).mono (by omega), (hDz.fin (by (repeat (refine Below.setCell ?_ hDz.l1 _)); exact Below.refl _ _)).2⟩
theorem infoStandD : (Tryz.prog.info? 25).map (fun i => (i.zero, i.size, i.bytes)) = some (some (.agg #[.string ⟨#[]⟩, .int .i64 0, .int .i64 0, .int .i64 0, .int .i64 0]), 5, 48) := by kernel_rfl

end Go.Proofs.YtphljobklilbdaaGreatDoor

namespace Go.Proofs.YtphljobklilbdaaGreatDoor
open Go.RowKit Go.WideShapes Go.ChangeShapes Go.ChangeAt

theorem Tryz.own : ownKnob Tryz.prog.godebug = none := by kernel_rfl
theorem Tryz.laidOut : laidOutB Tryz.prog = true := by kernel_rfl

section
variable {H : Type} {enc : TypeId × Value → H} {P : Program}
theorem post_of_below {f : Func} {s : ChangeSpec} {apart fresh handsOn again : Bool} {W W' : World} {args : Array Value} {v : Value} {ds gs : List (DataW H)} {before pa pv : List MemPlace}
    (hW : DataW.Whole enc P f.params.toList s.vars apart W args.toList ds gs before)
    (hres : ∀ (b : Nat) (sp : Nat → Bool) (hd : Bool), DataW.TrodAll enc P W' b sp hd f.resultTypes.toList (v.resultList f.resultTypes.size) (s.fn H (ds ++ gs)).results [])
    (hargs : ∀ sp : Nat → Bool, (∀ p ∈ before, sp p.block = true) → DataW.TrodAll enc P W' 0 sp true f.params.toList args.toList (s.fn H (ds ++ gs)).args pa)
    (hvars : ∀ sp : Nat → Bool, (∀ p ∈ before, sp p.block = true) → DataW.TrodVars enc P W' sp s.vars (s.fn H (ds ++ gs)).vars pv)
    (hps : before = pa ++ pv) (hb : Below W.heap.size W W')
    (hok : ∀ (j : Nat) (t : TypeId) (r : Value), f.resultTypes[j]? = some t → (v.resultList f.resultTypes.size)[j]? = some r → Value.okWide P W' .any 0 t r) :
    s.post enc P f apart fresh handsOn again W args v W' := by
  have hlt : ∀ p ∈ before, p.block < W.heap.size := fun p hp => hW.lt p hp
  have hold : ∀ p ∈ before, (fun b => decide (b < W.heap.size)) p.block = true := fun p hp => by simpa using hlt p hp
  refine ⟨ds, gs, before, [], pa, pv, hW, hres _ _ _, hargs _ hold, hvars _ hold, World.keptBut_mono (fun p hp => ⟨hp, ?_⟩) (hb.frame (· ∈ before)), fun _ => ?_⟩
  · rw [hps, List.mem_append] at hp
    exact Or.inr hp
  · obtain ⟨_, _, _, _, _, hz, hn⟩ := hW
    refine ⟨hok, _, _, ([] ++ pa) ++ pv, ⟨[] ++ pa, pv, trodAll_append (hargs _ (fun _ _ => rfl)) (hres _ _ _), hvars _ (fun _ _ => rfl), rfl, ?_, ?_⟩, ?_⟩
    · intro b off hp
      have hin : MemPlace.cell b off ∈ before := by rw [hps]; simpa using hp
      rw [hb.frozen (hlt _ hin)]
      exact hz b off hin
    · intro ha
      have := hn ha
      rw [hps] at this
      simpa using this
    · intro p hp _
      rw [hps]
      simpa using hp
end

theorem trodAll_below {H : Type} {enc : TypeId × Value → H} {P : Program} (hl : laidOutB P = true) {W W' : World} (hb : Below W.heap.size W W') {sp : Nat → Bool} :
    ∀ (ts : List TypeId) (vs : List Value) (ds : List (DataW H)) (ps : List MemPlace), (∀ t ∈ ts, P.readableRec t = true ∧ t < P.types.size) → DataW.TrodAll enc P W 0 (fun _ => true) true ts vs ds ps → (∀ x ∈ ps, x.block < W.heap.size) → (∀ x ∈ ps, sp x.block = true) → DataW.TrodAll enc P W' 0 sp true ts vs ds ps
  | [], [], [], ps, _, h, _, _ => h
  | t :: ts, v :: vs, d :: ds, ps, hr, h, hlt, hsp => by
    obtain ⟨p, q, h1, h2, rfl⟩ := h
    obtain ⟨r1, r2⟩ := hr t (by simp)
    exact ⟨p, q, WideElems.Trod_stays hl r1 r2 h1 (fun x hx => hb.same (hlt x (by simp [hx]))) (fun x hx => hsp x (by simp [hx])), trodAll_below hl hb ts vs ds q (fun t ht => hr t (by simp [ht])) h2 (fun x hx => hlt x (by simp [hx])) (fun x hx => hsp x (by simp [hx])), rfl⟩
  | [], _ :: _, _, _, _, h, _, _ => by cases h
  | [], [], _ :: _, _, _, h, _, _ => by cases h
  | _ :: _, [], _, _, _, h, _, _ => by cases h
  | _ :: _, _ :: _, [], _, _, h, _, _ => by cases h

theorem trodAll_len {H : Type} {enc : TypeId × Value → H} {P : Program} {W : World} {b : Nat} {sp : Nat → Bool} {hd : Bool} : ∀ (ts : List TypeId) (vs : List Value) (ds : List (DataW H)) (ps : List MemPlace), DataW.TrodAll enc P W b sp hd ts vs ds ps → ds.length = ts.length
  | [], [], [], _, _ => rfl
  | _ :: ts, _ :: vs, _ :: ds, _, h => by obtain ⟨p, q, h1, h2, rfl⟩ := h; simp [trodAll_len ts vs ds q h2]
  | [], _ :: _, _, _, h => by cases h
  | [], [], _ :: _, _, h => by cases h
  | _ :: _, [], _, _, h => by cases h
  | _ :: _, _ :: _, [], _, h => by cases h

set_option maxRecDepth 100000 in
theorem law_lifted {F : FuncId} {fn : Func} {s : ChangeSpec} (os : Os) (started : os.Started) (H : Type) (enc : TypeId × Value → H)
    (hfn : Tryz.checked.prog.funcs[F]? = some fn) (noInit : Tryz.checked.prog.inits.idxOf? F = none)
    (witness : ∃ (w : World) (tape : Tape) (i : Input), w.os = os ∧ (w.forCall tape i).Shaped Tryz.checked.prog ∧ i.vars = [] ∧ Input.okWide Tryz.checked.prog (w.forCall tape i) .any w.heap.size F i ∧
      s.pre6 enc Tryz.checked.prog fn [] false (w.forCall tape i).memory i.args ∧ ({} : Assume).holds Tryz.checked.prog (lone (Frame.enter Tryz.checked.prog F i.args .normal) [] (w.forCall tape i)))
    (hs : s.vars = []) (hres : fn.resultTypes = #[4]) (hread : ∀ t ∈ fn.params.toList, Tryz.prog.readableRec t = true ∧ t < Tryz.prog.types.size)
    (hspec : ∀ ds : List (DataW H), ds.length = fn.params.toList.length → s.fn H ds = { results := [.lit (.bool true)], args := ds })
    (walk : ∀ (W : World) (args : Array Value) (ds : List (DataW H)) (p : List MemPlace), (∀ (j : Nat) t v, fn.params[j]? = some t → args[j]? = some v → ∃ base, Value.okWide Tryz.prog W .any base t v) →
      DataW.TrodAll enc Tryz.prog W 0 (fun _ => true) true fn.params.toList args.toList ds p → W.noneFrozen p → Calls Tryz.prog F args W fun e W' => e = .returned (.bool true) ∧ Below W.heap.size W W') :
    ReturnsInHanded {} Tryz.checked os F .any (s.pre6 enc Tryz.checked.prog fn [] false) (s.post enc Tryz.checked.prog fn false true false false) := by
  refine returnsInHanded_of_change (C := Tryz.checked) Tryz.own started noInit hfn witness ?_
  intro W base args ds gs before hval hW hcnd _
  have hW' := hW
  obtain ⟨p, q, hA, hV, hpq, hfz, hnd⟩ := hW
  rw [hs] at hV
  obtain ⟨rfl, rfl⟩ := trodVars_none hV
  rw [List.append_nil] at hpq
  subst hpq
  refine (walk W args ds _ (fun j t v h1 h2 => ⟨base, hval j t v h1 h2⟩) hA hfz).mono fun e W' ⟨he, hb⟩ => ?_
  subst he
  have hsp : s.fn H (ds ++ []) = { results := [.lit (.bool true)], args := ds } := by
    rw [List.append_nil]; exact hspec ds (trodAll_len _ _ _ _ hA)
  have hlt := fun x hx => hW'.lt x hx
  refine ⟨_, rfl, post_of_below (pa := before) (pv := []) hW' (fun b sp hd => ?_) (fun sp h => ?_) (fun sp h => ?_) (by simp) hb ?_⟩
  · rw [hsp, hres]; exact trodAll_mk1 (shut_bool Tryz.underlying4 _)
  · rw [hsp]; exact trodAll_below Tryz.laidOut hb _ _ _ _ hread hA hlt h
  · rw [hsp, hs]; rfl
  · rw [hres]; exact fun j t r h1 h2 => ok_one (f := fn) hres rfl (okWide_bool_mk Tryz.underlying4 _) j t r (by rw [hres]; exact h1) (by rw [hres]; exact h2)

end Go.Proofs.YtphljobklilbdaaGreatDoor

namespace Go.Proofs.YtphljobklilbdaaGreatDoor
open Go.RowKit Go.WideShapes Go.ChangeShapes Go.ChangeAt

set_option maxRecDepth 100000 in
theorem law_liftedS {F : FuncId} {fn : Func} {s : ChangeSpec} (os : Os) (started : os.Started) (H : Type) (enc : TypeId × Value → H)
    (hfn : Tryz.checked.prog.funcs[F]? = some fn) (noInit : Tryz.checked.prog.inits.idxOf? F = none)
    (witness : ∃ (w : World) (tape : Tape) (i : Input), w.os = os ∧ (w.forCall tape i).Shaped Tryz.checked.prog ∧ i.vars = [] ∧ Input.okWide Tryz.checked.prog (w.forCall tape i) .any w.heap.size F i ∧
      s.pre6 enc Tryz.checked.prog fn [] false (w.forCall tape i).memory i.args ∧ ({} : Assume).holds Tryz.checked.prog (lone (Frame.enter Tryz.checked.prog F i.args .normal) [] (w.forCall tape i)))
    (hs : s.vars = []) (hres : fn.resultTypes = #[4]) (hread : ∀ t ∈ fn.params.toList, Tryz.prog.readableRec t = true ∧ t < Tryz.prog.types.size)
    (hspec : ∀ ds : List (DataW H), ds.length = fn.params.toList.length → s.fn H ds = { results := [.lit (.bool true)], args := ds })
    (walk : ∀ (W : World) (args : Array Value) (ds : List (DataW H)) (p : List MemPlace), W.ShapedOpen Tryz.prog → (∀ (j : Nat) t v, fn.params[j]? = some t → args[j]? = some v → ∃ base, Value.okWide Tryz.prog W .any base t v) →
      DataW.TrodAll enc Tryz.prog W 0 (fun _ => true) true fn.params.toList args.toList ds p → W.noneFrozen p → Calls Tryz.prog F args W fun e W' => e = .returned (.bool true) ∧ Below W.heap.size W W') :
    ReturnsInHanded {} Tryz.checked os F .any (s.pre6 enc Tryz.checked.prog fn [] false) (s.post enc Tryz.checked.prog fn false true false false) := by
  refine returnsInHanded_of_change_shaped (C := Tryz.checked) Tryz.own started noInit hfn witness ?_
  intro W base args ds gs before hval hW hcnd _ hsh _
  have hW' := hW
  obtain ⟨p, q, hA, hV, hpq, hfz, hnd⟩ := hW
  rw [hs] at hV
  obtain ⟨rfl, rfl⟩ := trodVars_none hV
  rw [List.append_nil] at hpq
  subst hpq
  refine (walk W args ds _ hsh (fun j t v h1 h2 => ⟨base, hval j t v h1 h2⟩) hA hfz).mono fun e W' ⟨he, hb⟩ => ?_
  subst he
  have hsp : s.fn H (ds ++ []) = { results := [.lit (.bool true)], args := ds } := by
    rw [List.append_nil]; exact hspec ds (trodAll_len _ _ _ _ hA)
  have hlt := fun x hx => hW'.lt x hx
  refine ⟨_, rfl, post_of_below (pa := before) (pv := []) hW' (fun b sp hd => ?_) (fun sp h => ?_) (fun sp h => ?_) (by simp) hb ?_⟩
  · rw [hsp, hres]; exact trodAll_mk1 (shut_bool Tryz.underlying4 _)
  · rw [hsp]; exact trodAll_below Tryz.laidOut hb _ _ _ _ hread hA hlt h
  · rw [hsp, hs]; rfl
  · rw [hres]; exact fun j t r h1 h2 => ok_one (f := fn) hres rfl (okWide_bool_mk Tryz.underlying4 _) j t r (by rw [hres]; exact h1) (by rw [hres]; exact h2)

/-- A variable of the library's own holds some number. -/
theorem maxLen_cell {w : World} (h : w.ShapedOpen Tryz.prog) : ∃ m, w.cell? ⟨0, 0, none⟩ = some (.int .i64 m) :=
  Go.Proofs.cell_of_shapedOpen_int (zero := #[.int .i64 0]) (t := 3) h (of_decide_eq_true (by kernel_rfl)) (by kernel_rfl) rfl (by kernel_rfl) (by kernel_rfl) Tryz.underlying3
theorem cell_below {w w' : World} {a : Addr} {v : Value} (h : Below w.heap.size w w') (c : w.cell? a = some v) : w'.cell? a = some v := (h.cell (block_lt_of_cell c)).trans c
end Go.Proofs.YtphljobklilbdaaGreatDoor

namespace Go.Proofs.YtphljobklilbdaaGreatDoor
open Go.RowKit
set_option linter.unusedVariables false
set_option linter.unusedSimpArgs false

theorem dr_trees2 (t : Int) : drF (t * 1000) 500 = 2 * t := by
  have := drF_between (a := t * 1000) (b := 500) (lo := 2 * t) (hi := 2 * t) (by decide) (by omega) (by omega)
  omega
def protokB (snow least : Int) : Bool := inB snow 0 2000 && inB least 0 1000
set_option maxRecDepth 100000 in
set_option maxHeartbeats 400000 in
theorem protectOk_any (a b : Int) (w : World) : Calls Tryz.prog 24 #[.int .i64 a, .int .i64 b] w fun e w' => e = .returned (.bool (protokB a b)) ∧ w = w' := by
  go_enter Tryz.func24, Tryz.ntmps24
  go_wp2_with fail
  refine (withinB_any _ _ _ _).mono ?_
  rintro e w' ⟨rfl, rfl⟩
  cases h : inB a 0 2000
  · go_wp2
    go_ret
    exact ⟨by unfold protokB; rw [h]; rfl, rfl⟩
  · go_wp2_with fail
    refine (withinB_any _ _ _ _).mono ?_
    rintro e w' ⟨rfl, rfl⟩
    go_wp2
    go_ret
    exact ⟨by unfold protokB; rw [h]; rfl, rfl⟩
set_option maxRecDepth 100000 in
set_option maxHeartbeats 400000 in
theorem l10Snow_any (a : Int) (w : World) : Calls Tryz.prog 36 #[.int .i64 a] w fun e w' => e = .returned (.bool (inB a 0 2000)) ∧ w = w' := by
  go_enter Tryz.func36, Tryz.ntmps36
  go_wp2_with (go_at_call 52; refine (l00InB_any _ _ _ _).mono ?_; rintro e w' ⟨rfl, rfl⟩)
  go_ret
  exact ⟨rfl, rfl⟩
set_option maxRecDepth 100000 in
set_option maxHeartbeats 400000 in
theorem l10Least_any (a : Int) (w : World) : Calls Tryz.prog 37 #[.int .i64 a] w fun e w' => e = .returned (.bool (inB a 0 1000)) ∧ w = w' := by
  go_enter Tryz.func37, Tryz.ntmps37
  go_wp2_with (go_at_call 52; refine (l00InB_any _ _ _ _).mono ?_; rintro e w' ⟨rfl, rfl⟩)
  go_ret
  exact ⟨rfl, rfl⟩
set_option maxRecDepth 100000 in
set_option maxHeartbeats 1000000 in
theorem l01Div_any (a b : Int) (w : World) (ha : 0 ≤ a ∧ a ≤ 1000000000000) (hb : 0 < b ∧ b ≤ 1000000) :
    Calls Tryz.prog 54 #[.int .i64 a, .int .i64 b] w fun e w' => e = .returned (.int .i64 ((2 * a + b) / (2 * b))) ∧ w = w' := by
  have h0 : ((2 * b) == 0) = false := by rw [beq_eq_false_iff_ne]; omega
  have h3 : (2 * a + b) / (2 * b) ≤ 2 * a + b := Int.ediv_le_self _ (by omega)
  have h4 : 0 ≤ (2 * a + b) / (2 * b) := Int.ediv_nonneg (by omega) (by omega)
  go_enter Tryz.func54, Tryz.ntmps54
  go_wp2
  go_ret
  exact ⟨rfl, rfl⟩
set_option maxRecDepth 100000 in
set_option maxHeartbeats 4000000 in
theorem protection_any (x : DStand) (snow : Int) (w : World) (hv : standB x = true) (hs : 0 ≤ snow ∧ snow ≤ 2000) :
    Calls Tryz.prog 25 #[.agg #[.string x.id, .int .i64 x.trees, .int .i64 x.height, .int .i64 x.cover, .int .i64 x.gap], .int .i64 snow] w fun e w' => e = .returned (.int .i64 (protF x snow)) ∧ Below w.heap.size w w' := by
  obtain ⟨_, b1, b2, b3, b4⟩ := standB_bounds hv
  have hp := PStand.box w x 25
  have hB0 : Below w.heap.size w (w.alloc (.cells #[.string x.id, .int .i64 x.trees, .int .i64 x.height, .int .i64 x.cover, .int .i64 x.gap] 25)) := (Below.refl _ _).alloc (Nat.le_refl _) _
  have hdr := dr_trees hv
  have HF : Hid (protF x snow = if x.height < 2 * snow then 0 else max (min (min 1000 (drF (x.trees * 1000) 500)) x.cover - 10 * max (x.gap - 20) 0) 0) := rfl
  obtain ⟨c0, c1, c2, c3, c4⟩ := id hp
  by_cases hh : x.height < 2 * snow
  · have HP := Lib.hid (HF.out.trans (if_pos hh))
    clear HF hdr hp
    go_enter Tryz.func25, Tryz.ntmps25
    go_wp2
    go_ret
    exact ⟨ret_int (by rw [HP.out]), hB0⟩
  · have HP := Lib.hid (HF.out.trans (if_neg hh))
    have hh2 : 2 * snow ≤ x.height := by omega
    clear HF hh hp
    go_enter Tryz.func25, Tryz.ntmps25
    go_wp2
    refine at_world (fun W => Below w.heap.size w W ∧ PStand W w.heap.size 0 x) ⟨hB0, PStand.box w x _⟩ ?_
    clear c0 c1 c2 c3 c4 hB0
    rintro W ⟨hB0, hp⟩
    obtain ⟨c0, c1, c2, c3, c4⟩ := hp
    have gc1 := cell_regrown c1
    have gc3 := cell_regrown c3
    have gc4 := cell_regrown c4
    refine wp_region_mixed [0, 1, 2, 4, 5, 7, 8, 9, 10, 11, 3, 6, 12, 13, 14] (C := fun w' => ∃ p : Regrown, w' = Go.Sort.grow (redrawn W p.d) p.os) [true, true, true, true, true, true, true, true, true, true, false, true, true, true, true] (by kernel_rfl) (by kernel_rfl) (by kernel_rfl) (fun _ _ d _ _ h => by cases d <;> exact h) (regrown_of_below (Below.drew (Below.refl _ _))) ?_
    simp only [List.map_cons, List.map_nil, List.getD_cons_zero, List.getD_cons_succ]
    have hS0 : Below (W.heap.size) W W.drew := Below.drew (Below.refl _ _)
    refine wpMix_pure (by kernel_rfl) (fun K hK => ?_); go_big_quiet_op; refine hK _ ?_; clear hK K
    refine wpMix_pure (by kernel_rfl) (fun K hK => ?_); go_big_quiet_op; refine hK _ ?_; clear hK K
    refine wpMix_pure (by kernel_rfl) (fun K hK => ?_); go_big_quiet_op; refine hK _ ?_; clear hK K
    refine wpMix_pure (by kernel_rfl) (fun K hK => ?_); go_big_quiet_op; refine hK _ ?_; clear hK K
    refine wpMix_pure (by kernel_rfl) (fun K hK => ?_); go_big_quiet_op; refine hK _ ?_; clear hK K
    refine wpMix_pure (by kernel_rfl) (fun K hK => ?_); go_big_quiet_op; refine hK _ ?_; clear hK K
    refine wpMix_pure (by kernel_rfl) (fun K hK => ?_); go_big_quiet_op; refine hK _ ?_; clear hK K
    refine wpMix_pure (by kernel_rfl) (fun K hK => ?_); go_big_quiet_op; refine hK _ ?_; clear hK K
    refine wpMix_pure (by kernel_rfl) (fun K hK => ?_); go_big_quiet_op; refine hK _ ?_; clear hK K
    refine wpMix_pure (by kernel_rfl) (fun K hK => ?_); go_big_quiet_op; refine hK _ ?_; clear hK K
    refine wpMix_act (by kernel_rfl) (fun K hK => ?_)
    go_big_op
    refine (divRound_any _ 500 _ (by omega) (by decide)).mono ?_
    rintro e wr1 ⟨rfl, hbr1⟩
    have hbr1S : Below (W.heap.size) W wr1 := hS0.trans (hbr1.mono hS0.size)
    refine hK _ _ (regrown_of_below hbr1S) ?_
    clear hK K
    refine wpMix_pure (by kernel_rfl) (fun K hK => ?_); go_big_quiet_op; refine hK _ ?_; clear hK K
    refine wpMix_pure (by kernel_rfl) (fun K hK => ?_); go_big_quiet_op; refine hK _ ?_; clear hK K
    refine wpMix_pure (by kernel_rfl) (fun K hK => ?_); go_big_quiet_op; refine hK _ ?_; clear hK K
    refine wpMix_pure (by kernel_rfl) (fun K hK => ?_); go_big_quiet_op; refine hK _ ?_; clear hK K
    refine wpMix_nil ?_
    have hS := hbr1S
    have hB9 := hB0.trans (hS.mono hB0.size)
    clear hS0 gc1 gc3 gc4 c0 c1 c2 c3 c4 hS hbr1S hbr1
    go_wp2
    all_goals go_ret
    all_goals exact ⟨ret_int (by rw [HP.out]; clear HP; (repeat' split at *) <;> omega), hB9⟩
theorem l01DivT_any (t : Int) (w : World) (ht : 0 ≤ t ∧ t ≤ 100000) : Calls Tryz.prog 54 #[.int .i64 (t * 1000), .int .i64 500] w fun e w' => e = .returned (.int .i64 (2 * t)) ∧ w = w' :=
  (l01Div_any (t * 1000) 500 w (by omega) (by decide)).mono fun e w' h => ⟨h.1.trans (by rw [show (2 * (t * 1000) + 500) / (2 * 500) = 2 * t by omega]), h.2⟩
set_option maxRecDepth 100000 in
set_option maxHeartbeats 4000000 in
theorem l10Protection_any (pb po : Nat) (x : DStand) (snow : Int) (w : World) (hp : PStand w pb po x) (hv : standB x = true) (hs : 0 ≤ snow ∧ snow ≤ 2000) :
    Calls Tryz.prog 38 #[.pointer (some ⟨pb, po, none⟩), .int .i64 snow] w fun e w' => e = .returned (.int .i64 (protF x snow)) ∧ Below w.heap.size w w' := by
  obtain ⟨_, b1, b2, b3, b4⟩ := standB_bounds hv
  have HF : Hid (protF x snow = if x.height < 2 * snow then 0 else max (min (min 1000 (2 * x.trees)) x.cover - 10 * max (x.gap - 20) 0) 0) := by
    show _ = _; unfold protF; rw [dr_trees2]
  obtain ⟨c0, c1, c2, c3, c4⟩ := id hp
  by_cases hh : x.height < 2 * snow
  · have HP := Lib.hid (HF.out.trans (if_pos hh))
    clear HF hp
    go_enter Tryz.func38, Tryz.ntmps38
    go_wp2
    go_ret
    exact ⟨ret_int (by rw [HP.out]), Below.refl _ _⟩
  · have HP := Lib.hid (HF.out.trans (if_neg hh))
    have hh2 : 2 * snow ≤ x.height := by omega
    clear HF hh hp
    go_enter Tryz.func38, Tryz.ntmps38
    go_wp2
    have gc1 := cell_regrown c1
    have gc3 := cell_regrown c3
    refine wp_region_mixed [0, 1, 2, 3, 4, 6, 7, 8, 9, 5, 10, 11, 12] (C := fun w' => ∃ p : Regrown, w' = Go.Sort.grow (redrawn w p.d) p.os) [true, true, true, true, true, true, true, true, true, false, false, false, true] (by kernel_rfl) (by kernel_rfl) (by kernel_rfl) (fun _ _ d _ _ h => by cases d <;> exact h) (regrown_of_below (Below.drew (Below.refl _ _))) ?_
    simp only [List.map_cons, List.map_nil, List.getD_cons_zero, List.getD_cons_succ]
    have hS0 : Below (w.heap.size) w w.drew := Below.drew (Below.refl _ _)
    refine wpMix_pure (by kernel_rfl) (fun K hK => ?_); go_big_quiet_op; refine hK _ ?_; clear hK K
    refine wpMix_pure (by kernel_rfl) (fun K hK => ?_); go_big_quiet_op; refine hK _ ?_; clear hK K
    refine wpMix_pure (by kernel_rfl) (fun K hK => ?_); go_big_quiet_op; refine hK _ ?_; clear hK K
    refine wpMix_pure (by kernel_rfl) (fun K hK => ?_); go_big_quiet_op; refine hK _ ?_; clear hK K
    refine wpMix_pure (by kernel_rfl) (fun K hK => ?_); go_big_quiet_op; refine hK _ ?_; clear hK K
    refine wpMix_pure (by kernel_rfl) (fun K hK => ?_); go_big_quiet_op; refine hK _ ?_; clear hK K
    refine wpMix_pure (by kernel_rfl) (fun K hK => ?_); go_big_quiet_op; refine hK _ ?_; clear hK K
    refine wpMix_pure (by kernel_rfl) (fun K hK => ?_); go_big_quiet_op; refine hK _ ?_; clear hK K
    refine wpMix_pure (by kernel_rfl) (fun K hK => ?_); go_big_quiet_op; refine hK _ ?_; clear hK K
    refine wpMix_act (by kernel_rfl) (fun K hK => ?_)
    go_big_op
    refine (l01DivT_any x.trees _ (by omega)).mono ?_
    rintro e w' ⟨rfl, rfl⟩
    refine hK _ _ (regrown_of_below hS0) ?_
    clear hK K
    refine wpMix_act (by kernel_rfl) (fun K hK => ?_)
    go_big_op
    refine (minS_any _ _ _).mono ?_
    rintro e w' ⟨rfl, rfl⟩
    refine hK _ _ (regrown_of_below hS0) ?_
    clear hK K
    refine wpMix_act (by kernel_rfl) (fun K hK => ?_)
    go_big_op
    refine (minS_any _ _ _).mono ?_
    rintro e w' ⟨rfl, rfl⟩
    refine hK _ _ (regrown_of_below hS0) ?_
    clear hK K
    refine wpMix_pure (by kernel_rfl) (fun K hK => ?_); go_big_quiet_op; refine hK _ ?_; clear hK K
    refine wpMix_nil ?_
    have hS := hS0
    clear hS0 gc1 gc3
    have c4' := cell_below hS c4
    have e9 : max 0 (min 1000 (min (2 * x.trees) x.cover) - 10 * max 0 (x.gap - 20)) = protF x snow := by rw [HP.out]; omega
    have hn : 0 ≤ min 1000 (min (2 * x.trees) x.cover) ∧ min 1000 (min (2 * x.trees) x.cover) ≤ 1000 := by omega
    generalize min 1000 (min (2 * x.trees) x.cover) = nn at *
    clear HP
    go_wp2_with fail
    refine (maxS_any _ _ _).mono ?_
    rintro e w' ⟨rfl, rfl⟩
    have hm : 0 ≤ max 0 (x.gap - 20) ∧ max 0 (x.gap - 20) ≤ 100 := by omega
    generalize max 0 (x.gap - 20) = mm at *
    go_wp2_with fail
    refine (maxS_any _ _ _).mono ?_
    rintro e w' ⟨rfl, rfl⟩
    rw [e9]
    go_wp2
    go_ret
    exact ⟨rfl, hS⟩
set_option maxRecDepth 100000 in
set_option maxHeartbeats 4000000 in
theorem felled_any (x : DStand) (n : Int) (w : World) (hv : standB x = true) (hn : 0 ≤ n ∧ n ≤ x.trees) :
    Calls Tryz.prog 26 #[.agg #[.string x.id, .int .i64 x.trees, .int .i64 x.height, .int .i64 x.cover, .int .i64 x.gap], .int .i64 n] w fun e w' => e = .returned (agStand (felledF x n)) ∧ Below w.heap.size w w' := by
  obtain ⟨_, b1, b2, b3, b4⟩ := standB_bounds hv
  have hB0 : Below w.heap.size w ((w.alloc (.cells #[.string x.id, .int .i64 x.trees, .int .i64 x.height, .int .i64 x.cover, .int .i64 x.gap] 25)).alloc (.cells #[.string ⟨#[]⟩, .int .i64 0, .int .i64 0, .int .i64 0, .int .i64 0] 25)) := ((Below.refl _ _).alloc (Nat.le_refl _) _).alloc (by simp) _
  have hp : PStand ((w.alloc (.cells #[.string x.id, .int .i64 x.trees, .int .i64 x.height, .int .i64 x.cover, .int .i64 x.gap] 25)).alloc (.cells #[.string ⟨#[]⟩, .int .i64 0, .int .i64 0, .int .i64 0, .int .i64 0] 25)) w.heap.size 0 x := (PStand.box w x 25).below ((Below.refl (w.heap.size + 1) _).alloc (by simp) _) (Nat.lt_succ_self _)
  have hbx : BxStand ((w.alloc (.cells #[.string x.id, .int .i64 x.trees, .int .i64 x.height, .int .i64 x.cover, .int .i64 x.gap] 25)).alloc (.cells #[.string ⟨#[]⟩, .int .i64 0, .int .i64 0, .int .i64 0, .int .i64 0] 25)) (w.heap.size + 1) := by
    have h := BxStand.new (w.alloc (.cells #[.string x.id, .int .i64 x.trees, .int .i64 x.height, .int .i64 x.cover, .int .i64 x.gap] 25)) 25
    rw [World.size_alloc] at h; exact h
  have hz : ∀ j, ((w.alloc (.cells #[.string x.id, .int .i64 x.trees, .int .i64 x.height, .int .i64 x.cover, .int .i64 x.gap] 25)).alloc (.cells #[.string ⟨#[]⟩, .int .i64 0, .int .i64 0, .int .i64 0, .int .i64 0] 25)).frozen? ⟨w.heap.size, j, none⟩ = false := fun j => by
    rw [((Below.refl (w.heap.size + 1) (w.alloc (.cells #[.string x.id, .int .i64 x.trees, .int .i64 x.height, .int .i64 x.cover, .int .i64 x.gap] 25))).alloc (by simp) (.cells #[.string ⟨#[]⟩, .int .i64 0, .int .i64 0, .int .i64 0, .int .i64 0] 25)).frozen (p := ⟨w.heap.size, j, none⟩) (Nat.lt_succ_self _)]
    exact World.frozen?_alloc_at _ _ _ _ rfl
  have hrr : w.heap.size ≤ w.heap.size + 1 := by omega
  obtain ⟨c0, c1, c2, c3, c4⟩ := id hp
  by_cases ht : 0 < x.trees
  rotate_left
  · have hE : felledF x n = ⟨x.id, x.trees - n, x.height, x.cover, x.gap⟩ := by unfold felledF; rw [if_neg ht]
    have HE := Lib.hid hE
    have z1 := hz 1
    clear hE
    go_enter Tryz.func26, Tryz.ntmps26
    obtain ⟨d0, d1, d2, d3, d4, z0, z1, z2, z3, z4⟩ := hbx
    go_wp2
    exact bodyPost_ret (v := .agg #[.string x.id, .int .i64 (x.trees - n), .int .i64 x.height, .int .i64 x.cover, .int .i64 x.gap]) (by simp [results, hit_cellX, d0, d1, d2, d3, d4, Tryz.results26, go_sem]) rfl ⟨by rw [HE.out]; rfl, ((Below.refl _ _).alloc (Nat.le_refl _) _).alloc (by simp) _⟩
  have hdf := dr_fell hv hn ht
  have hmul := fell_mul hv (n := n) (by omega)
  have HE := Lib.hid (show felledF x n = ⟨x.id, x.trees - n, x.height, x.cover - drF (x.cover * n) x.trees, x.gap⟩ by unfold felledF; rw [if_pos ht])
  go_enter Tryz.func26, Tryz.ntmps26
  go_upto_region 2 with fail
  refine at_world (fun W => PStand W w.heap.size 0 x ∧ BxStand W (w.heap.size + 1) ∧ (∀ j, W.frozen? ⟨w.heap.size, j, none⟩ = false) ∧ Below w.heap.size w W) ⟨hp, hbx, hz, hB0⟩ ?_
  clear hp hbx hz hB0 c0 c1 c2 c3 c4
  rintro W ⟨hp, hbx, hz, hB0⟩
  obtain ⟨c0, c1, c2, c3, c4⟩ := id hp
  have gc1 := cell_regrown c1
  have gc3 := cell_regrown c3
  refine wp_region_sink (C := fun w' => ∃ p : Regrown, w' = Go.Sort.grow (redrawn W p.d) p.os) [0, 1, 2, 3, 4, 5, 6, 7, 8, 9, 10, 11] [true, true, true, true, true, true, true, true, false, true, true, false] 11 (by kernel_rfl) (by kernel_rfl) (by kernel_rfl) (fun _ _ d _ _ h => by cases d <;> exact h) (regrown_of_below (Below.drew (Below.refl _ _))) ?_
  simp only [List.map_cons, List.map_nil, List.getD_cons_zero, List.getD_cons_succ]
  have hS0 : Below (W.heap.size) W W.drew := Below.drew (Below.refl _ _)
  refine wpMixS_pure (by kernel_rfl) (fun K hK => ?_)
  go_big_quiet_op
  refine hK _ ?_; clear hK K
  refine wpMixS_pure (by kernel_rfl) (fun K hK => ?_)
  go_big_quiet_op
  refine hK _ ?_; clear hK K
  refine wpMixS_pure (by kernel_rfl) (fun K hK => ?_)
  go_big_quiet_op
  refine hK _ ?_; clear hK K
  refine wpMixS_pure (by kernel_rfl) (fun K hK => ?_)
  go_big_quiet_op
  refine hK _ ?_; clear hK K
  refine wpMixS_pure (by kernel_rfl) (fun K hK => ?_)
  go_big_quiet_op
  refine hK _ ?_; clear hK K
  refine wpMixS_pure (by kernel_rfl) (fun K hK => ?_)
  go_big_quiet_op
  refine hK _ ?_; clear hK K
  refine wpMixS_pure (by kernel_rfl) (fun K hK => ?_)
  go_big_quiet_op
  refine hK _ ?_; clear hK K
  refine wpMixS_pure (by kernel_rfl) (fun K hK => ?_)
  go_big_quiet_op
  refine hK _ ?_; clear hK K
  refine wpMixS_act (by kernel_rfl) (fun K hK => ?_)
  go_big_op
  refine (divRound_any _ _ _ (by omega) (by omega)).mono ?_
  rintro e wr1 ⟨rfl, hbr1⟩
  have hbr1S : Below (W.heap.size) W wr1 := hS0.trans (hbr1.mono hS0.size)
  refine hK _ _ (regrown_of_below hbr1S) ?_
  clear hK K
  refine wpMixS_pure (by kernel_rfl) (fun K hK => ?_)
  go_big_quiet_op
  refine hK _ ?_; clear hK K
  refine wpMixS_pure (by kernel_rfl) (fun K hK => ?_)
  go_big_quiet_op
  refine hK _ ?_; clear hK K
  refine wpMixS_last (by kernel_rfl) (fun K hK => ?_)
  have hB1 := hB0.trans (hbr1S.mono hB0.size)
  have hpU := hp.below' hbr1S
  have hbxU := hbx.belowB hbr1S hbx.lt
  have hzU := fun j => (hbr1S.frozen (p := ⟨w.heap.size, j, none⟩) hp.lt).trans (hz j)
  obtain ⟨e0, e1, e2, e3, e4⟩ := id hpU
  have z3 := hzU 3
  have z1 := hzU 1
  clear hp hbx hz hB0 c0 c1 c2 c3 c4 gc1 gc3
  go_big_op
  try simp only [Act.put, List.setIfInBounds_toArray, List.set_cons_zero, List.set_cons_succ]
  refine hK _ _ ?_
  clear hK K
  have hS := hbr1S
  obtain ⟨_, kk⟩ : ∃ q : Nat, q = 0 := ⟨0, rfl⟩
  clear hS0 kk
  obtain ⟨d0, d1, d2, d3, d4, z0, z1, z2, z3, z4⟩ := hbxU
  go_wp2
  exact bodyPost_ret (v := .agg #[.string x.id, .int .i64 (x.trees - n), .int .i64 x.height, .int .i64 (x.cover - drF (x.cover * n) x.trees), .int .i64 x.gap]) (by simp [results, hit_cellX, d0, d1, d2, d3, d4, Tryz.results26, go_sem]) rfl ⟨by rw [HE.out]; rfl, by (repeat (refine Below.setCell ?_ (by first | exact Nat.le_refl _ | exact Nat.le_succ _) _)); exact hB1⟩
set_option maxRecDepth 100000 in
set_option maxHeartbeats 2000000 in
theorem planted_any (x : DStand) (w : World) :
    Calls Tryz.prog 51 #[.agg #[.string x.id, .int .i64 x.trees, .int .i64 x.height, .int .i64 x.cover, .int .i64 x.gap]] w fun e w' => e = .returned (agStand (plantedF x)) ∧ Below w.heap.size w w' := by
  have hB0 : Below w.heap.size w ((w.alloc (.cells #[.string x.id, .int .i64 x.trees, .int .i64 x.height, .int .i64 x.cover, .int .i64 x.gap] 25)).alloc (.cells #[.string ⟨#[]⟩, .int .i64 0, .int .i64 0, .int .i64 0, .int .i64 0] 25)) := ((Below.refl _ _).alloc (Nat.le_refl _) _).alloc (by simp) _
  have hp : PStand ((w.alloc (.cells #[.string x.id, .int .i64 x.trees, .int .i64 x.height, .int .i64 x.cover, .int .i64 x.gap] 25)).alloc (.cells #[.string ⟨#[]⟩, .int .i64 0, .int .i64 0, .int .i64 0, .int .i64 0] 25)) w.heap.size 0 x := (PStand.box w x 25).below ((Below.refl (w.heap.size + 1) _).alloc (by simp) _) (Nat.lt_succ_self _)
  have hbx : BxStand ((w.alloc (.cells #[.string x.id, .int .i64 x.trees, .int .i64 x.height, .int .i64 x.cover, .int .i64 x.gap] 25)).alloc (.cells #[.string ⟨#[]⟩, .int .i64 0, .int .i64 0, .int .i64 0, .int .i64 0] 25)) (w.heap.size + 1) := by
    have h := BxStand.new (w.alloc (.cells #[.string x.id, .int .i64 x.trees, .int .i64 x.height, .int .i64 x.cover, .int .i64 x.gap] 25)) 25
    rw [World.size_alloc] at h; exact h
  have hz : ∀ j, ((w.alloc (.cells #[.string x.id, .int .i64 x.trees, .int .i64 x.height, .int .i64 x.cover, .int .i64 x.gap] 25)).alloc (.cells #[.string ⟨#[]⟩, .int .i64 0, .int .i64 0, .int .i64 0, .int .i64 0] 25)).frozen? ⟨w.heap.size, j, none⟩ = false := fun j => by
    rw [((Below.refl (w.heap.size + 1) (w.alloc (.cells #[.string x.id, .int .i64 x.trees, .int .i64 x.height, .int .i64 x.cover, .int .i64 x.gap] 25))).alloc (by simp) (.cells #[.string ⟨#[]⟩, .int .i64 0, .int .i64 0, .int .i64 0, .int .i64 0] 25)).frozen (p := ⟨w.heap.size, j, none⟩) (Nat.lt_succ_self _)]
    exact World.frozen?_alloc_at _ _ _ _ rfl
  have hrr : w.heap.size ≤ w.heap.size + 1 := by omega
  have z1 := hz 1
  have z3 := hz 3
  have z4 := hz 4
  obtain ⟨c0, c1, c2, c3, c4⟩ := id hp
  obtain ⟨d0, d1, d2, d3, d4, z0, z1, z2, z3, z4⟩ := hbx
  go_enter Tryz.func51, Tryz.ntmps51
  go_wp2
  exact bodyPost_ret (v := .agg #[.string x.id, .int .i64 2000, .int .i64 x.height, .int .i64 1000, .int .i64 0]) (by simp [results, hit_cellX, d0, d1, d2, d3, d4, Tryz.results51, go_sem]) rfl ⟨rfl, ((Below.refl _ _).alloc (Nat.le_refl _) _).alloc (by simp) _⟩

end Go.Proofs.YtphljobklilbdaaGreatDoor
