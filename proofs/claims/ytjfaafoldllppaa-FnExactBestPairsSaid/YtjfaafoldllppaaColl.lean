
/- Words for loops that collect: a row of the call's own, and what it reads as. No function of the program is named here. -/
import Derived.Test.YtjfaafoldllppaaMark
namespace Go.Proofs.Ytjfaafoldllppaa
open Go.RowKit

/-- A row that has just been laid. -/
theorem Sl.lit2 {α : Type} {E : Flat α} (w : World) (xs : List α) (T : TypeId) (cs : Array Value) (hcs : cs = (xs.flatMap E.enc).toArray) (hok : ∀ x ∈ xs, E.ok x) (hne : 0 < xs.length) (hm : xs.length ≤ 9223372036854775807) :
    Sl E.cod (w.alloc (.cells cs T)) (.slice (some ⟨w.heap.size, 0, none⟩) xs.length xs.length) xs [w.heap.size] := by
  subst hcs
  refine Sl.of_cells (Nat.le_refl _) hm (by simp) (fun j hj => ⟨?_, ?_⟩) hok hne
  · rw [World.cell?_alloc_at _ _ _ _ rfl]; simp
  · rw [World.frozen?_alloc_at _ _ _ _ rfl]
/-- v is a row of the call's own that holds L. -/
def Own {α : Type} (E : Flat α) (w : World) (base : Nat) (e : TypeId) (v : Value) (L : List α) : Prop := w.ownsRow base e E.n v L.length (L.flatMap E.enc)
section
variable {α : Type} {E : Flat α} {w w' : World} {base : Nat} {e : TypeId} {v : Value} {L : List α}
theorem Own.nil (E : Flat α) (w : World) (base : Nat) (e : TypeId) : Own E w base e (.slice none 0 0) [] := World.ownsRow_nil w base e E.n
theorem Own.lit0 (E : Flat α) (w : World) (e : TypeId) : Own E (w.alloc (.cells #[] e)) w.heap.size e (.slice (some ⟨w.heap.size, 0, none⟩) 0 0) [] :=
  World.ownsRow_lit (e := e) (size := E.n) w #[] 0 (Nat.le_refl w.heap.size) (by decide) (by simp)
theorem Own.lit0m (E : Flat α) {w : World} {base : Nat} (hb : base ≤ w.heap.size) {e : TypeId} : Own E (w.alloc (.cells #[] e)) base e (.slice (some ⟨w.heap.size, 0, none⟩) 0 0) [] :=
  World.ownsRow_lit (e := e) (size := E.n) w #[] 0 hb (by decide) (by simp)
theorem Own.below (h : Own E w base e v L) (hb : Below w.heap.size w w') : Own E w' base e v L := by
  obtain ⟨h1, h2⟩ := h
  refine ⟨h1, ?_⟩
  rcases h2 with h2 | ⟨g, cap, cur, hv, hg, hh, r⟩
  · exact .inl h2
  · have hgl : g < w.heap.size := by
      rcases Nat.lt_or_ge g w.heap.size with hlt | hge
      · exact hlt
      · rw [Array.getElem?_eq_none hge] at hh; cases hh
    exact .inr ⟨g, cap, cur, hv, hg, by rw [hb.block _ hgl]; exact hh, r⟩
theorem Own.drewN (h : Own E w base e v L) (n : Nat) : Own E (w.drewN n) base e v L := h
theorem Own.form (h : Own E w base e v L) : ∃ A cap, v = .slice A L.length cap := by
  obtain ⟨h1, h2⟩ := h
  rcases h2 with ⟨hv, hz⟩ | ⟨g, cap, cur, hv, _⟩
  · exact ⟨none, 0, by rw [hv, hz]⟩
  · exact ⟨_, cap, hv⟩
/-- What it reads as, for the caller. -/
theorem Own.new (h : Own E w' w.heap.size e v L) (hb : Below w.heap.size w w') (hok : ∀ x ∈ L, E.ok x) : New E.cod w v L w' :=
  ⟨Sl.of_own (n := L.length) rfl h hok, hb⟩
/-- One more. -/
theorem Own.push (x : α) {n : Nat} (hn : n = L.length + 1) (h : w.ownsRow base e E.n v n (L.flatMap E.enc ++ E.enc x)) : Own E w base e v (L ++ [x]) := by
  subst hn
  show w.ownsRow base e E.n v (L ++ [x]).length ((L ++ [x]).flatMap E.enc)
  rw [List.flatMap_append, List.length_append]
  simpa using h
end
/-- The same where the walk writes the address of the new block in its own way. -/
theorem wpList_append_oneA {P : Program} {w : World} {ops : Array Oper} {rest : List Oper} {o : Oper} {a : Act} {Q : Exit → Act → World → Prop} (ad : Nat) (had : ad = w.heap.size) (hgd : o.guard = none) (s x : Operand) (t : TypeId)
    (ho : o.op = .call { callee := .builtin .append, args := #[s, x], argTypes := #[t, t] })
    (base : Nat) (e : TypeId) (i : TypeInfo) (z : Value) (size bytes : Nat) (ht : P.underlying t = some (.slice e)) (hi : P.info? e = some i) (hz : i.zero = some z)
    (hsize : i.size = size) (hby : i.bytes = bytes) (hzs : z.cells.size = size) (hsz : 0 < size)
    (v : Value) (n : Nat) (xs : List Value) (hs : a.eval s = v) (hown : w.ownsRow base e size v n xs) (us : List Value) (hul : us.length = size) (h1 : ∀ u ∈ us, u.oneCell' = true)
    (hx : a.eval x = .slice (some ⟨ad, 0, none⟩) 1 1) (hn : n ≤ 1000000000) (hb : bytes ≤ 1000) (hbase : base ≤ w.heap.size)
    (h : ∀ v' w', w'.ownsRow base e size v' (n + 1) (xs ++ us) → Below base w w' → w.grownBy w' v.ownBlock → w.heap.size < w'.heap.size → wpList P ops Q rest (a.put o.dst v') w') : wpList P ops Q (o :: rest) a (w.alloc (.cells us.toArray e)) := by
  subst had
  exact wpList_append_one hgd s x t ho base e i z size bytes ht hi hz hsize hby hzs hsz v n xs hs hown us hul h1 hx hn hb hbase h
/-- Two results: a new slice and a code. -/
def NewR2 {α : Type} (E : Cod α) (w : World) (xs : List α) (c : Int) (e : Ending) (w' : World) : Prop := ∃ v, e = .returned (.tuple #[v, .int .i64 c]) ∧ New E w v xs w'
theorem New.nil {α : Type} {E : Cod α} {w w' : World} (h : Below w.heap.size w w') : New E w (.slice none 0 0) ([] : List α) w' :=
  ⟨⟨[], ⟨none, 0, rfl, by simp, by simp [maxLen], .inl ⟨rfl, rfl⟩⟩, by simp, by simp⟩, h⟩
theorem New.later {α : Type} {E : Cod α} {w w0 w' : World} {v : Value} {xs : List α} (h : New E w0 v xs w') (hb : Below w.heap.size w w0) : New E w v xs w' := by
  obtain ⟨⟨fp, h1, h2, h3⟩, h4⟩ := h
  exact ⟨⟨fp, h1, fun b hb' => Nat.le_trans hb.size (h2 b hb'), h3⟩, hb.trans (h4.mono hb.size)⟩
/-- What has been kept of the first k. -/
def keptL {α β : Type} (p : α → Bool) (f : α → β) (xs : List α) (k : Nat) : List β := ((xs.take k).filter p).map f
theorem keptL_zero {α β : Type} (p : α → Bool) (f : α → β) (xs : List α) : keptL p f xs 0 = [] := rfl
theorem keptL_yes {α β : Type} {p : α → Bool} {f : α → β} {xs : List α} {k : Nat} (hk : k < xs.length) (h : p xs[k] = true) : keptL p f xs (k + 1) = keptL p f xs k ++ [f xs[k]] := by
  unfold keptL
  rw [List.take_succ_eq_append_getElem hk, List.filter_append, List.map_append]
  simp [h]
theorem keptL_no {α β : Type} {p : α → Bool} {f : α → β} {xs : List α} {k : Nat} (hk : k < xs.length) (h : p xs[k] = false) : keptL p f xs (k + 1) = keptL p f xs k := by
  unfold keptL
  rw [List.take_succ_eq_append_getElem hk, List.filter_append, List.map_append]
  simp [h]
theorem keptL_full {α β : Type} {p : α → Bool} {f : α → β} {xs : List α} {k : Nat} (hk : xs.length ≤ k) : keptL p f xs k = (xs.filter p).map f := by
  unfold keptL; rw [List.take_of_length_le hk]
theorem keptL_len {α β : Type} {p : α → Bool} {f : α → β} {xs : List α} {k : Nat} : (keptL p f xs k).length ≤ k := by
  unfold keptL; rw [List.length_map]
  exact Nat.le_trans (List.length_filter_le _ _) (List.length_take_le _ _)
end Go.Proofs.Ytjfaafoldllppaa
