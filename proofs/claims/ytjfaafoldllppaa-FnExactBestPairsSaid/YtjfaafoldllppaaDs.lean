
/- The source of draws. Written by wip/gen/ds.py. -/
import Derived.Test.YtjfaafoldllppaaMark
import Derived.Test.YtjfaafoldllppaaColl
namespace Go.Proofs.Ytjfaafoldllppaa
open Go.RowKit
set_option linter.unusedVariables false

/-- The source at block g: no more than n bytes have been drawn. -/
def SrcD (n : Nat) (g : Nat) (w : World) : Prop := ∃ (v : Value) (xs : List UInt8) (fp : List Nat) (k : Nat) (seed : Int), w.cell? ⟨g, 0, none⟩ = some v ∧ w.cell? ⟨g, 1, none⟩ = some (.int .i64 k) ∧ w.cell? ⟨g, 2, none⟩ = some (.int .u64 seed) ∧
  w.frozen? ⟨g, 1, none⟩ = false ∧ w.frozen? ⟨g, 2, none⟩ = false ∧ k ≤ n ∧ Sl fByte.cod w v xs fp ∧ (∀ b ∈ fp, b < g)
theorem Only.cell {fp : List Nat} {w w' : World} (h : Only fp w w') {p : Addr} (hp : p.block < w.heap.size) (hn : p.block ∉ fp) : w'.cell? p = w.cell? p := World.cell?_of_block (w := w) (h.block p.block hp hn)
theorem Only.frozen {fp : List Nat} {w w' : World} (h : Only fp w w') {p : Addr} (hp : p.block < w.heap.size) (hn : p.block ∉ fp) : w'.frozen? p = w.frozen? p := World.frozen?_of_block (w := w) (h.block p.block hp hn)
theorem Only.drewN {fp : List Nat} {w w' : World} (h : Only fp w w') (n : Nat) : Only fp w (w'.drewN n) := h.trans (.of_below (below_drewN (Below.refl _ _) n))
theorem SrcD.mono {n m g : Nat} {w : World} (h : SrcD n g w) (hm : n ≤ m) : SrcD m g w := by
  obtain ⟨v, xs, fp, k, seed, h0, h1, h2, h3, h4, h5, h6, h7⟩ := h
  exact ⟨v, xs, fp, k, seed, h0, h1, h2, h3, h4, by omega, h6, h7⟩
theorem SrcD.lt {n g : Nat} {w : World} (h : SrcD n g w) : g < w.heap.size := by
  obtain ⟨v, xs, fp, k, seed, h0, _⟩ := h
  exact block_lt_of_cell h0
theorem SrcD.below {n g : Nat} {w w' : World} (h : SrcD n g w) (hb : Below w.heap.size w w') : SrcD n g w' := by
  have hg := h.lt
  obtain ⟨v, xs, fp, k, seed, h0, h1, h2, h3, h4, h5, h6, h7⟩ := h
  exact ⟨v, xs, fp, k, seed, (hb.cell (p := ⟨g, 0, none⟩) hg).trans h0, (hb.cell (p := ⟨g, 1, none⟩) hg).trans h1, (hb.cell (p := ⟨g, 2, none⟩) hg).trans h2, (hb.frozen (p := ⟨g, 1, none⟩) hg).trans h3, (hb.frozen (p := ⟨g, 2, none⟩) hg).trans h4, h5, h6.below' hb, h7⟩
theorem SrcD.belowB {n g B : Nat} {w w' : World} (h : SrcD n g w) (hb : Below B w w') (hB : g < B) : SrcD n g w' := by
  obtain ⟨v, xs, fp, k, seed, h0, h1, h2, h3, h4, h5, h6, h7⟩ := h
  exact ⟨v, xs, fp, k, seed, (hb.cell (p := ⟨g, 0, none⟩) hB).trans h0, (hb.cell (p := ⟨g, 1, none⟩) hB).trans h1, (hb.cell (p := ⟨g, 2, none⟩) hB).trans h2, (hb.frozen (p := ⟨g, 1, none⟩) hB).trans h3, (hb.frozen (p := ⟨g, 2, none⟩) hB).trans h4, h5, h6.below hb (fun b hm => by have := h7 b hm; omega), h7⟩
theorem Only.then {fp : List Nat} {a b c : World} (h : Only fp a b) (k : Below a.heap.size b c) : Only fp a c :=
  ⟨k.os.trans h.os, k.tape.trans h.tape, k.output.trans h.output, Nat.le_trans h.size k.size, fun i hi hn => (k.block i hi).trans (h.block i hi hn)⟩
theorem Only.put {fp : List Nat} {a b : World} (h : Only fp a b) {p : Addr} (hp : a.heap.size ≤ p.block) (v : Value) : Only fp a (b.setCell p v) :=
  h.then ((Below.refl _ _).setCell hp v)
theorem Only.new {fp : List Nat} {a b : World} (h : Only fp a b) (o : Obj) : Only fp a (b.alloc o) := h.then ((Below.refl _ _).alloc h.size o)
theorem Only.later {fp : List Nat} {a b c : World} (h : Below a.heap.size a b) (k : Only fp b c) : Only fp a c :=
  (Only.of_below h).trans k
theorem Only.lift {g : Nat} {a b c : World} (h : Only [g] a b) (k : Only [g] b c) : Only [g] a c := h.trans k
theorem Own.only {α : Type} {E : Flat α} {w w' : World} {base : Nat} {e : TypeId} {v : Value} {L : List α} {fp : List Nat} (h : Own E w base e v L) (hb : Only fp w w') (hn : ∀ g ∈ fp, g < base) : Own E w' base e v L := by
  obtain ⟨h1, h2⟩ := h
  refine ⟨h1, ?_⟩
  rcases h2 with h2 | ⟨g, cap, cur, hv, hg, hh, r⟩
  · exact .inl h2
  · have hgl : g < w.heap.size := by
      rcases Nat.lt_or_ge g w.heap.size with h | h
      · exact h
      · rw [Array.getElem?_eq_none h] at hh; cases hh
    exact .inr ⟨g, cap, cur, hv, hg, by rw [hb.block g hgl (fun hm => by have := hn g hm; omega)]; exact hh, r⟩
theorem w64_inD (n : Int) (h : -9223372036854775808 ≤ n ∧ n ≤ 9223372036854775807) : wrap64 n = n := by unfold wrap64; omega
theorem and255 (x : Int) : 0 ≤ bits .and .u64 x 255 ∧ bits .and .u64 x 255 ≤ 255 := by
  have h : bits .and .u64 x 255 = IntKind.u64.wrap ((BitVec.ofInt 64 x &&& BitVec.ofInt 64 255).toNat : Int) := rfl
  rw [h, BitVec.toNat_and, show (BitVec.ofInt 64 255).toNat = 255 from by decide]
  have h1 : (BitVec.ofInt 64 x).toNat &&& 255 ≤ 255 := Nat.and_le_right
  generalize (BitVec.ofInt 64 x).toNat &&& 255 = m at *
  simp [IntKind.wrap, IntKind.bits, IntKind.signed]
  omega
def SrcAt (v : Value) (xs : List UInt8) (fp : List Nat) (k : Nat) (seed : Int) (n g : Nat) (w : World) : Prop := w.cell? ⟨g, 0, none⟩ = some v ∧ w.cell? ⟨g, 1, none⟩ = some (.int .i64 k) ∧ w.cell? ⟨g, 2, none⟩ = some (.int .u64 seed) ∧
  w.frozen? ⟨g, 1, none⟩ = false ∧ w.frozen? ⟨g, 2, none⟩ = false ∧ k ≤ n ∧ Sl fByte.cod w v xs fp ∧ (∀ b ∈ fp, b < g)
theorem src_step {v : Value} {xs : List UInt8} {fp : List Nat} {k n g : Nat} {seed : Int} {w : World} (h : SrcAt v xs fp k seed n g w) (i j : Nat) (s2 : Int) :
    SrcD (n + 1) g ((((w.drewN i).setCell ⟨g, 1, none⟩ (.int .i64 ((k : Int) + 1))).setCell ⟨g, 2, none⟩ (.int .u64 s2)).drewN j) := by
  obtain ⟨c0, c1, c2, z1, z2, hk, hsl, hne⟩ := h
  have hO : Only [g] w ((((w.drewN i).setCell ⟨g, 1, none⟩ (.int .i64 ((k : Int) + 1))).setCell ⟨g, 2, none⟩ (.int .u64 s2)).drewN j) := ((((Only.refl [g] w).drewN _).set 1 _).set 2 _).drewN _
  have d0 : (w.drewN i).cell? ⟨g, 0, none⟩ = some v := c0
  have d1 : (w.drewN i).cell? ⟨g, 1, none⟩ = some (.int .i64 k) := c1
  have d2 : (w.drewN i).cell? ⟨g, 2, none⟩ = some (.int .u64 seed) := c2
  have y1 : (w.drewN i).frozen? ⟨g, 1, none⟩ = false := z1
  have y2 : (w.drewN i).frozen? ⟨g, 2, none⟩ = false := z2
  refine ⟨v, xs, fp, k + 1, s2, ?_, ?_, ?_, ?_, ?_, by omega, hsl.only hO (fun b hb => by have := hne b hb; simp; omega), hne⟩
  · show World.cell? (World.setCell _ _ _) _ = _
    rw [World.cell?_setCell_other _ _ _ _ (by simp), World.cell?_setCell_other _ _ _ _ (by simp)]; exact d0
  · show World.cell? (World.setCell _ _ _) _ = _
    rw [World.cell?_setCell_other _ _ _ _ (by simp)]
    exact World.cell?_setCell_same _ _ _ d1
  · show World.cell? (World.setCell _ _ _) _ = _
    exact World.cell?_setCell_same _ _ _ ((World.cell?_setCell_other _ _ _ _ (by simp)).trans d2)
  · show World.frozen? (World.setCell _ _ _) _ = _
    rw [frozen?_setCell, frozen?_setCell]; exact y1
  · show World.frozen? (World.setCell _ _ _) _ = _
    rw [frozen?_setCell, frozen?_setCell]; exact y2
set_option maxRecDepth 100000 in
set_option maxHeartbeats 2000000 in
theorem next_any (n g : Nat) (w : World) (hs : SrcD n g w) (hn : n ≤ 1000000000000) :
    Calls Try.prog 77 #[.pointer (some ⟨g, 0, none⟩)] w fun e w' => ∃ r : Int, e = .returned (.int .i64 r) ∧ (0 ≤ r ∧ r ≤ 255) ∧ SrcD (n + 1) g w' ∧ Only [g] w w' := by
  have hg := hs.lt
  obtain ⟨v, xs, fp, k, seed, c0, c1, c2, z1, z2, hk, hsl, hne⟩ := hs
  obtain ⟨A, cap, rfl, hle, hca⟩ := hsl.form
  have hlen : xs.length ≤ 9223372036854775807 := by unfold maxLen at *; omega
  by_cases hat : k < xs.length
  · obtain ⟨b, off, rfl, hbm, _, hc, _⟩ := hsl.cell1 rfl hat rfl
    have hx := xs[k].toNat_lt
    go_enter Try.func77, Try.ntmps77
    go_wp2
    go_quiet (fail)
    go_wp2
    go_quiet (fail)
    go_wp2
    go_quiet (fail)
    go_wp2
    go_ret
    have hw : wrap64 (xs[k].toNat : Int) = xs[k].toNat := w64_inD _ (by omega)
    refine ⟨_, rfl, by first | (rw [hw]; omega) | omega, src_step ⟨c0, c1, c2, z1, z2, hk, hsl, hne⟩ _ _ _, ?_⟩
    exact ((((Only.refl [g] w).drewN _).set 1 _).set 2 _).drewN _
  · go_enter Try.func77, Try.ntmps77
    go_wp2
    go_quiet (fail)
    go_wp2
    go_quiet (fail)
    go_wp2
    go_ret
    have hw := and255 (IntKind.u64.wrap (IntKind.u64.wrap (IntKind.u64.wrap (seed * 6364136223846793005)) + 1442695040888963407) / 1099511627776)
    generalize bits BinOp.and IntKind.u64 (IntKind.u64.wrap (IntKind.u64.wrap (IntKind.u64.wrap (seed * 6364136223846793005)) + 1442695040888963407) / 1099511627776) 255 = r at *
    have hw2 : wrap64 r = r := w64_inD _ (by omega)
    refine ⟨_, rfl, by rw [hw2]; exact hw, src_step ⟨c0, c1, c2, z1, z2, hk, hsl, hne⟩ _ _ _, ?_⟩
    exact ((((Only.refl [g] w).drewN _).set 1 _).set 2 _).drewN _
set_option maxRecDepth 100000 in
set_option maxHeartbeats 2000000 in
theorem pick_any (n g : Nat) (m : Int) (w : World) (hs : SrcD n g w) (hn : n ≤ 999999999000) (hm : m ≤ 1000000000) :
    Calls Try.prog 63 #[.pointer (some ⟨g, 0, none⟩), .int .i64 m] w fun e w' => ∃ r : Int, e = .returned (.int .i64 r) ∧ (0 ≤ r ∧ (1 ≤ m → r < m) ∧ (m ≤ 1 → r = 0)) ∧ SrcD (n + 2) g w' ∧ Only [g] w w' := by
  by_cases h1 : m ≤ 1
  · go_enter Try.func63, Try.ntmps63
    go_wp2
    go_ret
    exact ⟨0, rfl, ⟨by omega, fun h => by omega, fun _ => rfl⟩, hs.mono (by omega), Only.refl _ _⟩
  · go_enter Try.func63, Try.ntmps63
    go_wp2_with fail
    refine (next_any n g _ hs (by omega)).mono ?_
    rintro e w1 ⟨x, rfl, hx, hs1, ho1⟩
    by_cases h2 : 200 < m
    · go_wp2_with fail
      refine (next_any (n + 1) g _ hs1 (by omega)).mono ?_
      rintro e w2 ⟨y, rfl, hy, hs2, ho2⟩
      have e1 : 0 ≤ Int.tmod (x * 256 + y) m := Int.tmod_nonneg _ (by omega)
      have e2 : Int.tmod (x * 256 + y) m < m := Int.tmod_lt_of_pos _ (by omega)
      have e3 : wrap64 (x * 256) = x * 256 := w64_inD _ (by omega)
      have e4 : wrap64 (x * 256 + y) = x * 256 + y := w64_inD _ (by omega)
      have e5 : wrap64 (Int.tmod (x * 256 + y) m) = Int.tmod (x * 256 + y) m := w64_inD _ (by omega)
      go_wp2
      go_ret
      refine ⟨_, rfl, ?_, hs2, ho1.trans ho2⟩
      first | exact ⟨e1, fun _ => e2, fun h => by omega⟩ | exact ⟨Int.emod_nonneg _ (by omega), fun _ => Int.emod_lt_of_pos _ (by omega), fun h => by omega⟩ | (simp only [e3, e4, e5]; exact ⟨e1, fun _ => e2, fun h => by omega⟩) | skip
    · have e1 : 0 ≤ Int.tmod x m := Int.tmod_nonneg _ (by omega)
      have e2 : Int.tmod x m < m := Int.tmod_lt_of_pos _ (by omega)
      have e5 : wrap64 (Int.tmod x m) = Int.tmod x m := w64_inD _ (by omega)
      go_wp2
      go_ret
      refine ⟨_, rfl, ?_, hs1.mono (by omega), ho1⟩
      first | exact ⟨e1, fun _ => e2, fun h => by omega⟩ | exact ⟨Int.emod_nonneg _ (by omega), fun _ => Int.emod_lt_of_pos _ (by omega), fun h => by omega⟩ | (simp only [e5]; exact ⟨e1, fun _ => e2, fun h => by omega⟩) | skip
set_option maxRecDepth 100000 in
set_option maxHeartbeats 2000000 in
theorem one_any (n g : Nat) (m : Int) (w : World) (hs : SrcD n g w) (hn : n ≤ 999999999000) (hm : m ≤ 1000000000) :
    Calls Try.prog 61 #[.pointer (some ⟨g, 0, none⟩), .int .i64 m] w fun e w' => ∃ r : Bool, e = .returned (.bool r) ∧ SrcD (n + 2) g w' ∧ Only [g] w w' := by
  go_enter Try.func61, Try.ntmps61
  go_wp2_with fail
  refine (pick_any n g m _ hs hn hm).mono ?_
  rintro e w1 ⟨x, rfl, hx, hs1, ho1⟩
  go_wp2
  go_ret
  exact ⟨_, rfl, hs1, ho1⟩
set_option maxRecDepth 100000 in
set_option maxHeartbeats 2000000 in
theorem among_any (n g : Nat) (v : Value) (xs : List Int) (fp : List Nat) (w : World) (hs : SrcD n g w) (hn : n ≤ 999999999000) (hx : Sl fInt.cod w v xs fp) (hg : g ∉ fp) (h0 : 0 < xs.length) (h1 : xs.length ≤ 1000) :
    Calls Try.prog 47 #[.pointer (some ⟨g, 0, none⟩), v] w fun e w' => ∃ t ∈ xs, e = .returned (.int .i64 t) ∧ SrcD (n + 2) g w' ∧ Only [g] w w' := by
  obtain ⟨A, cap, rfl, hle, hca⟩ := hx.form
  go_enter Try.func47, Try.ntmps47
  go_wp2_with fail
  refine (pick_any n g _ _ hs hn (by omega)).mono ?_
  rintro e w1 ⟨r, rfl, ⟨hr0, hr1, _⟩, hs1, ho1⟩
  have hr2 := hr1 (by omega)
  obtain ⟨k, rfl⟩ : ∃ k : Nat, r = k := ⟨r.toNat, by omega⟩
  have hk : k < xs.length := by omega
  obtain ⟨b, off, rfl, _, _, hc, _⟩ := (hx.only ho1 (fun b hb => by simp; intro e; subst e; exact hg hb)).cell1 rfl hk rfl
  go_wp2
  go_ret
  exact ⟨_, List.getElem_mem hk, rfl, hs1, ho1⟩
set_option maxRecDepth 100000 in
set_option maxHeartbeats 2000000 in
theorem l00From_any (v : Value) (xs : List UInt8) (fp : List Nat) (w : World) (hx : Sl fByte.cod w v xs fp) :
    Calls Try.prog 39 #[v] w fun e w' => e = .returned (.pointer (some ⟨w.heap.size, 0, none⟩)) ∧ SrcD 0 w.heap.size w' ∧ Below w.heap.size w w' := by
  obtain ⟨A, cap, rfl, hlen, hcap⟩ := hx.form
  have hB : ∀ T, Below w.heap.size w (w.alloc (.cells #[.slice A xs.length cap, .int .i64 0, .int .u64 0] T)) := fun T => (Below.refl _ _).alloc (Nat.le_refl _) _
  have hlt := hx.lt
  go_enter Try.func39, Try.ntmps39
  go_wp2
  go_ret
  exact ⟨rfl, ⟨_, xs, fp, 0, 0, by simp, by simp, by simp, World.frozen?_alloc_at _ _ _ _ rfl, World.frozen?_alloc_at _ _ _ _ rfl, Nat.le_refl _, hx.below' (hB _), hlt⟩, hB _⟩
theorem slLit (V : World) (T : TypeId) (xs : List ByteArray) (cs : Array Value) (hcs : cs = (xs.flatMap fStr.enc).toArray) (hok : ∀ x ∈ xs, x.size ≤ 1000) (hne : 0 < xs.length) (hm : xs.length ≤ 1000) (k m : Nat) (hk : k = V.heap.size) (hn : m = xs.length) :
    Sl fStr.cod (V.alloc (.cells cs T)) (.slice (some ⟨k, 0, none⟩) m m) xs [k] := by
  subst hk hn
  exact Sl.lit2 (E := fStr) V xs T cs hcs (fun x hx => by have := hok x hx; show _ ≤ _; omega) hne (by omega)
theorem slLitI (V : World) (T : TypeId) (xs : List Int) (cs : Array Value) (hcs : cs = (xs.flatMap fInt.enc).toArray) (hok : ∀ x ∈ xs, -9223372036854775808 ≤ x ∧ x ≤ 9223372036854775807) (hne : 0 < xs.length) (hm : xs.length ≤ 1000) (k m : Nat) (hk : k = V.heap.size) (hn : m = xs.length) :
    Sl fInt.cod (V.alloc (.cells cs T)) (.slice (some ⟨k, 0, none⟩) m m) xs [k] := by
  subst hk hn
  exact Sl.lit2 (E := fInt) V xs T cs hcs hok hne (by omega)

end Go.Proofs.Ytjfaafoldllppaa
