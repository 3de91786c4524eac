
/- PagesOf of the program: slices.Chunk, the pages gathered. Written by wip/gen/pi.py. -/
import Derived.Test.YtibihiejpieadaaPp
import Derived.Test.YtibihiejpieadaaTi
import Derived.Test.YtibihiejpieadaaRe
import Derived.RangeFuncBox
import Derived.RangeFuncLeaves
import Derived.Shelf.Abstract
import Derived.OwnWalkIn
import Derived.TacticsInMore
import Derived.LoopNIn
import Derived.LoopIn
import Derived.Maps.AppendAt
namespace Go.Proofs.Ytibihiejpieadaa
open Go.RowKit Go.Shelf Go.Sort
set_option linter.unusedVariables false
attribute [local go_sem] Oper.semAt_some

theorem pgN_lt {m k L : Nat} (hm : 0 < m) : k < pgN m L ↔ k * m < L := by
  unfold pgN
  rw [← Nat.succ_le_iff, Nat.le_div_iff_mul_le hm, Nat.succ_mul]
  omega
theorem pgAt_size {α : Type} {m k : Nat} {xs : List α} : (pgAt m xs k).length = min m (xs.length - k * m) := by
  unfold pgAt; rw [List.length_take, List.length_drop]
def pgV (b off m : Nat) (xs : List ByteArray) (x : Nat) : Value := .slice (some ⟨b, off + x * m, none⟩) (pgAt m xs x).length (pgAt m xs x).length
theorem w64_inP (n : Int) (h : -9223372036854775808 ≤ n ∧ n ≤ 9223372036854775807) : wrap64 n = n := by unfold wrap64; omega
/-- All blocks below n₀ but one are as they were. -/
def KeptBut (n₀ Bp : Nat) (A B : World) : Prop := ∀ k, k < n₀ → k ≠ Bp → B.heap[k]? = A.heap[k]?
theorem KeptBut.refl (n₀ Bp : Nat) (A : World) : KeptBut n₀ Bp A A := fun _ _ _ => rfl
theorem KeptBut.trans {n₀ Bp : Nat} {A B C : World} (h : KeptBut n₀ Bp A B) (k : KeptBut n₀ Bp B C) : KeptBut n₀ Bp A C := fun i h1 h2 => (k i h1 h2).trans (h i h1 h2)
theorem KeptBut.drew {n₀ Bp : Nat} {A B : World} (h : KeptBut n₀ Bp A B) : KeptBut n₀ Bp A B.drew := fun i h1 h2 => h i h1 h2
theorem KeptBut.cell {n₀ Bp : Nat} {A B : World} (h : KeptBut n₀ Bp A B) {g : Nat} (h1 : g < n₀) (h2 : g ≠ Bp) : B.cell? ⟨g, 0, none⟩ = A.cell? ⟨g, 0, none⟩ := World.cell?_of_block (a := ⟨g, 0, none⟩) (h g h1 h2)
theorem grown_drew (W : World) : W.grownBy W.drew none := ⟨rfl, rfl, rfl, Nat.le_refl _, fun _ _ _ => rfl⟩
set_option maxRecDepth 100000 in
set_option maxHeartbeats 2000000 in
theorem chunk1_in (F : Fence) (n : Nat) (h7 : F.fn 73) (hro : F.round = none) (hn : 1 ≤ n) (l Bs Bn n₀ b off cap m : Nat) (xs : List ByteArray) (hreach : xs.length ≤ 1000000) (hcap : xs.length ≤ cap) (hcm : cap ≤ 9223372036854775807) (hm : 0 < m) (hm2 : m ≤ 1000) (hbs : Bs < n₀) (hbn : Bn < n₀) (Bp : Nat) (hbs2 : Bs ≠ Bp) (hbn2 : Bn ≠ Bp) (J Jx : List Nat → World → Prop) (hJd : ∀ pre W, J pre W → J pre W.drew)
    (hY : ∀ pre x W, J pre W → pre.length < pgN m xs.length → YieldAt F (n - 1) Try.prog l #[pgV b off m xs x] W fun e W' =>
      (e = .returned (.bool true) ∧ J (pre ++ [x]) W' ∧ KeptBut n₀ Bp W W') ∨ (e = .returned (.bool false) ∧ Jx (pre ++ [x]) W'))
    (W : World) (hBs : W.cell? ⟨Bs, 0, none⟩ = some (.slice (some ⟨b, off, none⟩) xs.length cap)) (hBn : W.cell? ⟨Bn, 0, none⟩ = some (.int .i64 m)) (h0 : J [] W) :
    CallsIn F n Try.prog 73 #[.func (.yield l) #[] #[], .pointer (some ⟨Bs, 0, none⟩), .pointer (some ⟨Bn, 0, none⟩)] W fun e W' => (∃ v, e = .returned v) ∧
      ((∃ ys, ys = List.range (pgN m xs.length) ∧ J ys W') ∨ (∃ pre, True ∧ Jx pre W')) := by
  refine callsIn_of_wp Try.func73 rfl h7 ?_ hro
  simp only [Try.ntmps73, List.size_toArray, List.length_cons, List.length_nil, Nat.reduceAdd, Nat.reduceSub, Array.replicate_succ, Array.replicate_zero, List.push_toArray, List.append_toArray, List.nil_append, List.cons_append]
  gi_wp2
  gi_loopw [4, 5] (fun i ee wr => ∃ k : Nat, k ≤ pgN m xs.length ∧ i = .int .i64 ((k * m : Nat) : Int) ∧ J (List.range k) wr ∧ KeptBut n₀ Bp W wr)
    (fun i _ _ => pgN m xs.length * m - (intOf i).toNat)
  case atStart => exact ⟨0, Nat.zero_le _, by rw [Nat.zero_mul]; rfl, h0, KeptBut.refl _ _ _⟩
  case round =>
    obtain ⟨k, hk, rfl, hJs, hnx⟩ := hrel
    have cS : wr.cell? ⟨Bs, 0, none⟩ = some (.slice (some ⟨b, off, none⟩) xs.length cap) := (hnx.cell hbs hbs2).trans hBs
    have cN : wr.cell? ⟨Bn, 0, none⟩ = some (.int .i64 m) := (hnx.cell hbn hbn2).trans hBn
    by_cases hlt : k < pgN m xs.length
    · have hp := (pgN_lt hm).1 hlt
      have HSZ := Lib.hid (pgAt_size (m := m) (k := k) (xs := xs))
      have HY := Lib.hid (hY (List.range k) k wr.drew (hJd _ _ hJs) (by rw [List.length_range]; exact hlt))
      unfold pgV at HY
      have hst : (k + 1) * m = k * m + m := Nat.succ_mul k m
      have HK := Lib.hid (show (((k + 1) * m : Nat) : Int) = ((k * m : Nat) : Int) + (m : Int) from by rw [hst]; push_cast; rfl)
      have hkm : pgN m xs.length * m ≤ 2000000 := by
        have h1 : pgN m xs.length * m ≤ xs.length + m - 1 := Nat.div_mul_le_self _ _
        omega
      have HKN : Hid (k * m + m ≤ pgN m xs.length * m) := by show _ ≤ _; rw [← hst]; exact Nat.mul_le_mul_right _ hlt
      clear hst
      generalize hpk : k * m = p at *
      gi_wp2
      have gcS := cell_regrown cS
      have gcN := cell_regrown cN
      refine wpIn_region_mixed [0, 1, 2, 3, 4, 5, 6] (C := fun w' => ∃ p : Regrown, w' = Go.Sort.grow (redrawn wr p.d) p.os) [true, true, true, true, true, true, true] (by kernel_rfl) (by kernel_rfl) (by kernel_rfl) (by kernel_rfl) (fun _ _ h => h) (regrown_of_below (Below.drew (Below.refl _ _))) ?_
      simp only [List.map_cons, List.map_nil, List.getD_cons_zero, List.getD_cons_succ]
      have hS0 : Below (wr.heap.size) wr wr.drew := Below.drew (Below.refl _ _)
      refine wpMix_pure (by kernel_rfl) (fun K hK => ?_)
      go_big_quiet_op
      refine hK _ ?_; clear hK K
      refine wpMix_pure (by kernel_rfl) (fun K hK => ?_)
      go_big_quiet_op
      refine hK _ ?_; clear hK K
      refine wpMix_pure (by kernel_rfl) (fun K hK => ?_)
      go_big_quiet_op
      refine hK _ ?_; clear hK K
      refine wpMix_pure (by kernel_rfl) (fun K hK => ?_)
      go_big_quiet_op
      refine hK _ ?_; clear hK K
      refine wpMix_pure (by kernel_rfl) (fun K hK => ?_)
      go_big_quiet_op
      refine hK _ ?_; clear hK K
      refine wpMix_pure (by kernel_rfl) (fun K hK => ?_)
      go_big_quiet_op
      refine hK _ ?_; clear hK K
      refine wpMix_pure (by kernel_rfl) (fun K hK => ?_)
      go_big_quiet_op
      refine hK _ ?_; clear hK K
      refine wpMix_nil ?_
      refine ⟨rfl, ?_⟩
      obtain ⟨c, hc⟩ : ∃ c, c = (pgAt m xs k).length := ⟨_, rfl⟩
      have hc2 := HSZ.out
      rw [← hc] at hc2 HY
      have hif : (if xs.length - p < m then ((xs.length - p : Nat) : Int) else (m : Int)) = (c : Int) := by split <;> omega
      have hmin : min (m : Int) ((xs.length - p : Nat) : Int) = (c : Int) := by omega
      first | simp only [hif] | simp only [hmin]
      have hpc : p + c ≤ xs.length := by omega
      have hc1000 : c ≤ 1000 := by omega
      have hc0 : 0 < c := by omega
      have hc0' : ¬ c = 0 := by omega
      have hpc9 : p + c ≤ 1000000 := by omega
      have e5 : p + c - p = c := by omega
      clear hif hmin hc2 HSZ gcS gcN hc
      obtain ⟨fn, tmps, assign, body, hy, hR⟩ := HY.out
      clear HY hY hJd hJs h0 e5
      gi_wp2
      refine hR.mono ?_
      rintro e W3 (⟨rfl, hJ3, hk3⟩ | ⟨rfl, hJx3⟩)
      · have cN3 : W3.cell? ⟨Bn, 0, none⟩ = some (.int .i64 m) := ((hnx.drew.trans hk3).cell hbn hbn2).trans hBn
        clear cS cN
        gi_wp2
        go_roundw
        case rel => exact ⟨k + 1, by omega, by rw [HK.out], by rw [List.range_succ]; exact hJ3, hnx.drew.trans hk3⟩
        case measure => simp [intOf]; have := HKN.out; omega
      · gi_wp2
        refine bodyPost_ret (results_none rfl _ _ _) rfl ?_
        exact ⟨⟨_, rfl⟩, .inr ⟨_, trivial, hJx3⟩⟩
    · have e1 : List.range k = List.range (pgN m xs.length) := by rw [show k = pgN m xs.length by omega]
      have hge : xs.length ≤ k * m := by
        rcases Nat.lt_or_ge (k * m) xs.length with h | h
        · exact absurd ((pgN_lt hm).2 h) hlt
        · exact h
      rw [e1] at hJs
      generalize k * m = p at *
      gi_wp2
      go_end0
      exact ⟨⟨_, rfl⟩, .inl ⟨_, rfl, hJs⟩⟩
theorem map_flatP (L : List ByteArray) : L.map Value.string = L.flatMap fStr.enc := by
  induction L with
  | nil => rfl
  | cons x L ih => rw [List.map_cons, List.flatMap_cons, ih]; rfl
theorem pgV_src {w : World} {b off cap m : Nat} {xs : List ByteArray} {fp : List Nat} (h : Sl fStr.cod w (.slice (some ⟨b, off, none⟩) xs.length cap) xs fp) (x : Nat) : Src fStr w (pgV b off m xs x) (pgAt m xs x) := by
  refine ⟨some ⟨b, off + x * m, none⟩, _, rfl, fun hn => (by cases hn), fun ad had j u hu => ?_⟩
  obtain rfl : (⟨b, off + x * m, none⟩ : Addr) = ad := Option.some.inj had
  rw [← map_flatP, List.getElem?_map] at hu
  cases hs : (pgAt m xs x)[j]? with
  | none => rw [hs] at hu; cases hu
  | some t =>
    rw [hs] at hu
    injection hu with hu
    subst hu
    unfold pgAt at hs
    rw [List.getElem?_take] at hs
    split at hs
    · rw [List.getElem?_drop] at hs
      obtain ⟨hl, ht⟩ := List.getElem?_eq_some_iff.1 hs
      obtain ⟨b', off', hA, _, _, hc, _⟩ := h.cell1 rfl hl rfl
      injection hA with hA
      injection hA with e1 e2 _
      subst e1 e2
      rw [addr_add, Nat.add_assoc, hc, ht]
    · cases hs
theorem own_keeps {α : Type} {E : Flat α} {w w' : World} {B : Nat} {e : TypeId} {v : Value} {L : List α} {row : Option Nat} (h : Own E w B e v L) (hg : w.grownBy w' row) (hr : ∀ r, row = some r → ∃ o : Obj, w.heap[r]? = some o ∧ o.isCells = false) : Own E w' B e v L := by
  obtain ⟨h1, h2⟩ := h
  refine ⟨h1, ?_⟩
  rcases h2 with h2 | ⟨g, cap, cur, hv, hg2, hh, r⟩
  · exact .inl h2
  · have hgl : g < w.heap.size := by
      rcases Nat.lt_or_ge g w.heap.size with hlt | hge
      · exact hlt
      · rw [Array.getElem?_eq_none hge] at hh; cases hh
    refine .inr ⟨g, cap, cur, hv, hg2, ?_, r⟩
    rw [hg.block g hgl (fun e => by
      obtain ⟨o, ho, hc⟩ := hr g e.symm
      rw [hh] at ho; injection ho with ho; subst ho; cases hc)]
    exact hh
theorem ownsRow_keeps {w w' : World} {B n size : Nat} {e : TypeId} {v : Value} {xs : List Value} {row : Option Nat} (h : w.ownsRow B e size v n xs) (hg : w.grownBy w' row) (hr : ∀ r, row = some r → ∃ o : Obj, w.heap[r]? = some o ∧ o.isCells = false) : w'.ownsRow B e size v n xs := by
  obtain ⟨h1, h2⟩ := h
  refine ⟨h1, ?_⟩
  rcases h2 with h2 | ⟨g, cap, cur, hv, hg2, hh, r⟩
  · exact .inl h2
  · have hgl : g < w.heap.size := by
      rcases Nat.lt_or_ge g w.heap.size with hlt | hge
      · exact hlt
      · rw [Array.getElem?_eq_none hge] at hh; cases hh
    refine .inr ⟨g, cap, cur, hv, hg2, ?_, r⟩
    rw [hg.block g hgl (fun e => by
      obtain ⟨o, ho, hc⟩ := hr g e.symm
      rw [hh] at ho; injection ho with ho; subst ho; cases hc)]
    exact hh
theorem PgV.keeps {w w' : World} {B n : Nat} {v : Value} {V : Nat → Value} {X : Nat → List ByteArray} {G : Nat → Nat} {row : Option Nat} (h : PgV w B v n V X G) (hg : w.grownBy w' row) (hr : ∀ r, row = some r → ∃ o : Obj, w.heap[r]? = some o ∧ o.isCells = false) : PgV w' B v n V X G :=
  ⟨ownsRow_keeps h.own hg hr, fun i hi => own_keeps (h.row i hi) hg hr, h.blk, h.inj, h.ap⟩
theorem boxed_keeps {W W' : World} {B : Nat} {t : TypeId} {v : Value} {row : Option Nat} (h : Boxed W B t v) (hg : W.grownBy W' row) (hr : ∀ r, row = some r → ∃ o : Obj, W.heap[r]? = some o ∧ o.isCells = false) : Boxed W' B t v :=
  h.kept hg (fun e => by
    obtain ⟨o, ho, hc⟩ := hr B e.symm
    rw [show W.heap[B]? = _ from h] at ho; injection ho with ho; subst ho; cases hc)
theorem PgV.len_ {u : World} {B n n' : Nat} {v : Value} {V : Nat → Value} {X : Nat → List ByteArray} {G : Nat → Nat} (h : PgV u B v n V X G) (e : n = n') : PgV u B v n' V X G := e ▸ h
theorem PgV.at_ {u u' : World} {B n : Nat} {v : Value} {V : Nat → Value} {X : Nat → List ByteArray} {G : Nat → Nat} (h : PgV u B v n V X G) (hk : ∀ k, B ≤ k → k < u.heap.size → u'.heap[k]? = u.heap[k]?) : PgV u' B v n V X G := by
  refine ⟨?_, fun i hi => own_stays (h.row i hi) (fun k hkk hkl => hk k (own_at (h.row i hi) hkk).1 hkl), h.blk, h.inj, h.ap⟩
  obtain ⟨h1, h2⟩ := h.own
  refine ⟨h1, ?_⟩
  rcases h2 with h2 | ⟨g, cap, cur, hv, hg2, hh, r⟩
  · exact .inl h2
  · have hgl : g < u.heap.size := by
      rcases Nat.lt_or_ge g u.heap.size with hlt | hge
      · exact hlt
      · rw [Array.getElem?_eq_none hge] at hh; cases hh
    exact .inr ⟨g, cap, cur, hv, hg2, by rw [hk g hg2 hgl]; exact hh, r⟩
theorem own_base {α : Type} {E : Flat α} {w : World} {B B' : Nat} {e : TypeId} {v : Value} {L : List α} (h : Own E w B e v L) (hb : B' ≤ B) : Own E w B' e v L := by
  obtain ⟨h1, h2⟩ := h
  refine ⟨h1, ?_⟩
  rcases h2 with h2 | ⟨g, cap, cur, hv, hg2, r⟩
  · exact .inl h2
  · exact .inr ⟨g, cap, cur, hv, Nat.le_trans hb hg2, r⟩
theorem own_some {α : Type} {E : Flat α} {w : World} {B : Nat} {e : TypeId} {v : Value} {L : List α} (h : Own E w B e v L) (h0 : 0 < L.length) : ∃ g, v.ownBlock = some g := by
  rcases h.2 with ⟨_, h2⟩ | ⟨g, cap, cur, hv, _⟩
  · omega
  · exact ⟨g, by rw [hv]; rfl⟩
theorem at_worldIn {F : Fence} {n : Nat} {P : Program} {Q : Exit → Act → World → Prop} {c : Code} {a : Act} {w : World} (X : World → Prop) (hX : X w) (h : ∀ W, X W → c.wpIn F n P Q a W) : c.wpIn F n P Q a w := h w hX
/-- What the rounds keep: the pages so far, in their box; the header in its own. -/
def PgI (w : World) (B4 Bh Bp m : Nat) (hd : ByteArray) (xs : List ByteArray) (pre : List Nat) (W : World) : Prop :=
  ∃ v V G, Boxed W Bp 27 v ∧ Boxed W Bh 9 (.string hd) ∧ PgV W B4 v pre.length V (fun i => hd :: pgAt m xs (pre.getD i 0)) G ∧ Below w.heap.size w W ∧ B4 ≤ W.heap.size
theorem PgI.from_ {w : World} {B4 Bh Bp m B : Nat} {hd : ByteArray} {xs : List ByteArray} (hB : w.heap.size ≤ B) : OwnFrom B (PgI w B4 Bh Bp m hd xs) := by
  rintro pre W W' row ⟨v, V, G, h1, h2, h3, h5, h6⟩ hg hr
  have hr' : ∀ r, row = some r → ∃ o : Obj, W.heap[r]? = some o ∧ o.isCells = false := fun r e => (hr r e).2
  exact ⟨v, V, G, boxed_keeps h1 hg hr', boxed_keeps h2 hg hr', h3.keeps hg hr', h5.grown hg h5.size (fun k hk => Nat.le_trans hB (hr k hk).1), Nat.le_trans h6 hg.size⟩
theorem chunk_stops (F : Fence) (n : Nat) (h7 : F.fn 73) (hro : F.round = none) (hn : 1 ≤ n) (Bs Bn n₀ b off cap m : Nat) (xs : List ByteArray) (hreach : xs.length ≤ 1000000) (hcap : xs.length ≤ cap) (hcm : cap ≤ 9223372036854775807) (hm : 0 < m) (hm2 : m ≤ 1000) (hbs : Bs < n₀) (hbn : Bn < n₀) (Bp : Nat) (hbs2 : Bs ≠ Bp) (hbn2 : Bn ≠ Bp) (w : World) (hn₀ : n₀ ≤ w.heap.size)
    (hBs : w.cell? ⟨Bs, 0, none⟩ = some (.slice (some ⟨b, off, none⟩) xs.length cap)) (hBn : w.cell? ⟨Bn, 0, none⟩ = some (.int .i64 m)) :
    SeqStopsK F n Try.prog 73 #[.pointer (some ⟨Bs, 0, none⟩), .pointer (some ⟨Bn, 0, none⟩)] (fun x : Nat => #[pgV b off m xs x]) (KeptBut n₀ Bp) (fun ys => ys = List.range (pgN m xs.length)) (fun _ => True) (pgN m xs.length) w := fun l J Jx W hW hJ _ hY h0 =>
  chunk1_in F n h7 hro hn l Bs Bn n₀ b off cap m xs hreach hcap hcm hm hm2 hbs hbn Bp hbs2 hbn2 J Jx (fun pre W1 h => hJ pre W1 _ none h (grown_drew W1) (fun r e => by cases e)) hY W
    ((hW.cell (p := ⟨Bs, 0, none⟩) (by show Bs < _; omega)).trans hBs) ((hW.cell (p := ⟨Bn, 0, none⟩) (by show Bn < _; omega)).trans hBn) h0
set_option maxRecDepth 100000 in
set_option maxHeartbeats 1000000 in
theorem chunk1_nil_in (F : Fence) (n : Nat) (h7 : F.fn 73) (hro : F.round = none) (l Bs Bn cap : Nat) (A : Option Addr) (J : List Nat → World → Prop) (W : World) (hBs : W.cell? ⟨Bs, 0, none⟩ = some (.slice A 0 cap)) (h0 : J [] W) :
    CallsIn F n Try.prog 73 #[.func (.yield l) #[] #[], .pointer (some ⟨Bs, 0, none⟩), .pointer (some ⟨Bn, 0, none⟩)] W fun e W' => (∃ v, e = .returned v) ∧ J [] W' := by
  refine callsIn_of_wp Try.func73 rfl h7 ?_ hro
  simp only [Try.ntmps73, List.size_toArray, List.length_cons, List.length_nil, Nat.reduceAdd, Nat.reduceSub, Array.replicate_succ, Array.replicate_zero, List.push_toArray, List.append_toArray, List.nil_append, List.cons_append]
  gi_wp2
  gi_loopw [4, 5] (fun i ee wr => i = .int .i64 0 ∧ wr = W) (fun _ _ _ => 0)
  case atStart => exact ⟨rfl, rfl⟩
  case round =>
    obtain ⟨rfl, rfl⟩ := hrel
    gi_wp2
    go_end0
    exact ⟨⟨_, rfl⟩, h0⟩
theorem chunk_stopsA (F : Fence) (n : Nat) (h7 : F.fn 73) (hro : F.round = none) (hn : 1 ≤ n) (Bs Bn n₀ b off cap m : Nat) (A : Option Addr) (xs : List ByteArray) (hA : 0 < xs.length → A = some ⟨b, off, none⟩) (hreach : xs.length ≤ 1000000) (hcap : xs.length ≤ cap) (hcm : cap ≤ 9223372036854775807) (hm : 0 < m) (hm2 : m ≤ 1000) (hbs : Bs < n₀) (hbn : Bn < n₀) (Bp : Nat) (hbs2 : Bs ≠ Bp) (hbn2 : Bn ≠ Bp) (w : World) (hn₀ : n₀ ≤ w.heap.size)
    (hBs : w.cell? ⟨Bs, 0, none⟩ = some (.slice A xs.length cap)) (hBn : w.cell? ⟨Bn, 0, none⟩ = some (.int .i64 m)) :
    SeqStopsK F n Try.prog 73 #[.pointer (some ⟨Bs, 0, none⟩), .pointer (some ⟨Bn, 0, none⟩)] (fun x : Nat => #[pgV b off m xs x]) (KeptBut n₀ Bp) (fun ys => ys = List.range (pgN m xs.length)) (fun _ => True) (pgN m xs.length) w := by
  rcases Nat.eq_zero_or_pos xs.length with h0 | h0
  · intro l J Jx W hW hJ _ hY h1
    rw [h0] at hBs
    have hc := (hW.cell (p := ⟨Bs, 0, none⟩) (by show Bs < _; omega)).trans hBs
    refine (chunk1_nil_in F n h7 hro l Bs Bn cap A J W hc h1).mono ?_
    rintro e W' ⟨he, hj⟩
    exact ⟨he, .inl ⟨[], by rw [h0, pgN_zero hm]; rfl, hj⟩⟩
  · have e := hA h0
    subst e
    exact chunk_stops F n h7 hro hn Bs Bn n₀ b off cap m xs hreach hcap hcm hm hm2 hbs hbn Bp hbs2 hbn2 w hn₀ hBs hBn
theorem chunk_in (F : Fence) (n : Nat) (h5 : F.fn 40) (hro : F.round = none) (A : Option Addr) (len cap m : Nat) (hm : 0 < m) (w : World) :
    CallsIn F n Try.prog 40 #[.slice A len cap, .int .i64 m] w fun e w' => e = .returned (.func (.func 73) #[] #[.pointer (some ⟨w.heap.size, 0, none⟩), .pointer (some ⟨w.heap.size + 1, 0, none⟩)]) ∧ w' = (w.alloc (.cells #[.slice A len cap] 24)).alloc (.cells #[.int .i64 m] 3) := by
  refine callsIn_of_wp Try.func40 rfl h5 ?_ hro
  simp only [Try.ntmps40, List.size_toArray, List.length_cons, List.length_nil, Nat.reduceAdd, Nat.reduceSub, Array.replicate_succ, Array.replicate_zero, List.push_toArray, List.append_toArray, List.nil_append, List.cons_append]
  gi_wp2
  go_ret
  exact ⟨rfl, rfl⟩
set_option maxRecDepth 100000 in
set_option maxHeartbeats 8000000 in
theorem implPagesOf_in (xs : List ByteArray) (fp : List Nat) (h : Int) (hd : ByteArray) (b off cap m : Nat) (A : Option Addr) (w : World) (hx : Sl fStr.cod w (.slice A xs.length cap) xs fp) (hA : 0 < xs.length → A = some ⟨b, off, none⟩) (h0 : linesB xs = true) (h1 : inB h 2 200 = true) (h2 : lineB hd = true) (hhd : hd.size ≤ 9223372036854775807) (hm : h = (m : Int) + 1) :
    CallsIn Fence.wide 6 Try.prog 8 #[.slice A xs.length cap, .int .i64 h, .string hd] w fun e w' => NewR2 fStr.cod.slice w (pgAll m hd xs) 0 e w' := by
  obtain ⟨hl200, hx100⟩ := linesB_parts h0
  have hh100 : hd.size ≤ 100 := by unfold lineB at h2; rw [Bool.and_eq_true, decide_eq_true_eq] at h2; exact h2.2
  have hm0 : 0 < m ∧ m ≤ 199 := by have := inB_true.1 h1; omega
  obtain ⟨hm0, hm2⟩ := hm0
  subst hm
  obtain ⟨i0, hi, hz0, hz1, hz2⟩ := info_parts infoSliceR
  obtain ⟨j0, hj, hy0, hy1, hy2⟩ := info_parts infoStrP
  obtain ⟨hcap, hcm⟩ : xs.length ≤ cap ∧ cap ≤ 9223372036854775807 := by
    obtain ⟨A', c', hvv, q1, q2⟩ := hx.form
    injection hvv with _ _ e
    subst e
    exact ⟨q1, q2⟩
  have hFw : ∀ f, Fence.wide.fn f := fun _ => trivial
  refine callsIn_of_wp_marks Try.func8 rfl trivial ?_ rfl
  simp only [Try.ntmps8, List.size_toArray, List.length_cons, List.length_nil, Nat.reduceAdd, Nat.reduceSub, Array.replicate_succ, Array.replicate_zero, List.push_toArray, List.append_toArray, List.nil_append, List.cons_append]
  have hB0 : Below w.heap.size w (w.alloc (.cells #[.string hd] 9)) := (Below.refl _ _).alloc (Nat.le_refl _) _
  have hx1 := hx.below' hB0
  gi_wp2_with first
    | (gi_at_call 37; refine ((callsIn_wide).2 (implValidReport_any _ xs fp _ hx1)).mono ?_; rintro e w' ⟨rfl, rfl⟩)
    | (gi_at_call 38; refine ((callsIn_wide).2 (withinB_any ((m : Int) + 1) 2 200 _)).mono ?_; rintro e w' ⟨rfl, rfl⟩)
    | (gi_at_call 39; refine ((callsIn_wide).2 (lineValid_any hd _ hhd)).mono ?_; rintro e w' ⟨rfl, rfl⟩)
    | (gi_at_call 40; refine (chunk_in Fence.wide _ trivial rfl A xs.length cap m hm0 _).mono ?_; rintro e w' ⟨rfl, rfl⟩)
  have hW4 : Below w.heap.size w ((((w.alloc (.cells #[.string hd] 9)).alloc (.cells #[.slice none 0 0] 27)).alloc (.cells #[.slice A xs.length cap] 24)).alloc (.cells #[.int .i64 m] 3)) := (((((Below.refl _ w).alloc (Nat.le_refl _) _).alloc (by simp) _).alloc (by simp; omega) _).alloc (by simp; omega) _)
  refine at_worldIn (fun W => Boxed W w.heap.size 9 (.string hd) ∧ Boxed W (w.heap.size + 1) 27 (.slice none 0 0) ∧ W.cell? ⟨w.heap.size + 2, 0, none⟩ = some (.slice A xs.length cap) ∧ W.cell? ⟨w.heap.size + 3, 0, none⟩ = some (.int .i64 m) ∧ W.heap.size = w.heap.size + 4 ∧ Below w.heap.size w W) ⟨?_, ?_, ?_, ?_, ?_, hW4⟩ ?_
  · exact (((Boxed.new w 9 (.string hd)).alloc _).alloc _).alloc _
  · have h9 := ((Boxed.new (w.alloc (.cells #[.string hd] 9)) 27 (.slice none 0 0)).alloc (.cells #[.slice A xs.length cap] 24)).alloc (.cells #[.int .i64 m] 3)
    rw [World.size_alloc] at h9
    exact h9
  · have h9 := ((Boxed.new ((w.alloc (.cells #[.string hd] 9)).alloc (.cells #[.slice none 0 0] 27)) 24 (.slice A xs.length cap)).alloc (.cells #[.int .i64 m] 3)).cell
    rw [World.size_alloc, World.size_alloc] at h9
    exact h9
  · have h9 := (Boxed.new (((w.alloc (.cells #[.string hd] 9)).alloc (.cells #[.slice none 0 0] 27)).alloc (.cells #[.slice A xs.length cap] 24)) 3 (.int .i64 m)).cell
    rw [World.size_alloc, World.size_alloc, World.size_alloc] at h9
    exact h9
  · simp only [World.size_alloc]
  rintro W4 ⟨q1, q2, q3, q4, q5, q6⟩
  clear hW4 hB0 hx1
  refine wpIn_rangeFunc_ownG rfl (by decide) (gf := 73) (lb := #[.pointer (some ⟨w.heap.size + 2, 0, none⟩), .pointer (some ⟨w.heap.size + 3, 0, none⟩)]) rfl trivial (enters_of Try.func73 (by kernel_rfl) rfl)
    (chunk_stopsA Fence.wide (6 - 1) trivial rfl (by decide) (w.heap.size + 2) (w.heap.size + 3) W4.heap.size b off cap m A xs hA (by omega) hcap hcm hm0 (by omega) (by omega) (by omega) (w.heap.size + 1) (by omega) (by omega) W4 (Nat.le_refl _) q3 q4)
    KeptBut.trans (fun W l o o' hl _ _ _ => fun k hk _ => World.putObj_heap_other (by omega)) (Below.refl _ _) (fun _ => rfl)
    (PgI w W4.heap.size w.heap.size (w.heap.size + 1) m hd xs) (fun _ _ _ => False) (PgI.from_ q6.size) (fun _ _ _ _ _ hs _ _ => hs)
    ⟨_, fun _ => undef, fun _ => 0, q2, q1, (PgV.nil (c := 0) (World.ownsRow_nil _ _ _ _)).congr (fun i hi => absurd hi (Nat.not_lt_zero i)), q6, Nat.le_refl _⟩
    (fun x => { tmps := #[.slice A xs.length cap, .int .i64 ((m : Int) + 1), .string hd, undef, undef, .pointer (some ⟨w.heap.size, 0, none⟩), .slice none 0 0, .int .i64 0, .pointer (some ⟨w.heap.size + 1, 0, none⟩), pgV b off m xs x, .bool false, .slice A xs.length cap, .bool true, .bool false, .bool false, .int .i64 ((m : Int) + 1), .bool true, .bool false, .bool false, .string hd, .bool true, .bool false, .bool false, .slice A xs.length cap, .int .i64 ((m : Int) + 1), .int .i64 m, .func (.func 73) #[] #[.pointer (some ⟨w.heap.size + 2, 0, none⟩), .pointer (some ⟨w.heap.size + 3, 0, none⟩)], pgV b off m xs x, undef, undef, undef, undef, undef, undef, undef, undef], defers := [] }) ?assign ?body ?done ?stop
  case assign =>
    intro l x W K hK
    gi_wp2
    exact hK
  case body =>
    rintro l pre x W ⟨v, V, G, hbp, hbh, hpg, hB, hsz4⟩ hlt
    have hNp : 0 < xs.length := by
      rcases Nat.eq_zero_or_pos xs.length with h | h
      · rw [h, pgN_zero hm0] at hlt; omega
      · exact h
    have eA := hA hNp
    subst eA
    have hcp := hbp.cell
    have hch := hbh.cell
    have hfp := hbp.frozen
    have hxW := hx.below' hB
    unfold pgV
    have hpl : pre.length ≤ 1000000 := by
      have h1 : pgN m xs.length * m ≤ xs.length + m - 1 := Nat.div_mul_le_self _ _
      have h3 : pgN m xs.length ≤ pgN m xs.length * m := Nat.le_mul_of_pos_right _ hm0
      omega
    have hcl : (pgAt m xs x).length ≤ 1000 := by rw [pgAt_size]; omega
    gi_wp2
    have gcp : ∀ p : KeptW (W4.heap.size) W (fun _ => True), p.v.cell? ⟨w.heap.size + 1, 0, none⟩ = some (v) := fun p => (p.below.cell (p := ⟨w.heap.size + 1, 0, none⟩) (by show w.heap.size + 1 < _; omega)).trans hcp
    have gch : ∀ p : KeptW (W4.heap.size) W (fun _ => True), p.v.cell? ⟨w.heap.size, 0, none⟩ = some (.string hd) := fun p => (p.below.cell (p := ⟨w.heap.size, 0, none⟩) (by show w.heap.size < _; omega)).trans hch
    haveI hKne : Nonempty (KeptW (W4.heap.size) W (fun _ => True)) := ⟨⟨_, Below.drew (Below.refl _ _), trivial⟩⟩
    refine wpIn_region_sink (C := fun w' => ∃ p : KeptW (W4.heap.size) W (fun _ => True), w' = p.v) [0, 1, 3, 2, 4, 5, 6, 7] [true, true, true, false, false, false, false, false] 7 (by kernel_rfl) (by kernel_rfl) (by kernel_rfl) (by kernel_rfl) (fun _ _ h => h) ⟨⟨_, Below.drew (Below.refl _ _), trivial⟩, rfl⟩ ?_
    simp only [List.map_cons, List.map_nil, List.getD_cons_zero, List.getD_cons_succ]
    have hS0 : Below (W4.heap.size) W W.drew := Below.drew (Below.refl _ _)
    refine wpMixS_pure (by kernel_rfl) (fun K hK => ?_)
    go_big_quiet_op
    refine hK _ ?_; clear hK K
    refine wpMixS_pure (by kernel_rfl) (fun K hK => ?_)
    go_big_quiet_op
    refine hK _ ?_; clear hK K
    refine wpMixS_pure (by kernel_rfl) (fun K hK => ?_)
    go_big_quiet_op
    refine hK _ ?_; clear hK K
    refine wpMixS_act (by kernel_rfl) (fun K hK => ?_)
    go_big_op
    refine hK _ _ ⟨⟨_, (hS0.alloc (Nat.le_trans hsz4 hS0.size) _), trivial⟩, rfl⟩ ?_
    clear hK K
    refine mixS_world (fun N => Below (W4.heap.size) W N ∧ Own fStr N W.heap.size 9 (.slice (some ⟨W.heap.size, 0, none⟩) 1 1) [hd] ∧ Below W.heap.size W N) ⟨hS0.alloc (Nat.le_trans hsz4 hS0.size) _, ⟨World.ownsRow_lit (e := 9) (size := 1) W.drew #[.string hd] 1 (Nat.le_refl _) (by decide) rfl, (Below.drew (Below.refl _ _)).alloc (Nat.le_refl _) _⟩⟩ ?_
    rintro wr1 ⟨hbr1S, hbr1F⟩
    refine wpMixS_act (by kernel_rfl) (fun K hK => ?_)
    obtain ⟨hoF, hb1⟩ := hbr1F
    have hsrcN := pgV_src (m := m) (hxW.below' hb1) x
    unfold pgV at hsrcN
    refine wp_append_src (E := fStr) _ _ 24 rfl W.heap.size 9 j0 (.string ⟨#[]⟩) 16 Try.underlying24 hj hy0 hy1 hy2 rfl (.slice (some ⟨W.heap.size, 0, none⟩) 1 1) [hd] rfl hoF _ (pgAt m xs x) rfl hsrcN (by simp; omega) (by decide) hb1.size ?_
    intro y u hoy hbu0
    have hbu := hbu0.mono hsz4
    have hb2 := hb1.trans hbu0
    clear hoF hsrcN hb1 hbu0
    obtain ⟨gy, hgy⟩ := own_some hoy (by simp)
    obtain ⟨Ay, cy, rfl⟩ := hoy.form
    have hbuS : Below (W4.heap.size) W u := hbr1S.trans hbu
    try simp only [Act.put, List.setIfInBounds_toArray, List.set_cons_zero, List.set_cons_succ]
    refine hK _ _ ⟨⟨_, hbuS, trivial⟩, rfl⟩ ?_
    clear hK K
    refine wpMixS_act (by kernel_rfl) (fun K hK => ?_)
    go_big_op
    refine hK _ _ ⟨⟨_, (hbuS.alloc (Nat.le_trans hsz4 hbuS.size) _), trivial⟩, rfl⟩ ?_
    clear hK K
    refine mixS_world (fun N => Below (W4.heap.size) W N ∧ N.cell? ⟨u.heap.size, 0, none⟩ = some (.slice Ay ([hd] ++ pgAt m xs x).length cy) ∧ Own fStr N W.heap.size 9 (.slice Ay ([hd] ++ pgAt m xs x).length cy) ([hd] ++ pgAt m xs x) ∧ Below W.heap.size W N) ⟨hbuS.alloc (Nat.le_trans hsz4 hbuS.size) _, ⟨by simp, hoy.below ((Below.refl _ _).alloc (Nat.le_refl _) _), hb2.alloc hb2.size _⟩⟩ ?_
    rintro wr2 ⟨hbr2S, hbr2F⟩
    refine wpMixS_act (by kernel_rfl) (fun K hK => ?_)
    obtain ⟨q7, hoy2, hb3⟩ := hbr2F
    have hpN := hpg.below hb3
    have hvb : ∀ k, v.ownBlock = some k → k < W.heap.size := fun k hk => (hpg.own.lt k hk).2
    have hgyl := own_at hoy2 hgy
    refine wp_append_at2 _ _ _ 27 rfl W4.heap.size 24 i0 (.slice none 0 0) 1 24 Try.underlying27 hi hz0 hz1 hz2 rfl (by decide) v pre.length _ rfl hpN.own [.slice Ay ([hd] ++ pgAt m xs x).length cy] rfl (by intro z hz; rw [List.mem_singleton] at hz; subst hz; rfl) u.heap.size rfl (by intro j z hj; match j, hj with | 0, hj => (injection hj with hj; subst hj; exact q7) | j + 1, hj => (simp at hj)) (by omega) (by decide) (Nat.le_trans hsz4 hb3.size) ?_
    intro v' u hown hbu hgr hvl
    have hpu := hpN.push (own_base hoy2 hsz4) hgy (fun i hi e => by have := (hpg.gl hi).2; omega) (fun e => by have := hvb _ e; omega) hown hgr hvl
    obtain ⟨A6, c6, rfl⟩ := hpu.form
    have hcu : u.cell? ⟨w.heap.size + 1, 0, none⟩ = some v := ((hbr2S.trans hbu).cell (p := ⟨w.heap.size + 1, 0, none⟩) (by show w.heap.size + 1 < _; omega)).trans hcp
    have hfu : u.frozen? ⟨w.heap.size + 1, 0, none⟩ = false := ((hbr2S.trans hbu).frozen (p := ⟨w.heap.size + 1, 0, none⟩) (by show w.heap.size + 1 < _; omega)).trans hfp
    have hbuS : Below (W4.heap.size) W u := hbr2S.trans hbu
    try simp only [Act.put, List.setIfInBounds_toArray, List.set_cons_zero, List.set_cons_succ]
    refine hK _ _ ⟨⟨_, hbuS, trivial⟩, rfl⟩ ?_
    clear hK K
    refine wpMixS_last (by kernel_rfl) (fun K hK => ?_)
    go_big_op
    try simp only [Act.put, List.setIfInBounds_toArray, List.set_cons_zero, List.set_cons_succ]
    refine hK _ _ ?_
    clear hK K
    refine ⟨rfl, ?_⟩
    gi_wp2
    have hset : ∀ k, k < u.heap.size → k ≠ w.heap.size + 1 → (u.setCell ⟨w.heap.size + 1, 0, none⟩ (.slice A6 (pre.length + 1) c6)).heap[k]? = u.heap[k]? := fun k hkl hk => ((Only.refl [w.heap.size + 1] u).set 0 _).block k hkl (by rw [List.mem_singleton]; exact hk)
    have hall : ∀ k, k < W.heap.size → k ≠ w.heap.size + 1 → v.ownBlock ≠ some k → (u.setCell ⟨w.heap.size + 1, 0, none⟩ (.slice A6 (pre.length + 1) c6)).heap[k]? = W.heap[k]? := fun k hk h1 h2 => by
      have h3 := hb3.size
      have h4 := hgr.size
      rw [hset k (by omega) h1, hgr.block k (by omega) (fun e => h2 e.symm), hb3.block k hk]
    have hbx : ∀ k, k < W4.heap.size → u.heap[k]? = W.heap[k]? := fun k hk => hbuS.block k hk
    refine ⟨⟨?_, ?_⟩, ?_, ?_⟩
    · have h3 := hb3.size
      have h4 := hgr.size
      have h5 := ((Only.refl [w.heap.size + 1] u).set 0 (.slice A6 (pre.length + 1) c6)).size
      omega
    · intro k o hk1 hk2 hk3
      have hkl : k < W.heap.size := by
        rcases Nat.lt_or_ge k W.heap.size with h | h
        · exact h
        · rw [Array.getElem?_eq_none h] at hk2; cases hk2
      rw [hall k hkl (by omega) (fun e => by
        rcases hpg.own.2 with ⟨hv, _⟩ | ⟨g, cap', cur, hv, _, hh, _⟩
        · rw [hv] at e; cases e
        · rw [hv] at e
          injection e with e
          have e : g = k := e
          subst e
          rw [hh] at hk2; injection hk2 with hk2; subst hk2; cases hk3)]
      exact hk2
    · intro k hk1 hk2
      exact hall k (by omega) hk2 (fun e => by have := (hpg.own.lt k e).1; omega)
    · have hb1 : Boxed u (w.heap.size + 1) 27 v := (hbx _ (by omega)).trans hbp
      have hb2' : Boxed u w.heap.size 9 (.string hd) := (hbx _ (by omega)).trans hbh
      have hp9 := (hpu.at_ (u' := u.setCell ⟨w.heap.size + 1, 0, none⟩ (.slice A6 (pre.length + 1) c6)) (fun k hk hkl => hset k hkl (by omega))).congr (X' := fun i => hd :: pgAt m xs ((pre ++ [x]).getD i 0)) (fun i hi => by
        by_cases e : i = pre.length
        · subst e; simp
        · have hi2 : i < pre.length := by omega
          rw [if_neg e]
          simp [List.getD_eq_getElem?_getD, List.getElem?_append_left hi2])
      refine ⟨_, _, _, hb1.set _, (hset w.heap.size hb2'.lt (by omega)).trans hb2', hp9.len_ (by simp), (hB.trans (hbuS.mono (by omega))).setCell (p := ⟨w.heap.size + 1, 0, none⟩) (by show _ ≤ w.heap.size + 1; omega) _, ?_⟩
      have h3 := hb3.size
      have h4 := hgr.size
      have h5 := ((Only.refl [w.heap.size + 1] u).set 0 (.slice A6 (pre.length + 1) c6)).size
      omega
  case done =>
    rintro D ys W hD rfl ⟨v, V, G, hbp, hbh, hpg, hB, _⟩ hK
    have hc := hbp.cell
    gi_wp2
    have hr' : ∀ r, some D = some r → ∃ o : Obj, W.heap[r]? = some o ∧ o.isCells = false := fun r e => by injection e with e; subst e; exact ⟨_, hK, rfl⟩
    refine ⟨by simp, .inl ⟨_, _, rfl, run_takeDeferred hK, ?_⟩⟩
    have hp' := ((hpg.keeps (grownBy_putObj' W D (.deferred none)) hr').congr (X' := fun i => hd :: pgAt m xs i) (fun i hi => by
      rw [List.length_range] at hi
      show hd :: pgAt m xs ((List.range (pgN m xs.length)).getD i 0) = _
      rw [List.getD_eq_getElem?_getD, List.getElem?_range hi]; rfl))
    rw [List.length_range] at hp'
    obtain ⟨fq, hsl, hlo, hnd⟩ := hp'.sl (xss := pgAll m hd xs) rfl (fun i _ x hx' => pg_ok (k := xs.length) hx100 hh100 i x (by rw [List.take_length]; exact hx'))
    have hB' := hB.grown (grownBy_putObj' W D (.deferred none)) hB.size (fun k hk => by injection hk with hk; subst hk; exact Nat.le_trans q6.size hD)
    exact ⟨_, results_tmp2 rfl _ _ _, v, rfl, ⟨fq, hsl, fun b hb => Nat.le_trans q6.size (hlo b hb), hnd⟩, hB'⟩
  case stop =>
    rintro D c pre W _ _ h _
    exact h.elim
set_option maxRecDepth 100000 in
set_option maxHeartbeats 4000000 in
theorem implPagesOf_any (v : Value) (xs : List ByteArray) (fp : List Nat) (h : Int) (hd : ByteArray) (w : World) (hx : Sl fStr.cod w v xs fp) (hhd : hd.size ≤ 9223372036854775807) :
    Calls Try.prog 8 #[v, .int .i64 h, .string hd] w fun e w' => NewR2 fStr.cod.slice w (pgF xs h hd) (pgC xs h hd) e w' := by
  obtain ⟨A, cap, rfl, hle, hca⟩ := hx.form
  refine (callsIn_wide (n := 6)).1 ?_
  have hFw : ∀ f, Fence.wide.fn f := fun _ => trivial
  have hB0 : Below w.heap.size w (w.alloc (.cells #[.string hd] 9)) := (Below.refl _ _).alloc (Nat.le_refl _) _
  have hx1 := hx.below' hB0
  cases h0 : linesB xs
  · obtain ⟨hc, hf⟩ := pg_bad1 (h := h) (hd := hd) h0
    rw [hc, hf]
    refine callsIn_of_wp_marks Try.func8 rfl trivial ?_ rfl
    simp only [Try.ntmps8, List.size_toArray, List.length_cons, List.length_nil, Nat.reduceAdd, Nat.reduceSub, Array.replicate_succ, Array.replicate_zero, List.push_toArray, List.append_toArray, List.nil_append, List.cons_append]
    gi_wp2_with first
          | (gi_at_call 37; refine ((callsIn_wide).2 (implValidReport_any _ xs fp _ hx1)).mono ?_; rintro e w' ⟨rfl, rfl⟩)
          | (gi_at_call 38; refine ((callsIn_wide).2 (withinB_any h 2 200 _)).mono ?_; rintro e w' ⟨rfl, rfl⟩)
          | (gi_at_call 39; refine ((callsIn_wide).2 (lineValid_any hd _ hhd)).mono ?_; rintro e w' ⟨rfl, rfl⟩)
    exact ⟨_, results_tmp2 rfl _ _ _, _, rfl, New.nil hB0⟩
  · by_cases h1 : inB h 2 200 = true
    · cases h2 : lineB hd
      · obtain ⟨hc, hf⟩ := pg_bad2 (h := h) (hd := hd) h0 (by unfold pgOk; rw [h1, h2]; rfl)
        rw [hc, hf]
        refine callsIn_of_wp_marks Try.func8 rfl trivial ?_ rfl
        simp only [Try.ntmps8, List.size_toArray, List.length_cons, List.length_nil, Nat.reduceAdd, Nat.reduceSub, Array.replicate_succ, Array.replicate_zero, List.push_toArray, List.append_toArray, List.nil_append, List.cons_append]
        gi_wp2_with first
              | (gi_at_call 37; refine ((callsIn_wide).2 (implValidReport_any _ xs fp _ hx1)).mono ?_; rintro e w' ⟨rfl, rfl⟩)
              | (gi_at_call 38; refine ((callsIn_wide).2 (withinB_any h 2 200 _)).mono ?_; rintro e w' ⟨rfl, rfl⟩)
              | (gi_at_call 39; refine ((callsIn_wide).2 (lineValid_any hd _ hhd)).mono ?_; rintro e w' ⟨rfl, rfl⟩)
        exact ⟨_, results_tmp2 rfl _ _ _, _, rfl, New.nil hB0⟩
      · obtain ⟨hc, hf⟩ := pg_good (h := h) (hd := hd) h0 (by unfold pgOk; rw [h1, h2]; rfl)
        obtain ⟨m, hm⟩ : ∃ m : Nat, h = (m : Int) + 1 := ⟨h.toNat - 1, by have := inB_true.1 h1; omega⟩
        rw [hc, hf]
        obtain ⟨b, off, hA⟩ : ∃ b off, 0 < xs.length → A = some ⟨b, off, none⟩ := by
          rcases Nat.eq_zero_or_pos xs.length with hl0 | hl0
          · exact ⟨0, 0, fun h9 => by omega⟩
          · obtain ⟨b, off, hA, _⟩ := hx.cells hl0
            exact ⟨b, off, fun _ => hA⟩
        rw [show h.toNat - 1 = m by omega]
        exact implPagesOf_in xs fp h hd b off cap m A w hx hA h0 h1 h2 hhd hm
    · have h1' : inB h 2 200 = false := by simpa using h1
      obtain ⟨hc, hf⟩ := pg_bad2 (h := h) (hd := hd) h0 (by unfold pgOk; rw [h1']; rfl)
      rw [hc, hf]
      clear h1
      refine callsIn_of_wp_marks Try.func8 rfl trivial ?_ rfl
      simp only [Try.ntmps8, List.size_toArray, List.length_cons, List.length_nil, Nat.reduceAdd, Nat.reduceSub, Array.replicate_succ, Array.replicate_zero, List.push_toArray, List.append_toArray, List.nil_append, List.cons_append]
      gi_wp2_with first
            | (gi_at_call 37; refine ((callsIn_wide).2 (implValidReport_any _ xs fp _ hx1)).mono ?_; rintro e w' ⟨rfl, rfl⟩)
            | (gi_at_call 38; refine ((callsIn_wide).2 (withinB_any h 2 200 _)).mono ?_; rintro e w' ⟨rfl, rfl⟩)
            | (gi_at_call 39; refine ((callsIn_wide).2 (lineValid_any hd _ hhd)).mono ?_; rintro e w' ⟨rfl, rfl⟩)
      exact ⟨_, results_tmp2 rfl _ _ _, _, rfl, New.nil hB0⟩
end Go.Proofs.Ytibihiejpieadaa
