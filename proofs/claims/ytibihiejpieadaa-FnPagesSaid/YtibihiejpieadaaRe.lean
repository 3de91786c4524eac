
/- The laws' own helpers r8Long, r8At, r8Wide, r8Same; bytes of a text, written and read back; append of a slice as an operation alone. -/
import Derived.Test.YtibihiejpieadaaMark
import Derived.Test.YtibihiejpieadaaColl
import Derived.Test.YtibihiejpieadaaAp
import Derived.Test.YtibihiejpieadaaDe
namespace Go.Proofs.Ytibihiejpieadaa
open Go.RowKit
set_option linter.unusedVariables false

theorem enc_bytes (l : List UInt8) : l.flatMap fByte.enc = l.map (fun b => Value.int .u8 b.toNat) := by
  induction l with
  | nil => rfl
  | cons b l ih => rw [List.flatMap_cons, ih]; rfl
theorem Sl.cellB {w : World} {g n cap : Nat} {xs : List UInt8} {fp : List Nat} (h : Sl fByte.cod w (.slice (some ⟨g, 0, none⟩) n cap) xs fp) {k : Nat} (hk : k < xs.length) : w.cell? ⟨g, k, none⟩ = some (.int .u8 xs[k].toNat) ∧ w.frozen? ⟨g, k, none⟩ = false := by
  obtain ⟨b, off, hA, _, _, hc, hf⟩ := h.cell1 rfl hk rfl
  injection hA with hA; injection hA with h1 h2 _
  subst h1; subst h2
  rw [Nat.zero_add] at hc hf
  exact ⟨hc, hf⟩
theorem sl_bytes {w : World} {g cap : Nat} {xs : List UInt8} (hc : xs.length ≤ cap) (hm : cap ≤ 9223372036854775807) (hb : g < w.heap.size) (h0 : 0 < xs.length)
    (h : ∀ k (hk : k < xs.length), w.cell? ⟨g, k, none⟩ = some (.int .u8 xs[k].toNat) ∧ w.frozen? ⟨g, k, none⟩ = false) : Sl fByte.cod w (.slice (some ⟨g, 0, none⟩) xs.length cap) xs [g] := by
  refine Sl.of_cells hc hm hb (fun j hj => ?_) (fun x _ => trivial) h0
  rw [enc_bytes] at hj
  have hj' : j < xs.length := by simpa using hj
  obtain ⟨q1, q2⟩ := h j hj'
  rw [Nat.zero_add]
  refine ⟨?_, q2⟩
  rw [q1]
  simp [enc_bytes, hj']
theorem Sl.setB {w : World} {g cap : Nat} {xs : List UInt8} (h : Sl fByte.cod w (.slice (some ⟨g, 0, none⟩) xs.length cap) xs [g]) {k : Nat} (hk : k < xs.length) (c : UInt8) :
    Sl fByte.cod (w.setCell ⟨g, k, none⟩ (.int .u8 c.toNat)) (.slice (some ⟨g, 0, none⟩) xs.length cap) (xs.set k c) [g] := by
  obtain ⟨A', cap', hv, hlc, hcm⟩ := h.form
  injection hv with _ _ e3
  subst e3
  have hg : g < w.heap.size := h.lt g (by simp)
  have hl : (xs.set k c).length = xs.length := List.length_set
  have key := sl_bytes (w := w.setCell ⟨g, k, none⟩ (.int .u8 c.toNat)) (g := g) (cap := cap) (xs := xs.set k c) (by omega) (by omega) (by simpa using hg) (by omega) (fun j hj => by
    rw [hl] at hj
    obtain ⟨q1, q2⟩ := h.cellB hj
    refine ⟨?_, (frozen?_setCell _ _ _ _).trans q2⟩
    by_cases hjk : j = k
    · subst hjk
      rw [World.cell?_setCell_same _ _ _ q1]
      simp
    · rw [World.cell?_setCell_other _ _ _ _ (by intro e; injection e with _ e _; exact hjk e.symm), q1]
      rw [List.getElem_set_ne (fun e => hjk e.symm)])
  rw [hl] at key
  exact key
theorem Sl.textB {w : World} {g cap : Nat} {xs : List UInt8} {fp : List Nat} (h : Sl fByte.cod w (.slice (some ⟨g, 0, none⟩) xs.length cap) xs fp) : (convert 22 9 (.slice (some ⟨g, 0, none⟩) xs.length cap)).run Try.prog w = .ok (.string ⟨xs.toArray⟩) w := by
  refine run_convert_bytes_back w _ _ _ _ cap xs Try.underlying22 Try.underlying5 Try.underlying9 (fun j hj => ?_)
  have e : (⟨g, 0, none⟩ : Addr).add j = ⟨g, j, none⟩ := by unfold Addr.add; split <;> simp_all
  rw [e]; exact (h.cellB hj).1
theorem bytes_made (w : World) (s : ByteArray) (hs : s.size ≤ 1000000000) (h0 : 0 < s.size) :
    ∃ cap W', (convert 9 22 (.string s)).run Try.prog w = .ok (.slice (some ⟨w.heap.size, 0, none⟩) s.size cap) W' ∧ Sl fByte.cod W' (.slice (some ⟨w.heap.size, 0, none⟩) s.size cap) s.data.toList [w.heap.size] ∧ Below w.heap.size w W' := by
  have hr := run_bytes_of_string (P := Try.prog) w 9 22 5 s Try.underlying9 Try.underlying22 Try.underlying5
  refine ⟨_, _, hr, ?_, (Below.drew (Below.refl _ _)).alloc (Nat.le_refl _) _⟩
  have hc := grownCap_ge w s.size 0 5
  have hm := grownCap_le_maxLen w s.size 0 5 (by unfold maxLen; omega)
  generalize grownCap w s.size 0 5 = cap at *
  have hl : s.data.toList.length = s.size := by simp
  have hbs : (bytesRow s cap).size = cap := by unfold bytesRow; simp; omega
  have key := sl_bytes (w := w.drew.alloc (.cells (bytesRow s cap) 5 ((bytesRow s cap).size, (bytesRow s cap).size + 1))) (g := w.heap.size) (cap := cap) (xs := s.data.toList) (by omega) (by unfold maxLen at hm; exact hm) (by simp) (by omega) (fun k hk => by
    have e1 := World.cell?_alloc_mark w.drew (bytesRow s cap) 5 ((bytesRow s cap).size, (bytesRow s cap).size + 1) k
    have e2 := World.frozen?_alloc_mark w.drew (bytesRow s cap) 5 (bytesRow s cap).size ((bytesRow s cap).size + 1) k
    refine ⟨e1.trans ?_, e2.trans ?_⟩
    · unfold bytesRow
      rw [Array.getElem?_append_left (by simpa using hk)]
      simp at hk
      simp [hk]
    · rw [hbs, decide_eq_false (by omega)]; rfl)
  rw [hl] at key
  exact key
theorem wp_append_src {α : Type} {E : Flat α} {P : Program} {w : World} {o : Oper} {a : Act} {K : Act → World → Prop} {Q : Exit → Act → World → Prop} (s x : Operand) (t : TypeId)
    (ho : o.op = .call { callee := .builtin .append, args := #[s, x], argTypes := #[t, t] })
    (base : Nat) (e : TypeId) (i : TypeInfo) (z : Value) (bytes : Nat) (ht : P.underlying t = some (.slice e)) (hi : P.info? e = some i) (hz : i.zero = some z)
    (hsize : i.size = E.n) (hby : i.bytes = bytes) (hzs : z.cells.size = E.n)
    (v : Value) (L : List α) (hs : a.eval s = v) (hown : Own E w base e v L) (v2 : Value) (M : List α) (hx : a.eval x = v2) (hM : Src E w v2 M)
    (hn : L.length + M.length ≤ 1000000000) (hb : bytes ≤ 1000) (hbase : base ≤ w.heap.size)
    (h : ∀ v' w', Own E w' base e v' (L ++ M) → Below base w w' → K (a.put o.dst v') w') : o.wp P a w K Q := by
  obtain ⟨A, c, rfl, hnone, hnews⟩ := hM
  have hone : ∀ u ∈ M.flatMap E.enc, u.oneCell' = true := fun u hu => by
    obtain ⟨y, _, hy⟩ := List.mem_flatMap.1 hu
    exact E.one y u hy
  cases A with
  | none =>
    have hm := hnone rfl
    subst hm
    have hrun := run_append_none (P := P) (w := w) base t o.type e i E.n c ht hi v L.length _ hown
    unfold Oper.wp
    simp [execOp, ho, resolve, invoke, builtin, hs, hx, hrun, Result.andThen]
    refine h v w ?_ (Below.refl _ _)
    rw [List.append_nil]; exact hown
  | some ad =>
    refine wp_append_own w s x t ho base e i z E.n bytes ht hi hz hsize hby hzs E.pos v L.length _ hs hown ad M.length c (M.flatMap E.enc) hx (flat_len E.enc E.n M (fun x _ => E.len x)) (hnews ad rfl) hone (by unfold maxLen; omega) ?_ hbase ?_
    · have : (L.length + M.length) * bytes ≤ 1000000000 * 1000 := Nat.mul_le_mul hn hb
      omega
    · intro v' w' h2 h3 _
      refine h v' w' ?_ (grown_below hown h3 hbase)
      show w'.ownsRow base e E.n v' (L ++ M).length ((L ++ M).flatMap E.enc)
      rw [List.flatMap_append, List.length_append]
      exact h2
theorem xor_u8 (a b : UInt8) : bits .xor .u8 (a.toNat : Int) (b.toNat : Int) = ((a ^^^ b).toNat : Int) := by
  have ha := a.toNat_lt
  have hb := b.toNat_lt
  have hx : a.toNat ^^^ b.toNat < 2 ^ 8 := Nat.xor_lt_two_pow (by omega) (by omega)
  have h1 : (BitVec.ofInt 8 (a.toNat : Int)).toNat = a.toNat := by
    rw [BitVec.ofInt_natCast, BitVec.toNat_ofNat]; exact Nat.mod_eq_of_lt (by omega)
  have h2 : (BitVec.ofInt 8 (b.toNat : Int)).toNat = b.toNat := by
    rw [BitVec.ofInt_natCast, BitVec.toNat_ofNat]; exact Nat.mod_eq_of_lt (by omega)
  show IntKind.u8.wrap ((BitVec.ofInt 8 (a.toNat : Int) ^^^ BitVec.ofInt 8 (b.toNat : Int)).toNat : Int) = _
  rw [BitVec.toNat_xor, h1, h2, UInt8.toNat_xor]
  simp [IntKind.wrap, IntKind.bits, IntKind.signed]
  omega
theorem xor_ne8 {a b : UInt8} (h : b ≠ 0) : a ≠ a ^^^ b := by
  intro e
  apply h
  have h1 : a ^^^ a = a ^^^ (a ^^^ b) := by rw [← e]
  rw [← UInt8.xor_assoc, UInt8.xor_self, UInt8.zero_xor] at h1
  exact h1.symm
end Go.Proofs.Ytibihiejpieadaa
