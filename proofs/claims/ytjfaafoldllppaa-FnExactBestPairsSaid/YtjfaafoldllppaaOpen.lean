
/- An argument that can be read as data, opened: it reads as a datum in my words. -/
import Derived.Test.YtjfaafoldllppaaLaw
import Derived.Deep.Slices
import Derived.Deep.Fields
import Derived.OpenShut
namespace Go.Proofs.Ytjfaafoldllppaa
open Go.RowKit Go.WideShapes Go.ChangeShapes Go.ChangeAt Go.Deep

/-- Whatever the form's reader reads at type t reads by E. -/
def Opens {α : Type} (t : TypeId) (E : Cod α) : Prop :=
  ∀ {H : Type} {enc : TypeId × Value → H} {w : World} {n : Nat} {cs : List Value} {x : DataW H × List MemPlace},
    DataW.trod enc Try.prog w 0 (fun _ => true) true n t cs = some x → w.noneFrozen x.2 → ∃ y fp, E.rd w cs y fp

theorem opens_int {t : TypeId} (ht : Try.prog.underlying t = some (.int .i64)) : Opens t fInt.cod := by
  intro H enc w n cs x h _
  obtain ⟨k, rfl, rfl, wk⟩ := DataW.trod_int ht h
  refine ⟨k, [], rfl, ?_, rfl⟩
  exact bounds_i64 wk
theorem opens_str {t : TypeId} (ht : Try.prog.underlying t = some .string) : Opens t fStr.cod := by
  intro H enc w n cs x h _
  obtain ⟨s, rfl, rfl, hs⟩ := DataW.trod_string ht h
  exact ⟨s, [], rfl, by unfold maxLen at hs; exact hs, rfl⟩
theorem opens_bool {t : TypeId} (ht : Try.prog.underlying t = some .bool) : Opens t fBool.cod := by
  intro H enc w n cs x h _
  obtain ⟨s, rfl, rfl⟩ := DataW.trod_bool ht h
  exact ⟨s, [], rfl, trivial, rfl⟩

theorem add_none (b off x y : Nat) : ((⟨b, off, none⟩ : Addr).add x).add y = ⟨b, off + x + y, none⟩ := by
  unfold Addr.add
  by_cases hx : x = 0 <;> by_cases hy : y = 0 <;> simp [hx, hy]

theorem opens_slice {α : Type} {E : Cod α} {t e : TypeId} (ht : Try.prog.underlying t = some (.slice e)) (hn : Try.prog.cellsOf e = E.n) (he : Opens e E) : Opens t E.slice := by
  intro H enc w n cs x h hfz
  rcases open_slice ht h with ⟨rfl, rfl⟩ | ⟨a, len, cap, m, n', D, Pl, rfl, hb, hl, hm, hmm, hx, hi⟩
  · exact ⟨[], [], _, rfl, none, 0, rfl, by simp, by simp [maxLen], .inl ⟨rfl, rfl⟩⟩
  · simp only [if_true] at hmm
    subst hmm
    rcases Nat.eq_zero_or_pos len with h0 | h0
    · subst h0
      exact ⟨[], [], _, rfl, some a, m, rfl, by simp, hm, .inl ⟨rfl, rfl⟩⟩
    · rw [hn] at hi
      have hspot : a = ⟨a.block, a.off, none⟩ := by
        obtain ⟨cs', hc, _⟩ := hi 0 (by omega)
        obtain ⟨_, hcl, hat⟩ := World.cells?_some hc
        have h1 := hat 0 E.pos
        have hps := E.pos
        rw [List.getElem?_eq_getElem (by omega)] at h1
        have h2 : w.cell? a = some cs'[0] := by simpa [Addr.add] using h1
        have := World.cell?_spot h2
        cases a; simp_all
      have hel : ∀ i : Fin len, ∃ p : α × List Nat × List Value, (∀ j, j < E.n → w.cell? ⟨a.block, a.off + i.1 * E.n + j, none⟩ = p.2.2[j]?) ∧ (∀ j, j < E.n → w.frozen? ⟨a.block, a.off + i.1 * E.n + j, none⟩ = false) ∧ E.rd w p.2.2 p.1 p.2.1 := by
        intro ⟨i, hil⟩
        obtain ⟨cs', hc, htr⟩ := hi i (by omega)
        obtain ⟨_, hcl, hat⟩ := World.cells?_some hc
        have hsub : ∀ pl ∈ Pl i, pl ∈ x.2 := by
          intro pl hpl
          rw [hx]
          exact List.mem_append_right _ (List.mem_flatMap.2 ⟨i, by simp; omega, hpl⟩)
        obtain ⟨y, fp, hy⟩ := he htr (fun b off hmem => hfz b off (hsub _ hmem))
        refine ⟨⟨y, fp, cs'⟩, fun j hj => ?_, fun j hj => ?_, hy⟩
        · have := hat j hj
          rw [hspot, add_none] at this
          exact this
        · refine hfz _ _ ?_
          rw [hx]
          refine List.mem_append_left _ ?_
          unfold MemPlace.row
          refine List.mem_map.2 ⟨i * E.n + j, ?_, by rw [Nat.add_assoc]⟩
          rw [List.mem_range, hn]
          have : (i + 1) * E.n ≤ m * E.n := Nat.mul_le_mul_right _ (by omega)
          rw [Nat.succ_mul] at this
          omega
      obtain ⟨f, hf⟩ := Classical.axiomOfChoice hel
      have hblk : a.block < w.heap.size := by
        obtain ⟨h1, _, h3⟩ := hf ⟨0, h0⟩
        have h1 := h1 0 E.pos
        have h4 := E.len h3
        have hps := E.pos
        rw [List.getElem?_eq_getElem (by omega)] at h1
        exact block_lt_of_cell (a := ⟨a.block, _, none⟩) h1
      refine ⟨List.ofFn fun i => (f i).1, a.block :: (List.range len).flatMap fun i => if h : i < len then (f ⟨i, h⟩).2.1 else [], _, rfl, some a, m, by simp, by simpa using hl, hm,
        .inr ⟨a.block, a.off, _, by rw [← hspot], hblk, by rw [List.length_ofFn], fun i hil => ?_⟩⟩
      rw [List.length_ofFn] at hil
      obtain ⟨h1, h2, h3⟩ := hf ⟨i, hil⟩
      refine ⟨(f ⟨i, hil⟩).2.2, h1, h2, ?_⟩
      simpa [hil] using h3

/-- A struct of fields of one cell each. -/
theorem opens_fields {t : TypeId} {fs : Array Field} (ht : Try.prog.underlying t = some (.struct fs)) (hone : oneCellFields Try.prog fs = true) (hC : Try.prog.cellsOf t = fs.size)
    {H : Type} {enc : TypeId × Value → H} {w : World} {n : Nat} {cs : List Value} {x : DataW H × List MemPlace} (h : DataW.trod enc Try.prog w 0 (fun _ => true) true n t cs = some x) (hfz : w.noneFrozen x.2) :
    cs.length = fs.size ∧ ∀ (j : Nat) (f : Field), fs[j]? = some f → ∃ (v : Value) (m : Nat) (y : DataW H × List MemPlace), cs[j]? = some v ∧ DataW.trod enc Try.prog w 0 (fun _ => true) true m f.type [v] = some y ∧ w.noneFrozen y.2 := by
  obtain ⟨xs, n', rfl, hx, hl, hxl, hf⟩ := DataW.trod_struct ht h
  refine ⟨hl.trans hC, fun j f hj => ?_⟩
  have hjl : j < fs.size := (Array.getElem?_eq_some_iff.1 hj).1
  obtain ⟨ho, hk⟩ := hone_of hone j f hj
  have h1 := hf j f hj
  rw [ho, hk] at h1
  have hcl : j < cs.length := by rw [hl, hC]; exact hjl
  have e1 : (cs.drop j).take 1 = [cs[j]] := by
    rw [List.drop_eq_getElem_cons hcl]; rfl
  rw [e1, List.getElem?_eq_getElem (by omega)] at h1
  refine ⟨cs[j], n', xs[j], List.getElem?_eq_getElem hcl, h1, fun b off hm => hfz b off ?_⟩
  rw [hx]
  exact List.mem_flatMap.2 ⟨xs[j], List.getElem_mem _, hm⟩

/-- An argument that came in: its value reads. -/
theorem Opens.arg {α : Type} {t : TypeId} {E : Cod α} (ho : Opens t E) {H : Type} {enc : TypeId × Value → H} {w : World} {v : Value} {d : DataW H} {ps : List MemPlace}
    (h : DataW.Trod enc Try.prog w 0 (fun _ => true) true t v d ps) (hfz : w.noneFrozen ps) : ∃ y fp, E.rd w v.cells.toList y fp := by
  obtain ⟨n, hn⟩ := h
  exact ho hn hfz
theorem Opens.sl {α : Type} {t : TypeId} {E : Cod α} (ho : Opens t E.slice) {H : Type} {enc : TypeId × Value → H} {w : World} {v : Value} {d : DataW H} {ps : List MemPlace}
    (h : DataW.Trod enc Try.prog w 0 (fun _ => true) true t v d ps) (hfz : w.noneFrozen ps) {A : Option Addr} {len cap : Nat} (hv : v = .slice A len cap) : ∃ y fp, Sl E w v y fp := by
  obtain ⟨y, fp, u, hu, hs⟩ := ho.arg h hfz
  subst hv
  simp [Value.cells] at hu
  subst hu
  exact ⟨y, fp, hs⟩

end Go.Proofs.Ytjfaafoldllppaa
