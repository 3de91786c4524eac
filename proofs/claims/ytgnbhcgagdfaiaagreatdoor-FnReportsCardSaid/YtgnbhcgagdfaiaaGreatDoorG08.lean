/- Parts of the proof: Jt, Iter, Cm, Rt, Rr, Kr, Ow, Ds, Ro, Tk, Rgd. -/
import Derived.Test.YtgnbhcgagdfaiaaGreatDoorG07
import Derived.Test.YtgnbhcgagdfaiaaGreatDoorG04
import Derived.Shelf.SlGeneric
import Derived.Shelf.SlIter.Nil
import Derived.Shelf.SlIter.Sorted
import Derived.Ground.GgzProg
import Derived.Test.YtgnbhcgagdfaiaaGreatDoorProg
import Derived.Maps.OwnOps
import Derived.Maps.OwnSet
import Derived.StringKeys
import Derived.Test.YtgnbhcgagdfaiaaGreatDoorG03
import Derived.Test.YtgnbhcgagdfaiaaGreatDoorG01
import Derived.Test.YtgnbhcgagdfaiaaGreatDoorG02
namespace Go.Proofs.YtgnbhcgagdfaiaaGreatDoor
open Go.RowKit
set_option linter.unusedVariables false

noncomputable def grL (xs : List DRegion) : List (List Nat) := groupsL xs.length (adjR xs) xs.length
/-- The group of a region: the first one that holds it. -/
def grpF (L : List (List Nat)) (i : Nat) : Nat := L.findIdx (fun g => memN i g)
theorem groups_unique {n : Nat} {adj : Nat → Nat → Bool} (hg : Graph adj n) {k a b i : Nat} (ha : a < (groupsL n adj k).length) (hb : b < (groupsL n adj k).length) (h1 : i ∈ (groupsL n adj k)[a]) (h2 : i ∈ (groupsL n adj k)[b]) : a = b := by
  have key : ∀ a b (ha : a < (groupsL n adj k).length) (hb : b < (groupsL n adj k).length), a < b → i ∈ (groupsL n adj k)[a] → i ∈ (groupsL n adj k)[b] → False := by
    intro a b ha hb hab h1 h2
    have hp : ((List.range k).filter (fun i => !seenB adj i i)).Pairwise (· < ·) := (List.pairwise_lt_range).filter _
    have hla : a < ((List.range k).filter (fun i => !seenB adj i i)).length := by unfold groupsL at ha; rw [List.length_map] at ha; exact ha
    have hlb : b < ((List.range k).filter (fun i => !seenB adj i i)).length := by unfold groupsL at hb; rw [List.length_map] at hb; exact hb
    have hlt := List.pairwise_iff_getElem.1 hp a b hla hlb hab
    have e1 : (groupsL n adj k)[a] = compL n adj ((List.range k).filter (fun i => !seenB adj i i))[a] := List.getElem_map _
    have e2 : (groupsL n adj k)[b] = compL n adj ((List.range k).filter (fun i => !seenB adj i i))[b] := List.getElem_map _
    rw [e1] at h1
    rw [e2] at h2
    have r1 := (compL_mem.1 h1).2
    have r2 := (compL_mem.1 h2).2
    have hm := List.getElem_mem hlb
    rw [List.mem_filter] at hm
    have hs : seenB adj ((List.range k).filter (fun i => !seenB adj i i))[b] ((List.range k).filter (fun i => !seenB adj i i))[b] = true := seenB_true.2 ⟨_, hlt, r1.trans (r2.symm hg)⟩
    rw [hs] at hm
    exact absurd hm.2 (by decide)
  rcases Nat.lt_trichotomy a b with h | h | h
  · exact (key a b ha hb h h1 h2).elim
  · exact h
  · exact (key b a hb ha h h2 h1).elim
theorem groups_cover {n : Nat} {adj : Nat → Nat → Bool} : ∀ (m i : Nat), i ≤ m → i < n → ∃ r, r < n ∧ seenB adj r r = false ∧ Rch adj r i := by
  intro m
  induction m with
  | zero =>
    intro i hi hn
    refine ⟨i, hn, ?_, Rch.refl _ _⟩
    cases h : seenB adj i i
    · rfl
    · obtain ⟨j, hj, _⟩ := seenB_true.1 h; omega
  | succ m ih =>
    intro i hi hn
    cases h : seenB adj i i
    · exact ⟨i, hn, h, Rch.refl _ _⟩
    · obtain ⟨j, hj, hr⟩ := seenB_true.1 h
      obtain ⟨r, h1, h2, h3⟩ := ih j (by omega) (by omega)
      exact ⟨r, h1, h2, h3.trans hr⟩
theorem groups_has {n : Nat} {adj : Nat → Nat → Bool} {i : Nat} (hi : i < n) : ∃ a, ∃ ha : a < (groupsL n adj n).length, i ∈ (groupsL n adj n)[a] := by
  obtain ⟨r, h1, h2, h3⟩ := groups_cover (adj := adj) i i (Nat.le_refl _) hi
  have hm : compL n adj r ∈ groupsL n adj n := List.mem_map.2 ⟨r, List.mem_filter.2 ⟨List.mem_range.2 h1, by rw [h2]; rfl⟩, rfl⟩
  obtain ⟨a, ha, e⟩ := List.getElem_of_mem hm
  exact ⟨a, ha, by rw [e]; exact compL_mem.2 ⟨hi, h3⟩⟩
theorem grpF_lt {xs : List DRegion} {i : Nat} (hi : i < xs.length) : grpF (grL xs) i < (grL xs).length := by
  obtain ⟨a, ha, h⟩ := groups_has (adj := adjR xs) hi
  exact List.findIdx_lt_length_of_exists ⟨_, List.getElem_mem ha, memN_true.2 h⟩
theorem grpF_has {xs : List DRegion} {i : Nat} (hi : i < xs.length) : i ∈ (grL xs)[grpF (grL xs) i]'(grpF_lt hi) := memN_true.1 (List.findIdx_getElem (p := fun g => memN i g) (w := grpF_lt hi))
theorem grpF_is {xs : List DRegion} (hv : regionsB xs = true) {i a : Nat} (ha : a < (grL xs).length) (h : i ∈ (grL xs)[a]) (hi : i < xs.length) : grpF (grL xs) i = a :=
  groups_unique (adjR_graph hv) (grpF_lt hi) ha (grpF_has hi) h
theorem grpF_not {xs : List DRegion} {i a : Nat} (ha : a < (grL xs).length) (h : a < grpF (grL xs) i) : memN i (grL xs)[a] = false := by
  have := List.not_of_lt_findIdx (p := fun g => memN i g) (xs := grL xs) h
  simpa using this
theorem grL_len {xs : List DRegion} : (grL xs).length ≤ xs.length := groupsL_len
theorem grL_lt {xs : List DRegion} {a : Nat} (ha : a < (grL xs).length) : ∀ x ∈ (grL xs)[a], x < xs.length := fun x hx => by
  have hm := List.getElem_mem ha
  unfold grL groupsL at hm
  obtain ⟨r, _, e⟩ := List.mem_map.1 hm
  have e2 : (grL xs)[a] = compL xs.length (adjR xs) r := e.symm
  rw [e2] at hx
  exact (compL_mem.1 hx).1
def hdR : List ByteArray := [⟨#[114, 101, 103, 105, 111, 110]⟩, ⟨#[108, 101, 118, 101, 108]⟩, ⟨#[103, 114, 111, 117, 112]⟩]
noncomputable def rowR (xs : List DRegion) (i : Nat) : List ByteArray := [(xs.getD i rg0).id, decS (xs.getD i rg0).level, decS ((grpF (grL xs) i : Nat) : Int)]
noncomputable def rowsR (xs : List DRegion) (k : Nat) : List (List ByteArray) := hdR :: (List.range k).map (rowR xs)
noncomputable def rgnF (xs : List DRegion) : List ByteArray := if regionsB xs then doneF (tabF (rowsR xs xs.length)) else []
noncomputable def rgnC (xs : List DRegion) : Int := if regionsB xs then doneC (tabF (rowsR xs xs.length)) else 1
theorem rowsR_zero (xs : List DRegion) : rowsR xs 0 = [hdR] := rfl
theorem rowsR_step {xs : List DRegion} (k : Nat) : rowsR xs (k + 1) = rowsR xs k ++ [rowR xs k] := by
  unfold rowsR
  rw [List.range_succ, List.map_append]; rfl
theorem rowsR_len (xs : List DRegion) (k : Nat) : (rowsR xs k).length = k + 1 := by unfold rowsR; rw [List.length_cons, List.length_map, List.length_range]
structure RowP (xs : List DRegion) (i : Nat) : Prop where
  name : nameB (xs.getD i rg0).id = true
  lv : 1 ≤ (xs.getD i rg0).level ∧ (xs.getD i rg0).level ≤ 5
  gr : grpF (grL xs) i ≤ 8
theorem rowP_of {xs : List DRegion} (hv : regionsB xs = true) {i : Nat} (hi : i < xs.length) : RowP xs i := by
  have h1 := regs_len hv
  have h2 := grpF_lt hi
  have h3 := grL_len (xs := xs)
  exact ⟨by rw [getD_of_lt hi]; exact regs_name hv hi, by rw [getD_of_lt hi]; exact regs_level hv hi, by omega⟩
theorem rowR_ok {xs : List DRegion} {i : Nat} (p : RowP xs i) : rowOk (rowR xs i) = true := by
  have := p.gr
  have := p.lv
  unfold rowOk rowR
  simp only [List.all_cons, List.all_nil, name_cellOk p.name, dec_cellOk (n := (xs.getD i rg0).level) (by omega) (by omega), dec_cellOk (n := ((grpF (grL xs) i : Nat) : Int)) (by omega) (by omega)]
  rfl
theorem hdR_ok : rowOk hdR = true := by decide
theorem rowsR_ok {xs : List DRegion} (hv : regionsB xs = true) : rowsOk (rowsR xs xs.length) = true := by
  unfold rowsOk rowsR
  rw [List.all_cons, hdR_ok, Bool.true_and]
  refine List.all_eq_true.2 fun r hr => ?_
  obtain ⟨i, hi, rfl⟩ := List.mem_map.1 hr
  exact rowR_ok (rowP_of hv (List.mem_range.1 hi))
theorem dec_small {n : Int} (a : 0 ≤ n) (b : n ≤ 20) : (decS n).size ≤ 30 := by rw [decS_size]; have := itoa_len20 (n := n) (by omega) (by omega); omega
theorem rowR_size {xs : List DRegion} {i : Nat} (p : RowP xs i) : ∀ c ∈ rowR xs i, c.size ≤ 30 := by
  have h1 := nameB_sizeP p.name
  have := p.gr
  have := p.lv
  have h2 := dec_small (n := (xs.getD i rg0).level) (by omega) (by omega)
  have h3 := dec_small (n := ((grpF (grL xs) i : Nat) : Int)) (by omega) (by omega)
  intro c hc
  unfold rowR at hc
  simp only [List.mem_cons, List.not_mem_nil, or_false] at hc
  rcases hc with rfl | rfl | rfl <;> omega
theorem rowsR_size {xs : List DRegion} (hv : regionsB xs = true) : ∀ r ∈ rowsR xs xs.length, ∀ c ∈ r, c.size ≤ 1048576 := by
  intro r hr
  unfold rowsR at hr
  rcases List.mem_cons.1 hr with rfl | hr
  · decide
  · obtain ⟨i, hi, rfl⟩ := List.mem_map.1 hr
    intro c hc
    have := rowR_size (rowP_of hv (List.mem_range.1 hi)) c hc
    omega
theorem rowR_oks {xs : List DRegion} {i : Nat} (p : RowP xs i) : ∀ c ∈ rowR xs i, fStr.ok c := fun c hc => by have := rowR_size p c hc; show _ ≤ _; omega
theorem hdR_oks : ∀ c ∈ hdR, fStr.ok c := by
  intro c hc
  have : c.size ≤ 10 := by revert c; decide
  show _ ≤ _; omega
theorem lensR_leJ : ∀ xs : List DRegion, xs.length + (lensR xs).sum ≤ totRegionS xs := by
  intro xs
  unfold totRegionS lensR
  induction xs with
  | nil => simp
  | cons r xs ih =>
    have h : r.near.length ≤ totRegion r := by unfold totRegion totStringS; omega
    simp only [List.map_cons, List.sum_cons, List.length_cons]
    omega
theorem rgnF_len {xs : List DRegion} (h : xs.length ≤ 1048576) : (rgnF xs).length ≤ 100000000000 := by
  unfold rgnF doneF tabF rowsR
  (repeat' split) <;> simp <;> omega

end Go.Proofs.YtgnbhcgagdfaiaaGreatDoor

namespace Go.Proofs
open Go.Shelf
def Tryz.keysLay_ren : Go.Shelf.Ren := ⟨fun | 7 => 53 | 10 => 95 | n => n, fun | 23 => 81 | 26 => 9 | 3 => 2 | 28 => 79 | 0 => 0 | 27 => 78 | 33 => 94 | 4 => 4 | n => n, fun | n => n⟩
theorem Tryz.keysLay : Go.Proofs.SlLaysZ.n7 Tryz.prog Tryz.keysLay_ren := {
  mixed := by kernel_rfl
  f7 := ⟨Tryz.f53.name, by decide, Tryz.func53.trans (congrArg some (by kernel_rfl))⟩
  f10 := ⟨Tryz.f95.name, by decide, Tryz.func95.trans (congrArg some (by kernel_rfl))⟩
  t0 := Tryz.underlying0
  a0 := Tryz.isAgg0
  z0 := Tryz.sizeOf0
  v0 := Tryz.zeroValue0
  t4 := Tryz.underlying4
  a4 := Tryz.isAgg4
  z4 := Tryz.sizeOf4
  v4 := Tryz.zeroValue4
  t23 := Tryz.underlying81
  a23 := Tryz.isAgg81
  z23 := Tryz.sizeOf81
  v23 := Tryz.zeroValue81
  t26 := Tryz.underlying9
  a26 := Tryz.isAgg9
  z26 := Tryz.sizeOf9
  v26 := Tryz.zeroValue9
  t27 := Tryz.underlying78
  a27 := Tryz.isAgg78
  z27 := Tryz.sizeOf78
  v27 := Tryz.zeroValue78
  t28 := Tryz.underlying79
  a28 := Tryz.isAgg79
  z28 := Tryz.sizeOf79
  v28 := Tryz.zeroValue79
  t33 := Tryz.underlying94
  a33 := Tryz.isAgg94
  z33 := Tryz.sizeOf94
  v33 := Tryz.zeroValue94 }
def Tryz.sortedLay_ren : Go.Shelf.Ren := ⟨fun | 6 => 51 | 8 => 92 | 9 => 93 | 11 => 127 | 13 => 107 | 12 => 128 | 23 => 147 | 24 => 148 | 14 => 158 | 15 => 159 | 16 => 160 | 17 => 161 | 18 => 162 | 19 => 163 | 20 => 164 | 21 => 165 | 22 => 166 | 25 => 183 | 26 => 176 | 27 => 177 | 28 => 184 | 29 => 185 | 30 => 157 | 31 => 196 | n => n, fun | 26 => 9 | 28 => 79 | 24 => 24 | 0 => 0 | 3 => 3 | 37 => 131 | 48 => 173 | 50 => 106 | 4 => 4 | 40 => 165 | 39 => 164 | 45 => 170 | 5 => 5 | 9 => 9 | 51 => 194 | 55 => 198 | 57 => 204 | 58 => 205 | 33 => 94 | n => n, fun | n => n⟩
theorem Tryz.sortedLay : Go.Proofs.SlLaysZ.n6 Tryz.prog Tryz.sortedLay_ren := {
  mixed := by kernel_rfl
  f6 := ⟨Tryz.f51.name, by decide, Tryz.func51.trans (congrArg some (by kernel_rfl))⟩
  f8 := ⟨Tryz.f92.name, by decide, Tryz.func92.trans (congrArg some (by kernel_rfl))⟩
  f11 := ⟨Tryz.f127.name, by decide, Tryz.func127.trans (congrArg some (by kernel_rfl))⟩
  t0 := Tryz.underlying0
  a0 := Tryz.isAgg0
  z0 := Tryz.sizeOf0
  v0 := Tryz.zeroValue0
  t24 := Tryz.underlying24
  a24 := Tryz.isAgg24
  z24 := Tryz.sizeOf24
  v24 := Tryz.zeroValue24
  t26 := Tryz.underlying9
  a26 := Tryz.isAgg9
  z26 := Tryz.sizeOf9
  v26 := Tryz.zeroValue9
  t28 := Tryz.underlying79
  a28 := Tryz.isAgg79
  z28 := Tryz.sizeOf79
  v28 := Tryz.zeroValue79
  i26 := by kernel_rfl }
end Go.Proofs

namespace Go.Proofs.YtgnbhcgagdfaiaaGreatDoor
open Go.RowKit Go.Shelf Go.Sort Go.Maps
set_option linter.unusedVariables false
attribute [local go_sem] Oper.semAt_some

abbrev DU := DataW Unit
theorem insert_perm_ (x : Lit × DU) : ∀ l : List (Lit × DU), (DataW.insert x l).Perm (x :: l)
  | [] => List.Perm.refl _
  | y :: l => by
    unfold DataW.insert
    split
    · exact List.Perm.refl _
    · exact ((insert_perm_ x l).cons y).trans (List.Perm.swap x y l)
def litS (s : ByteArray) : Lit := .string s.data.toList
theorem litS_inj {a b : ByteArray} (h : litS a = litS b) : a = b := by
  unfold litS at h; injection h with h; exact data_inj h
def numW (n : Nat) : DU := .lit (.int .i64 (n : Int))
/-- The map's entries after the lines L. -/
structure CntD (es : List (Lit × DU)) (L : List ByteArray) : Prop where
  val : ∀ p ∈ es, ∃ s : ByteArray, p.1 = litS s ∧ s ∈ L ∧ p.2 = numW (cntS L s)
  has : ∀ s ∈ L, ∃ p ∈ es, p.1 = litS s
  nd : (es.map (fun p => p.1)).Nodup
theorem CntD.nil : CntD [] [] := ⟨by simp, by simp, by simp⟩
theorem CntD.at_ {es : List (Lit × DU)} {L : List ByteArray} (h : CntD es L) (s : ByteArray) : (DataW.map es : DU).atKey (litS s) (.lit (.int .i64 0)) = numW (cntS L s) := by
  simp only [DataW.atKey]
  cases hf : es.find? (fun p => p.1.sameKey (litS s)) with
  | some p =>
    have hp := List.mem_of_find?_eq_some hf
    have hk := List.find?_some hf
    obtain ⟨s', e1, _, e2⟩ := h.val p hp
    rw [e1] at hk
    have : s' = s := by
      simp only [litS, Lit.sameKey, beq_iff_eq] at hk
      exact data_inj hk
    subst this
    exact e2
  | none =>
    rw [List.find?_eq_none] at hf
    have hn : s ∉ L := fun hm => by
      obtain ⟨p, hp, e⟩ := h.has s hm
      have := hf p hp
      rw [e] at this
      simp [litS, Lit.sameKey] at this
    rw [cntS_zero hn]; rfl
theorem CntD.put {es : List (Lit × DU)} {L : List ByteArray} (h : CntD es L) (s : ByteArray) : ∃ es', (DataW.map es : DU).put (litS s) (numW (cntS L s + 1)) = .map es' ∧ CntD es' (L ++ [s]) := by
  refine ⟨_, DataW.put_eq es _ _, ?_⟩
  have hp := insert_perm_ (litS s, numW (cntS L s + 1)) (es.filter (Go.ChangeMaps.notKey (litS s)))
  have hnk : ∀ p ∈ es, Go.ChangeMaps.notKey (litS s) p = true ↔ p.1 ≠ litS s := fun p hp => by
    obtain ⟨s', e1, _, _⟩ := h.val p hp
    exact Go.ChangeMaps.notKey_iff ⟨_, rfl⟩ ⟨_, e1⟩
  have hmem : ∀ p, p ∈ Go.ChangeMaps.putKey (litS s) (numW (cntS L s + 1)) es ↔ p = (litS s, numW (cntS L s + 1)) ∨ (p ∈ es ∧ p.1 ≠ litS s) := fun p => by
    refine (hp.mem_iff).trans ?_
    rw [List.mem_cons, List.mem_filter]
    exact or_congr Iff.rfl ⟨fun ⟨a, b⟩ => ⟨a, (hnk p a).1 b⟩, fun ⟨a, b⟩ => ⟨a, (hnk p a).2 b⟩⟩
  refine ⟨fun p hp' => ?_, fun t ht => ?_, ?_⟩
  · rcases (hmem p).1 hp' with rfl | ⟨h1, h2⟩
    · exact ⟨s, rfl, by simp, by rw [cntS_snoc, if_pos rfl]⟩
    · obtain ⟨s', e1, e2, e3⟩ := h.val p h1
      refine ⟨s', e1, by simp [e2], ?_⟩
      rw [cntS_snoc, if_neg (fun e => h2 (by rw [e1, e]))]
      exact e3
  · rcases List.mem_append.1 ht with ht | ht
    · by_cases e : t = s
      · exact ⟨_, (hmem _).2 (.inl rfl), by rw [e]⟩
      · obtain ⟨p, h1, h2⟩ := h.has t ht
        exact ⟨p, (hmem p).2 (.inr ⟨h1, fun e' => e (litS_inj (h2.symm.trans e'))⟩), h2⟩
    · rw [List.mem_singleton] at ht
      subst ht
      exact ⟨_, (hmem _).2 (.inl rfl), rfl⟩
  · have h2 := (hp.map (fun p => p.1)).nodup_iff.2 (by
      rw [List.map_cons, List.nodup_cons]
      refine ⟨fun hm => ?_, (List.filter_sublist.map _).nodup h.nd⟩
      obtain ⟨p, h3, h4⟩ := List.mem_map.1 hm
      rw [List.mem_filter] at h3
      exact (hnk p h3.1).1 h3.2 h4)
    exact h2
/-- The keys, in order, are the different lines. -/
theorem CntD.keys {es : List (Lit × DU)} {L : List ByteArray} (h : CntD es L) {ss : List (List UInt8)} (hp : ss.Perm (strKeys (DataW.map es : DU))) :
    (ss.mergeSort (fun x y => decide (x ≤ y))).map encStr = (cdF L).flatMap fStr.enc ∧ ss.length = (cdF L).length := by
  obtain ⟨M, hM⟩ : ∃ M : List ByteArray, M = ss.map (fun l => (⟨l.toArray⟩ : ByteArray)) := ⟨_, rfl⟩
  have e1 : ss = M.map (fun x : ByteArray => x.data.toList) := by rw [hM, List.map_map]; simp [Function.comp_def]
  have hmem : ∀ s, s ∈ M ↔ s ∈ L := fun s => by
    rw [hM, List.mem_map]
    constructor
    · rintro ⟨l, hl, rfl⟩
      have := (hp.mem_iff).1 hl
      obtain ⟨p, h1, rfl⟩ := List.mem_map.1 this
      obtain ⟨s', e1, e2, _⟩ := h.val p h1
      rw [e1]
      have : (⟨(strOf (litS s')).toArray⟩ : ByteArray) = s' := by simp [strOf, litS]
      rw [this]; exact e2
    · intro hs
      obtain ⟨p, h1, h2⟩ := h.has s hs
      refine ⟨s.data.toList, (hp.mem_iff).2 (List.mem_map.2 ⟨p, h1, by rw [h2]; rfl⟩), by simp⟩
  have hnd : M.Nodup := by
    have h1 : (strKeys (DataW.map es : DU)).Nodup := by
      show (es.map fun p => strOf p.1).Nodup
      have h2 := h.nd
      rw [List.nodup_iff_pairwise_ne] at *
      rw [List.pairwise_map] at *
      refine List.Pairwise.imp_of_mem ?_ h2
      intro a b ha hb hab e
      obtain ⟨s1, e1, _, _⟩ := h.val a ha
      obtain ⟨s2, e2, _, _⟩ := h.val b hb
      rw [e1, e2] at hab e
      have e' : s1.data.toList = s2.data.toList := e
      exact hab (by unfold litS; rw [e'])
    have h2 := (hp.nodup_iff).2 h1
    rw [e1] at h2
    rw [List.nodup_iff_pairwise_ne] at *
    rw [List.pairwise_map] at h2
    exact h2.imp (fun h e => h (by rw [e]))
  have e2 : srtF M = cdF L := cdF_of (ssrt_of (srtF_srt M) ((srtF_perm M).nodup_iff.2 hnd)) (fun s => ((srtF_perm M).mem_iff).trans (hmem s))
  refine ⟨?_, ?_⟩
  · rw [e1, ← srtF_map, ← encStr_map, e2]
  · rw [← e2, srtF_len, e1, List.length_map]
theorem own_monoE {α : Type} {E : Flat α} {w : World} {base base' : Nat} {e : TypeId} {v : Value} {L : List α} (h : Own E w base e v L) (hb : base' ≤ base) : Own E w base' e v L := by
  obtain ⟨h1, h2⟩ := h
  refine ⟨h1, ?_⟩
  rcases h2 with h2 | ⟨g, cap, cur, hv, hg, r⟩
  · exact .inl h2
  · exact .inr ⟨g, cap, cur, hv, by omega, r⟩
theorem ownsMap_below {P : Program} {k : TypeId} {R : Value → Option (DU × List MemPlace)} {w w' : World} {b n B : Nat} {D : DU} (h : w.ownsMap P k R b n D) (hb : Below B w w') (hB : b < B) : w'.ownsMap P k R b n D := by
  obtain ⟨es, clock, h1, r⟩ := h
  exact ⟨es, clock, (hb.block b hB).trans h1, r⟩
theorem sortsIn_any (m : Nat) : AnyZ.SortsIn Tryz.prog Tryz.sortedLay_ren Fence.wide m :=
  ⟨fun blk off cap ss W hH hblk hsz => callsIn_wide.2 (Tryz.slices_Sort_string blk off cap ss W hH hblk hsz), fun p cap W => callsIn_wide.2 (Tryz.slices_Sort_string_none p cap W)⟩
theorem keysM_any (b : Nat) (w : World) : Calls Tryz.prog 53 #[.map (some b)] w fun e w' => e = .returned (.func (.func 95) #[] #[.pointer (some ⟨w.heap.size, 0, none⟩)]) ∧ w' = w.alloc (.cells #[.map (some b)] 81) :=
  (callsIn_wide (n := 5)).1 (AnyZ.keys_in Tryz.keysLay Fence.wide 5 trivial rfl (some b) w)
set_option maxHeartbeats 1000000 in
theorem sortedKeys_any (b nn : Nat) (es : List (Lit × DU)) (L : List ByteArray) (R : Value → Option (DU × List MemPlace)) (w : World) (hown : w.ownsMap Tryz.prog 9 R b nn (.map es)) (hn : nn ≤ 1000000) (hc : CntD es L) :
    Calls Tryz.prog 51 #[.func (.func 95) #[] #[.pointer (some ⟨w.heap.size, 0, none⟩)]] (w.alloc (.cells #[.map (some b)] 81)) fun e w' => OwnRS fStr 9 (w.alloc (.cells #[.map (some b)] 81)) (cdF L) e w' := by
  have hbl := hown.lt
  have hsize := hown.size_le
  have hseq : SeqGives Fence.wide 2 Tryz.prog 95 #[.pointer (some ⟨w.heap.size, 0, none⟩)] encStr (fun ss => ss.Perm (strKeys (DataW.map es : DU))) (Maps.size (DataW.map es : DU)) (w.alloc (.cells #[.map (some b)] 81)) :=
    AnyZ.keys_gives (ρ := Tryz.keysLay_ren) { Tryz.keysLay with } Fence.wide _ trivial rfl (by omega) w.heap.size b nn _ _ (by simp) (by simp) (by
      obtain ⟨es', clock, hb, Ft, hs, hD⟩ := hown
      exact ⟨es', clock, (Below.heap_alloc _ _ b hbl).trans hb, Ft, hs, hD⟩)
  refine ((callsIn_wide (n := 5)).1 (AnyZ.sorted_in Tryz.sortedLay Fence.wide 5 trivial trivial trivial trivial rfl (by omega) (sortsIn_any _) (enters_of Tryz.func93 (by kernel_rfl) rfl) 95 #[.pointer (some ⟨w.heap.size, 0, none⟩)] trivial (enters_of Tryz.func95 (by kernel_rfl) rfl) _ _ (by unfold maxLen; omega) (by omega) _ hseq)).mono ?_
  rintro e w' ⟨v, ss, rfl, hS, hrow, _, hb⟩
  obtain ⟨e1, e2⟩ := hc.keys hS
  rw [e1, e2] at hrow
  exact ⟨v, rfl, hrow, hb⟩

theorem New2R.of' {w w3 w' : World} {v1 v2 : Value} {xs : List ByteArray} {ys : List Int} {b1 : Nat} {T1 T2 : TypeId} {c : Int} (h1 : Own fStr w3 b1 T1 v1 xs) (h2 : Own fInt w' w3.heap.size T2 v2 ys) (hb1 : w.heap.size ≤ b1) (hw3 : w.heap.size ≤ w3.heap.size) (hb3 : Below w3.heap.size w3 w')
    (ok1 : ∀ x ∈ xs, fStr.ok x) (ok2 : ∀ y ∈ ys, fInt.ok y) (hb : Below w.heap.size w w') : New2R w xs ys c (.returned (.tuple #[v1, v2, .int .i64 c])) w' := by
  refine New2R.of (h1.below hb3) h2 hb1 hw3 ?_ ok1 ok2 hb
  rcases h2.2 with ⟨hv, _⟩ | ⟨g2, _, _, hv, hg2, _⟩
  · subst hv; exact .inr (.inr rfl)
  · rcases h1.2 with ⟨hv1, _⟩ | ⟨g1, _, _, hv1, _, hh, _⟩
    · subst hv1; exact .inr (.inl rfl)
    · subst hv hv1
      have := (Array.getElem?_eq_some_iff.1 hh).1
      exact .inl (by simp [Value.ownBlock]; omega)
theorem mapT_under : Tryz.prog.underlying 81 = some (.map 9 2) := by kernel_rfl
theorem int64T_under : Tryz.prog.underlying 2 = some (.int .i64) := by kernel_rfl
theorem strT_under : Tryz.prog.underlying 9 = some .string := by kernel_rfl
theorem zeroI_run (w : World) : (zeroValue 2).run Tryz.prog w = .ok (.int .i64 0) w := by kernel_rfl
set_option maxRecDepth 100000 in
set_option maxHeartbeats 4000000 in
theorem implCountLines_any (v : Value) (xs : List ByteArray) (fp : List Nat) (w : World) (hx : Sl fStr.cod w v xs fp) :
    Calls Tryz.prog 22 #[v] w fun e w' => New2R w (clD xs) (clM xs) (clC xs) e w' := by
  obtain ⟨A, cap, rfl, hlen, hcap⟩ := hx.form
  obtain ⟨j0, hj, hy0, hy1, hy2⟩ := info_parts infoInt3
  have hmm := @run_makeMap Tryz.prog
  go_enter Tryz.func22, Tryz.ntmps22
  go_wp2_with fail
  refine (implValidReport_any _ xs fp _ hx).mono ?_
  rintro e w' ⟨rfl, rfl⟩
  cases h0 : linesB xs
  · have HC := Lib.hid (show clC xs = 1 by rw [clC, h0]; rfl)
    have HD := Lib.hid (show clD xs = [] by rw [clD, h0]; rfl)
    have HM := Lib.hid (show clM xs = [] by rw [clM, h0]; rfl)
    go_wp2
    go_ret3
    rw [HC.out, HD.out, HM.out]
    exact New2R.nil (Below.refl _ _)
  · have hl := linesB_len h0
    have HC := Lib.hid (show clC xs = 0 by rw [clC, h0]; rfl)
    have HD := Lib.hid (show clD xs = cdF xs by rw [clD, h0]; rfl)
    have HM := Lib.hid (show clM xs = cmF xs by rw [clM, h0]; rfl)
    go_wp2
    go_loopw [18] (fun i wr => ∃ k : Nat, k ≤ xs.length ∧ i = .int .i64 k ∧ (∃ es, wr.ownsMap Tryz.prog 9 (plainElem Tryz.prog 2) w.heap.size k (.map es) ∧ CntD es (xs.take k)) ∧ Below w.heap.size w wr) (fun i _ => xs.length - (intOf i).toNat)
    case atStart => exact ⟨0, Nat.zero_le _, rfl, ⟨[], World.ownsMap_made _ _ _ _, CntD.nil⟩, (Below.refl _ _).alloc (Nat.le_refl _) _⟩
    case round =>
      obtain ⟨k, hk, rfl, ⟨es, hown, hD⟩, hb⟩ := hrel
      by_cases hlt : k < xs.length
      · obtain ⟨b5, off5, rfl, _, hok5, hc0, _⟩ := (hx.below' hb).cell1 rfl (k := k) hlt rfl
        have hok5' : xs[k].size ≤ 9223372036854775807 := hok5
        have hkey : keyOf Tryz.prog 9 (.string xs[k]) = some (litS xs[k]) := Go.WideMaps.keyOf_string_mk strT_under (by unfold maxLen; exact hok5')
        have hcl := cntS_le (xs.take k) xs[k]
        rw [List.length_take] at hcl
        go_wp2_with (at_lookup; refine wpList_lookup_own_int _ rfl _ _ 81 rfl 9 2 .i64 (Maps.string_keyed strT_under) mapT_under int64T_under (zeroI_run _) w.heap.size k _ rfl hown _ _ rfl hkey ?_)
        intro c hat hwc
        have hc : c = (cntS (xs.take k) xs[k] : Int) := by
          have h := hD.at_ xs[k]
          rw [h] at hat
          unfold numW at hat
          injection hat with hat
          injection hat with _ hat
          exact hat.symm
        obtain ⟨es', hput, hD'⟩ := hD.put xs[k]
        obtain ⟨cn, hcn⟩ : ∃ cn, cn = cntS (xs.take k) xs[k] := ⟨_, rfl⟩
        rw [← hcn] at hc hput hcl
        subst hc
        have hcl2 : (cn : Int) ≤ 200 := by omega
        have hT := List.take_succ_eq_append_getElem hlt
        rw [← hT] at hD'
        have HP := Lib.hid hput
        clear hat hwc hput hT hcn hD hcl
        have hval : plainElem (H := Unit) Tryz.prog 2 (.int .i64 ((cn : Int) + 1)) = some (numW (cn + 1), []) := plainElem_int int64T_under (a := (cn : Int) + 1) (WalkArith.wf_i64 (by omega))
        have HV := Lib.hid hval
        clear hval
        go_wp2_with (at_mapUpdate; refine wpList_mapUpdate_own _ rfl _ _ _ 81 rfl 9 2 (Maps.string_keyed strT_under) mapT_under _ w.heap.size k _ rfl hown (by unfold maxLen; omega) _ _ _ rfl rfl hkey _ [] HV.out ?_)
        intro w1 hown1 hgrow1
        have hb1 : Below w.heap.size w w1 := hb.grown hgrow1 hb.size (fun j hj => by cases hj; exact Nat.le_refl _)
        rw [HP.out] at hown1
        go_wp2
        go_roundw
        case rel => exact ⟨k + 1, by omega, by go_num, ⟨es', hown1, hD'⟩, hb1⟩
        case measure => simp [intOf]; omega
      · have e1 : xs.take k = xs := List.take_of_length_le (by omega)
        rw [e1] at hD
        have hkl : k ≤ 200 := by omega
        clear e1
        go_wp2_with fail
        refine (keysM_any _ _).mono ?_
        rintro e w' ⟨rfl, rfl⟩
        go_wp2_with fail
        refine (sortedKeys_any w.heap.size k es xs _ _ hown (by omega) hD).mono ?_
        rintro e w3 ⟨v3, rfl, hown3, hb3⟩
        have hbk : Below wr.heap.size wr (wr.alloc (.cells #[.map (some w.heap.size)] 81)) := (Below.refl _ _).alloc (Nat.le_refl _) _
        have hB3 : Below wr.heap.size wr w3 := hbk.trans (hb3.mono hbk.size)
        have hown4 := ownsMap_below hown hB3 hown.lt
        have hwr := hown.lt
        have hB4 : Below w.heap.size w w3 := hb.trans (hB3.mono hb.size)
        have hs4 := hB3.size
        have hcdl := cdF_len xs
        have hcok : ∀ x ∈ cdF xs, fStr.ok x := fun x hm => hx.oks x ((cdF_mem xs x).1 hm)
        have hown3' : Own fStr w3 w.heap.size 9 v3 (cdF xs) := own_monoE hown3 (by have := hbk.size; have := hb.size; omega)
        obtain ⟨fpd, hsd, _, _⟩ := hown3'.fp hcok
        obtain ⟨A3, cap3, rfl, hle3, hca3⟩ := hsd.form
        obtain ⟨nd, hnd⟩ : ∃ nd, (cdF xs).length = nd := ⟨_, rfl⟩
        have Hnd := Lib.hid hnd
        rw [hnd] at hsd hcdl hle3 hown3' ⊢
        clear hnd hown3 hown
        go_wp2
        go_loopw [9, 32] (fun a i w5 => ∃ m : Nat, m ≤ nd ∧ i = .int .i64 m ∧ Own fInt w5 w3.heap.size 2 a (((cdF xs).take m).map (fun s => (cntS xs s : Int))) ∧ Below w3.heap.size w3 w5) (fun _ i _ => nd - (intOf i).toNat)
        case atStart => exact ⟨0, Nat.zero_le _, rfl, Own.nil fInt _ _ _, Below.refl _ _⟩
        case round =>
          obtain ⟨m, hm, rfl, ho, hbw⟩ := hrel
          by_cases hlt2 : m < nd
          · have hmlt : m < (cdF xs).length := by have := Hnd.out; omega
            obtain ⟨b5, off5, rfl, _, hok5, hc0, _⟩ := (hsd.below' hbw).cell1 rfl (k := m) hmlt rfl
            have hok5' : (cdF xs)[m].size ≤ 9223372036854775807 := hok5
            have hkey : keyOf Tryz.prog 9 (.string (cdF xs)[m]) = some (litS (cdF xs)[m]) := Go.WideMaps.keyOf_string_mk strT_under (by unfold maxLen; exact hok5')
            have hownW := ownsMap_below hown4 hbw (by omega)
            have hat0 := hD.at_ (cdF xs)[m]
            have hcl := cntS_le xs (cdF xs)[m]
            have HT := Lib.hid (show ((cdF xs).take (m + 1)).map (fun s => (cntS xs s : Int)) = ((cdF xs).take m).map (fun s => (cntS xs s : Int)) ++ [(cntS xs (cdF xs)[m] : Int)] by rw [List.take_succ_eq_append_getElem hmlt, List.map_append]; rfl)
            have hlt3 : (((cdF xs).take m).map (fun s => (cntS xs s : Int))).length = m := by rw [List.length_map, List.length_take]; omega
            obtain ⟨cn, hcn⟩ : ∃ cn, cn = cntS xs (cdF xs)[m] := ⟨_, rfl⟩
            rw [← hcn] at hat0 hcl HT
            obtain ⟨X, hX⟩ : ∃ X, X = ((cdF xs).take m).map (fun s => (cntS xs s : Int)) := ⟨_, rfl⟩
            rw [← hX] at ho HT hlt3
            have hs5 := hbw.size
            clear hcn hX
            have Hat0 := Lib.hid hat0
            have Hl3 := Lib.hid hlt3
            clear hat0 hlt3
            have hoW : wr.ownsRow w3.heap.size 2 1 u9 X.length (X.flatMap fInt.enc) := ho
            have hXl : X.length ≤ 1000000 := by have := Hl3.out; omega
            clear ho
            go_wp2_with (at_lookup; refine wpList_lookup_own_int _ rfl _ _ 81 rfl 9 2 .i64 (Maps.string_keyed strT_under) mapT_under int64T_under (zeroI_run _) w.heap.size k _ rfl hownW _ _ rfl hkey ?_)
            intro c hat hwc
            have hc : c = (cn : Int) := by
              rw [Hat0.out] at hat
              unfold numW at hat
              injection hat with hat
              injection hat with _ hat
              exact hat.symm
            subst hc
            clear hat hwc
            go_wp2_with (at_builtin; refine wpList_append_one rfl _ _ 46 rfl w3.heap.size 2 j0 (.int .i64 0) 1 8 Tryz.underlying46 hj hy0 hy1 hy2 rfl (by decide) u9 X.length _ rfl hoW [.int .i64 cn] rfl (by intro u hu; rw [List.mem_singleton] at hu; subst hu; rfl) rfl (by omega) (by decide) hs5 ?_)
            intro v' w6 hown6 hb6 _ _
            have hb7 := hbw.trans hb6
            have ho7 : Own fInt w6 w3.heap.size 2 v' (((cdF xs).take (m + 1)).map (fun s => (cntS xs s : Int))) := by rw [HT.out]; exact Own.push (cn : Int) rfl hown6
            clear hown6
            go_wp2
            go_roundw
            case rel => exact ⟨m + 1, by omega, by go_num, ho7, hb7⟩
            case measure => simp [intOf]; omega
          · have hnd := Hnd.out
            rw [List.take_of_length_le (by omega)] at ho
            have hfin := New2R.of' (w := w) (c := 0) hown3' ho (Nat.le_refl _) hB4.size hbw hcok (clM_ok (by omega)) (hB4.trans (hbw.mono hB4.size))
            clear ho hnd
            go_wp2
            go_ret3
            rw [HC.out, HD.out, HM.out]
            exact hfin

end Go.Proofs.YtgnbhcgagdfaiaaGreatDoor

namespace Go.Proofs.YtgnbhcgagdfaiaaGreatDoor
open Go.RowKit

def rT (xs : List ByteArray) : List UInt8 := xs.flatMap fun s => s.data.toList ++ [10]
theorem rT_step {xs : List ByteArray} {k : Nat} (h : k < xs.length) : rT (xs.take (k + 1)) = rT (xs.take k) ++ (xs[k].data.toList ++ [10]) := by
  unfold rT; rw [List.take_succ_eq_append_getElem h, List.flatMap_append]; simp
theorem rT_len (xs : List ByteArray) : (rT xs).length = totStringS xs := by
  unfold rT totStringS
  induction xs with
  | nil => rfl
  | cons s xs ih =>
    rw [List.flatMap_cons, List.length_append, ih, List.map_cons, List.sum_cons, List.length_cons, List.length_append]
    show s.data.toList.length + 1 + _ = _ + 1 + (s.data.size + _)
    rw [Array.length_toList]; omega
theorem tot_take (xs : List ByteArray) (k : Nat) : totStringS (xs.take k) ≤ totStringS xs := by
  unfold totStringS
  have h1 : (xs.take k).length ≤ xs.length := by rw [List.length_take]; omega
  have h2 : ((xs.take k).map totString).sum ≤ (xs.map totString).sum := by
    conv => rhs; rw [← List.take_append_drop k xs, List.map_append, List.sum_append]
    omega
  omega
def reportF (xs : List ByteArray) : ByteArray := if linesB xs = true then ⟨(rT xs).toArray⟩ else ⟨#[]⟩
theorem bytes_append (a b : List UInt8) : (ByteArray.mk a.toArray ++ ByteArray.mk b.toArray) = ⟨(a ++ b).toArray⟩ := ByteArray.mk_append_mk a b
theorem bytes_self (s : ByteArray) : s = ⟨s.data.toList.toArray⟩ := by cases s; simp
theorem size_mk_list (l : List UInt8) : (ByteArray.mk l.toArray).size = l.length := by show l.toArray.size = _; simp
theorem line_append (s : ByteArray) : s ++ ⟨#[10]⟩ = ⟨(s.data.toList ++ [10]).toArray⟩ := by
  conv => lhs; rw [bytes_self s]
  exact bytes_append _ [10]

set_option maxRecDepth 100000 in
set_option maxHeartbeats 2000000 in
theorem implReportText_any (v : Value) (xs : List ByteArray) (fp : List Nat) (w : World) (hx : Sl fStr.cod w v xs fp) (ht : totStringS xs ≤ 1048576) :
    Calls Tryz.prog 25 #[v] w fun e w' => e = .returned (.string (reportF xs)) ∧ Below w.heap.size w w' := by
  unfold reportF
  obtain ⟨A, cap, rfl, hlen, hcap⟩ := hx.form
  by_cases h : linesB xs = true
  · rw [if_pos h]
    have HH := Lib.hid h
    clear h
    go_enter Tryz.func25, Tryz.ntmps25
    go_wp2_with fail
    refine (implValidReport_any _ _ _ _ hx).mono ?_
    rintro e w' ⟨rfl, rfl⟩
    rw [HH.out]
    go_wp2
    go_loopw [11] (fun i wr => ∃ k : Nat, k ≤ xs.length ∧ i = .int .i64 k ∧ Lib.IsBuilder 87 5 w.heap.size w.heap.size (Lib.byteCells (rT (xs.take k))) wr ∧ Below w.heap.size w wr) (fun i _ => xs.length - (intOf i).toNat)
    case atStart => exact ⟨0, Nat.zero_le _, rfl, builder_new w, (by repeat (first | exact Below.refl _ _ | assumption | refine Below.alloc ?_ (by first | omega | (simp <;> omega)) _ | refine Below.setCell ?_ (by first | (show _ ≤ _; omega) | (simp <;> omega)) _ | refine Below.drew ?_ | refine below_drewN ?_ _))⟩
    case round =>
      obtain ⟨k, hk, rfl, hI, hb⟩ := hrel
      have hbs := hb.size
      by_cases hlt : k < xs.length
      · obtain ⟨b, off, rfl, _, hok, hc, _⟩ := (hx.below' hb).cell1 rfl hlt rfl
        have hl1 : (rT (xs.take (k + 1))).length ≤ 1048576 := by
          rw [rT_len]; have := tot_take xs (k + 1); omega
        have hl2 := congrArg List.length (rT_step hlt)
        rw [List.length_append, List.length_append] at hl2
        have e1 : xs[k].data.toList.length = xs[k].size := by rw [Array.length_toList]; rfl
        have e2 : ([10] : List UInt8).length = 1 := rfl
        have hsz' : (rT (xs.take k)).length + (xs[k].size + 1) ≤ 1048576 := by omega
        clear e1 e2
        clear hl1 hl2
        go_wp2_with fail
        refine (writeString_any w.heap.size w.heap.size _ _ _ hI (by rw [Lib.byteCells_length, ByteArray.size_append]; show _ + (xs[k].size + 1) ≤ _; omega) hbs).mono ?_
        rintro e w2 ⟨rfl, hI2, hb2⟩
        rw [line_append, Lib.strCells_eq, ← Lib.byteCells_append, ← rT_step hlt] at hI2
        go_wp2
        go_roundw
        case rel => exact ⟨k + 1, by omega, by go_num, hI2, hb.trans hb2⟩
        case measure => simp [intOf]; omega
      · have hk' : xs.take k = xs := List.take_of_length_le (by omega)
        rw [hk'] at hI
        clear hk'
        go_wp2_with fail
        refine (Tryz.Builder_String_any w.heap.size w.heap.size _ _ hI hbs).mono ?_
        rintro e w2 ⟨rfl, hb2⟩
        go_wp2
        go_ret
        exact ⟨rfl, hb.trans hb2⟩
  · have h' : linesB xs = false := by simpa using h
    rw [if_neg h]
    have HH := Lib.hid h'
    clear h h'
    go_enter Tryz.func25, Tryz.ntmps25
    go_wp2_with fail
    refine (implValidReport_any _ _ _ _ hx).mono ?_
    rintro e w' ⟨rfl, rfl⟩
    rw [HH.out]
    go_wp2
    go_ret
    exact ⟨rfl, Below.refl _ _⟩
end Go.Proofs.YtgnbhcgagdfaiaaGreatDoor

namespace Go.Proofs.YtgnbhcgagdfaiaaGreatDoor
open Go.RowKit
set_option linter.unusedVariables false

/-- The first ones of a slice. -/
theorem Sl.first {α : Type} {E : Flat α} {w : World} {b off len cap : Nat} {xs : List α} {fp : List Nat} (h : Sl E.cod w (.slice (some ⟨b, off, none⟩) len cap) xs fp) {k : Nat} (hk : k ≤ xs.length) :
    ∃ fp', Sl E.cod w (.slice (some ⟨b, off, none⟩) k cap) (xs.take k) fp' := by
  obtain ⟨A', cap', hv, hl, hc, hr⟩ := h
  injection hv with hA hn hcap
  subst hcap
  have hlk : (xs.take k).length = k := by simp; omega
  rcases hr with ⟨h1, _⟩ | ⟨b', off', F, hA2, hb, hfp, hi⟩
  · subst h1
    have : k = 0 := by simpa using hk
    subst this
    exact ⟨[], _, cap, rfl, by simp, hc, .inl ⟨rfl, rfl⟩⟩
  · rw [← hA] at hA2
    injection hA2 with e
    injection e with e1 e2 _
    subst e1 e2
    refine ⟨_, _, cap, by rw [hlk], by rw [hlk]; omega, hc, .inr ⟨b, off, F, rfl, hb, rfl, fun i hi' => ?_⟩⟩
    rw [hlk] at hi'
    obtain ⟨cs, q1, q2, q3⟩ := hi i (by omega)
    exact ⟨cs, q1, q2, by rw [List.getElem_take]; exact q3⟩
/-- The lines of a text: all pieces but the last one; is the last one empty? -/
def rrL (s : ByteArray) : List ByteArray := (splS 10 s).dropLast
def rrE (s : ByteArray) : Bool := decide ((splS 10 s).getLast? = some ⟨#[]⟩)
def rrB (s : ByteArray) : Bool := rrE s && linesB (rrL s)
def rrF (s : ByteArray) : List ByteArray := if rrB s then rrL s else []
theorem rr_cut (s : ByteArray) : ∃ q : ByteArray, splS 10 s = rrL s ++ [q] ∧ rT (rrL s) ++ q.data.toList = s.data.toList ∧ (rrE s = true ↔ q = ⟨#[]⟩) := by
  obtain ⟨P, q, h1, h2⟩ := splS_cut 10 s
  have hL : rrL s = P := by unfold rrL; rw [h1, List.dropLast_concat]
  refine ⟨q, by rw [hL]; exact h1, by rw [hL]; exact h2, ?_⟩
  unfold rrE
  rw [h1, List.getLast?_concat, decide_eq_true_eq]
  exact ⟨fun h => Option.some.inj h, fun h => by rw [h]⟩
theorem rr_tot (s : ByteArray) : totStringS (rrL s) ≤ s.size := by
  obtain ⟨q, _, h2, _⟩ := rr_cut s
  have h3 := congrArg List.length h2
  rw [List.length_append, rT_len] at h3
  have h4 : s.data.toList.length = s.size := (by simp)
  omega
theorem rr_text {s : ByteArray} (h : linesB (rrL s) = true) : (reportF (rrL s) = s) ↔ rrE s = true := by
  obtain ⟨q, _, h2, h3⟩ := rr_cut s
  unfold reportF
  rw [if_pos h, h3]
  constructor
  · intro e
    have e2 : rT (rrL s) = s.data.toList := by
      have := congrArg (fun x : ByteArray => x.data.toList) e
      simpa using this
    rw [e2] at h2
    have : q.data.toList = [] := by simpa using h2
    exact data_inj this
  · intro e
    subst e
    have h4 : rT (rrL s) = s.data.toList := by simpa using h2
    rw [h4]
theorem rrL_len (s : ByteArray) : (rrL s).length ≤ s.size := by
  have h := rr_tot s
  unfold totStringS at h
  omega
theorem rrF_len {s : ByteArray} (h : s.size ≤ 1048576) : (rrF s).length ≤ 100000000000 := by
  unfold rrF; split
  · have := rrL_len s; omega
  · simp
theorem splS_size (s : ByteArray) : ∀ x ∈ splS 10 s, x.size ≤ s.size := by
  intro x hx
  obtain ⟨q, h1, h2, _⟩ := rr_cut s
  have hl : s.data.toList.length = s.size := (by simp)
  have hxl : x.data.toList.length = x.size := (by simp)
  rw [h1, List.mem_append] at hx
  have h3 := congrArg List.length h2
  rw [List.length_append] at h3
  rcases hx with hx | hx
  · have h4 : x.data.toList.length ≤ (rT (rrL s)).length := by
      unfold rT
      obtain ⟨A, B, e⟩ := List.append_of_mem hx
      rw [e, List.flatMap_append, List.flatMap_cons]
      simp; omega
    omega
  · rw [List.mem_singleton] at hx
    subst hx
    omega
/-- A slice and a bool. -/
def NewRB {α : Type} (E : Cod α) (w : World) (xs : List α) (c : Bool) (e : Ending) (w' : World) : Prop := ∃ v, e = .returned (.tuple #[v, .bool c]) ∧ New E w v xs w'
set_option maxRecDepth 100000 in
set_option maxHeartbeats 1000000 in
theorem cloneS_any (v : Value) (xs : List ByteArray) (fp : List Nat) (w : World) (hx : Sl fStr.cod w v xs fp) (hl : xs.length ≤ 2000000) :
    Calls Tryz.prog 55 #[v] w fun e w' => OwnRT fStr 9 w xs e w' := by
  obtain ⟨A, cap, rfl, hlen, hcap⟩ := hx.form
  obtain ⟨i0, hi, hz0, hz1, hz2⟩ := info_parts infoStr4
  have hsrc := (hx.below' ((Below.refl _ _).alloc (Nat.le_refl _) (.cells #[] 9))).src
  have ho := Own.lit0 fStr w 9
  have hb0 : Below w.heap.size w (w.alloc (.cells #[] 9)) := (Below.refl _ _).alloc (Nat.le_refl _) _
  have hs2 := hb0.size
  have q22 : ∀ (w : World) (a : Option Addr) (n c n' c' : Nat), (binOp .eql 24 (.slice a n c) (.slice none n' c')).run Tryz.prog w = .ok (.bool a.isNone) w := fun w a n c n' c' => Lib.run_eql_slice_nil w _ _ a n c n' c' Tryz.underlying24
  cases A with
  | none =>
    have hnil : xs = [] := by
      rcases Nat.eq_zero_or_pos xs.length with h0 | h0
      · exact List.eq_nil_of_length_eq_zero h0
      · obtain ⟨b, off, hA, _⟩ := hx.cells h0
        cases hA
    subst hnil
    go_enter Tryz.func55, Tryz.ntmps55
    go_wp2
    go_ret
    exact ⟨_, rfl, Own.nil _ _ _ _, Below.refl _ _⟩
  | some ad =>
    go_enter Tryz.func55, Tryz.ntmps55
    go_wp2_with (at_builtin; refine wpList_append_src (E := fStr) rfl _ _ 24 rfl w.heap.size 9 i0 (.string ⟨#[]⟩) 16 Tryz.underlying24 hi hz0 hz1 hz2 rfl (.slice (some ⟨w.heap.size, 0, none⟩) 0 0) [] rfl ho _ xs rfl hsrc (by simp; omega) (by decide) hs2 ?_)
    intro v' u hown hbu
    try rw [List.nil_append] at hown
    go_wp2
    go_ret
    exact ⟨_, rfl, hown, hb0.trans hbu⟩
theorem split_any (s : ByteArray) (c : UInt8) (m : Int) (w : World) (hs : s.size ≤ 1048576) (hm : w.cell? ⟨1, 0, none⟩ = some (.int .i64 m)) :
    Calls Tryz.prog 54 #[.string s, .string ⟨#[c]⟩] w fun e w' => OwnRT fStr 9 w (splS c s) e w' := by
  refine (Tryz.strings_Split s ⟨#[c]⟩ m w (by omega) hm (Nat.le_refl 1)).mono ?_
  rintro e w' ⟨rfl, rfl⟩
  have hl := Lib.splitB_all ⟨#[c]⟩ (Nat.le_refl 1) 0 _ s rfl
  rw [splS_split] at hl ⊢
  rw [← hl]
  have hb0 : Below w.heap.size w (w.alloc (.cells ((splS c s).map Value.string).toArray 9)) := (Below.refl _ _).alloc (Nat.le_refl _) _
  refine ⟨_, rfl, ?_, hb0⟩
  have hll : (splS c s).length ≤ s.size + 1 := by
    have h1 := Lib.countB_le ⟨#[c]⟩ (Nat.le_refl 1) s.size s (Nat.le_refl _)
    omega
  have h := World.ownsRow_lit (e := 9) (size := 1) (base := w.heap.size) w ((splS c s).map Value.string).toArray (splS c s).length (Nat.le_refl _) (by unfold maxLen; omega) (by simp)
  have e1 : (splS c s).map Value.string = (splS c s).flatMap fStr.enc := by
    generalize splS c s = L
    induction L with
    | nil => rfl
    | cons x L ih => rw [List.map_cons, List.flatMap_cons, ih]; rfl
  rw [show ((splS c s).map Value.string).toArray.toList = (splS c s).flatMap fStr.enc from by simpa using e1] at h
  exact h
set_option maxRecDepth 100000 in
set_option maxHeartbeats 2000000 in
theorem implReadReport_any (s : ByteArray) (m : Int) (w : World) (hs : s.size ≤ 1048576) (hm : w.cell? ⟨1, 0, none⟩ = some (.int .i64 m)) :
    Calls Tryz.prog 24 #[.string s] w fun e w' => NewRB fStr.cod w (rrF s) (rrB s) e w' := by
  obtain ⟨i0, hi, hz0, hz1, hz2⟩ := info_parts infoStr4
  obtain ⟨q, hq1, hq2, hq3⟩ := rr_cut s
  have hsz := splS_size s
  have hlen := rrL_len s
  have htot := rr_tot s
  go_enter Tryz.func24, Tryz.ntmps24
  go_wp2_with fail
  refine (split_any s 10 m _ hs hm).mono ?_
  rintro e w1 ⟨v1, rfl, hown, hb1⟩
  have hok : ∀ x ∈ splS 10 s, fStr.ok x := fun x hx => by have := hsz x hx; show _ ≤ _; omega
  have hokL : ∀ x ∈ rrL s, fStr.ok x := fun x hx => hok x (by rw [hq1]; simp [hx])
  rw [hq1] at hown hok
  obtain ⟨fpy, hsy, _, _⟩ := Sl.of_own (n := (rrL s ++ [q]).length) rfl hown hok
  obtain ⟨L, hL⟩ : ∃ L, L = rrL s := ⟨_, rfl⟩
  have hB : Hid (rrB s = (rrE s && linesB L)) := by show _ = _; rw [hL]; rfl
  have hF : Hid (rrF s = if rrE s && linesB L then L else []) := by show _ = _; rw [hL]; rfl
  have hT : Hid (linesB L = true → (reportF L = s ↔ rrE s = true)) := by show _ → _; rw [hL]; exact rr_text
  rw [← hL] at hown hsy hlen hokL htot
  clear hL hq1 hq2 hok
  obtain ⟨A, cap, rfl, hle, hca⟩ := hsy.form
  have hl1 : (L ++ [q]).length = L.length + 1 := by simp
  rw [hl1] at hsy hown hle ⊢
  have Hl1 := Lib.hid hl1
  clear hl1
  obtain ⟨b, off, rfl, _, hokq, hc0, _⟩ := hsy.cell1 rfl (k := L.length) (by rw [Hl1.out]; omega) rfl
  obtain ⟨fp2, hs2⟩ := hsy.first (k := L.length) (by rw [Hl1.out]; omega)
  rw [List.take_append_of_le_length (Nat.le_refl _), List.take_length] at hs2
  clear hokq hown hc0
  go_wp2_with fail
  refine (implValidReport_any _ L fp2 _ hs2).mono ?_
  rintro e w' ⟨rfl, rfl⟩
  cases h0 : linesB L
  · have HB2 : Hid (rrB s = false) := by show _ = _; rw [hB.out, h0, Bool.and_false]
    have HF2 : Hid (rrF s = []) := by show _ = _; rw [hF.out, h0, Bool.and_false]; rfl
    go_wp2
    go_ret2
    exact ⟨_, by rw [HB2.out]; rfl, by rw [HF2.out]; exact New.nil hb1⟩
  · have hT2 := hT.out h0
    go_wp2_with fail
    refine (implReportText_any _ L fp2 _ hs2 (by omega)).mono ?_
    rintro e w2 ⟨rfl, hb2⟩
    have hB2 := hb1.trans (hb2.mono hb1.size)
    have hs3 := hs2.below' hb2
    cases he : rrE s
    · have hne : ¬ reportF L = s := fun e => by rw [hT2.1 e] at he; cases he
      have e1 : ((reportF L).toList == s.toList) = false := bytes_beq_false hne
      have HB2 : Hid (rrB s = false) := by show _ = _; rw [hB.out, he]; rfl
      have HF2 : Hid (rrF s = []) := by show _ = _; rw [hF.out, he]; rfl
      clear he hne hT2 hq3
      go_wp2
      go_ret2
      exact ⟨_, by rw [HB2.out]; rfl, by rw [HF2.out]; exact New.nil hB2⟩
    · have e1 : ((reportF L).toList == s.toList) = true := eqS_true.2 (hT2.2 he)
      have HB2 : Hid (rrB s = true) := by show _ = _; rw [hB.out, he, h0]; rfl
      have HF2 : Hid (rrF s = L) := by show _ = _; rw [hF.out, he, h0]; rfl
      clear he hT2 hq3
      go_wp2_with fail
      refine (cloneS_any _ L fp2 _ hs3 (by omega)).mono ?_
      rintro e w3 ⟨v3, rfl, hown3, hb3⟩
      have hfin := (hown3.new hb3 hokL).later hB2
      clear hown3
      go_wp2
      go_ret2
      exact ⟨_, by rw [HB2.out]; rfl, by rw [HF2.out]; exact hfin⟩

end Go.Proofs.YtgnbhcgagdfaiaaGreatDoor

namespace Go.Proofs.YtgnbhcgagdfaiaaGreatDoor
open Go.RowKit
set_option linter.unusedVariables false

theorem doneC_zero {xs : List ByteArray} (h : doneC xs = 0) : linesB xs = true := by
  unfold doneC at h
  split at h
  · assumption
  · cases h
theorem doneF_ok {xs : List ByteArray} (h : linesB xs = true) : doneF xs = xs := by unfold doneF; rw [if_pos h]
theorem trim_keeps (l1 l2 : List UInt8) (x c : UInt8) (hx : x ≠ c) : ∃ t, Lib.trimRightB (l1 ++ x :: l2) c = l1 ++ x :: t := by
  unfold Lib.trimRightB
  have hxc : (x == c) = false := by rw [beq_eq_false_iff_ne]; exact hx
  rw [List.reverse_append, List.reverse_cons, List.append_assoc, List.dropWhile_append]
  split
  · refine ⟨[], ?_⟩
    rw [List.singleton_append, List.dropWhile_cons, hxc]
    simp
  · refine ⟨(l2.reverse.dropWhile (· == c)).reverse, ?_⟩
    simp
theorem rowI_raw {wd : Nat → Nat} {x : DIncident} {c0 : UInt8} {rest : List UInt8} (hp : x.place.data.toList = c0 :: rest) :
    ∃ l2, rawI wd (rowI x) 5 = ((dayT x.day).data.toList ++ spN (wd 0 - (dayT x.day).size + 2)) ++ c0 :: l2 := by
  have e0 : pcI wd (rowI x) 0 = (dayT x.day).data.toList ++ spN (wd 0 - (dayT x.day).size + 2) := rfl
  have e1 : pcI wd (rowI x) 1 = x.place.data.toList ++ spN (wd 1 - x.place.size + 2) := rfl
  rw [rawI_step, rawI_step, rawI_step, rawI_step, rawI_step, e0, e1, hp]
  refine ⟨rest ++ spN (wd 1 - x.place.size + 2) ++ pcI wd (rowI x) 2 ++ pcI wd (rowI x) 3 ++ pcI wd (rowI x) 4, ?_⟩
  show [] ++ _ ++ _ ++ _ ++ _ ++ _ = _
  simp
def x_ne (s : ByteArray) : Prop := ∃ (c0 : UInt8) (rest : List UInt8), s.data.toList = c0 :: rest ∧ c0 ≠ 32
theorem x_ne_of {s : ByteArray} (h : nameB s = true) : x_ne s := by
  have ha : cellOk s = true := name_cellOk h
  cases hs : s.data.toList with
  | nil =>
    have : s.size = 0 := by
      have := congrArg List.length hs
      simpa using this
    rw [nameB_empty this] at h; cases h
  | cons c0 rest =>
    refine ⟨c0, rest, hs, fun e => ?_⟩
    unfold cellOk bwAll at ha
    have := List.all_eq_true.1 ha c0 (by rw [hs]; simp)
    subst e
    revert this
    decide
structure IrP (xs : List DIncident) : Prop where
  len : (irF xs).length = xs.length + 1
  ok : linesB (irF xs) = true
  day : ∀ i (h : i < xs.length), 0 ≤ xs[i].day ∧ xs[i].day ≤ 36524
  line : ∀ i (h : i < xs.length), ∃ s, (irF xs)[i + 1]? = some s ∧ 10 < s.size ∧ s.extract 0 10 = dayT xs[i].day
theorem dayT_size {n : Int} (h0 : 0 ≤ n) (h1 : n ≤ 36524) : (dayT n).size = 10 := dayS_size (dayP_ok h0 h1).1
theorem irP_of {xs : List DIncident} (h : irC xs = 0) : IrP xs := by
  unfold irC at h
  split at h
  · rename_i hv
    have hl := doneC_zero h
    have hF : irF xs = tabF (rowsI xs xs.length) := by unfold irF; rw [if_pos hv, doneF_ok hl]
    refine ⟨by rw [hF]; unfold tabF; rw [List.length_map, rowsI_len (Nat.le_refl _)], by rw [hF]; exact hl, fun i hi => (incP_of (incsB_one hv hi)).day, fun i hi => ?_⟩
    have p := incP_of (incsB_one hv hi)
    have hds : (dayT xs[i].day).size = 10 := dayT_size p.day.1 p.day.2
    have hrow : (rowsI xs xs.length)[i + 1]? = some (rowI xs[i]) := by
      unfold rowsI
      rw [List.getElem?_cons_succ, List.take_length, List.getElem?_map, List.getElem?_eq_getElem hi]; rfl
    refine ⟨lineF (wdN (rowsI xs xs.length)) (rowI xs[i]), by rw [hF]; unfold tabF; rw [List.getElem?_map, hrow]; rfl, ?_⟩
    have hpl : x_ne (xs[i].place) := x_ne_of p.place
    obtain ⟨c0, rest, hp, hc⟩ := hpl
    obtain ⟨l2, hr⟩ := rowI_raw (wd := wdN (rowsI xs xs.length)) hp
    obtain ⟨t, ht⟩ := trim_keeps ((dayT xs[i].day).data.toList ++ spN (wdN (rowsI xs xs.length) 0 - (dayT xs[i].day).size + 2)) l2 c0 32 hc
    have hlen : (rowI xs[i]).length = 5 := rfl
    unfold lineF
    rw [hlen, hr, ht]
    have hdl : (dayT xs[i].day).data.toList.length = 10 := by simpa using hds
    refine ⟨?_, ?_⟩
    · show 10 < (List.toArray _).size
      rw [List.size_toArray, List.length_append, List.length_append, List.length_cons, hdl]; omega
    · refine data_inj ?_
      rw [ByteArray.data_extract]
      show ((List.toArray _).extract 0 10).toList = _
      rw [Array.toList_extract]
      simp only [List.extract_eq_take_drop, List.drop_zero, Nat.sub_zero]
      rw [List.append_assoc, List.take_append_of_le_length (by omega), List.take_of_length_le (by omega)]
  · cases h
structure RgP (xs : List DRegion) : Prop where
  len : (rgnF xs).length = xs.length + 1
  ok : linesB (rgnF xs) = true
theorem rgP_of {xs : List DRegion} (h : rgnC xs = 0) : RgP xs := by
  unfold rgnC at h
  split at h
  · rename_i hv
    have hl := doneC_zero h
    have hF : rgnF xs = tabF (rowsR xs xs.length) := by unfold rgnF; rw [if_pos hv, doneF_ok hl]
    exact ⟨by rw [hF]; unfold tabF rowsR; simp, by rw [hF]; exact hl⟩
  · cases h
/- Sorted lines and their counts. -/
theorem cnt_groups0 (c : ByteArray → Nat) (s : ByteArray) : ∀ D : List ByteArray, s ∉ D → (D.flatMap (fun t => List.replicate (c t) t)).countP (fun x => decide (x = s)) = 0
  | [], _ => by simp
  | t :: D, h => by
    have e : ¬ t = s := fun e => h (by rw [e]; simp)
    rw [List.flatMap_cons, List.countP_append, cnt_groups0 c s D (fun h2 => h (by simp [h2])), List.countP_replicate]
    simp [e]
theorem cnt_groups (c : ByteArray → Nat) (s : ByteArray) : ∀ D : List ByteArray, D.Nodup → s ∈ D → (D.flatMap (fun t => List.replicate (c t) t)).countP (fun x => decide (x = s)) = c s
  | [], _, h => by simp at h
  | t :: D, h, hm => by
    obtain ⟨h1, h2⟩ := List.nodup_cons.1 h
    rw [List.flatMap_cons, List.countP_append, List.countP_replicate]
    by_cases e : t = s
    · subst e
      rw [cnt_groups0 c t D h1]; simp
    · have hm2 : s ∈ D := by
        rcases List.mem_cons.1 hm with e2 | e2
        · exact absurd e2.symm e
        · exact e2
      rw [cnt_groups c s D h2 hm2]; simp [e]
theorem cnt_mem {ys : List ByteArray} {s : ByteArray} (h : s ∈ ys) : 1 ≤ cntS ys s := by
  unfold cntS
  exact List.countP_pos_iff.2 ⟨s, h, by simp⟩
theorem srt_groups (ys : List ByteArray) : (cdF ys).flatMap (fun s => List.replicate (cntS ys s) s) = srtF ys := by
  refine srtF_of ?_ ?_
  · unfold Srt
    rw [List.pairwise_flatMap]
    refine ⟨fun a _ => List.pairwise_replicate.2 (.inr (ltS_irrefl a)), (cdF_ssrt ys).imp (fun h x hx y hy => ?_)⟩
    rw [(List.mem_replicate.1 hx).2, (List.mem_replicate.1 hy).2]
    exact ltS_asymm h
  · rw [@List.perm_iff_count _ instBEqOfDecidableEq inferInstance]
    intro s
    have e : ∀ l : List ByteArray, @List.count _ instBEqOfDecidableEq s l = l.countP (fun x => decide (x = s)) := fun l => rfl
    rw [e, e]
    by_cases hm : s ∈ cdF ys
    · rw [cnt_groups (cntS ys) s (cdF ys) (cdF_ssrt ys).nodup hm]; rfl
    · rw [cnt_groups0 (cntS ys) s (cdF ys) hm]
      exact (cntS_zero (fun h => hm ((cdF_mem ys s).2 h))).symm
def atN (ys : List ByteArray) (i : Nat) : Nat := (((cdF ys).take i).map (cntS ys)).sum
theorem atN_zero (ys : List ByteArray) : atN ys 0 = 0 := rfl
theorem atN_step {ys : List ByteArray} {i : Nat} (h : i < (cdF ys).length) : atN ys (i + 1) = atN ys i + cntS ys (cdF ys)[i] := by
  unfold atN; rw [List.take_succ_eq_append_getElem h, List.map_append, List.sum_append]; simp
theorem grp_len (c : ByteArray → Nat) (D : List ByteArray) : (D.flatMap (fun s => List.replicate (c s) s)).length = (D.map c).sum := by
  rw [List.length_flatMap]
  congr 1
  exact List.map_congr_left (fun s _ => List.length_replicate)
theorem atN_all (ys : List ByteArray) : atN ys (cdF ys).length = ys.length := by
  unfold atN
  rw [List.take_length, ← grp_len, srt_groups, srtF_len]
theorem atN_le {ys : List ByteArray} {i : Nat} (h : i ≤ (cdF ys).length) : atN ys i ≤ ys.length := by
  have h1 := atN_all ys
  have h2 : atN ys i ≤ atN ys (cdF ys).length := by
    unfold atN
    rw [List.take_length]
    conv => rhs; rw [← List.take_append_drop i (cdF ys), List.map_append, List.sum_append]
    omega
  omega
theorem atN_get {ys : List ByteArray} {i k : Nat} (h : i < (cdF ys).length) (hk : k < cntS ys (cdF ys)[i]) : (srtF ys)[atN ys i + k]? = some (cdF ys)[i] := by
  have e : cdF ys = (cdF ys).take i ++ (cdF ys)[i] :: (cdF ys).drop (i + 1) := by
    rw [← List.drop_eq_getElem_cons h, List.take_append_drop]
  have hl : (((cdF ys).take i).flatMap (fun s => List.replicate (cntS ys s) s)).length = atN ys i := grp_len _ _
  rw [← srt_groups]
  conv => lhs; rw [e]
  rw [List.flatMap_append, List.flatMap_cons, List.getElem?_append_right (by omega), hl, Nat.add_sub_cancel_left, List.getElem?_append_left (by rw [List.length_replicate]; exact hk), List.getElem?_replicate, if_pos hk]
theorem cm_get {ys : List ByteArray} {i : Nat} (h : i < (cdF ys).length) : (cmF ys)[i]? = some ((cntS ys (cdF ys)[i] : Nat) : Int) := by
  unfold cmF; rw [List.getElem?_map, List.getElem?_eq_getElem h]; rfl
def sumK : List Int → Int
  | [] => 0
  | x :: L => x + sumK L
theorem sumK_app : ∀ A B : List Int, sumK (A ++ B) = sumK A + sumK B
  | [], B => by simp [sumK]
  | x :: A, B => by simp only [List.cons_append, sumK, sumK_app A B]; omega
theorem sumK_step {L : List Int} {k : Nat} (h : k < L.length) : sumK (L.take (k + 1)) = sumK (L.take k) + L[k] := by
  rw [List.take_succ_eq_append_getElem h, sumK_app]; simp [sumK]
theorem sumK_bound : ∀ (L : List Int), (∀ x ∈ L, 0 ≤ x ∧ x ≤ 1000000) → 0 ≤ sumK L ∧ sumK L ≤ 1000000 * L.length
  | [], _ => by simp [sumK]
  | x :: L, h => by
    have h1 := sumK_bound L (fun y hy => h y (by simp [hy]))
    have h2 := h x (by simp)
    simp only [sumK, List.length_cons]; omega
theorem sum_cm (ys : List ByteArray) : sumK (cmF ys) = (ys.length : Int) := by
  have h : ∀ D : List ByteArray, sumK (D.map (fun s => (cntS ys s : Int))) = (((D.map (cntS ys)).sum : Nat) : Int) := by
    intro D
    induction D with
    | nil => rfl
    | cons s D ih =>
      rw [List.map_cons, List.map_cons, List.sum_cons, sumK, ih]; omega
  unfold cmF
  rw [h, ← atN_all ys]; unfold atN; rw [List.take_length]
theorem cnt_le (ys : List ByteArray) (s : ByteArray) : cntS ys s ≤ ys.length := List.countP_le_length
theorem cnt_step {ys : List ByteArray} {s : ByteArray} {k : Nat} (h : k < ys.length) : cntS (ys.take (k + 1)) s = cntS (ys.take k) s + if ys[k] = s then 1 else 0 := by
  rw [List.take_succ_eq_append_getElem h, cntS_snoc]
theorem cd_lt {ys : List ByteArray} {i : Nat} (h : i + 1 < (cdF ys).length) : ltS (cdF ys)[i] (cdF ys)[i + 1] = true :=
  List.pairwise_iff_getElem.1 (cdF_ssrt ys) i (i + 1) (by omega) h (by omega)
/- The text of lines is read back. -/
theorem splL_appK (c : UInt8) : ∀ (x l : List UInt8), (∀ b ∈ x, b ≠ c) → splL c (x ++ c :: l) = x :: splL c l
  | [], l, _ => by show (if c = c then [] :: splL c l else _) = _; rw [if_pos rfl]
  | b :: x, l, h => by
    have ih := splL_appK c x l (fun y hy => h y (by simp [hy]))
    show (if b = c then [] :: splL c (x ++ c :: l) else match splL c (x ++ c :: l) with | [] => [[b]] | q :: r => (b :: q) :: r) = _
    rw [if_neg (h b (by simp)), ih]
theorem line_no10 {s : ByteArray} (h : lineB s = true) : ∀ b ∈ s.data.toList, b ≠ 10 := by
  intro b hb e
  unfold lineB bwAll at h
  simp only [Bool.and_eq_true] at h
  have := List.all_eq_true.1 h.1 b hb
  subst e
  revert this
  decide
theorem splL_rT : ∀ ys : List ByteArray, (∀ s ∈ ys, lineB s = true) → splL 10 (rT ys) = ys.map (fun s : ByteArray => s.data.toList) ++ [[]]
  | [], _ => by simp [rT, splL]
  | s :: ys, h => by
    have e : rT (s :: ys) = s.data.toList ++ 10 :: rT ys := by unfold rT; rw [List.flatMap_cons]; simp
    rw [e, splL_appK 10 _ _ (line_no10 (h s (by simp))), splL_rT ys (fun t ht => h t (by simp [ht]))]
    rfl
theorem read_back {ys : List ByteArray} (h : linesB ys = true) : rrB (reportF ys) = true ∧ rrF (reportF ys) = ys := by
  have ha : ∀ s ∈ ys, lineB s = true := by
    unfold linesB at h
    simp only [Bool.and_eq_true] at h
    exact fun s hs => List.all_eq_true.1 h.1 s hs
  have e : splS 10 (reportF ys) = ys ++ [⟨#[]⟩] := by
    refine (splS_of ?_).symm
    unfold reportF
    rw [if_pos h]
    show _ = splL 10 (rT ys)
    rw [splL_rT ys ha, List.map_append]; rfl
  have h1 : rrL (reportF ys) = ys := by unfold rrL; rw [e, List.dropLast_concat]
  have h2 : rrE (reportF ys) = true := by unfold rrE; rw [e, List.getLast?_concat]; simp
  have h3 : rrB (reportF ys) = true := by unfold rrB; rw [h1, h2, h]; rfl
  exact ⟨h3, by unfold rrF; rw [if_pos h3, h1]⟩
end Go.Proofs.YtgnbhcgagdfaiaaGreatDoor

namespace Go.Proofs.YtgnbhcgagdfaiaaGreatDoor
open Go.RowKit
set_option linter.unusedVariables false

theorem flat_set {α : Type} {E : Flat α} : ∀ (L : List α) (k j : Nat) (y : α) (u : Value) (hk : k < L.length), j < E.n → E.enc y = (E.enc L[k]).set j u → (L.flatMap E.enc).set (k * E.n + j) u = (L.set k y).flatMap E.enc
  | [], k, j, y, u, hk, _, _ => absurd hk (Nat.not_lt_zero _)
  | x :: L, 0, j, y, u, hk, hj, hu => by
    have hl := E.len x
    rw [List.getElem_cons_zero] at hu
    rw [Nat.zero_mul, Nat.zero_add, List.flatMap_cons, List.set_cons_zero, List.flatMap_cons, List.set_append_left _ _ (by omega), hu]
  | x :: L, k + 1, j, y, u, hk, hj, hu => by
    have hl := E.len x
    have ih := flat_set L k j y u (by simpa using hk) hj (by simpa using hu)
    have e : (k + 1) * E.n + j - (E.enc x).length = k * E.n + j := by rw [hl, Nat.succ_mul]; omega
    have h2 : (E.enc x).length ≤ (k + 1) * E.n + j := by rw [hl, Nat.succ_mul]; omega
    rw [List.flatMap_cons, List.set_cons_succ, List.flatMap_cons, List.set_append_right _ _ h2, e, ih]
theorem Own.len_eq {α : Type} {E : Flat α} {w : World} {base : Nat} {e : TypeId} {A : Option Addr} {n cap : Nat} {L : List α} (h : Own E w base e (.slice A n cap) L) (hL : L ≠ []) : n = L.length := by
  rcases h.2 with ⟨hv, h0⟩ | ⟨g', cap', cur, hv, _⟩
  · injection hv with _ h1 _
    first | omega | exact absurd (List.length_eq_zero_iff.1 (by first | exact h0.1 | exact h0 | omega)) hL
  · injection hv
theorem Own.setF {α : Type} {E : Flat α} {w : World} {base : Nat} {e : TypeId} {g n cap : Nat} {L : List α} (h : Own E w base e (.slice (some ⟨g, 0, none⟩) n cap) L) {k : Nat} (hk : k < L.length) (j : Nat) (hj : j < E.n) (y : α) (u : Value) (hu : E.enc y = (E.enc L[k]).set j u) :
    Own E (w.setCell ⟨g, k * E.n + j, none⟩ u) base e (.slice (some ⟨g, 0, none⟩) n cap) (L.set k y) := by
  have hn : n = L.length := by
    rcases h.2 with ⟨hv, _⟩ | ⟨g', cap', cur, hv, _⟩
    · cases hv
    · injection hv
  have h' : w.ownsRow base e E.n (.slice (some ⟨g, 0, none⟩) L.length cap) L.length (L.flatMap E.enc) := by rw [hn] at h; exact h
  have h2 := (h'.stored (k * E.n + j) u).1
  rw [flat_set L k j y u hk hj hu] at h2
  show World.ownsRow _ base e E.n _ (L.set k y).length _
  rw [List.length_set, hn]
  exact h2
theorem Own.cellF {α : Type} {E : Flat α} {w : World} {base : Nat} {e : TypeId} {g n cap : Nat} {L : List α} (h : Own E w base e (.slice (some ⟨g, 0, none⟩) n cap) L) {k : Nat} (hk : k < L.length) {j : Nat} (hj : j < E.n) {u : Value} (hu : (E.enc L[k])[j]? = some u) : w.cell? ⟨g, k * E.n + j, none⟩ = some u := by
  have hn : n = L.length := by
    rcases h.2 with ⟨hv, _⟩ | ⟨g', cap', cur, hv, _⟩
    · cases hv
    · injection hv
  have h' : w.ownsRow base e E.n (.slice (some ⟨g, 0, none⟩) L.length cap) L.length (L.flatMap E.enc) := by rw [hn] at h; exact h
  have hlt : k * E.n + j < L.length * E.n := by
    calc k * E.n + j < k * E.n + E.n := by omega
      _ = (k + 1) * E.n := by rw [Nat.succ_mul]
      _ ≤ L.length * E.n := Nat.mul_le_mul_right _ hk
  rw [h'.cellAt (k * E.n + j) hlt]
  have := flat_get E.enc E.n L (fun x _ => E.len x) k hk j hj
  rw [this]; exact hu
theorem Own.frozenF {α : Type} {E : Flat α} {w : World} {base : Nat} {e : TypeId} {g n cap : Nat} {L : List α} (h : Own E w base e (.slice (some ⟨g, 0, none⟩) n cap) L) (k : Nat) : w.frozen? ⟨g, k, none⟩ = false := by
  have hn : n = L.length := by
    rcases h.2 with ⟨hv, _⟩ | ⟨g', cap', cur, hv, _⟩
    · cases hv
    · injection hv
  have h' : w.ownsRow base e E.n (.slice (some ⟨g, 0, none⟩) L.length cap) L.length (L.flatMap E.enc) := by rw [hn] at h; exact h
  exact h'.frozenAt k
end Go.Proofs.YtgnbhcgagdfaiaaGreatDoor

namespace Go.Proofs.YtgnbhcgagdfaiaaGreatDoor
open Go.RowKit
set_option linter.unusedVariables false

/-- The source at block g: no more than n bytes have been drawn. -/
def SrcD (n : Nat) (g : Nat) (w : World) : Prop := ∃ (v : Value) (xs : List UInt8) (fp : List Nat) (k : Nat) (seed : Int), w.cell? ⟨g, 0, none⟩ = some v ∧ w.cell? ⟨g, 1, none⟩ = some (.int .i64 k) ∧ w.cell? ⟨g, 2, none⟩ = some (.int .u64 seed) ∧
  w.frozen? ⟨g, 1, none⟩ = false ∧ w.frozen? ⟨g, 2, none⟩ = false ∧ k ≤ n ∧ Sl fByte.cod w v xs fp ∧ (∀ b ∈ fp, b < g)
theorem Only.cell {fp : List Nat} {w w' : World} (h : Only fp w w') {p : Addr} (hp : p.block < w.heap.size) (hn : p.block ∉ fp) : w'.cell? p = w.cell? p := World.cell?_of_block (w := w) (h.block p.block hp hn)
theorem Only.frozen {fp : List Nat} {w w' : World} (h : Only fp w w') {p : Addr} (hp : p.block < w.heap.size) (hn : p.block ∉ fp) : w'.frozen? p = w.frozen? p := World.frozen?_of_block (w := w) (h.block p.block hp hn)
theorem Only.drewN {fp : List Nat} {w w' : World} (h : Only fp w w') (n : Nat) : Only fp w (w'.drewN n) := h.trans (.of_below (below_drewN (Below.refl _ _) n))
theorem SrcD.mono {n m g : Nat} {w : World} (h : SrcD n g w) (hm : n ≤ m) : SrcD m g w := by
  obtain ⟨v, xs, fp, k, seed, h0, h1, h2, h3, h4, h5, h6, h7⟩ := h
  exact ⟨v, xs, fp, k, seed, h0, h1, h2, h3, h4, by omega, h6, h7⟩
theorem SrcD.lt {n g : Nat} {w : World} (h : SrcD n g w) : g < w.heap.size := by
  obtain ⟨v, xs, fp, k, seed, h0, _⟩ := h
  exact block_lt_of_cell h0
theorem SrcD.below {n g : Nat} {w w' : World} (h : SrcD n g w) (hb : Below w.heap.size w w') : SrcD n g w' := by
  have hg := h.lt
  obtain ⟨v, xs, fp, k, seed, h0, h1, h2, h3, h4, h5, h6, h7⟩ := h
  exact ⟨v, xs, fp, k, seed, (hb.cell (p := ⟨g, 0, none⟩) hg).trans h0, (hb.cell (p := ⟨g, 1, none⟩) hg).trans h1, (hb.cell (p := ⟨g, 2, none⟩) hg).trans h2, (hb.frozen (p := ⟨g, 1, none⟩) hg).trans h3, (hb.frozen (p := ⟨g, 2, none⟩) hg).trans h4, h5, h6.below' hb, h7⟩
theorem SrcD.belowB {n g B : Nat} {w w' : World} (h : SrcD n g w) (hb : Below B w w') (hB : g < B) : SrcD n g w' := by
  obtain ⟨v, xs, fp, k, seed, h0, h1, h2, h3, h4, h5, h6, h7⟩ := h
  exact ⟨v, xs, fp, k, seed, (hb.cell (p := ⟨g, 0, none⟩) hB).trans h0, (hb.cell (p := ⟨g, 1, none⟩) hB).trans h1, (hb.cell (p := ⟨g, 2, none⟩) hB).trans h2, (hb.frozen (p := ⟨g, 1, none⟩) hB).trans h3, (hb.frozen (p := ⟨g, 2, none⟩) hB).trans h4, h5, h6.below hb (fun b hm => by have := h7 b hm; omega), h7⟩
theorem Only.then {fp : List Nat} {a b c : World} (h : Only fp a b) (k : Below a.heap.size b c) : Only fp a c :=
  ⟨k.os.trans h.os, k.tape.trans h.tape, k.output.trans h.output, Nat.le_trans h.size k.size, fun i hi hn => (k.block i hi).trans (h.block i hi hn)⟩
theorem Only.put {fp : List Nat} {a b : World} (h : Only fp a b) {p : Addr} (hp : a.heap.size ≤ p.block) (v : Value) : Only fp a (b.setCell p v) :=
  h.then ((Below.refl _ _).setCell hp v)
theorem Only.new {fp : List Nat} {a b : World} (h : Only fp a b) (o : Obj) : Only fp a (b.alloc o) := h.then ((Below.refl _ _).alloc h.size o)
theorem Only.later {fp : List Nat} {a b c : World} (h : Below a.heap.size a b) (k : Only fp b c) : Only fp a c :=
  (Only.of_below h).trans k
theorem Only.lift {g : Nat} {a b c : World} (h : Only [g] a b) (k : Only [g] b c) : Only [g] a c := h.trans k
theorem Own.only {α : Type} {E : Flat α} {w w' : World} {base : Nat} {e : TypeId} {v : Value} {L : List α} {fp : List Nat} (h : Own E w base e v L) (hb : Only fp w w') (hn : ∀ g ∈ fp, g < base) : Own E w' base e v L := by
  obtain ⟨h1, h2⟩ := h
  refine ⟨h1, ?_⟩
  rcases h2 with h2 | ⟨g, cap, cur, hv, hg, hh, r⟩
  · exact .inl h2
  · have hgl : g < w.heap.size := by
      rcases Nat.lt_or_ge g w.heap.size with h | h
      · exact h
      · rw [Array.getElem?_eq_none h] at hh; cases hh
    exact .inr ⟨g, cap, cur, hv, hg, by rw [hb.block g hgl (fun hm => by have := hn g hm; omega)]; exact hh, r⟩
theorem w64_inD (n : Int) (h : -9223372036854775808 ≤ n ∧ n ≤ 9223372036854775807) : wrap64 n = n := by unfold wrap64; omega
theorem and255 (x : Int) : 0 ≤ bits .and .u64 x 255 ∧ bits .and .u64 x 255 ≤ 255 := by
  have h : bits .and .u64 x 255 = IntKind.u64.wrap ((BitVec.ofInt 64 x &&& BitVec.ofInt 64 255).toNat : Int) := rfl
  rw [h, BitVec.toNat_and, show (BitVec.ofInt 64 255).toNat = 255 from by decide]
  have h1 : (BitVec.ofInt 64 x).toNat &&& 255 ≤ 255 := Nat.and_le_right
  generalize (BitVec.ofInt 64 x).toNat &&& 255 = m at *
  simp [IntKind.wrap, IntKind.bits, IntKind.signed]
  omega
def SrcAt (v : Value) (xs : List UInt8) (fp : List Nat) (k : Nat) (seed : Int) (n g : Nat) (w : World) : Prop := w.cell? ⟨g, 0, none⟩ = some v ∧ w.cell? ⟨g, 1, none⟩ = some (.int .i64 k) ∧ w.cell? ⟨g, 2, none⟩ = some (.int .u64 seed) ∧
  w.frozen? ⟨g, 1, none⟩ = false ∧ w.frozen? ⟨g, 2, none⟩ = false ∧ k ≤ n ∧ Sl fByte.cod w v xs fp ∧ (∀ b ∈ fp, b < g)
theorem src_step {v : Value} {xs : List UInt8} {fp : List Nat} {k n g : Nat} {seed : Int} {w : World} (h : SrcAt v xs fp k seed n g w) (i j : Nat) (s2 : Int) :
    SrcD (n + 1) g ((((w.drewN i).setCell ⟨g, 1, none⟩ (.int .i64 ((k : Int) + 1))).setCell ⟨g, 2, none⟩ (.int .u64 s2)).drewN j) := by
  obtain ⟨c0, c1, c2, z1, z2, hk, hsl, hne⟩ := h
  have hO : Only [g] w ((((w.drewN i).setCell ⟨g, 1, none⟩ (.int .i64 ((k : Int) + 1))).setCell ⟨g, 2, none⟩ (.int .u64 s2)).drewN j) := ((((Only.refl [g] w).drewN _).set 1 _).set 2 _).drewN _
  have d0 : (w.drewN i).cell? ⟨g, 0, none⟩ = some v := c0
  have d1 : (w.drewN i).cell? ⟨g, 1, none⟩ = some (.int .i64 k) := c1
  have d2 : (w.drewN i).cell? ⟨g, 2, none⟩ = some (.int .u64 seed) := c2
  have y1 : (w.drewN i).frozen? ⟨g, 1, none⟩ = false := z1
  have y2 : (w.drewN i).frozen? ⟨g, 2, none⟩ = false := z2
  refine ⟨v, xs, fp, k + 1, s2, ?_, ?_, ?_, ?_, ?_, by omega, hsl.only hO (fun b hb => by have := hne b hb; simp; omega), hne⟩
  · show World.cell? (World.setCell _ _ _) _ = _
    rw [World.cell?_setCell_other _ _ _ _ (by simp), World.cell?_setCell_other _ _ _ _ (by simp)]; exact d0
  · show World.cell? (World.setCell _ _ _) _ = _
    rw [World.cell?_setCell_other _ _ _ _ (by simp)]
    exact World.cell?_setCell_same _ _ _ d1
  · show World.cell? (World.setCell _ _ _) _ = _
    exact World.cell?_setCell_same _ _ _ ((World.cell?_setCell_other _ _ _ _ (by simp)).trans d2)
  · show World.frozen? (World.setCell _ _ _) _ = _
    rw [frozen?_setCell, frozen?_setCell]; exact y1
  · show World.frozen? (World.setCell _ _ _) _ = _
    rw [frozen?_setCell, frozen?_setCell]; exact y2
set_option maxRecDepth 100000 in
set_option maxHeartbeats 2000000 in
theorem next_any (n g : Nat) (w : World) (hs : SrcD n g w) (hn : n ≤ 1000000000000) :
    Calls Tryz.prog 116 #[.pointer (some ⟨g, 0, none⟩)] w fun e w' => ∃ r : Int, e = .returned (.int .i64 r) ∧ (0 ≤ r ∧ r ≤ 255) ∧ SrcD (n + 1) g w' ∧ Only [g] w w' := by
  have hg := hs.lt
  obtain ⟨v, xs, fp, k, seed, c0, c1, c2, z1, z2, hk, hsl, hne⟩ := hs
  obtain ⟨A, cap, rfl, hle, hca⟩ := hsl.form
  have hlen : xs.length ≤ 9223372036854775807 := by unfold maxLen at *; omega
  by_cases hat : k < xs.length
  · obtain ⟨b, off, rfl, hbm, _, hc, _⟩ := hsl.cell1 rfl hat rfl
    have hx := xs[k].toNat_lt
    go_enter Tryz.func116, Tryz.ntmps116
    go_wp2
    go_quiet (fail)
    go_wp2
    go_quiet (fail)
    go_wp2
    go_quiet (fail)
    go_wp2
    go_ret
    have hw : wrap64 (xs[k].toNat : Int) = xs[k].toNat := w64_inD _ (by omega)
    refine ⟨_, rfl, by first | (rw [hw]; omega) | omega, src_step ⟨c0, c1, c2, z1, z2, hk, hsl, hne⟩ _ _ _, ?_⟩
    exact ((((Only.refl [g] w).drewN _).set 1 _).set 2 _).drewN _
  · go_enter Tryz.func116, Tryz.ntmps116
    go_wp2
    go_quiet (fail)
    go_wp2
    go_quiet (fail)
    go_wp2
    go_ret
    have hw := and255 (IntKind.u64.wrap (IntKind.u64.wrap (IntKind.u64.wrap (seed * 6364136223846793005)) + 1442695040888963407) / 1099511627776)
    generalize bits BinOp.and IntKind.u64 (IntKind.u64.wrap (IntKind.u64.wrap (IntKind.u64.wrap (seed * 6364136223846793005)) + 1442695040888963407) / 1099511627776) 255 = r at *
    have hw2 : wrap64 r = r := w64_inD _ (by omega)
    refine ⟨_, rfl, by rw [hw2]; exact hw, src_step ⟨c0, c1, c2, z1, z2, hk, hsl, hne⟩ _ _ _, ?_⟩
    exact ((((Only.refl [g] w).drewN _).set 1 _).set 2 _).drewN _
set_option maxRecDepth 100000 in
set_option maxHeartbeats 2000000 in
theorem pick_any (n g : Nat) (m : Int) (w : World) (hs : SrcD n g w) (hn : n ≤ 999999999000) (hm : m ≤ 1000000000) :
    Calls Tryz.prog 75 #[.pointer (some ⟨g, 0, none⟩), .int .i64 m] w fun e w' => ∃ r : Int, e = .returned (.int .i64 r) ∧ (0 ≤ r ∧ (1 ≤ m → r < m) ∧ (m ≤ 1 → r = 0)) ∧ SrcD (n + 2) g w' ∧ Only [g] w w' := by
  by_cases h1 : m ≤ 1
  · go_enter Tryz.func75, Tryz.ntmps75
    go_wp2
    go_ret
    exact ⟨0, rfl, ⟨by omega, fun h => by omega, fun _ => rfl⟩, hs.mono (by omega), Only.refl _ _⟩
  · go_enter Tryz.func75, Tryz.ntmps75
    go_wp2_with fail
    refine (next_any n g _ hs (by omega)).mono ?_
    rintro e w1 ⟨x, rfl, hx, hs1, ho1⟩
    by_cases h2 : 200 < m
    · go_wp2_with fail
      refine (next_any (n + 1) g _ hs1 (by omega)).mono ?_
      rintro e w2 ⟨y, rfl, hy, hs2, ho2⟩
      have e1 : 0 ≤ Int.tmod (x * 256 + y) m := Int.tmod_nonneg _ (by omega)
      have e2 : Int.tmod (x * 256 + y) m < m := Int.tmod_lt_of_pos _ (by omega)
      have e3 : wrap64 (x * 256) = x * 256 := w64_inD _ (by omega)
      have e4 : wrap64 (x * 256 + y) = x * 256 + y := w64_inD _ (by omega)
      have e5 : wrap64 (Int.tmod (x * 256 + y) m) = Int.tmod (x * 256 + y) m := w64_inD _ (by omega)
      go_wp2
      go_ret
      refine ⟨_, rfl, ?_, hs2, ho1.trans ho2⟩
      first | exact ⟨e1, fun _ => e2, fun h => by omega⟩ | exact ⟨Int.emod_nonneg _ (by omega), fun _ => Int.emod_lt_of_pos _ (by omega), fun h => by omega⟩ | (simp only [e3, e4, e5]; exact ⟨e1, fun _ => e2, fun h => by omega⟩) | skip
    · have e1 : 0 ≤ Int.tmod x m := Int.tmod_nonneg _ (by omega)
      have e2 : Int.tmod x m < m := Int.tmod_lt_of_pos _ (by omega)
      have e5 : wrap64 (Int.tmod x m) = Int.tmod x m := w64_inD _ (by omega)
      go_wp2
      go_ret
      refine ⟨_, rfl, ?_, hs1.mono (by omega), ho1⟩
      first | exact ⟨e1, fun _ => e2, fun h => by omega⟩ | exact ⟨Int.emod_nonneg _ (by omega), fun _ => Int.emod_lt_of_pos _ (by omega), fun h => by omega⟩ | (simp only [e5]; exact ⟨e1, fun _ => e2, fun h => by omega⟩) | skip
set_option maxRecDepth 100000 in
set_option maxHeartbeats 2000000 in
theorem one_any (n g : Nat) (m : Int) (w : World) (hs : SrcD n g w) (hn : n ≤ 999999999000) (hm : m ≤ 1000000000) :
    Calls Tryz.prog 126 #[.pointer (some ⟨g, 0, none⟩), .int .i64 m] w fun e w' => ∃ r : Bool, e = .returned (.bool r) ∧ SrcD (n + 2) g w' ∧ Only [g] w w' := by
  go_enter Tryz.func126, Tryz.ntmps126
  go_wp2_with fail
  refine (pick_any n g m _ hs hn hm).mono ?_
  rintro e w1 ⟨x, rfl, hx, hs1, ho1⟩
  go_wp2
  go_ret
  exact ⟨_, rfl, hs1, ho1⟩
set_option maxRecDepth 100000 in
set_option maxHeartbeats 2000000 in
theorem text_any (n g : Nat) (v : Value) (xs : List ByteArray) (fp : List Nat) (w : World) (hs : SrcD n g w) (hn : n ≤ 999999999000) (hx : Sl fStr.cod w v xs fp) (hg : g ∉ fp) (h0 : 0 < xs.length) (h1 : xs.length ≤ 1000) :
    Calls Tryz.prog 89 #[.pointer (some ⟨g, 0, none⟩), v] w fun e w' => ∃ t ∈ xs, e = .returned (.string t) ∧ SrcD (n + 2) g w' ∧ Only [g] w w' := by
  obtain ⟨A, cap, rfl, hle, hca⟩ := hx.form
  go_enter Tryz.func89, Tryz.ntmps89
  go_wp2_with fail
  refine (pick_any n g _ _ hs hn (by omega)).mono ?_
  rintro e w1 ⟨r, rfl, ⟨hr0, hr1, _⟩, hs1, ho1⟩
  have hr2 := hr1 (by omega)
  obtain ⟨k, rfl⟩ : ∃ k : Nat, r = k := ⟨r.toNat, by omega⟩
  have hk : k < xs.length := by omega
  obtain ⟨b, off, rfl, _, _, hc, _⟩ := (hx.only ho1 (fun b hb => by simp; intro e; subst e; exact hg hb)).cell1 rfl hk rfl
  go_wp2
  go_ret
  exact ⟨_, List.getElem_mem hk, rfl, hs1, ho1⟩
set_option maxRecDepth 100000 in
set_option maxHeartbeats 2000000 in
theorem among_any (n g : Nat) (v : Value) (xs : List Int) (fp : List Nat) (w : World) (hs : SrcD n g w) (hn : n ≤ 999999999000) (hx : Sl fInt.cod w v xs fp) (hg : g ∉ fp) (h0 : 0 < xs.length) (h1 : xs.length ≤ 1000) :
    Calls Tryz.prog 79 #[.pointer (some ⟨g, 0, none⟩), v] w fun e w' => ∃ t ∈ xs, e = .returned (.int .i64 t) ∧ SrcD (n + 2) g w' ∧ Only [g] w w' := by
  obtain ⟨A, cap, rfl, hle, hca⟩ := hx.form
  go_enter Tryz.func79, Tryz.ntmps79
  go_wp2_with fail
  refine (pick_any n g _ _ hs hn (by omega)).mono ?_
  rintro e w1 ⟨r, rfl, ⟨hr0, hr1, _⟩, hs1, ho1⟩
  have hr2 := hr1 (by omega)
  obtain ⟨k, rfl⟩ : ∃ k : Nat, r = k := ⟨r.toNat, by omega⟩
  have hk : k < xs.length := by omega
  obtain ⟨b, off, rfl, _, _, hc, _⟩ := (hx.only ho1 (fun b hb => by simp; intro e; subst e; exact hg hb)).cell1 rfl hk rfl
  go_wp2
  go_ret
  exact ⟨_, List.getElem_mem hk, rfl, hs1, ho1⟩
set_option maxRecDepth 100000 in
set_option maxHeartbeats 2000000 in
theorem l00From_any (v : Value) (xs : List UInt8) (fp : List Nat) (w : World) (hx : Sl fByte.cod w v xs fp) :
    Calls Tryz.prog 41 #[v] w fun e w' => e = .returned (.pointer (some ⟨w.heap.size, 0, none⟩)) ∧ SrcD 0 w.heap.size w' ∧ Below w.heap.size w w' := by
  obtain ⟨A, cap, rfl, hlen, hcap⟩ := hx.form
  have hB : ∀ T, Below w.heap.size w (w.alloc (.cells #[.slice A xs.length cap, .int .i64 0, .int .u64 0] T)) := fun T => (Below.refl _ _).alloc (Nat.le_refl _) _
  have hlt := hx.lt
  go_enter Tryz.func41, Tryz.ntmps41
  go_wp2
  go_ret
  exact ⟨rfl, ⟨_, xs, fp, 0, 0, by simp, by simp, by simp, World.frozen?_alloc_at _ _ _ _ rfl, World.frozen?_alloc_at _ _ _ _ rfl, Nat.le_refl _, hx.below' (hB _), hlt⟩, hB _⟩
theorem slLit (V : World) (T : TypeId) (xs : List ByteArray) (cs : Array Value) (hcs : cs = (xs.flatMap fStr.enc).toArray) (hok : ∀ x ∈ xs, x.size ≤ 1000) (hne : 0 < xs.length) (hm : xs.length ≤ 1000) (k m : Nat) (hk : k = V.heap.size) (hn : m = xs.length) :
    Sl fStr.cod (V.alloc (.cells cs T)) (.slice (some ⟨k, 0, none⟩) m m) xs [k] := by
  subst hk hn
  exact Sl.lit2 (E := fStr) V xs T cs hcs (fun x hx => by have := hok x hx; show _ ≤ _; omega) hne (by omega)
theorem slLitI (V : World) (T : TypeId) (xs : List Int) (cs : Array Value) (hcs : cs = (xs.flatMap fInt.enc).toArray) (hok : ∀ x ∈ xs, -9223372036854775808 ≤ x ∧ x ≤ 9223372036854775807) (hne : 0 < xs.length) (hm : xs.length ≤ 1000) (k m : Nat) (hk : k = V.heap.size) (hn : m = xs.length) :
    Sl fInt.cod (V.alloc (.cells cs T)) (.slice (some ⟨k, 0, none⟩) m m) xs [k] := by
  subst hk hn
  exact Sl.lit2 (E := fInt) V xs T cs hcs hok hne (by omega)

end Go.Proofs.YtgnbhcgagdfaiaaGreatDoor

namespace Go.Proofs.YtgnbhcgagdfaiaaGreatDoor
open Go.RowKit
set_option linter.unusedVariables false

structure RgE where
  id : ByteArray
  lv : Int
  near : List ByteArray
  A : Option Addr
  c : Nat
namespace RgE
def v (e : RgE) : Value := .slice e.A e.near.length e.c
def dat (e : RgE) : DRegion := ⟨e.id, e.lv, e.near⟩
end RgE
def fRg : Flat RgE where
  n := 3
  enc := fun e => [.string e.id, .int .i64 e.lv, e.v]
  ok := fun _ => True
  pos := by omega
  len := fun _ => rfl
  one := by
    intro x v hv
    simp only [List.mem_cons, List.not_mem_nil, or_false] at hv
    rcases hv with rfl | rfl | rfl <;> rfl
structure RgOk (e : RgE) : Prop where
  id : e.id.size ≤ 100
  lv : 0 ≤ e.lv ∧ e.lv ≤ 6
  near : ∀ s ∈ e.near, s.size ≤ 100
structure RgS (w : World) (B : Nat) (v : Value) (L : List RgE) : Prop where
  own : Own fRg w B 63 v L
  row : ∀ (i : Nat) (e : RgE), L[i]? = some e → Own fStr w B 9 e.v e.near
  sep : ∀ (i j : Nat) (a b : RgE), L[i]? = some a → L[j]? = some b → i ≠ j → ∀ g, a.v.ownBlock = some g → b.v.ownBlock ≠ some g
  ap : ∀ (i : Nat) (e : RgE), L[i]? = some e → ∀ g, e.v.ownBlock = some g → v.ownBlock ≠ some g
  ok : ∀ e ∈ L, RgOk e
section
variable {w w' u : World} {B n : Nat} {v v' : Value} {L : List RgE}
theorem RgS.below (h : RgS w B v L) (hb : Below w.heap.size w w') : RgS w' B v L :=
  ⟨h.own.below hb, fun i e hi => (h.row i e hi).below hb, h.sep, h.ap, h.ok⟩
theorem RgS.only {fp : List Nat} (h : RgS w B v L) (hb : Only fp w w') (hn : ∀ g ∈ fp, g < B) : RgS w' B v L :=
  ⟨h.own.only hb hn, fun i e hi => (h.row i e hi).only hb hn, h.sep, h.ap, h.ok⟩
theorem RgS.nil (h : Own fRg w B 63 v []) : RgS w B v [] :=
  ⟨h, fun i e hi => by simp at hi, fun i j a b hi => by simp at hi, fun i e hi => by simp at hi, fun e he => by simp at he⟩
theorem RgS.form (h : RgS w B v L) : ∃ A cap, v = .slice A L.length cap := h.own.form
theorem RgS.gl (h : RgS w B v L) {i : Nat} {e : RgE} (hi : L[i]? = some e) {g : Nat} (hg : e.v.ownBlock = some g) : B ≤ g ∧ g < w.heap.size := own_at (h.row i e hi) hg
/-- One region more. -/
theorem RgS.push {y : RgE} (h : RgS w B v L) (hy : Own fStr w B 9 y.v y.near) (hne : ∀ (i : Nat) (e : RgE), L[i]? = some e → ∀ g, e.v.ownBlock = some g → y.v.ownBlock ≠ some g) (hvy : ∀ g, y.v.ownBlock = some g → v.ownBlock ≠ some g)
    (hok : RgOk y) (hown : Own fRg u B 63 v' (L ++ [y])) (hg : w.grownBy u v.ownBlock) (hl : v'.ownBlock = v.ownBlock ∨ v'.ownBlock = some w.heap.size) : RgS u B v' (L ++ [y]) := by
  have keep : ∀ {z : RgE}, Own fStr w B 9 z.v z.near → (∀ g, z.v.ownBlock = some g → v.ownBlock ≠ some g) → Own fStr u B 9 z.v z.near := fun hz hne => own_stays hz fun k hk hkl => hg.block k hkl (fun e => hne k hk e.symm)
  have apart : ∀ {b : Nat}, b < w.heap.size → v.ownBlock ≠ some b → v'.ownBlock ≠ some b := fun hb hne => by
    rcases hl with e | e
    · rw [e]; exact hne
    · rw [e]; intro h2; injection h2 with h2; omega
  have cases_ : ∀ {i : Nat} {e : RgE}, (L ++ [y])[i]? = some e → L[i]? = some e ∨ (i = L.length ∧ e = y) := by
    intro i e hi
    rcases Nat.lt_trichotomy i L.length with h1 | h1 | h1
    · rw [List.getElem?_append_left h1] at hi; exact .inl hi
    · rw [h1, List.getElem?_append_right (Nat.le_refl _), Nat.sub_self] at hi; simp at hi; exact .inr ⟨h1, hi.symm⟩
    · rw [List.getElem?_eq_none (by simp; omega)] at hi; cases hi
  refine ⟨hown, fun i e hi => ?_, fun i j a b hi hj hij g hga => ?_, fun i e hi g hgg => ?_, fun e he => ?_⟩
  · rcases cases_ hi with h1 | ⟨_, rfl⟩
    · exact keep (h.row i e h1) (h.ap i e h1)
    · exact keep hy hvy
  · rcases cases_ hi with h1 | ⟨e1, rfl⟩ <;> rcases cases_ hj with h2 | ⟨e2, rfl⟩
    · exact h.sep i j a b h1 h2 hij g hga
    · exact hne i a h1 g hga
    · intro e3; exact hne j b h2 g e3 hga
    · omega
  · rcases cases_ hi with h1 | ⟨_, rfl⟩
    · exact apart (h.gl h1 hgg).2 (h.ap i e h1 g hgg)
    · exact apart (own_at hy hgg).2 (hvy g hgg)
  · rcases List.mem_append.1 he with he | he
    · exact h.ok e he
    · rw [List.mem_singleton] at he; subst he; exact hok
theorem RgS.cell {g cap n : Nat} (h : RgS w B (.slice (some ⟨g, 0, none⟩) n cap) L) {i : Nat} (hi : i < L.length) :
    w.cell? ⟨g, i * 3, none⟩ = some (.string L[i].id) ∧ w.cell? ⟨g, i * 3 + 1, none⟩ = some (.int .i64 L[i].lv) ∧ w.cell? ⟨g, i * 3 + 2, none⟩ = some L[i].v ∧ (∀ j, w.frozen? ⟨g, j, none⟩ = false) ∧ B ≤ g ∧ g < w.heap.size :=
  ⟨h.own.cellF hi (j := 0) (by decide) rfl, h.own.cellF hi (j := 1) (by decide) rfl, h.own.cellF hi (j := 2) (by decide) rfl, fun j => h.own.frozenF j, own_at h.own rfl⟩
theorem set_cases {i m : Nat} {y e : RgE} (hm : m < L.length) (hi : (L.set m y)[i]? = some e) : (i = m ∧ e = y) ∨ (i ≠ m ∧ L[i]? = some e) := by
  by_cases h : i = m
  · subst h; rw [List.getElem?_set_self hm] at hi; injection hi with hi; exact .inl ⟨rfl, hi.symm⟩
  · rw [List.getElem?_set_ne (Ne.symm h)] at hi; exact .inr ⟨h, hi⟩
theorem set_mem {m : Nat} {y e : RgE} (he : e ∈ L.set m y) : e = y ∨ e ∈ L := (List.mem_or_eq_of_mem_set he).symm
theorem RgS.cellE {g cap n : Nat} (h : RgS w B (.slice (some ⟨g, 0, none⟩) n cap) L) {i : Nat} {e : RgE} (he : L[i]? = some e) :
    w.cell? ⟨g, i * 3, none⟩ = some (.string e.id) ∧ w.cell? ⟨g, i * 3 + 1, none⟩ = some (.int .i64 e.lv) ∧ w.cell? ⟨g, i * 3 + 2, none⟩ = some (.slice e.A e.near.length e.c) ∧ (∀ j, w.frozen? ⟨g, j, none⟩ = false) ∧ B ≤ g ∧ g < w.heap.size := by
  obtain ⟨hi, rfl⟩ := List.getElem?_eq_some_iff.1 he
  exact h.cell hi
/-- The level of a region. -/
theorem RgS.setLv {g cap n m : Nat} {e0 : RgE} (h : RgS w B (.slice (some ⟨g, 0, none⟩) n cap) L) (hm' : L[m]? = some e0) (t : Int) (ht : 0 ≤ t ∧ t ≤ 6) :
    RgS (w.setCell ⟨g, m * 3 + 1, none⟩ (.int .i64 t)) B (.slice (some ⟨g, 0, none⟩) n cap) (L.set m ⟨e0.id, t, e0.near, e0.A, e0.c⟩) := by
  obtain ⟨hm, he0⟩ := List.getElem?_eq_some_iff.1 hm'
  have hset : ∀ k, k < w.heap.size → k ≠ g → (w.setCell ⟨g, m * 3 + 1, none⟩ (.int .i64 t)).heap[k]? = w.heap[k]? := fun k hkl hk => ((Only.refl [g] w).set _ _).block k hkl (by rw [List.mem_singleton]; exact hk)
  have hrow : ∀ (i : Nat) (e : RgE), L[i]? = some e → Own fStr (w.setCell ⟨g, m * 3 + 1, none⟩ (.int .i64 t)) B 9 e.v e.near := fun i e hi =>
    own_stays (h.row i e hi) (fun k hk hkl => hset k hkl (fun e2 => h.ap i e hi k hk (by rw [e2]; rfl)))
  refine ⟨h.own.setF hm 1 (by decide) _ _ (by rw [he0]; rfl), fun i e hi => ?_, fun i j a b hi hj hij q hq => ?_, fun i e hi q hq => ?_, fun e he => ?_⟩
  · rcases set_cases hm hi with ⟨rfl, rfl⟩ | ⟨_, h1⟩
    · exact hrow _ e0 hm'
    · exact hrow i e h1
  · rcases set_cases hm hi with ⟨rfl, rfl⟩ | ⟨n1, h1⟩ <;> rcases set_cases hm hj with ⟨rfl, rfl⟩ | ⟨n2, h2⟩
    · exact absurd rfl hij
    · exact h.sep _ j _ b hm' h2 hij q hq
    · exact h.sep i _ a _ h1 hm' hij q hq
    · exact h.sep i j a b h1 h2 hij q hq
  · rcases set_cases hm hi with ⟨rfl, rfl⟩ | ⟨_, h1⟩
    · exact h.ap _ _ hm' q hq
    · exact h.ap i e h1 q hq
  · rcases set_mem he with rfl | he
    · have h0 := h.ok e0 (List.mem_of_getElem? hm')
      exact ⟨h0.id, ht, h0.near⟩
    · exact h.ok e he
/-- The names of a region grow: the row went to y, in the world u; its place is stored. -/
theorem RgS.grow {g cap n m : Nat} {e0 : RgE} {s : ByteArray} {A : Option Addr} {c : Nat} (h : RgS w B (.slice (some ⟨g, 0, none⟩) n cap) L) (hm' : L[m]? = some e0) (hs : s.size ≤ 100) (hy : Own fStr u B 9 (.slice A (e0.near ++ [s]).length c) (e0.near ++ [s]))
    (hg : w.grownBy u e0.v.ownBlock) (hl : (Value.slice A (e0.near ++ [s]).length c).ownBlock = e0.v.ownBlock ∨ (Value.slice A (e0.near ++ [s]).length c).ownBlock = some w.heap.size) :
    RgS (u.setCell ⟨g, m * 3 + 2, none⟩ (.slice A (e0.near ++ [s]).length c)) B (.slice (some ⟨g, 0, none⟩) n cap) (L.set m ⟨e0.id, e0.lv, e0.near ++ [s], A, c⟩) := by
  obtain ⟨hm, he0⟩ := List.getElem?_eq_some_iff.1 hm'
  obtain ⟨y, hyd⟩ : ∃ y : RgE, y = ⟨e0.id, e0.lv, e0.near ++ [s], A, c⟩ := ⟨_, rfl⟩
  have hyv : Value.slice A (e0.near ++ [s]).length c = y.v := by rw [hyd]; rfl
  have hyn : e0.near ++ [s] = y.near := by rw [hyd]
  have hyi : y.id = e0.id := by rw [hyd]
  have hyl : y.lv = e0.lv := by rw [hyd]
  rw [hyv] at hy hl ⊢
  rw [hyn] at hy
  rw [← hyd]
  obtain ⟨hgB, hgl⟩ := own_at h.own (g := g) rfl
  have hgn : ∀ (i : Nat) (e : RgE), L[i]? = some e → e.v.ownBlock ≠ some g := fun i e hi h2 => h.ap i e hi g h2 rfl
  have hgu : u.heap[g]? = w.heap[g]? := hg.block g hgl (fun e => hgn m _ hm' e.symm)
  have hgy : y.v.ownBlock ≠ some g := by
    rcases hl with e | e
    · rw [e]; exact hgn m _ hm'
    · rw [e]; intro e2; injection e2 with e2; omega
  have hset : ∀ k, k < u.heap.size → k ≠ g → (u.setCell ⟨g, m * 3 + 2, none⟩ y.v).heap[k]? = u.heap[k]? := fun k hkl hk => ((Only.refl [g] u).set _ _).block k hkl (by rw [List.mem_singleton]; exact hk)
  have hown : Own fRg u B 63 (.slice (some ⟨g, 0, none⟩) n cap) L := own_stays h.own (fun k hk hkl => by injection hk with hk; have hk : g = k := hk; subst hk; exact hgu)
  have hyo : Own fStr (u.setCell ⟨g, m * 3 + 2, none⟩ y.v) B 9 y.v y.near := own_stays hy (fun k hk hkl => hset k hkl (fun e => hgy (by rw [← e]; exact hk)))
  have far : ∀ (i : Nat) (e : RgE), L[i]? = some e → i ≠ m → ∀ q, e.v.ownBlock = some q → y.v.ownBlock ≠ some q := fun i e hi hne q hq h2 => by
    rcases hl with e1 | e1
    · rw [e1] at h2; exact h.sep i m e _ hi hm' hne q hq h2
    · rw [e1] at h2; injection h2 with h2; have := (h.gl hi hq).2; omega
  refine ⟨hown.setF hm 2 (by decide) y y.v (by rw [he0]; show [Value.string y.id, _, _] = _; rw [hyi, hyl]; rfl), fun i e hi => ?_, fun i j a b hi hj hij q hq => ?_, fun i e hi q hq => ?_, fun e he => ?_⟩
  · rcases set_cases hm hi with ⟨rfl, rfl⟩ | ⟨hne, h1⟩
    · exact hyo
    · have h2 : Own fStr u B 9 e.v e.near := own_stays (h.row i e h1) (fun k hk hkl => hg.block k hkl (fun e2 => h.sep i m e _ h1 hm' hne k hk e2.symm))
      exact own_stays h2 (fun k hk hkl => hset k hkl (fun e2 => hgn i e h1 (by rw [← e2]; exact hk)))
  · rcases set_cases hm hi with ⟨rfl, rfl⟩ | ⟨n1, h1⟩ <;> rcases set_cases hm hj with ⟨rfl, rfl⟩ | ⟨n2, h2⟩
    · exact absurd rfl hij
    · intro e; exact far j b h2 n2 q e hq
    · exact far i a h1 n1 q hq
    · exact h.sep i j a b h1 h2 hij q hq
  · show some g ≠ some q
    rcases set_cases hm hi with ⟨rfl, rfl⟩ | ⟨_, h1⟩
    · intro e; injection e with e; subst e; exact hgy hq
    · intro e; injection e with e; subst e; exact hgn i e h1 hq
  · rcases set_mem he with rfl | he
    · have h0 := h.ok e0 (List.mem_of_getElem? hm')
      exact ⟨by rw [hyi]; exact h0.id, by rw [hyl]; exact h0.lv, fun q hq => by
        rw [← hyn] at hq
        rcases List.mem_append.1 hq with hq | hq
        · exact h0.near q hq
        · rw [List.mem_singleton] at hq; subst hq; exact hs⟩
    · exact h.ok e he
/-- A new block is none of the row's. -/
structure Fresh (v : Value) (L : List RgE) (k : Nat) : Prop where
  own : v.ownBlock ≠ some k
  row : ∀ (i : Nat) (e : RgE), L[i]? = some e → ∀ g, e.v.ownBlock = some g → g ≠ k
theorem RgS.fresh (h : RgS w B v L) {k : Nat} (hk : w.heap.size ≤ k) : Fresh v L k :=
  ⟨fun e => by have := (own_at h.own e).2; omega, fun i e hi g hg => by have := (h.gl hi hg).2; omega⟩
/-- What the row reads as. -/
theorem RgS.sl (h : RgS w B v L) : ∃ fp, Sl cRegion w v (L.map RgE.dat) fp := by
  have hrow : ∀ i : Nat, ∃ fp, ∀ h : i < L.length, Sl fStr.cod w L[i].v L[i].near fp := fun i => by
    by_cases hi : i < L.length
    · obtain ⟨fp, h1, _⟩ := own_fp (h.row i L[i] (List.getElem?_eq_getElem hi)) (fun x hx => by have := (h.ok L[i] (List.getElem_mem hi)).near x hx; show _ ≤ _; omega)
      exact ⟨fp, fun _ => h1⟩
    · exact ⟨[], fun h => absurd h hi⟩
  rcases h.own.2 with ⟨rfl, h0⟩ | ⟨g, cap, cur, rfl, hgB, hh, hle, hcap, _⟩
  · obtain rfl := List.eq_nil_of_length_eq_zero h0
    exact ⟨[], none, 0, rfl, by simp, by simp [maxLen], .inl ⟨rfl, rfl⟩⟩
  · rcases Nat.eq_zero_or_pos L.length with h0 | h0
    · obtain rfl := List.eq_nil_of_length_eq_zero h0
      exact ⟨[], _, cap, rfl, hle, hcap, .inl ⟨rfl, rfl⟩⟩
    · skip
      have hg := own_at h.own (g := g) rfl
      have hc := fun i (hi : i < L.length) => h.cell hi
      refine ⟨g :: (List.range (L.map RgE.dat).length).flatMap fun i => Classical.choose (hrow i), _, cap, by rw [List.length_map], by rw [List.length_map]; exact hle, hcap, .inr ⟨g, 0, fun i => Classical.choose (hrow i), rfl, hg.2, rfl, fun i hi => ?_⟩⟩
      rw [List.length_map] at hi
      obtain ⟨c0, c1, c2, z, _⟩ := hc i hi
      have h0 := h.ok L[i] (List.getElem_mem hi)
      refine ⟨[.string L[i].id, .int .i64 L[i].lv, L[i].v], fun j hj => ?_, fun j hj => z _, ?_⟩
      · rw [Nat.zero_add]
        match j, hj with
        | 0, _ => exact c0
        | 1, _ => exact c1
        | 2, _ => exact c2
      · rw [List.getElem_map]
        exact ⟨L[i].v, rfl, by have := h0.id; show _ ≤ _; show L[i].id.size ≤ _; omega, by have := h0.lv; show _ ∧ _; show _ ≤ L[i].lv ∧ L[i].lv ≤ _; omega, L[i].v, rfl, Classical.choose_spec (hrow i) hi⟩
end
end Go.Proofs.YtgnbhcgagdfaiaaGreatDoor

namespace Go.Proofs.YtgnbhcgagdfaiaaGreatDoor
open Go.RowKit
section
variable {P : Program} {ops : Array Oper} {Q : Exit → Act → World → Prop} {md : Region.Mode} {C : World → Prop} {t : Nat}

/-- Whichever comes up: behind each but number 't' the class holds. -/
def wpSink (P : Program) (md : Region.Mode) (ops : Array Oper) (Q : Exit → Act → World → Prop) (C : World → Prop) (t : Nat) : Nat → Array Bool → Act → World → Prop
  | 0, L, a, w => Region.ready md ops L = [] ∧ Q .normal a w
  | n + 1, L, a, w => (Region.ready md ops L = [] → Q .normal a w) ∧ ∀ i, i ∈ Region.ready md ops L → wpOp P ops Q i (fun b v => (i ≠ t → C v) ∧ wpSink P md ops Q C t n (L.setIfInBounds i true) b v) a w
theorem any_of_sink : ∀ (n : Nat) (L : Array Bool) (a : Act) (w : World), wpSink P md ops Q C t n L a w → wpAny P md ops Q n L a w
  | 0, _, _, _, h => h
  | n + 1, _, _, _, h => And.intro h.1 fun i hi => wpOp_mono (fun b v g => any_of_sink n _ b v g.2) (h.2 i hi)
/-- Does number 't' wait for number 'i'? -/
def waitsOn (md : Region.Mode) (ops : Array Oper) (t i : Nat) : Bool := match ops[t]? with | some o => o.after.any (fun e => Region.binds md e && e.on == i) | none => false
theorem waitsOn_not {i : Nat} {L : Array Bool} (hw : waitsOn md ops t i = true) (hi : L.getD i true = false) : t ∉ Region.ready md ops L := by
  intro ht
  obtain ⟨_, o, ho, hall⟩ := mem_ready.1 ht
  unfold waitsOn at hw
  rw [ho] at hw
  simp only at hw
  obtain ⟨e, he, hb⟩ := Array.any_eq_true'.1 hw
  simp only [Bool.and_eq_true, beq_iff_eq] at hb
  have h1 := hall e he hb.1
  rw [hb.2] at h1
  rcases Nat.lt_or_ge i L.size with h' | h'
  · simp [h'] at hi h1; rw [hi] at h1; cases h1
  · simp [Array.getElem?_eq_none h'] at h1
/-- Does number 't' wait for number 'i', or for one that is not listed yet and that waits for 'i'? -/
def waitsBy (md : Region.Mode) (ops : Array Oper) (t i : Nat) (L : Array Bool) : Bool := waitsOn md ops t i || (List.range ops.size).any fun j => waitsOn md ops t j && waitsOn md ops j i && !(L.getD j true)
theorem waitsBy_not {i : Nat} {L : Array Bool} (hw : waitsBy md ops t i L = true) (hi : L.getD i true = false) : t ∉ Region.ready md ops L := by
  unfold waitsBy at hw
  rw [Bool.or_eq_true] at hw
  rcases hw with hw | hw
  · exact waitsOn_not hw hi
  · obtain ⟨j, _, hj⟩ := List.any_eq_true.1 hw
    simp only [Bool.and_eq_true, Bool.not_eq_true'] at hj
    exact waitsOn_not hj.1.1 hj.2
theorem waitsBy_keep {i k : Nat} {L : Array Bool} (hw : waitsBy md ops t i L = true) (hi : L.getD i true = false) (hk : k ∈ Region.ready md ops L) : waitsBy md ops t i (L.setIfInBounds k true) = true := by
  unfold waitsBy at hw ⊢
  rw [Bool.or_eq_true] at hw ⊢
  rcases hw with hw | hw
  · exact .inl hw
  · refine .inr ?_
    obtain ⟨j, hjr, hj⟩ := List.any_eq_true.1 hw
    refine List.any_eq_true.2 ⟨j, hjr, ?_⟩
    simp only [Bool.and_eq_true, Bool.not_eq_true'] at hj ⊢
    refine ⟨hj.1, ?_⟩
    have hkj : k ≠ j := fun e => waitsOn_not (t := j) hj.1.2 hi (e ▸ hk)
    rw [getD_set_ne true hkj]
    exact hj.2
theorem sink_first {i : Nat} {o : Oper} {v : Value} (ho : ops[i]? = some o) (hs : Region.noSelect ops = true) (hit : i ≠ t)
    (hQ : ∀ c a w, Q (.panic c) (a.put o.dst v) w → Q (.panic c) a w) : ∀ (n : Nat) (L : Array Bool) (a : Act) (w : World),
      (∀ j p, ops[j]? = some p → j ≠ i → L.getD j true = false → (∀ e ∈ p.after, Region.binds md e = true → e.on ≠ i) → o.apart ops p = true) →
      waitsBy md ops t i L = true → i ∈ Region.ready md ops L → YieldsIf P ops C o v a → C w → wpSink P md ops Q C t n (L.setIfInBounds i true) (a.put o.dst v) w → wpSink P md ops Q C t (n + 1) L a w := by
  intro n
  induction n with
  | zero =>
    intro L a w _ _ hr hy hC H
    constructor
    · intro h; rw [h] at hr; exact absurd hr List.not_mem_nil
    · intro j hj
      rcases Decidable.em (j = i) with rfl | e
      · exact hy.wpOp ho hC ⟨fun _ => hC, H⟩
      · have h2 := ready_mono hj e
        rw [H.1] at h2
        exact absurd h2 List.not_mem_nil
  | succ n ih =>
    intro L a w hf hwt hr hy hC H
    constructor
    · intro h; rw [h] at hr; exact absurd hr List.not_mem_nil
    · intro j hj
      rcases Decidable.em (j = i) with rfl | e
      · exact hy.wpOp ho hC ⟨fun _ => hC, H⟩
      · have hun := (mem_ready.1 hr).1
        have hjt : j ≠ t := fun h => waitsBy_not hwt hun (h ▸ hj)
        obtain ⟨hju, p, hp, hall⟩ := mem_ready.1 hj
        have hno : ∀ e ∈ p.after, Region.binds md e = true → e.on ≠ i := fun e he hb h => by
          have h1 := hall e he hb
          rw [h] at h1
          rcases Nat.lt_or_ge i L.size with h' | h'
          · simp [h'] at hun h1; rw [hun] at h1; cases h1
          · simp [Array.getElem?_eq_none h'] at h1
        have h2 := wpOp_putIf hp (hf j p hp e hju hno) (fun cs b => Region.noSelect_spec hs i o cs b ho) (fun cs b => Region.noSelect_spec hs j p cs b hp) hQ hy (H.2 j (ready_mono hj e))
        refine wpOp_mono (fun b u g => ?_) h2
        have hCu := g.2.1 hjt
        refine ⟨fun _ => hCu, ih _ b u (fun k q hk hki hku hkn => ?_) (waitsBy_keep hwt hun hj) (ready_mono hr (Ne.symm e)) g.1 hCu ?_⟩
        · refine hf k q hk hki ?_ hkn
          rcases Decidable.em (j = k) with rfl | hjk
          · exact hju
          · rw [getD_set_ne true hjk] at hku; exact hku
        · rw [Array.setIfInBounds_comm _ _ e]
          exact g.2.2

def wpMixS (P : Program) (ops : Array Oper) (Q : Exit → Act → World → Prop) (C : World → Prop) : List Bool → List Oper → Act → World → Prop
  | _, [], a, w => Q .normal a w
  | [], _ :: _, _, _ => False
  | true :: ks, o :: l, a, w => if Region.wanted o (yielded ops a.tmps) then o.quiet P a C (fun a' => wpMixS P ops Q C ks l a' w) else wpMixS P ops Q C ks l (a.put o.dst undef) w
  | false :: ks, o :: l, a, w => if Region.wanted o (yielded ops a.tmps) then o.wp P a w (fun a' w' => (l ≠ [] → C w') ∧ wpMixS P ops Q C ks l a' w') Q else wpMixS P ops Q C ks l (a.put o.dst undef) w
def mixSB (md : Region.Mode) (ops : Array Oper) (t : Nat) : List Nat → List Bool → Array Bool → Bool
  | [], _, L => (Region.ready md ops L).isEmpty
  | i :: is, true :: ks, L => (Region.ready md ops L).contains i && Region.free md ops L i && ((ops[i]?).map valueOnly).getD false && !(i == t) && waitsBy md ops t i L && mixSB md ops t is ks (L.setIfInBounds i true)
  | i :: is, false :: ks, L => (Region.ready md ops L == [i]) && (is.isEmpty == (i == t)) && mixSB md ops t is ks (L.setIfInBounds i true)
  | _ :: _, [], _ => false
theorem sink_of_mix (hs : Region.noSelect ops = true) (hQ : ∀ (c : _) (a : Act) (d : Option Tmp) (v : Value) (w : World), Q (.panic c) (a.put d v) w → Q (.panic c) a w) :
    ∀ (is : List Nat) (ks : List Bool) (l : List Oper) (L : Array Bool) (a : Act) (w : World), (∀ j : Nat, l[j]? = (is[j]?).bind (fun i => ops[i]?)) → l.length = is.length →
      mixSB md ops t is ks L = true → (l ≠ [] → C w) → wpMixS P ops Q C ks l a w → wpSink P md ops Q C t is.length L a w := by
  intro is
  induction is with
  | nil =>
    intro ks l L a w _ hn hB _ h
    obtain rfl : l = [] := List.eq_nil_of_length_eq_zero hn
    have h' : Q .normal a w := by cases ks <;> exact h
    exact ⟨by simpa [mixSB] using hB, h'⟩
  | cons i is ih =>
    intro ks l L a w hl hn hB hC h
    cases l with
    | nil => simp at hn
    | cons o l =>
      have hC := hC (by simp)
      have ho : ops[i]? = some o := by simpa using (hl 0).symm
      have hl' : ∀ j : Nat, l[j]? = (is[j]?).bind (fun i => ops[i]?) := fun j => by simpa using hl (j + 1)
      have hn' : l.length = is.length := by simpa using hn
      cases ks with
      | nil => simp [mixSB] at hB
      | cons k ks =>
        cases k with
        | true =>
          simp only [mixSB, Bool.and_eq_true, ho, Option.map_some, Option.getD_some, Bool.not_eq_true', beq_eq_false_iff_ne] at hB
          obtain ⟨⟨⟨⟨⟨hr, hf⟩, hv⟩, hit⟩, hwt⟩, hB'⟩ := hB
          simp only [wpMixS] at h
          have hr' : i ∈ Region.ready md ops L := by simpa using hr
          by_cases hw : Region.wanted o (yielded ops a.tmps) = true
          · rw [if_pos hw] at h
            obtain ⟨v, h1, h2⟩ := yieldsIf_of_quiet hv h
            exact sink_first ho hs hit (fun c a w => hQ c a _ _ w) _ L a w (Region.free_spec ho hf) hwt hr' (.inl ⟨hw, h1⟩) hC (ih ks l _ _ w hl' hn' hB' (fun _ => hC) h2)
          · rw [if_neg hw] at h
            exact sink_first ho hs hit (fun c a w => hQ c a _ _ w) _ L a w (Region.free_spec ho hf) hwt hr' (.inr ⟨by simpa using hw, rfl⟩) hC (ih ks l _ _ w hl' hn' hB' (fun _ => hC) h)
        | false =>
          simp only [mixSB, Bool.and_eq_true, beq_iff_eq] at hB
          obtain ⟨⟨hr, he⟩, hB'⟩ := hB
          simp only [wpMixS] at h
          have hlt : i ≠ t → l ≠ [] := fun hne hl0 => by
            subst hl0
            have : is = [] := List.eq_nil_of_length_eq_zero hn'.symm
            rw [this] at he
            exact hne (by simpa using he.symm)
          refine ⟨fun h0 => by rw [h0] at hr; simp at hr, fun j hj => ?_⟩
          rw [hr, List.mem_singleton] at hj
          subst hj
          unfold wpOp
          simp only [ho]
          by_cases hw : Region.wanted o (yielded ops a.tmps) = true
          · rw [if_pos hw] at h ⊢
            exact .inl (Oper.wp_mono (fun a' w' hh => ⟨fun hne => hh.1 (hlt hne), ih ks l _ a' w' hl' hn' hB' hh.1 hh.2⟩) h)
          · rw [if_neg hw] at h ⊢
            exact ⟨fun _ => hC, ih ks l _ _ w hl' hn' hB' (fun _ => hC) h⟩
structure MixS (P : Program) (ops : Array Oper) (Q : Exit → Act → World → Prop) (C : World → Prop) (ks : List Bool) (l : List Oper) (a : Act) (w : World) : Prop where
  out : wpMixS P ops Q C ks l a w
theorem wp_region_sink {id : Nat} {l : List Oper} {a : Act} {w : World} (is : List Nat) (ks : List Bool) (t : Nat) (hm : P.follows .mixedOrders = true) (hs : Region.noSelect l.toArray = true)
    (hB : (is.all (fun i => decide (i < l.length)) && decide (is.length = l.length) && mixSB .any l.toArray t is ks (Array.replicate l.length false)) = true)
    (hQ : ∀ (c : _) (a : Act) (d : Option Tmp) (v : Value) (w : World), Q (.panic c) (a.put d v) w → Q (.panic c) a w) (hC : C w.drew) (h : MixS P l.toArray Q C ks (is.map fun i => l.getD i default) a w.drew) : (Code.region id l.toArray true).wp P Q a w := by
  simp only [Bool.and_eq_true, decide_eq_true_eq, List.all_eq_true] at hB
  obtain ⟨⟨h1, h2⟩, h3⟩ := hB
  refine wp_region_any hm (any_of_sink (C := C) (t := t) _ _ _ _ ?_)
  have := sink_of_mix (md := .any) hs hQ is ks (is.map fun i => l.getD i default) (Array.replicate l.length false) a w.drew (fun j => by
    rw [List.getElem?_map]
    cases hj : is[j]? with
    | none => rfl
    | some i =>
      have hi := h1 i (List.mem_of_getElem? hj)
      simp [hi, List.getD_eq_getElem?_getD]) (by simp) h3 (fun _ => hC) h.out
  rw [h2] at this
  simpa using this
theorem wpMixS_pure {ks : List Bool} {o : Oper} {l : List Oper} {a : Act} {w : World} (hw : Region.wanted o (yielded ops a.tmps) = true)
    (h : ∀ K : Act → Prop, (∀ a', MixS P ops Q C ks l a' w → K a') → o.quiet P a C K) : MixS P ops Q C (true :: ks) (o :: l) a w := by
  refine ⟨?_⟩
  simp only [wpMixS]; rw [if_pos hw]; exact h _ fun _ h => h.out
theorem wpMixS_skip {k : Bool} {ks : List Bool} {o : Oper} {l : List Oper} {a : Act} {w : World} (hw : Region.wanted o (yielded ops a.tmps) = false)
    (h : ∀ K : Act → Prop, (∀ a', MixS P ops Q C ks l a' w → K a') → K (a.put o.dst undef)) : MixS P ops Q C (k :: ks) (o :: l) a w := by
  have h' : wpMixS P ops Q C ks l (a.put o.dst undef) w := h _ fun _ h => h.out
  refine ⟨?_⟩
  cases k <;> (simp only [wpMixS]; rw [if_neg (by rw [hw]; exact Bool.false_ne_true)]; exact h')
theorem wpMixS_act {ks : List Bool} {o : Oper} {l : List Oper} {a : Act} {w : World} (hw : Region.wanted o (yielded ops a.tmps) = true)
    (h : ∀ K : Act → World → Prop, (∀ a' w', C w' → MixS P ops Q C ks l a' w' → K a' w') → o.wp P a w K Q) : MixS P ops Q C (false :: ks) (o :: l) a w := by
  refine ⟨?_⟩
  simp only [wpMixS]; rw [if_pos hw]; exact h _ fun _ _ hc h => ⟨fun _ => hc, h.out⟩
theorem wpMixS_last {ks : List Bool} {o : Oper} {a : Act} {w : World} (hw : Region.wanted o (yielded ops a.tmps) = true)
    (h : ∀ K : Act → World → Prop, (∀ a' w', Q .normal a' w' → K a' w') → o.wp P a w K Q) : MixS P ops Q C (false :: ks) [o] a w := by
  refine ⟨?_⟩
  simp only [wpMixS]; rw [if_pos hw]; exact h _ fun _ _ hq => ⟨fun h0 => absurd rfl h0, by cases ks <;> exact hq⟩
theorem mixS_world {ks : List Bool} {l : List Oper} {a : Act} {w : World} (X : World → Prop) (hX : X w) (h : ∀ N, X N → MixS P ops Q C ks l a N) : MixS P ops Q C ks l a w := h w hX
end
end Go.Proofs.YtgnbhcgagdfaiaaGreatDoor

namespace Go.Proofs.YtgnbhcgagdfaiaaGreatDoor
open Go.RowKit
set_option linter.unusedVariables false

def regL : List ByteArray := [⟨#[101, 97, 115, 116]⟩, ⟨#[108, 97, 107, 101]⟩, ⟨#[110, 111, 114, 116, 104]⟩, ⟨#[114, 105, 100, 103, 101]⟩, ⟨#[115, 111, 117, 116, 104]⟩, ⟨#[119, 101, 115, 116]⟩]
theorem infoRegD : (Tryz.prog.info? 63).map (fun i => (i.zero, i.size, i.bytes)) = some (some (.agg #[.string ⟨#[]⟩, .int .i64 0, .slice none 0 0]), 3, 48) := by kernel_rfl
theorem infoStrG : (Tryz.prog.info? 9).map (fun i => (i.zero, i.size, i.bytes)) = some (some (.string ⟨#[]⟩), 1, 16) := by kernel_rfl
structure CeG (w : World) (b o : Nat) (v : Value) : Prop where
  c : w.cell? ⟨b, o, none⟩ = some v
theorem CeG.lt {w : World} {b o : Nat} {v : Value} (h : CeG w b o v) : b < w.heap.size := block_lt_of_cell h.c
theorem CeG.below' {w w' : World} {b o : Nat} {v : Value} (h : CeG w b o v) (hb : Below w.heap.size w w') : CeG w' b o v := ⟨(hb.cell (p := ⟨b, o, none⟩) h.lt).trans h.c⟩
theorem CeG.belowB {w w' : World} {b o B : Nat} {v : Value} (h : CeG w b o v) (hb : Below B w w') (hB : b < B) : CeG w' b o v := ⟨(hb.cell (p := ⟨b, o, none⟩) hB).trans h.c⟩
theorem CeG.only {w w' : World} {b o g : Nat} {v : Value} (h : CeG w b o v) (hb : Only [g] w w') (hB : b ≠ g) : CeG w' b o v := ⟨(hb.cell (p := ⟨b, o, none⟩) h.lt (by simpa using hB)).trans h.c⟩
theorem CeG.grown {w u : World} {b o : Nat} {v : Value} {q : Option Nat} (h : CeG w b o v) (hg : w.grownBy u q) (hB : q ≠ some b) : CeG u b o v := ⟨(World.cell?_of_block (a := ⟨b, o, none⟩) (hg.block b h.lt (fun e => hB e.symm))).trans h.c⟩
structure NmD (w : World) (b : Nat) : Prop where
  c : ∀ (j : Nat) (h : j < 6), CeG w b j (.string (regL[j]'(by simpa [regL] using h)))
theorem NmD.lt {w : World} {b : Nat} (h : NmD w b) : b < w.heap.size := (h.c 0 (by decide)).lt
theorem NmD.only {w w' : World} {b g : Nat} (h : NmD w b) (hb : Only [g] w w') (hB : b ≠ g) : NmD w' b := ⟨fun j hj => (h.c j hj).only hb hB⟩
theorem NmD.belowB {w w' : World} {b B : Nat} (h : NmD w b) (hb : Below B w w') (hB : b < B) : NmD w' b := ⟨fun j hj => (h.c j hj).belowB hb hB⟩
theorem regL_size {j : Nat} (h : j < 6) : (regL[j]'(by simpa [regL] using h)).size ≤ 100 := by
  have : ∀ x ∈ regL, x.size ≤ 100 := by decide
  exact this _ (List.getElem_mem _)
theorem RgS.addr {w : World} {B n cap : Nat} {A : Option Addr} {L : List RgE} (h : RgS w B (.slice A n cap) L) (h0 : 0 < L.length) : ∃ g, A = some ⟨g, 0, none⟩ ∧ B ≤ g ∧ g < w.heap.size := by
  rcases h.own.2 with ⟨_, h1⟩ | ⟨g, cap', cur, hv, _⟩
  · omega
  · injection hv with e1 _ e2
    subst e1
    exact ⟨g, rfl, own_at h.own rfl⟩
theorem RgS.nearA {w : World} {B n cap : Nat} {g m : Nat} {A : Option Addr} {L : List RgE} (h : RgS w B (.slice A n cap) L) (hA : A = some ⟨g, 0, none⟩) (hm : m < L.length) : L[m].v.ownBlock ≠ some g := by
  subst hA
  intro e
  exact h.ap m L[m] (List.getElem?_eq_getElem hm) g e rfl
theorem near_set {L : List RgE} {M m : Nat} {y : RgE} (h : ∀ e ∈ L, e.near.length ≤ M) (hy : y.near.length ≤ M + 1) : ∀ e ∈ L.set m y, e.near.length ≤ M + 1 := fun e he => by
  rcases set_mem he with rfl | he
  · exact hy
  · have := h e he; omega
theorem only_below {g B : Nat} {w a b : World} (h : Only [g] w a) (k : Below B a b) (hB : w.heap.size ≤ B) : Only [g] w b := h.then (k.mono hB)
structure Ce2 (w : World) (b o1 : Nat) (v1 : Value) (o2 : Nat) (v2 : Value) : Prop where
  p : CeG w b o1 v1
  q : CeG w b o2 v2
theorem Ce2.below' {w w' : World} {b o1 o2 : Nat} {v1 v2 : Value} (h : Ce2 w b o1 v1 o2 v2) (hb : Below w.heap.size w w') : Ce2 w' b o1 v1 o2 v2 := ⟨h.p.below' hb, h.q.below' hb⟩
theorem Ce2.grown {w u : World} {b o1 o2 : Nat} {v1 v2 : Value} {q : Option Nat} (h : Ce2 w b o1 v1 o2 v2) (hg : w.grownBy u q) (hB : q ≠ some b) : Ce2 u b o1 v1 o2 v2 := ⟨h.p.grown hg hB, h.q.grown hg hB⟩
set_option maxRecDepth 100000 in
set_option maxHeartbeats 16000000 in
theorem l18DrawOk_any (n g : Nat) (w : World) (hs : SrcD n g w) (hn : n ≤ 999999970000) :
    Calls Tryz.prog 88 #[.pointer (some ⟨g, 0, none⟩)] w fun e w' => ∃ (v : Value) (L : List RgE), e = .returned v ∧ RgS w' (w.heap.size + 1) v L ∧ L.length ≤ 6 ∧ (∀ e ∈ L, e.near.length ≤ 100) ∧ SrcD (n + 300) g w' ∧ Only [g] w w' := by
  have hg := hs.lt
  have hgB : ∀ b ∈ [g], b < w.heap.size + 1 := by intro b hb; rw [List.mem_singleton] at hb; omega
  have hgb : w.heap.size ≠ g := by omega
  obtain ⟨i0, hi, hz0, hz1, hz2⟩ := info_parts infoRegD
  obtain ⟨j0, hj, hy0, hy1, hy2⟩ := info_parts infoStrG
  have hB1 : Below w.heap.size w (w.alloc (.cells #[.string ⟨#[101, 97, 115, 116]⟩, .string ⟨#[108, 97, 107, 101]⟩, .string ⟨#[110, 111, 114, 116, 104]⟩, .string ⟨#[114, 105, 100, 103, 101]⟩, .string ⟨#[115, 111, 117, 116, 104]⟩, .string ⟨#[119, 101, 115, 116]⟩] 9)) := (Below.refl _ _).alloc (Nat.le_refl _) _
  have hN1 : NmD (w.alloc (.cells #[.string ⟨#[101, 97, 115, 116]⟩, .string ⟨#[108, 97, 107, 101]⟩, .string ⟨#[110, 111, 114, 116, 104]⟩, .string ⟨#[114, 105, 100, 103, 101]⟩, .string ⟨#[115, 111, 117, 116, 104]⟩, .string ⟨#[119, 101, 115, 116]⟩] 9)) w.heap.size := ⟨fun j hj => ⟨by match j, hj with
    | 0, _ => simp [regL]
    | 1, _ => simp [regL]
    | 2, _ => simp [regL]
    | 3, _ => simp [regL]
    | 4, _ => simp [regL]
    | 5, _ => simp [regL]⟩⟩
  have hsz1 : (w.alloc (.cells #[.string ⟨#[101, 97, 115, 116]⟩, .string ⟨#[108, 97, 107, 101]⟩, .string ⟨#[110, 111, 114, 116, 104]⟩, .string ⟨#[114, 105, 100, 103, 101]⟩, .string ⟨#[115, 111, 117, 116, 104]⟩, .string ⟨#[119, 101, 115, 116]⟩] 9)).heap.size = w.heap.size + 1 := by simp
  go_enter Tryz.func88, Tryz.ntmps88
  go_wp2
  generalize (w.alloc (.cells #[.string ⟨#[101, 97, 115, 116]⟩, .string ⟨#[108, 97, 107, 101]⟩, .string ⟨#[110, 111, 114, 116, 104]⟩, .string ⟨#[114, 105, 100, 103, 101]⟩, .string ⟨#[115, 111, 117, 116, 104]⟩, .string ⟨#[119, 101, 115, 116]⟩] 9)) = w1 at *
  have hB2 : Below w1.heap.size w1 (w1.alloc (.cells #[] 63)) := (Below.refl _ _).alloc (Nat.le_refl _) _
  have hR2 : RgS (w1.alloc (.cells #[] 63)) (w.heap.size + 1) (.slice (some ⟨w1.heap.size, 0, none⟩) 0 0) [] := RgS.nil (Own.lit0m fRg (by omega))
  have hN2 := hN1.belowB hB2 hN1.lt
  have hO2 : Only [g] w (w1.alloc (.cells #[] 63)) := Only.of_below (hB1.trans (hB2.mono (by omega)))
  have hs2 := hs.below (hB1.trans (hB2.mono (by omega)))
  clear hB1 hB2 hN1 hs
  try simp only [hsz1] at hR2 ⊢
  go_loopw [4, 5] (fun v kv wr => ∃ (k : Nat) (L : List RgE), kv = .int .i64 k ∧ k ≤ 6 ∧ RgS wr (w.heap.size + 1) v L ∧ (∀ e ∈ L, e.near = []) ∧ L.length ≤ k ∧ NmD wr w.heap.size ∧ SrcD (n + 8 * k) g wr ∧ Only [g] w wr) (fun _ kv _ => 6 - (intOf kv).toNat)
  case atStart => exact ⟨0, [], rfl, Nat.zero_le _, hR2, by simp, by simp, hN2, hs2.mono (by omega), hO2⟩
  case round => as_aux_lemma =>
    clear hR2 hN2 hs2 hO2 hsz1
    obtain ⟨k, L, rfl, hk, hR, hnr, hL, hN, hsr, hor⟩ := hrel
    by_cases hlt : k < 6
    · have hki : (k : Int) < 6 := by omega
      go_wp2_with fail
      refine (one_any _ g 3 _ hsr (by omega) (by omega)).mono ?_
      rintro e w3 ⟨t, rfl, hs3, ho3⟩
      have hR3 := hR.only ho3 hgB
      have hN3 := hN.only ho3 hgb
      have hor3 := hor.trans ho3
      clear hR hN hor hsr ho3
      cases t
      · skip
        have hnm := regL_size hlt
        have hc3 := hN3.c k hlt
        generalize regL[k]'(by simpa [regL] using hlt) = nm at hnm hc3
        have hdz : w3.drew.heap.size = w3.heap.size := rfl
        have hdr : Below w3.heap.size w3 w3.drew := Below.drew (Below.refl _ _)
        have hc7 := hc3.below' hdr
        have hR7 := hR3.below hdr
        have hN7 := hN3.belowB hdr hN3.lt
        have hs7 := hs3.below hdr
        have ho7 := hor3.then (hdr.mono hor3.size)
        have hgW : g ≤ w3.heap.size := Nat.le_of_lt hs3.lt
        clear hdr hR3 hN3 hs3 hor3
        go_wp2
        have gk0 : ∀ p : KeptW (g) w3 (fun N => CeG N w.heap.size k (.string nm)), p.v.cell? ⟨w.heap.size, k, none⟩ = some (.string nm) := fun p => p.x.c
        haveI hKne : Nonempty (KeptW (g) w3 (fun N => CeG N w.heap.size k (.string nm))) := ⟨⟨_, Below.drew (Below.refl _ _), (hc3.below' (Below.drew (Below.refl _ _)))⟩⟩
        refine wp_region_fork (C := fun w' => ∃ p : KeptW (g) w3 (fun N => CeG N w.heap.size k (.string nm)), w' = p.v) [0, 1, 2, 3, 4, 5] 6 [7, 8, 9, 10, 11, 12] [true, false, true, false, false, true] 8 [6, 7, 9, 10, 11, 12] [false, true, true, false, false, true] (by kernel_rfl) (by kernel_rfl) (by kernel_rfl) (fun _ _ d _ _ h => by cases d <;> exact h) ⟨⟨_, Below.drew (Below.refl _ _), (hc3.below' (Below.drew (Below.refl _ _)))⟩, rfl⟩ ?_
        simp only [List.map_cons, List.map_nil, List.getD_cons_zero, List.getD_cons_succ]
        have hS0 : Below (g) w3 w3.drew := Below.drew (Below.refl _ _)
        refine wpFork_pure (by kernel_rfl) (fun K hK => ?_)
        go_big_quiet_op
        refine hK _ ?_; clear hK K
        refine wpFork_pure (by kernel_rfl) (fun K hK => ?_)
        go_big_quiet_op
        refine hK _ ?_; clear hK K
        refine wpFork_pure (by kernel_rfl) (fun K hK => ?_)
        go_big_quiet_op
        refine hK _ ?_; clear hK K
        refine wpFork_pure (by kernel_rfl) (fun K hK => ?_)
        go_big_quiet_op
        refine hK _ ?_; clear hK K
        refine wpFork_pure (by kernel_rfl) (fun K hK => ?_)
        go_big_quiet_op
        refine hK _ ?_; clear hK K
        refine wpFork_pure (by kernel_rfl) (fun K hK => ?_)
        go_big_quiet_op
        refine hK _ ?_; clear hK K
        refine wpFork_split ?_ ?_
        · skip
          refine wpMix_act (by kernel_rfl) (fun K hK => ?_)
          go_big_op
          refine (pick_any _ g 4 _ hs7 (by omega) (by omega)).mono ?_
          rintro e uk1 ⟨q, rfl, ⟨q0, q1, _⟩, hs8, ho8⟩
          replace q1 := q1 (by omega)
          have hbk1 : Below g w3.drew uk1 := ho8.below (by have := hs7.lt; omega) (by simp)
          replace hR7 := hR7.only ho8 hgB
          replace hN7 := hN7.only ho8 hgb
          replace hc7 := hc7.only ho8 hgb
          replace ho7 := ho7.trans ho8
          replace hs7 := hs8
          clear hs8 ho8
          have hbk1S : Below (g) w3 uk1 := hS0.trans hbk1
          try simp only [Act.put, List.setIfInBounds_toArray, List.set_cons_zero, List.set_cons_succ]
          refine hK _ _ ⟨⟨_, hbk1S, hc7⟩, rfl⟩ ?_
          clear hK K
          refine wpMix_pure (by kernel_rfl) (fun K hK => ?_); go_big_quiet_op; refine hK _ ?_; clear hK K
          refine wpMix_act (by kernel_rfl) (fun K hK => ?_)
          go_big_op
          refine hK _ _ ⟨⟨_, (hbk1S.alloc (Nat.le_trans hgW hbk1S.size) _), (hc7.below' ((Below.refl _ _).alloc (Nat.le_refl _) _))⟩, rfl⟩ ?_
          clear hK K
          refine mix_world (fun N => Below (g) w3 N ∧ CeG N w.heap.size k (.string nm) ∧ RgS N (w.heap.size + 1) u4 L ∧ NmD N w.heap.size ∧ SrcD (n + 8 * k + 2 + 2) g N ∧ Only [g] w N ∧ Own fStr N (w.heap.size + 1) 9 (.slice (some ⟨uk1.heap.size, 0, none⟩) 0 0) [] ∧ Fresh u4 L uk1.heap.size) ⟨hbk1S.alloc (Nat.le_trans hgW hbk1S.size) _, hc7.below' ((Below.refl _ _).alloc (Nat.le_refl _) _), hR7.below ((Below.refl _ _).alloc (Nat.le_refl _) _), hN7.belowB ((Below.refl _ _).alloc (Nat.le_refl _) _) hN7.lt, hs7.below ((Below.refl _ _).alloc (Nat.le_refl _) _), ho7.then (((Below.refl _ _).alloc (Nat.le_refl _) _).mono ho7.size), Own.lit0m fStr (by have := hN7.lt; simp only [hdz] at *; omega), hR7.fresh (Nat.le_refl _)⟩ ?_
          rintro wr2 ⟨hbr2S, hc7, hR7, hN7, hs7, ho7, hE7, hF7⟩
          refine wpMix_pure (by kernel_rfl) (fun K hK => ?_); go_big_quiet_op; refine hK _ ?_; clear hK K
          refine wpMix_act (by kernel_rfl) (fun K hK => ?_)
          go_big_op
          refine hK _ _ ⟨⟨_, (hbr2S.alloc (Nat.le_trans hgW hbr2S.size) _), (hc7.below' ((Below.refl _ _).alloc (Nat.le_refl _) _))⟩, rfl⟩ ?_
          clear hK K
          refine mix_world (fun N => Below (g) w3 N ∧ CeG N w.heap.size k (.string nm) ∧ RgS N (w.heap.size + 1) u4 L ∧ NmD N w.heap.size ∧ SrcD (n + 8 * k + 2 + 2) g N ∧ Only [g] w N ∧ Own fStr N (w.heap.size + 1) 9 (.slice (some ⟨uk1.heap.size, 0, none⟩) 0 0) [] ∧ CeG N wr2.heap.size 0 (.string nm) ∧ CeG N wr2.heap.size 1 (.int .i64 (1 + q)) ∧ CeG N wr2.heap.size 2 (.slice (some ⟨uk1.heap.size, 0, none⟩) 0 0)) ⟨hbr2S.alloc (Nat.le_trans hgW hbr2S.size) _, hc7.below' ((Below.refl _ _).alloc (Nat.le_refl _) _), hR7.below ((Below.refl _ _).alloc (Nat.le_refl _) _), hN7.belowB ((Below.refl _ _).alloc (Nat.le_refl _) _) hN7.lt, hs7.below ((Below.refl _ _).alloc (Nat.le_refl _) _), ho7.then (((Below.refl _ _).alloc (Nat.le_refl _) _).mono ho7.size), hE7.below ((Below.refl _ _).alloc (Nat.le_refl _) _), ⟨by simp⟩, ⟨by simp⟩, ⟨by simp⟩⟩ ?_
          rintro wr3 ⟨hbr3S, hc7, hR7, hN7, hs7, ho7, hE7, hx0, hx1, hx2⟩
          refine wpMix_act (by kernel_rfl) (fun K hK => ?_)
          have hoW : wr3.ownsRow (w.heap.size + 1) 63 3 u4 L.length (L.flatMap fRg.enc) := hR7.own
          have hszB : w.heap.size + 1 ≤ wr3.heap.size := hN7.lt
          refine wp_append_at2 _ _ _ 27 rfl (w.heap.size + 1) 63 i0 (.agg #[.string ⟨#[]⟩, .int .i64 0, .slice none 0 0]) 3 48 Tryz.underlying27 hi hz0 hz1 hz2 rfl (by decide) u4 L.length _ rfl hoW [.string nm, .int .i64 (1 + q), .slice (some ⟨uk1.heap.size, 0, none⟩) 0 0] rfl (by intro u hu; simp only [List.mem_cons, List.not_mem_nil, or_false] at hu; rcases hu with rfl | rfl | rfl <;> rfl) wr2.heap.size rfl (by intro j u hj; match j, hj with | 0, hj => (injection hj with hj; subst hj; exact hx0.c) | 1, hj => (injection hj with hj; subst hj; exact hx1.c) | 2, hj => (injection hj with hj; subst hj; exact hx2.c) | j + 3, hj => (simp at hj)) (by omega) (by decide) hszB ?_
          intro v' uk4 hown hbu0 hgr hli
          have hoD : Own fRg uk4 (w.heap.size + 1) 63 v' (L ++ [⟨nm, 1 + q, [], some ⟨uk1.heap.size, 0, none⟩, 0⟩]) := Own.push (E := fRg) ⟨nm, 1 + q, [], some ⟨uk1.heap.size, 0, none⟩, 0⟩ rfl hown
          have hR8 := hR7.push (y := ⟨nm, 1 + q, [], some ⟨uk1.heap.size, 0, none⟩, 0⟩) hE7 (fun i e hi q hq hq2 => hF7.row i e hi q hq (by injection hq2 with hq2; exact hq2.symm)) (fun q hq hq2 => hF7.own (by rw [hq2]; injection hq with hq; rw [← hq])) ⟨hnm, by show 0 ≤ 1 + q ∧ 1 + q ≤ 6; omega, by simp⟩ hoD hgr hli
          have hbk4 : Below g wr3 uk4 := hbu0.mono (by omega)
          replace hc7 := hc7.belowB hbu0 (Nat.lt_succ_self _)
          have hN8 := hN7.belowB hbu0 (Nat.lt_succ_self _)
          have hs8 := hs7.belowB hbu0 (by omega)
          have ho8 := only_below ho7 hbu0 (Nat.le_succ _)
          clear hown hoD hR7 hN7 hs7 ho7 hE7 hF7 hoW hx0 hx1 hx2 hgr hli
          have hbk4S : Below (g) w3 uk4 := hbr3S.trans hbk4
          try simp only [Act.put, List.setIfInBounds_toArray, List.set_cons_zero, List.set_cons_succ]
          refine hK _ _ ⟨⟨_, hbk4S, hc7⟩, rfl⟩ ?_
          clear hK K
          refine wpMix_pure (by kernel_rfl) (fun K hK => ?_); go_big_quiet_op; refine hK _ ?_; clear hK K
          refine wpMix_nil ?_
          go_wp2
          go_roundw
          case rel =>
            exact ⟨k + 1, _, by go_num, by omega, hR8, fun e he => by
              rcases List.mem_append.1 he with he | he
              · exact hnr e he
              · rw [List.mem_singleton] at he; subst he; rfl, by rw [List.length_append, List.length_singleton]; omega, hN8, hs8.mono (by omega), ho8⟩
          case measure => simp [intOf]; omega
        · skip
          refine wpMix_act (by kernel_rfl) (fun K hK => ?_)
          go_big_op
          refine hK _ _ ⟨⟨_, (hS0.alloc (Nat.le_trans hgW hS0.size) _), (hc7.below' ((Below.refl _ _).alloc (Nat.le_refl _) _))⟩, rfl⟩ ?_
          clear hK K
          refine mix_world (fun N => Below (g) w3 N ∧ CeG N w.heap.size k (.string nm) ∧ RgS N (w.heap.size + 1) u4 L ∧ NmD N w.heap.size ∧ SrcD (n + 8 * k + 2) g N ∧ Only [g] w N ∧ Own fStr N (w.heap.size + 1) 9 (.slice (some ⟨w3.drew.heap.size, 0, none⟩) 0 0) [] ∧ Fresh u4 L w3.drew.heap.size) ⟨hS0.alloc (Nat.le_trans hgW hS0.size) _, hc7.below' ((Below.refl _ _).alloc (Nat.le_refl _) _), hR7.below ((Below.refl _ _).alloc (Nat.le_refl _) _), hN7.belowB ((Below.refl _ _).alloc (Nat.le_refl _) _) hN7.lt, hs7.below ((Below.refl _ _).alloc (Nat.le_refl _) _), ho7.then (((Below.refl _ _).alloc (Nat.le_refl _) _).mono ho7.size), Own.lit0m fStr (by have := hN7.lt; simp only [hdz] at *; omega), hR7.fresh (Nat.le_refl _)⟩ ?_
          rintro wr5 ⟨hbr5S, hc7, hR7, hN7, hs7, ho7, hE7, hF7⟩
          refine wpMix_act (by kernel_rfl) (fun K hK => ?_)
          go_big_op
          refine (pick_any _ g 4 _ hs7 (by omega) (by omega)).mono ?_
          rintro e uk6 ⟨q, rfl, ⟨q0, q1, _⟩, hs8, ho8⟩
          replace q1 := q1 (by omega)
          have hbk6 : Below g wr5 uk6 := ho8.below (by have := hs7.lt; omega) (by simp)
          replace hR7 := hR7.only ho8 hgB
          replace hN7 := hN7.only ho8 hgb
          replace hc7 := hc7.only ho8 hgb
          replace ho7 := ho7.trans ho8
          replace hs7 := hs8
          replace hE7 := hE7.only ho8 hgB
          clear hs8 ho8
          have hbk6S : Below (g) w3 uk6 := hbr5S.trans hbk6
          try simp only [Act.put, List.setIfInBounds_toArray, List.set_cons_zero, List.set_cons_succ]
          refine hK _ _ ⟨⟨_, hbk6S, hc7⟩, rfl⟩ ?_
          clear hK K
          refine wpMix_pure (by kernel_rfl) (fun K hK => ?_); go_big_quiet_op; refine hK _ ?_; clear hK K
          refine wpMix_pure (by kernel_rfl) (fun K hK => ?_); go_big_quiet_op; refine hK _ ?_; clear hK K
          refine wpMix_act (by kernel_rfl) (fun K hK => ?_)
          go_big_op
          refine hK _ _ ⟨⟨_, (hbk6S.alloc (Nat.le_trans hgW hbk6S.size) _), (hc7.below' ((Below.refl _ _).alloc (Nat.le_refl _) _))⟩, rfl⟩ ?_
          clear hK K
          refine mix_world (fun N => Below (g) w3 N ∧ CeG N w.heap.size k (.string nm) ∧ RgS N (w.heap.size + 1) u4 L ∧ NmD N w.heap.size ∧ SrcD (n + 8 * k + 2 + 2) g N ∧ Only [g] w N ∧ Own fStr N (w.heap.size + 1) 9 (.slice (some ⟨w3.drew.heap.size, 0, none⟩) 0 0) [] ∧ CeG N uk6.heap.size 0 (.string nm) ∧ CeG N uk6.heap.size 1 (.int .i64 (1 + q)) ∧ CeG N uk6.heap.size 2 (.slice (some ⟨w3.drew.heap.size, 0, none⟩) 0 0)) ⟨hbk6S.alloc (Nat.le_trans hgW hbk6S.size) _, hc7.below' ((Below.refl _ _).alloc (Nat.le_refl _) _), hR7.below ((Below.refl _ _).alloc (Nat.le_refl _) _), hN7.belowB ((Below.refl _ _).alloc (Nat.le_refl _) _) hN7.lt, hs7.below ((Below.refl _ _).alloc (Nat.le_refl _) _), ho7.then (((Below.refl _ _).alloc (Nat.le_refl _) _).mono ho7.size), hE7.below ((Below.refl _ _).alloc (Nat.le_refl _) _), ⟨by simp⟩, ⟨by simp⟩, ⟨by simp⟩⟩ ?_
          rintro wr7 ⟨hbr7S, hc7, hR7, hN7, hs7, ho7, hE7, hx0, hx1, hx2⟩
          refine wpMix_act (by kernel_rfl) (fun K hK => ?_)
          have hoW : wr7.ownsRow (w.heap.size + 1) 63 3 u4 L.length (L.flatMap fRg.enc) := hR7.own
          have hszB : w.heap.size + 1 ≤ wr7.heap.size := hN7.lt
          refine wp_append_at2 _ _ _ 27 rfl (w.heap.size + 1) 63 i0 (.agg #[.string ⟨#[]⟩, .int .i64 0, .slice none 0 0]) 3 48 Tryz.underlying27 hi hz0 hz1 hz2 rfl (by decide) u4 L.length _ rfl hoW [.string nm, .int .i64 (1 + q), .slice (some ⟨w3.drew.heap.size, 0, none⟩) 0 0] rfl (by intro u hu; simp only [List.mem_cons, List.not_mem_nil, or_false] at hu; rcases hu with rfl | rfl | rfl <;> rfl) uk6.heap.size rfl (by intro j u hj; match j, hj with | 0, hj => (injection hj with hj; subst hj; exact hx0.c) | 1, hj => (injection hj with hj; subst hj; exact hx1.c) | 2, hj => (injection hj with hj; subst hj; exact hx2.c) | j + 3, hj => (simp at hj)) (by omega) (by decide) hszB ?_
          intro v' uk8 hown hbu0 hgr hli
          have hoD : Own fRg uk8 (w.heap.size + 1) 63 v' (L ++ [⟨nm, 1 + q, [], some ⟨w3.drew.heap.size, 0, none⟩, 0⟩]) := Own.push (E := fRg) ⟨nm, 1 + q, [], some ⟨w3.drew.heap.size, 0, none⟩, 0⟩ rfl hown
          have hR8 := hR7.push (y := ⟨nm, 1 + q, [], some ⟨w3.drew.heap.size, 0, none⟩, 0⟩) hE7 (fun i e hi q hq hq2 => hF7.row i e hi q hq (by injection hq2 with hq2; exact hq2.symm)) (fun q hq hq2 => hF7.own (by rw [hq2]; injection hq with hq; rw [← hq])) ⟨hnm, by show 0 ≤ 1 + q ∧ 1 + q ≤ 6; omega, by simp⟩ hoD hgr hli
          have hbk8 : Below g wr7 uk8 := hbu0.mono (by omega)
          replace hc7 := hc7.belowB hbu0 (Nat.lt_succ_self _)
          have hN8 := hN7.belowB hbu0 (Nat.lt_succ_self _)
          have hs8 := hs7.belowB hbu0 (by omega)
          have ho8 := only_below ho7 hbu0 (Nat.le_succ _)
          clear hown hoD hR7 hN7 hs7 ho7 hE7 hF7 hoW hx0 hx1 hx2 hgr hli
          have hbk8S : Below (g) w3 uk8 := hbr7S.trans hbk8
          try simp only [Act.put, List.setIfInBounds_toArray, List.set_cons_zero, List.set_cons_succ]
          refine hK _ _ ⟨⟨_, hbk8S, hc7⟩, rfl⟩ ?_
          clear hK K
          refine wpMix_pure (by kernel_rfl) (fun K hK => ?_); go_big_quiet_op; refine hK _ ?_; clear hK K
          refine wpMix_nil ?_
          go_wp2
          go_roundw
          case rel =>
            exact ⟨k + 1, _, by go_num, by omega, hR8, fun e he => by
              rcases List.mem_append.1 he with he | he
              · exact hnr e he
              · rw [List.mem_singleton] at he; subst he; rfl, by rw [List.length_append, List.length_singleton]; omega, hN8, hs8.mono (by omega), ho8⟩
          case measure => simp [intOf]; omega
      · go_wp2
        go_roundw
        case rel => exact ⟨k + 1, L, by go_num, by omega, hR3, hnr, by omega, hN3, hs3.mono (by omega), hor3⟩
        case measure => simp [intOf]; omega
    · obtain rfl : k = 6 := by omega
      obtain ⟨nn, hN6⟩ : ∃ k, k = L.length := ⟨_, rfl⟩
      obtain ⟨A, cap, rfl⟩ := hR.form
      have hnr2 : ∀ e ∈ L, e.near.length ≤ 12 * 0 := fun e he => by rw [hnr e he]; simp
      rw [← hN6] at hL hR ⊢
      clear hnr hlt hk hN
      have hN6' : L.length = nn := hN6.symm
      clear hN6
      go_wp2
      rename World => wo
      go_loopw [6] (fun iv wr => ∃ (i : Nat) (L : List RgE), iv = .int .i64 i ∧ i ≤ nn ∧ L.length = nn ∧ RgS wr (w.heap.size + 1) (.slice A nn cap) L ∧ (∀ e ∈ L, e.near.length ≤ 12 * i) ∧ SrcD (n + 60 + 24 * i) g wr ∧ Only [g] w wr) (fun iv _ => nn - (intOf iv).toNat)
      case atStart => exact ⟨0, L, rfl, Nat.zero_le _, hN6', hR, hnr2, hsr.mono (by omega), hor⟩
      case round => as_aux_lemma =>
        clear hN6' hR hnr2 hsr hor L
        obtain ⟨i, L, rfl, hi6, hLN, hR, hnr, hsr, hor⟩ := hrel
        by_cases hlt : i < nn
        rotate_left
        · go_wp2
          go_ret
          exact ⟨_, L, rfl, hR, by omega, fun e he => by have := hnr e he; omega, hsr.mono (by omega), hor⟩
        have hii : (i : Int) < (nn : Int) := by omega
        go_wp2
        rename World => wq
        go_loopw [7] (fun kv wr => ∃ (k : Nat) (L : List RgE), kv = .int .i64 k ∧ i + 1 ≤ k ∧ k ≤ nn ∧ L.length = nn ∧ RgS wr (w.heap.size + 1) (.slice A nn cap) L ∧ (∀ e ∈ L, e.near.length ≤ 12 * i + 2 * k) ∧ SrcD (n + 60 + 24 * i + 4 * k) g wr ∧ Only [g] w wr) (fun kv _ => nn - (intOf kv).toNat)
        case atStart => exact ⟨i + 1, L, by go_num, Nat.le_refl _, hlt, hLN, hR, fun e he => by have := hnr e he; omega, hsr.mono (by omega), hor⟩
        case round => as_aux_lemma =>
          clear hLN hR hnr hsr hor L
          obtain ⟨k, L, rfl, hik, hk, hLN, hR, hnr, hsr, hor⟩ := hrel
          by_cases hkt : k < nn
          rotate_left
          · go_wp2
            go_roundw
            case rel => exact ⟨i + 1, L, by go_num, by omega, hLN, hR, fun e he => by have := hnr e he; omega, hsr.mono (by omega), hor⟩
            case measure => simp [intOf]; omega
          have hki : (k : Int) < (nn : Int) := by omega
          go_wp2_with fail
          refine (one_any _ g 2 _ hsr (by omega) (by omega)).mono ?_
          rintro e w4 ⟨t, rfl, hs4, ho4⟩
          have hR4 := hR.only ho4 hgB
          have ho4' := hor.trans ho4
          clear hR hor hsr ho4
          cases t
          · go_wp2
            go_roundw
            case rel =>
              (repeat apply Exists.intro)
              exact ⟨⟨k + 1, L, by go_num, by omega, by omega, hLN, hR4, fun e he => by have := hnr e he; omega, hs4.mono (by omega), ho4'⟩, rfl⟩
            case measure => simp [intOf]; omega
          · obtain ⟨gR, rfl, hgR1, hgR2⟩ := hR4.addr (by omega)
            obtain ⟨ei, hei⟩ : ∃ e, L[i]? = some e := ⟨_, List.getElem?_eq_getElem (by omega)⟩
            obtain ⟨ek, hek⟩ : ∃ e, L[k]? = some e := ⟨_, List.getElem?_eq_getElem (by omega)⟩
            obtain ⟨_, _, c2a, za, _, _⟩ := hR4.cellE hei
            obtain ⟨c0a, _, _, _, _, _⟩ := hR4.cellE hek
            have hcpa : Ce2 w4 gR (i * 3 + 2) (.slice ei.A ei.near.length ei.c) (k * 3) (.string ek.id) := ⟨⟨c2a⟩, ⟨c0a⟩⟩
            have hnla := hnr _ (List.mem_of_getElem? hei)
            have hsza : ek.id.size ≤ 100 := (hR4.ok _ (List.mem_of_getElem? hek)).id
            have hbWa : w.heap.size + 1 ≤ w4.heap.size := by have h1 := (hR4.cellE hei).2.2.2.2; omega
            have hrowa := hR4.row _ _ hei
            have hdza : w4.drew.heap.size = w4.heap.size := rfl
            clear c2a c0a
            go_wp2
            have gk0 : ∀ p : KeptW (w.heap.size + 1) w4 (fun N => Ce2 N gR (i * 3 + 2) (.slice ei.A ei.near.length ei.c) (k * 3) (.string ek.id)), p.v.cell? ⟨gR, i * 3 + 2, none⟩ = some (.slice ei.A ei.near.length ei.c) := fun p => p.x.p.c
            have gk1 : ∀ p : KeptW (w.heap.size + 1) w4 (fun N => Ce2 N gR (i * 3 + 2) (.slice ei.A ei.near.length ei.c) (k * 3) (.string ek.id)), p.v.cell? ⟨gR, k * 3, none⟩ = some (.string ek.id) := fun p => p.x.q.c
            haveI hKne : Nonempty (KeptW (w.heap.size + 1) w4 (fun N => Ce2 N gR (i * 3 + 2) (.slice ei.A ei.near.length ei.c) (k * 3) (.string ek.id))) := ⟨⟨_, Below.drew (Below.refl _ _), (hcpa.below' (Below.drew (Below.refl _ _)))⟩⟩
            refine wp_region_sink (C := fun w' => ∃ p : KeptW (w.heap.size + 1) w4 (fun N => Ce2 N gR (i * 3 + 2) (.slice ei.A ei.near.length ei.c) (k * 3) (.string ek.id)), w' = p.v) [0, 1, 2, 3, 4, 5, 6, 7, 8, 9, 10, 11, 12, 13, 14, 15, 16] [true, true, true, true, true, true, true, true, true, true, true, true, false, false, true, true, false] 16 (by kernel_rfl) (by kernel_rfl) (by kernel_rfl) (fun _ _ d _ _ h => by cases d <;> exact h) ⟨⟨_, Below.drew (Below.refl _ _), (hcpa.below' (Below.drew (Below.refl _ _)))⟩, rfl⟩ ?_
            simp only [List.map_cons, List.map_nil, List.getD_cons_zero, List.getD_cons_succ]
            have hS0 : Below (w.heap.size + 1) w4 w4.drew := Below.drew (Below.refl _ _)
            refine wpMixS_pure (by kernel_rfl) (fun K hK => ?_)
            go_big_quiet_op
            refine hK _ ?_; clear hK K
            refine wpMixS_pure (by kernel_rfl) (fun K hK => ?_)
            go_big_quiet_op
            refine hK _ ?_; clear hK K
            refine wpMixS_pure (by kernel_rfl) (fun K hK => ?_)
            go_big_quiet_op
            refine hK _ ?_; clear hK K
            refine wpMixS_pure (by kernel_rfl) (fun K hK => ?_)
            go_big_quiet_op
            refine hK _ ?_; clear hK K
            refine wpMixS_pure (by kernel_rfl) (fun K hK => ?_)
            go_big_quiet_op
            refine hK _ ?_; clear hK K
            refine wpMixS_pure (by kernel_rfl) (fun K hK => ?_)
            go_big_quiet_op
            refine hK _ ?_; clear hK K
            refine wpMixS_pure (by kernel_rfl) (fun K hK => ?_)
            go_big_quiet_op
            refine hK _ ?_; clear hK K
            refine wpMixS_pure (by kernel_rfl) (fun K hK => ?_)
            go_big_quiet_op
            refine hK _ ?_; clear hK K
            refine wpMixS_pure (by kernel_rfl) (fun K hK => ?_)
            go_big_quiet_op
            refine hK _ ?_; clear hK K
            refine wpMixS_pure (by kernel_rfl) (fun K hK => ?_)
            go_big_quiet_op
            refine hK _ ?_; clear hK K
            refine wpMixS_pure (by kernel_rfl) (fun K hK => ?_)
            go_big_quiet_op
            refine hK _ ?_; clear hK K
            refine wpMixS_pure (by kernel_rfl) (fun K hK => ?_)
            go_big_quiet_op
            refine hK _ ?_; clear hK K
            refine wpMixS_act (by kernel_rfl) (fun K hK => ?_)
            go_big_op
            refine hK _ _ ⟨⟨_, (hS0.alloc (Nat.le_trans hbWa hS0.size) _), ((hcpa.below' (Below.drew (Below.refl _ _))).below' ((Below.refl _ _).alloc (Nat.le_refl _) _))⟩, rfl⟩ ?_
            clear hK K
            refine mixS_world (fun N => Below (w.heap.size + 1) w4 N ∧ Ce2 N gR (i * 3 + 2) (.slice ei.A ei.near.length ei.c) (k * 3) (.string ek.id) ∧ RgS N (w.heap.size + 1) (.slice (some ⟨gR, 0, none⟩) nn cap) L ∧ SrcD (n + 60 + 24 * i + 4 * k + 2) g N ∧ Only [g] w N ∧ CeG N w4.drew.heap.size 0 (.string ek.id)) ⟨hS0.alloc (Nat.le_trans hbWa hS0.size) _, (hcpa.below' (Below.drew (Below.refl _ _))).below' ((Below.refl _ _).alloc (Nat.le_refl _) _), (hR4.below (Below.drew (Below.refl _ _))).below ((Below.refl _ _).alloc (Nat.le_refl _) _), (hs4.below (Below.drew (Below.refl _ _))).below ((Below.refl _ _).alloc (Nat.le_refl _) _), (ho4'.then ((Below.drew (Below.refl _ _)).mono ho4'.size)).then (((Below.refl _ _).alloc (Nat.le_refl _) _).mono (ho4'.then ((Below.drew (Below.refl _ _)).mono ho4'.size)).size), ⟨by simp⟩⟩ ?_
            rintro wr1 ⟨hbr1S, hcp7, hR7, hs7, ho7, hx0⟩
            refine wpMixS_act (by kernel_rfl) (fun K hK => ?_)
            have hcp7l : gR < wr1.heap.size := hcp7.p.lt
            have hz7 := (hR7.cellE hei).2.2.2.1
            have hoW : wr1.ownsRow (w.heap.size + 1) 9 1 (.slice ei.A ei.near.length ei.c) ei.near.length (ei.near.flatMap fStr.enc) := hR7.row _ _ hei
            refine wp_append_at2 _ _ _ 24 rfl (w.heap.size + 1) 9 j0 (.string ⟨#[]⟩) 1 16 Tryz.underlying24 hj hy0 hy1 hy2 rfl (by decide) (.slice ei.A ei.near.length ei.c) ei.near.length _ rfl hoW [.string ek.id] rfl (by intro u hu; rw [List.mem_singleton] at hu; subst hu; rfl) w4.drew.heap.size rfl (by intro j u hj; match j, hj with | 0, hj => (injection hj with hj; subst hj; exact hx0.c) | j + 1, hj => (simp at hj)) (by omega) (by decide) (Nat.le_trans hbWa hbr1S.size) ?_
            intro v' uk2 hown hbk2 hgr hli
            have hoD : Own fStr uk2 (w.heap.size + 1) 9 v' (ei.near ++ [ek.id]) := Own.push (E := fStr) _ rfl hown
            obtain ⟨A9, c9, rfl⟩ : ∃ A c, v' = .slice A (ei.near ++ [ek.id]).length c := hoD.form
            have hRn := hR7.grow hei hsza hoD hgr hli
            have hqn : ei.v.ownBlock ≠ some gR := fun e => hR7.ap _ _ hei gR e rfl
            replace hcp7 : Ce2 uk2 gR (i * 3 + 2) (.slice ei.A ei.near.length ei.c) (k * 3) (.string ek.id) := hcp7.grown hgr hqn
            have hzu : uk2.frozen? ⟨gR, i * 3 + 2, none⟩ = false := (World.frozen?_of_block (a := ⟨gR, i * 3 + 2, none⟩) (hgr.block gR hcp7l (fun e => hqn e.symm))).trans (hz7 _)
            have hcu : uk2.cell? ⟨gR, i * 3 + 2, none⟩ = some (.slice ei.A ei.near.length ei.c) := hcp7.p.c
            have hsn := (hs7.belowB hbk2 (by omega)).belowB ((Below.refl _ uk2).setCell (p := ⟨gR, i * 3 + 2, none⟩) hgR1 (.slice A9 (ei.near ++ [ek.id]).length c9)) (by omega)
            have hon := only_below (only_below ho7 hbk2 (Nat.le_succ _)) ((Below.refl _ uk2).setCell (p := ⟨gR, i * 3 + 2, none⟩) hgR1 (.slice A9 (ei.near ++ [ek.id]).length c9)) (Nat.le_succ _)
            clear hown hoD hR7 hs7 ho7 hoW hx0 hgr hli hqn
            have hbk2S : Below (w.heap.size + 1) w4 uk2 := hbr1S.trans hbk2
            try simp only [Act.put, List.setIfInBounds_toArray, List.set_cons_zero, List.set_cons_succ]
            refine hK _ _ ⟨⟨_, hbk2S, hcp7⟩, rfl⟩ ?_
            clear hK K
            refine wpMixS_pure (by kernel_rfl) (fun K hK => ?_)
            go_big_quiet_op
            refine hK _ ?_; clear hK K
            refine wpMixS_pure (by kernel_rfl) (fun K hK => ?_)
            go_big_quiet_op
            refine hK _ ?_; clear hK K
            refine wpMixS_last (by kernel_rfl) (fun K hK => ?_)
            go_big_op
            try simp only [Act.put, List.setIfInBounds_toArray, List.set_cons_zero, List.set_cons_succ]
            refine hK _ _ ?_
            clear hK K
            have hln : (ei.near ++ [ek.id]).length ≤ (12 * i + 2 * k) + 1 := by rw [List.length_append, List.length_singleton]; omega
            have hnr5 := near_set (m := i) (y := ⟨ei.id, ei.lv, ei.near ++ [ek.id], A9, c9⟩) hnr hln
            obtain ⟨L5, hL5⟩ : ∃ l, l = L.set i ⟨ei.id, ei.lv, ei.near ++ [ek.id], A9, c9⟩ := ⟨_, rfl⟩
            have hLN5 : L5.length = nn := by rw [hL5, List.length_set]; exact hLN
            rw [← hL5] at hRn hnr5
            have hlen9 : (ei.near ++ [ek.id]).length = ei.near.length + 1 := by simp
            rw [hlen9] at hRn hsn hon
            clear hlen9
            generalize uk2.setCell ⟨gR, i * 3 + 2, none⟩ (.slice A9 (ei.near.length + 1) c9) = w5 at *
            have hR5 := hRn
            have hs5 := hsn
            have ho5' := hon
            clear hRn hsn hon hcp7 hcpa za hzu hcu hrowa hln hnla hnr hLN hR4 hs4 ho4' hcp7l hz7 gk0 gk1 hKne hbWa hdza
            obtain ⟨eii, hei5⟩ : ∃ e, L5[i]? = some e := ⟨_, List.getElem?_eq_getElem (by omega)⟩
            have hek5 : L5[k]? = some ek := by rw [hL5, List.getElem?_set_ne (by omega)]; exact hek
            clear hL5 hei hek
            obtain ⟨_, _, c2b, zb, _, _⟩ := hR5.cellE hek5
            obtain ⟨c0b, _, _, _, _, _⟩ := hR5.cellE hei5
            have hcpb : Ce2 w5 gR (k * 3 + 2) (.slice ek.A ek.near.length ek.c) (i * 3) (.string eii.id) := ⟨⟨c2b⟩, ⟨c0b⟩⟩
            have hnlb := hnr5 _ (List.mem_of_getElem? hek5)
            have hszb : eii.id.size ≤ 100 := (hR5.ok _ (List.mem_of_getElem? hei5)).id
            have hbWb : w.heap.size + 1 ≤ w5.heap.size := by have h1 := (hR5.cellE hek5).2.2.2.2; omega
            have hrowb := hR5.row _ _ hek5
            have hdzb : w5.drew.heap.size = w5.heap.size := rfl
            clear c2b c0b
            go_wp2
            have gk0 : ∀ p : KeptW (w.heap.size + 1) w5 (fun N => Ce2 N gR (k * 3 + 2) (.slice ek.A ek.near.length ek.c) (i * 3) (.string eii.id)), p.v.cell? ⟨gR, k * 3 + 2, none⟩ = some (.slice ek.A ek.near.length ek.c) := fun p => p.x.p.c
            have gk1 : ∀ p : KeptW (w.heap.size + 1) w5 (fun N => Ce2 N gR (k * 3 + 2) (.slice ek.A ek.near.length ek.c) (i * 3) (.string eii.id)), p.v.cell? ⟨gR, i * 3, none⟩ = some (.string eii.id) := fun p => p.x.q.c
            haveI hKne : Nonempty (KeptW (w.heap.size + 1) w5 (fun N => Ce2 N gR (k * 3 + 2) (.slice ek.A ek.near.length ek.c) (i * 3) (.string eii.id))) := ⟨⟨_, Below.drew (Below.refl _ _), (hcpb.below' (Below.drew (Below.refl _ _)))⟩⟩
            refine wp_region_sink (C := fun w' => ∃ p : KeptW (w.heap.size + 1) w5 (fun N => Ce2 N gR (k * 3 + 2) (.slice ek.A ek.near.length ek.c) (i * 3) (.string eii.id)), w' = p.v) [0, 1, 2, 3, 4, 5, 6, 7, 8, 9, 10, 11, 12, 13, 14, 15, 16] [true, true, true, true, true, true, true, true, true, true, true, true, false, false, true, true, false] 16 (by kernel_rfl) (by kernel_rfl) (by kernel_rfl) (fun _ _ d _ _ h => by cases d <;> exact h) ⟨⟨_, Below.drew (Below.refl _ _), (hcpb.below' (Below.drew (Below.refl _ _)))⟩, rfl⟩ ?_
            simp only [List.map_cons, List.map_nil, List.getD_cons_zero, List.getD_cons_succ]
            have hS0 : Below (w.heap.size + 1) w5 w5.drew := Below.drew (Below.refl _ _)
            refine wpMixS_pure (by kernel_rfl) (fun K hK => ?_)
            go_big_quiet_op
            refine hK _ ?_; clear hK K
            refine wpMixS_pure (by kernel_rfl) (fun K hK => ?_)
            go_big_quiet_op
            refine hK _ ?_; clear hK K
            refine wpMixS_pure (by kernel_rfl) (fun K hK => ?_)
            go_big_quiet_op
            refine hK _ ?_; clear hK K
            refine wpMixS_pure (by kernel_rfl) (fun K hK => ?_)
            go_big_quiet_op
            refine hK _ ?_; clear hK K
            refine wpMixS_pure (by kernel_rfl) (fun K hK => ?_)
            go_big_quiet_op
            refine hK _ ?_; clear hK K
            refine wpMixS_pure (by kernel_rfl) (fun K hK => ?_)
            go_big_quiet_op
            refine hK _ ?_; clear hK K
            refine wpMixS_pure (by kernel_rfl) (fun K hK => ?_)
            go_big_quiet_op
            refine hK _ ?_; clear hK K
            refine wpMixS_pure (by kernel_rfl) (fun K hK => ?_)
            go_big_quiet_op
            refine hK _ ?_; clear hK K
            refine wpMixS_pure (by kernel_rfl) (fun K hK => ?_)
            go_big_quiet_op
            refine hK _ ?_; clear hK K
            refine wpMixS_pure (by kernel_rfl) (fun K hK => ?_)
            go_big_quiet_op
            refine hK _ ?_; clear hK K
            refine wpMixS_pure (by kernel_rfl) (fun K hK => ?_)
            go_big_quiet_op
            refine hK _ ?_; clear hK K
            refine wpMixS_pure (by kernel_rfl) (fun K hK => ?_)
            go_big_quiet_op
            refine hK _ ?_; clear hK K
            refine wpMixS_act (by kernel_rfl) (fun K hK => ?_)
            go_big_op
            refine hK _ _ ⟨⟨_, (hS0.alloc (Nat.le_trans hbWb hS0.size) _), ((hcpb.below' (Below.drew (Below.refl _ _))).below' ((Below.refl _ _).alloc (Nat.le_refl _) _))⟩, rfl⟩ ?_
            clear hK K
            refine mixS_world (fun N => Below (w.heap.size + 1) w5 N ∧ Ce2 N gR (k * 3 + 2) (.slice ek.A ek.near.length ek.c) (i * 3) (.string eii.id) ∧ RgS N (w.heap.size + 1) (.slice (some ⟨gR, 0, none⟩) nn cap) L5 ∧ SrcD (n + 60 + 24 * i + 4 * k + 2) g N ∧ Only [g] w N ∧ CeG N w5.drew.heap.size 0 (.string eii.id)) ⟨hS0.alloc (Nat.le_trans hbWb hS0.size) _, (hcpb.below' (Below.drew (Below.refl _ _))).below' ((Below.refl _ _).alloc (Nat.le_refl _) _), (hR5.below (Below.drew (Below.refl _ _))).below ((Below.refl _ _).alloc (Nat.le_refl _) _), (hs5.below (Below.drew (Below.refl _ _))).below ((Below.refl _ _).alloc (Nat.le_refl _) _), (ho5'.then ((Below.drew (Below.refl _ _)).mono ho5'.size)).then (((Below.refl _ _).alloc (Nat.le_refl _) _).mono (ho5'.then ((Below.drew (Below.refl _ _)).mono ho5'.size)).size), ⟨by simp⟩⟩ ?_
            rintro wr1 ⟨hbr1S, hcp7, hR7, hs7, ho7, hx0⟩
            refine wpMixS_act (by kernel_rfl) (fun K hK => ?_)
            have hcp7l : gR < wr1.heap.size := hcp7.p.lt
            have hz7 := (hR7.cellE hek5).2.2.2.1
            have hoW : wr1.ownsRow (w.heap.size + 1) 9 1 (.slice ek.A ek.near.length ek.c) ek.near.length (ek.near.flatMap fStr.enc) := hR7.row _ _ hek5
            refine wp_append_at2 _ _ _ 24 rfl (w.heap.size + 1) 9 j0 (.string ⟨#[]⟩) 1 16 Tryz.underlying24 hj hy0 hy1 hy2 rfl (by decide) (.slice ek.A ek.near.length ek.c) ek.near.length _ rfl hoW [.string eii.id] rfl (by intro u hu; rw [List.mem_singleton] at hu; subst hu; rfl) w5.drew.heap.size rfl (by intro j u hj; match j, hj with | 0, hj => (injection hj with hj; subst hj; exact hx0.c) | j + 1, hj => (simp at hj)) (by omega) (by decide) (Nat.le_trans hbWb hbr1S.size) ?_
            intro v' uk2 hown hbk2 hgr hli
            have hoD : Own fStr uk2 (w.heap.size + 1) 9 v' (ek.near ++ [eii.id]) := Own.push (E := fStr) _ rfl hown
            obtain ⟨A9, c9, rfl⟩ : ∃ A c, v' = .slice A (ek.near ++ [eii.id]).length c := hoD.form
            have hRn := hR7.grow hek5 hszb hoD hgr hli
            have hqn : ek.v.ownBlock ≠ some gR := fun e => hR7.ap _ _ hek5 gR e rfl
            replace hcp7 : Ce2 uk2 gR (k * 3 + 2) (.slice ek.A ek.near.length ek.c) (i * 3) (.string eii.id) := hcp7.grown hgr hqn
            have hzu : uk2.frozen? ⟨gR, k * 3 + 2, none⟩ = false := (World.frozen?_of_block (a := ⟨gR, k * 3 + 2, none⟩) (hgr.block gR hcp7l (fun e => hqn e.symm))).trans (hz7 _)
            have hcu : uk2.cell? ⟨gR, k * 3 + 2, none⟩ = some (.slice ek.A ek.near.length ek.c) := hcp7.p.c
            have hsn := (hs7.belowB hbk2 (by omega)).belowB ((Below.refl _ uk2).setCell (p := ⟨gR, k * 3 + 2, none⟩) hgR1 (.slice A9 (ek.near ++ [eii.id]).length c9)) (by omega)
            have hon := only_below (only_below ho7 hbk2 (Nat.le_succ _)) ((Below.refl _ uk2).setCell (p := ⟨gR, k * 3 + 2, none⟩) hgR1 (.slice A9 (ek.near ++ [eii.id]).length c9)) (Nat.le_succ _)
            clear hown hoD hR7 hs7 ho7 hoW hx0 hgr hli hqn
            have hbk2S : Below (w.heap.size + 1) w5 uk2 := hbr1S.trans hbk2
            try simp only [Act.put, List.setIfInBounds_toArray, List.set_cons_zero, List.set_cons_succ]
            refine hK _ _ ⟨⟨_, hbk2S, hcp7⟩, rfl⟩ ?_
            clear hK K
            refine wpMixS_pure (by kernel_rfl) (fun K hK => ?_)
            go_big_quiet_op
            refine hK _ ?_; clear hK K
            refine wpMixS_pure (by kernel_rfl) (fun K hK => ?_)
            go_big_quiet_op
            refine hK _ ?_; clear hK K
            refine wpMixS_last (by kernel_rfl) (fun K hK => ?_)
            go_big_op
            try simp only [Act.put, List.setIfInBounds_toArray, List.set_cons_zero, List.set_cons_succ]
            refine hK _ _ ?_
            clear hK K
            have hln : (ek.near ++ [eii.id]).length ≤ (12 * i + 2 * k + 1) + 1 := by rw [List.length_append, List.length_singleton]; omega
            have hnr6 := near_set (m := k) (y := ⟨ek.id, ek.lv, ek.near ++ [eii.id], A9, c9⟩) hnr5 hln
            obtain ⟨L6, hL6⟩ : ∃ l, l = L5.set k ⟨ek.id, ek.lv, ek.near ++ [eii.id], A9, c9⟩ := ⟨_, rfl⟩
            have hLN6 : L6.length = nn := by rw [hL6, List.length_set]; exact hLN5
            rw [← hL6] at hRn hnr6
            have hlen9 : (ek.near ++ [eii.id]).length = ek.near.length + 1 := by simp
            rw [hlen9] at hRn hsn hon
            clear hlen9
            generalize uk2.setCell ⟨gR, k * 3 + 2, none⟩ (.slice A9 (ek.near.length + 1) c9) = w6 at *
            have hR6 := hRn
            have hs6 := hsn
            have ho6' := hon
            clear hRn hsn hon hcp7 hcpb zb hzu hcu hrowb hln hnlb hnr5 hLN5 hR5 hs5 ho5' hcp7l hz7 gk0 gk1 hKne hbWb hdzb
            go_wp2
            go_roundw
            case rel =>
              (repeat apply Exists.intro)
              exact ⟨⟨k + 1, L6, by go_num, by omega, by omega, hLN6, hR6, fun e he => by have := hnr6 e he; omega, hs6.mono (by omega), ho6'⟩, rfl⟩
            case measure => simp [intOf]; omega

end Go.Proofs.YtgnbhcgagdfaiaaGreatDoor
