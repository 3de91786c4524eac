/- Contracts: the program's CountLines: a map of counts, its keys in order. Written by wip/gen/cm.py. -/
import Derived.Test.YtcahafbikmknaaaCl
import Derived.Test.YtcahafbikmknaaaIter
import Derived.Maps.OwnOps
import Derived.Maps.OwnSet
import Derived.StringKeys
namespace Go.Proofs.Ytcahafbikmknaaa
open Go.RowKit Go.Shelf Go.Sort Go.Maps
set_option linter.unusedVariables false
attribute [local go_sem] Oper.semAt_some

abbrev DU := DataW Unit
theorem insert_perm_ (x : Lit × DU) : ∀ l : List (Lit × DU), (DataW.insert x l).Perm (x :: l)
  | [] => List.Perm.refl _
  | y :: l => by
    unfold DataW.insert
    split
    · exact List.Perm.refl _
    · exact ((insert_perm_ x l).cons y).trans (List.Perm.swap x y l)
def litS (s : ByteArray) : Lit := .string s.data.toList
theorem litS_inj {a b : ByteArray} (h : litS a = litS b) : a = b := by
  unfold litS at h; injection h with h; exact data_inj h
def numD (n : Nat) : DU := .lit (.int .i64 (n : Int))
/-- The map's entries after the lines L. -/
structure CntD (es : List (Lit × DU)) (L : List ByteArray) : Prop where
  val : ∀ p ∈ es, ∃ s : ByteArray, p.1 = litS s ∧ s ∈ L ∧ p.2 = numD (cntS L s)
  has : ∀ s ∈ L, ∃ p ∈ es, p.1 = litS s
  nd : (es.map (fun p => p.1)).Nodup
theorem CntD.nil : CntD [] [] := ⟨by simp, by simp, by simp⟩
theorem CntD.at_ {es : List (Lit × DU)} {L : List ByteArray} (h : CntD es L) (s : ByteArray) : (DataW.map es : DU).atKey (litS s) (.lit (.int .i64 0)) = numD (cntS L s) := by
  simp only [DataW.atKey]
  cases hf : es.find? (fun p => p.1.sameKey (litS s)) with
  | some p =>
    have hp := List.mem_of_find?_eq_some hf
    have hk := List.find?_some hf
    obtain ⟨s', e1, _, e2⟩ := h.val p hp
    rw [e1] at hk
    have : s' = s := by
      simp only [litS, Lit.sameKey, beq_iff_eq] at hk
      exact data_inj hk
    subst this
    exact e2
  | none =>
    rw [List.find?_eq_none] at hf
    have hn : s ∉ L := fun hm => by
      obtain ⟨p, hp, e⟩ := h.has s hm
      have := hf p hp
      rw [e] at this
      simp [litS, Lit.sameKey] at this
    rw [cntS_zero hn]; rfl
theorem CntD.put {es : List (Lit × DU)} {L : List ByteArray} (h : CntD es L) (s : ByteArray) : ∃ es', (DataW.map es : DU).put (litS s) (numD (cntS L s + 1)) = .map es' ∧ CntD es' (L ++ [s]) := by
  refine ⟨_, DataW.put_eq es _ _, ?_⟩
  have hp := insert_perm_ (litS s, numD (cntS L s + 1)) (es.filter (Go.ChangeMaps.notKey (litS s)))
  have hnk : ∀ p ∈ es, Go.ChangeMaps.notKey (litS s) p = true ↔ p.1 ≠ litS s := fun p hp => by
    obtain ⟨s', e1, _, _⟩ := h.val p hp
    exact Go.ChangeMaps.notKey_iff ⟨_, rfl⟩ ⟨_, e1⟩
  have hmem : ∀ p, p ∈ Go.ChangeMaps.putKey (litS s) (numD (cntS L s + 1)) es ↔ p = (litS s, numD (cntS L s + 1)) ∨ (p ∈ es ∧ p.1 ≠ litS s) := fun p => by
    refine (hp.mem_iff).trans ?_
    rw [List.mem_cons, List.mem_filter]
    exact or_congr Iff.rfl ⟨fun ⟨a, b⟩ => ⟨a, (hnk p a).1 b⟩, fun ⟨a, b⟩ => ⟨a, (hnk p a).2 b⟩⟩
  refine ⟨fun p hp' => ?_, fun t ht => ?_, ?_⟩
  · rcases (hmem p).1 hp' with rfl | ⟨h1, h2⟩
    · exact ⟨s, rfl, by simp, by rw [cntS_snoc, if_pos rfl]⟩
    · obtain ⟨s', e1, e2, e3⟩ := h.val p h1
      refine ⟨s', e1, by simp [e2], ?_⟩
      rw [cntS_snoc, if_neg (fun e => h2 (by rw [e1, e]))]
      exact e3
  · rcases List.mem_append.1 ht with ht | ht
    · by_cases e : t = s
      · exact ⟨_, (hmem _).2 (.inl rfl), by rw [e]⟩
      · obtain ⟨p, h1, h2⟩ := h.has t ht
        exact ⟨p, (hmem p).2 (.inr ⟨h1, fun e' => e (litS_inj (h2.symm.trans e'))⟩), h2⟩
    · rw [List.mem_singleton] at ht
      subst ht
      exact ⟨_, (hmem _).2 (.inl rfl), rfl⟩
  · have h2 := (hp.map (fun p => p.1)).nodup_iff.2 (by
      rw [List.map_cons, List.nodup_cons]
      refine ⟨fun hm => ?_, (List.filter_sublist.map _).nodup h.nd⟩
      obtain ⟨p, h3, h4⟩ := List.mem_map.1 hm
      rw [List.mem_filter] at h3
      exact (hnk p h3.1).1 h3.2 h4)
    exact h2
/-- The keys, in order, are the different lines. -/
theorem CntD.keys {es : List (Lit × DU)} {L : List ByteArray} (h : CntD es L) {ss : List (List UInt8)} (hp : ss.Perm (strKeys (DataW.map es : DU))) :
    (ss.mergeSort (fun x y => decide (x ≤ y))).map encStr = (cdF L).flatMap fStr.enc ∧ ss.length = (cdF L).length := by
  obtain ⟨M, hM⟩ : ∃ M : List ByteArray, M = ss.map (fun l => (⟨l.toArray⟩ : ByteArray)) := ⟨_, rfl⟩
  have e1 : ss = M.map (fun x : ByteArray => x.data.toList) := by rw [hM, List.map_map]; simp [Function.comp_def]
  have hmem : ∀ s, s ∈ M ↔ s ∈ L := fun s => by
    rw [hM, List.mem_map]
    constructor
    · rintro ⟨l, hl, rfl⟩
      have := (hp.mem_iff).1 hl
      obtain ⟨p, h1, rfl⟩ := List.mem_map.1 this
      obtain ⟨s', e1, e2, _⟩ := h.val p h1
      rw [e1]
      have : (⟨(strOf (litS s')).toArray⟩ : ByteArray) = s' := by simp [strOf, litS]
      rw [this]; exact e2
    · intro hs
      obtain ⟨p, h1, h2⟩ := h.has s hs
      refine ⟨s.data.toList, (hp.mem_iff).2 (List.mem_map.2 ⟨p, h1, by rw [h2]; rfl⟩), by simp⟩
  have hnd : M.Nodup := by
    have h1 : (strKeys (DataW.map es : DU)).Nodup := by
      show (es.map fun p => strOf p.1).Nodup
      have h2 := h.nd
      rw [List.nodup_iff_pairwise_ne] at *
      rw [List.pairwise_map] at *
      refine List.Pairwise.imp_of_mem ?_ h2
      intro a b ha hb hab e
      obtain ⟨s1, e1, _, _⟩ := h.val a ha
      obtain ⟨s2, e2, _, _⟩ := h.val b hb
      rw [e1, e2] at hab e
      have e' : s1.data.toList = s2.data.toList := e
      exact hab (by unfold litS; rw [e'])
    have h2 := (hp.nodup_iff).2 h1
    rw [e1] at h2
    rw [List.nodup_iff_pairwise_ne] at *
    rw [List.pairwise_map] at h2
    exact h2.imp (fun h e => h (by rw [e]))
  have e2 : srtF M = cdF L := cdF_of (ssrt_of (srtF_srt M) ((srtF_perm M).nodup_iff.2 hnd)) (fun s => ((srtF_perm M).mem_iff).trans (hmem s))
  refine ⟨?_, ?_⟩
  · rw [e1, ← srtF_map, ← encStr_map, e2]
  · rw [← e2, srtF_len, e1, List.length_map]
theorem own_monoE {α : Type} {E : Flat α} {w : World} {base base' : Nat} {e : TypeId} {v : Value} {L : List α} (h : Own E w base e v L) (hb : base' ≤ base) : Own E w base' e v L := by
  obtain ⟨h1, h2⟩ := h
  refine ⟨h1, ?_⟩
  rcases h2 with h2 | ⟨g, cap, cur, hv, hg, r⟩
  · exact .inl h2
  · exact .inr ⟨g, cap, cur, hv, by omega, r⟩
theorem ownsMap_below {P : Program} {k : TypeId} {R : Value → Option (DU × List MemPlace)} {w w' : World} {b n B : Nat} {D : DU} (h : w.ownsMap P k R b n D) (hb : Below B w w') (hB : b < B) : w'.ownsMap P k R b n D := by
  obtain ⟨es, clock, h1, r⟩ := h
  exact ⟨es, clock, (hb.block b hB).trans h1, r⟩
theorem sortsIn_any (m : Nat) : AnyZ.SortsIn Try.prog Try.sortedLay_ren Fence.wide m :=
  ⟨fun blk off cap ss W hH hblk hsz => callsIn_wide.2 (Try.slices_Sort_string blk off cap ss W hH hblk hsz), fun p cap W => callsIn_wide.2 (Try.slices_Sort_string_none p cap W)⟩
theorem keysM_any (b : Nat) (w : World) : Calls Try.prog 52 #[.map (some b)] w fun e w' => e = .returned (.func (.func 69) #[] #[.pointer (some ⟨w.heap.size, 0, none⟩)]) ∧ w' = w.alloc (.cells #[.map (some b)] 72) :=
  (callsIn_wide (n := 5)).1 (AnyZ.keys_in Try.keysLay Fence.wide 5 trivial rfl (some b) w)
set_option maxHeartbeats 1000000 in
theorem sortedKeys_any (b nn : Nat) (es : List (Lit × DU)) (L : List ByteArray) (R : Value → Option (DU × List MemPlace)) (w : World) (hown : w.ownsMap Try.prog 9 R b nn (.map es)) (hn : nn ≤ 1000000) (hc : CntD es L) :
    Calls Try.prog 50 #[.func (.func 69) #[] #[.pointer (some ⟨w.heap.size, 0, none⟩)]] (w.alloc (.cells #[.map (some b)] 72)) fun e w' => OwnRS fStr 9 (w.alloc (.cells #[.map (some b)] 72)) (cdF L) e w' := by
  have hbl := hown.lt
  have hsize := hown.size_le
  have hseq : SeqGives Fence.wide 2 Try.prog 69 #[.pointer (some ⟨w.heap.size, 0, none⟩)] encStr (fun ss => ss.Perm (strKeys (DataW.map es : DU))) (Maps.size (DataW.map es : DU)) (w.alloc (.cells #[.map (some b)] 72)) :=
    AnyZ.keys_gives (ρ := Try.keysLay_ren) { Try.keysLay with } Fence.wide _ trivial rfl (by omega) w.heap.size b nn _ _ (by simp) (by simp) (by
      obtain ⟨es', clock, hb, Ft, hs, hD⟩ := hown
      exact ⟨es', clock, (Below.heap_alloc _ _ b hbl).trans hb, Ft, hs, hD⟩)
  refine ((callsIn_wide (n := 5)).1 (AnyZ.sorted_in Try.sortedLay Fence.wide 5 trivial trivial trivial trivial rfl (by omega) (sortsIn_any _) (enters_of Try.func67 (by kernel_rfl) rfl) 69 #[.pointer (some ⟨w.heap.size, 0, none⟩)] trivial (enters_of Try.func69 (by kernel_rfl) rfl) _ _ (by unfold maxLen; omega) (by omega) _ hseq)).mono ?_
  rintro e w' ⟨v, ss, rfl, hS, hrow, _, hb⟩
  obtain ⟨e1, e2⟩ := hc.keys hS
  rw [e1, e2] at hrow
  exact ⟨v, rfl, hrow, hb⟩

theorem New2R.of' {w w3 w' : World} {v1 v2 : Value} {xs : List ByteArray} {ys : List Int} {b1 : Nat} {T1 T2 : TypeId} {c : Int} (h1 : Own fStr w3 b1 T1 v1 xs) (h2 : Own fInt w' w3.heap.size T2 v2 ys) (hb1 : w.heap.size ≤ b1) (hw3 : w.heap.size ≤ w3.heap.size) (hb3 : Below w3.heap.size w3 w')
    (ok1 : ∀ x ∈ xs, fStr.ok x) (ok2 : ∀ y ∈ ys, fInt.ok y) (hb : Below w.heap.size w w') : New2R w xs ys c (.returned (.tuple #[v1, v2, .int .i64 c])) w' := by
  refine New2R.of (h1.below hb3) h2 hb1 hw3 ?_ ok1 ok2 hb
  rcases h2.2 with ⟨hv, _⟩ | ⟨g2, _, _, hv, hg2, _⟩
  · subst hv; exact .inr (.inr rfl)
  · rcases h1.2 with ⟨hv1, _⟩ | ⟨g1, _, _, hv1, _, hh, _⟩
    · subst hv1; exact .inr (.inl rfl)
    · subst hv hv1
      have := (Array.getElem?_eq_some_iff.1 hh).1
      exact .inl (by simp [Value.ownBlock]; omega)
theorem mapT_under : Try.prog.underlying 72 = some (.map 9 2) := by kernel_rfl
theorem int64T_under : Try.prog.underlying 2 = some (.int .i64) := by kernel_rfl
theorem strT_under : Try.prog.underlying 9 = some .string := by kernel_rfl
theorem zeroI_run (w : World) : (zeroValue 2).run Try.prog w = .ok (.int .i64 0) w := by kernel_rfl
set_option maxRecDepth 100000 in
set_option maxHeartbeats 4000000 in
theorem implCountLines_any (v : Value) (xs : List ByteArray) (fp : List Nat) (w : World) (hx : Sl fStr.cod w v xs fp) :
    Calls Try.prog 28 #[v] w fun e w' => New2R w (clD xs) (clM xs) (clC xs) e w' := by
  obtain ⟨A, cap, rfl, hlen, hcap⟩ := hx.form
  obtain ⟨j0, hj, hy0, hy1, hy2⟩ := info_parts infoInt3
  have hmm := @run_makeMap Try.prog
  go_enter Try.func28, Try.ntmps28
  go_wp2_with fail
  refine (implValidReport_any _ xs fp _ hx).mono ?_
  rintro e w' ⟨rfl, rfl⟩
  cases h0 : linesB xs
  · have HC := Lib.hid (show clC xs = 1 by rw [clC, h0]; rfl)
    have HD := Lib.hid (show clD xs = [] by rw [clD, h0]; rfl)
    have HM := Lib.hid (show clM xs = [] by rw [clM, h0]; rfl)
    go_wp2
    go_ret3
    rw [HC.out, HD.out, HM.out]
    exact New2R.nil (Below.refl _ _)
  · have hl := linesB_len h0
    have HC := Lib.hid (show clC xs = 0 by rw [clC, h0]; rfl)
    have HD := Lib.hid (show clD xs = cdF xs by rw [clD, h0]; rfl)
    have HM := Lib.hid (show clM xs = cmF xs by rw [clM, h0]; rfl)
    go_wp2
    go_loopw [18] (fun i wr => ∃ k : Nat, k ≤ xs.length ∧ i = .int .i64 k ∧ (∃ es, wr.ownsMap Try.prog 9 (plainElem Try.prog 2) w.heap.size k (.map es) ∧ CntD es (xs.take k)) ∧ Below w.heap.size w wr) (fun i _ => xs.length - (intOf i).toNat)
    case atStart => exact ⟨0, Nat.zero_le _, rfl, ⟨[], World.ownsMap_made _ _ _ _, CntD.nil⟩, (Below.refl _ _).alloc (Nat.le_refl _) _⟩
    case round =>
      obtain ⟨k, hk, rfl, ⟨es, hown, hD⟩, hb⟩ := hrel
      by_cases hlt : k < xs.length
      · obtain ⟨b5, off5, rfl, _, hok5, hc0, _⟩ := (hx.below' hb).cell1 rfl (k := k) hlt rfl
        have hok5' : xs[k].size ≤ 9223372036854775807 := hok5
        have hkey : keyOf Try.prog 9 (.string xs[k]) = some (litS xs[k]) := Go.WideMaps.keyOf_string_mk strT_under (by unfold maxLen; exact hok5')
        have hcl := cntS_le (xs.take k) xs[k]
        rw [List.length_take] at hcl
        go_wp2_with (at_lookup; refine wpList_lookup_own_int _ rfl _ _ 72 rfl 9 2 .i64 (Maps.string_keyed strT_under) mapT_under int64T_under (zeroI_run _) w.heap.size k _ rfl hown _ _ rfl hkey ?_)
        intro c hat hwc
        have hc : c = (cntS (xs.take k) xs[k] : Int) := by
          have h := hD.at_ xs[k]
          rw [h] at hat
          unfold numD at hat
          injection hat with hat
          injection hat with _ hat
          exact hat.symm
        obtain ⟨es', hput, hD'⟩ := hD.put xs[k]
        obtain ⟨cn, hcn⟩ : ∃ cn, cn = cntS (xs.take k) xs[k] := ⟨_, rfl⟩
        rw [← hcn] at hc hput hcl
        subst hc
        have hcl2 : (cn : Int) ≤ 200 := by omega
        have hT := List.take_succ_eq_append_getElem hlt
        rw [← hT] at hD'
        have HP := Lib.hid hput
        clear hat hwc hput hT hcn hD hcl
        have hval : plainElem (H := Unit) Try.prog 2 (.int .i64 ((cn : Int) + 1)) = some (numD (cn + 1), []) := plainElem_int int64T_under (a := (cn : Int) + 1) (WalkArith.wf_i64 (by omega))
        have HV := Lib.hid hval
        clear hval
        go_wp2_with (at_mapUpdate; refine wpList_mapUpdate_own _ rfl _ _ _ 72 rfl 9 2 (Maps.string_keyed strT_under) mapT_under _ w.heap.size k _ rfl hown (by unfold maxLen; omega) _ _ _ rfl rfl hkey _ [] HV.out ?_)
        intro w1 hown1 hgrow1
        have hb1 : Below w.heap.size w w1 := hb.grown hgrow1 hb.size (fun j hj => by cases hj; exact Nat.le_refl _)
        rw [HP.out] at hown1
        go_wp2
        go_roundw
        case rel => exact ⟨k + 1, by omega, by go_num, ⟨es', hown1, hD'⟩, hb1⟩
        case measure => simp [intOf]; omega
      · have e1 : xs.take k = xs := List.take_of_length_le (by omega)
        rw [e1] at hD
        have hkl : k ≤ 200 := by omega
        clear e1
        go_wp2_with fail
        refine (keysM_any _ _).mono ?_
        rintro e w' ⟨rfl, rfl⟩
        go_wp2_with fail
        refine (sortedKeys_any w.heap.size k es xs _ _ hown (by omega) hD).mono ?_
        rintro e w3 ⟨v3, rfl, hown3, hb3⟩
        have hbk : Below wr.heap.size wr (wr.alloc (.cells #[.map (some w.heap.size)] 72)) := (Below.refl _ _).alloc (Nat.le_refl _) _
        have hB3 : Below wr.heap.size wr w3 := hbk.trans (hb3.mono hbk.size)
        have hown4 := ownsMap_below hown hB3 hown.lt
        have hwr := hown.lt
        have hB4 : Below w.heap.size w w3 := hb.trans (hB3.mono hb.size)
        have hs4 := hB3.size
        have hcdl := cdF_len xs
        have hcok : ∀ x ∈ cdF xs, fStr.ok x := fun x hm => hx.oks x ((cdF_mem xs x).1 hm)
        have hown3' : Own fStr w3 w.heap.size 9 v3 (cdF xs) := own_monoE hown3 (by have := hbk.size; have := hb.size; omega)
        obtain ⟨fpd, hsd, _, _⟩ := hown3'.fp hcok
        obtain ⟨A3, cap3, rfl, hle3, hca3⟩ := hsd.form
        obtain ⟨nd, hnd⟩ : ∃ nd, (cdF xs).length = nd := ⟨_, rfl⟩
        have Hnd := Lib.hid hnd
        rw [hnd] at hsd hcdl hle3 hown3' ⊢
        clear hnd hown3 hown
        go_wp2
        go_loopw [9, 32] (fun a i w5 => ∃ m : Nat, m ≤ nd ∧ i = .int .i64 m ∧ Own fInt w5 w3.heap.size 2 a (((cdF xs).take m).map (fun s => (cntS xs s : Int))) ∧ Below w3.heap.size w3 w5) (fun _ i _ => nd - (intOf i).toNat)
        case atStart => exact ⟨0, Nat.zero_le _, rfl, Own.nil fInt _ _ _, Below.refl _ _⟩
        case round =>
          obtain ⟨m, hm, rfl, ho, hbw⟩ := hrel
          by_cases hlt2 : m < nd
          · have hmlt : m < (cdF xs).length := by have := Hnd.out; omega
            obtain ⟨b5, off5, rfl, _, hok5, hc0, _⟩ := (hsd.below' hbw).cell1 rfl (k := m) hmlt rfl
            have hok5' : (cdF xs)[m].size ≤ 9223372036854775807 := hok5
            have hkey : keyOf Try.prog 9 (.string (cdF xs)[m]) = some (litS (cdF xs)[m]) := Go.WideMaps.keyOf_string_mk strT_under (by unfold maxLen; exact hok5')
            have hownW := ownsMap_below hown4 hbw (by omega)
            have hat0 := hD.at_ (cdF xs)[m]
            have hcl := cntS_le xs (cdF xs)[m]
            have HT := Lib.hid (show ((cdF xs).take (m + 1)).map (fun s => (cntS xs s : Int)) = ((cdF xs).take m).map (fun s => (cntS xs s : Int)) ++ [(cntS xs (cdF xs)[m] : Int)] by rw [List.take_succ_eq_append_getElem hmlt, List.map_append]; rfl)
            have hlt3 : (((cdF xs).take m).map (fun s => (cntS xs s : Int))).length = m := by rw [List.length_map, List.length_take]; omega
            obtain ⟨cn, hcn⟩ : ∃ cn, cn = cntS xs (cdF xs)[m] := ⟨_, rfl⟩
            rw [← hcn] at hat0 hcl HT
            obtain ⟨X, hX⟩ : ∃ X, X = ((cdF xs).take m).map (fun s => (cntS xs s : Int)) := ⟨_, rfl⟩
            rw [← hX] at ho HT hlt3
            have hs5 := hbw.size
            clear hcn hX
            have Hat0 := Lib.hid hat0
            have Hl3 := Lib.hid hlt3
            clear hat0 hlt3
            have hoW : wr.ownsRow w3.heap.size 2 1 u9 X.length (X.flatMap fInt.enc) := ho
            have hXl : X.length ≤ 1000000 := by have := Hl3.out; omega
            clear ho
            go_wp2_with (at_lookup; refine wpList_lookup_own_int _ rfl _ _ 72 rfl 9 2 .i64 (Maps.string_keyed strT_under) mapT_under int64T_under (zeroI_run _) w.heap.size k _ rfl hownW _ _ rfl hkey ?_)
            intro c hat hwc
            have hc : c = (cn : Int) := by
              rw [Hat0.out] at hat
              unfold numD at hat
              injection hat with hat
              injection hat with _ hat
              exact hat.symm
            subst hc
            clear hat hwc
            go_wp2_with (at_builtin; refine wpList_append_one rfl _ _ 38 rfl w3.heap.size 2 j0 (.int .i64 0) 1 8 Try.underlying38 hj hy0 hy1 hy2 rfl (by decide) u9 X.length _ rfl hoW [.int .i64 cn] rfl (by intro u hu; rw [List.mem_singleton] at hu; subst hu; rfl) rfl (by omega) (by decide) hs5 ?_)
            intro v' w6 hown6 hb6 _ _
            have hb7 := hbw.trans hb6
            have ho7 : Own fInt w6 w3.heap.size 2 v' (((cdF xs).take (m + 1)).map (fun s => (cntS xs s : Int))) := by rw [HT.out]; exact Own.push (cn : Int) rfl hown6
            clear hown6
            go_wp2
            go_roundw
            case rel => exact ⟨m + 1, by omega, by go_num, ho7, hb7⟩
            case measure => simp [intOf]; omega
          · have hnd := Hnd.out
            rw [List.take_of_length_le (by omega)] at ho
            have hfin := New2R.of' (w := w) (c := 0) hown3' ho (Nat.le_refl _) hB4.size hbw hcok (clM_ok (by omega)) (hB4.trans (hbw.mono hB4.size))
            clear ho hnd
            go_wp2
            go_ret3
            rw [HC.out, HD.out, HM.out]
            exact hfin

end Go.Proofs.Ytcahafbikmknaaa
