/- Lists of blocks that are drawn. Written by wip/gen/dl.py. -/
import Derived.Test.YtdlihohkamajbaaGreatDoorDw
import Derived.Test.YtdlihohkamajbaaGreatDoorBm
import Derived.Test.YtdlihohkamajbaaGreatDoorTBlock
namespace Go.Proofs.YtdlihohkamajbaaGreatDoor
open Go.RowKit
set_option linter.unusedVariables false

theorem dBlocks_of {xs : List DBlock} (hb : ∀ x ∈ xs, blockB x = true) (ho : Ordered xs) (hl : xs.length ≤ 32) : blocksB xs = true := by
  unfold blocksB
  rw [decide_eq_true hl, Bool.and_true, allIdx_true]
  intro i hi
  unfold bOk
  rw [List.getD_eq_getElem?_getD, List.getElem?_eq_getElem hi, Option.getD_some, hb _ (List.getElem_mem hi), Bool.true_and]
  rcases Nat.eq_zero_or_pos i with rfl | hp
  · rfl
  · obtain ⟨m, rfl⟩ : ∃ m, i = m + 1 := ⟨i - 1, by omega⟩
    have h1 := ho m hi
    rw [List.getD_eq_getElem?_getD, show m + 1 - 1 = m from rfl, List.getElem?_eq_getElem (by omega : m < xs.length), Option.getD_some, h1, Bool.or_true]
theorem dPut_mem {xs : List DBlock} {t x : DBlock} (h : x ∈ putF xs t) : x ∈ xs ∨ x = t := by
  unfold putF at h
  rw [List.mem_append, List.mem_cons] at h
  rcases h with h | h | h
  · exact .inl (List.mem_of_mem_take h)
  · exact .inr h
  · exact .inl (List.mem_of_mem_drop h)
theorem dBlocks_at {xs : List DBlock} (h : blocksB xs = true) {x : DBlock} (hx : x ∈ xs) : blockB x = true := by
  obtain ⟨k, hk, rfl⟩ := List.getElem_of_mem hx
  exact blocksB_one h hk
theorem dBlocks_put {xs : List DBlock} {t : DBlock} (h : blocksB xs = true) (ht : blockB t = true) (hl : (putF xs t).length ≤ 32) : blocksB (putF xs t) = true := by
  refine dBlocks_of (fun x hx => ?_) (putF_ordered (blocksB_ordered h) t) hl
  rcases dPut_mem hx with hx | rfl
  · exact dBlocks_at h hx
  · exact ht
/-- A list that l29Draw may draw. -/
def drawOk (xs : List DBlock) : Prop := blocksB xs = true ∧ (∀ x ∈ xs, x.kind ∈ kindL)
theorem drawOk_nil : drawOk [] := ⟨rfl, fun x hx => by cases hx⟩
theorem pbC_zero {xs : List DBlock} {t : DBlock} (h : pbC xs t = 0) : pbOk xs t = true ∧ (putF xs t).length ≤ 32 ∧ pbF xs t = putF xs t := by
  unfold pbC at h
  split at h
  · rename_i h1
    split at h
    · rename_i h2
      refine ⟨h1, h2, ?_⟩
      unfold pbF; rw [h1, decide_eq_true h2]; rfl
    · cases h
  · cases h
theorem drawOk_put {xs : List DBlock} {t : DBlock} (h : drawOk xs) (hk : t.kind ∈ kindL) (hc : pbC xs t = 0) : drawOk (pbF xs t) ∧ (pbF xs t).length ≤ xs.length + 1 := by
  obtain ⟨h1, h2, h3⟩ := pbC_zero hc
  rw [h3]
  unfold pbOk at h1
  rw [Bool.and_eq_true] at h1
  refine ⟨⟨dBlocks_put h1.1 h1.2 h2, fun x hx => ?_⟩, putF_len1⟩
  rcases dPut_mem hx with hx | rfl
  · exact h.2 x hx
  · exact hk
theorem kindL_size {k : ByteArray} (h : k ∈ kindL) : k.size ≤ 10 := by
  have h1 : ∀ x ∈ kindL, x.size ≤ 10 := by decide
  exact h1 _ h
theorem nameL_size {k : ByteArray} (h : k ∈ nameL) : k.size ≤ 10 := by
  have h1 : ∀ x ∈ nameL, x.size ≤ 10 := by decide
  exact h1 _ h
set_option maxRecDepth 100000 in
set_option maxHeartbeats 2000000 in
theorem l29Draw_any (n g : Nat) (w : World) (hs : SrcD n g w) (hn : n ≤ 999999970000) :
    Calls Tryz.prog 24 #[.pointer (some ⟨g, 0, none⟩)] w fun e w' => ∃ (v : Value) (xs : List DBlock) (fp : List Nat), e = .returned v ∧ Sl fBlock.cod w' v xs fp ∧ (∀ b ∈ fp, w.heap.size ≤ b) ∧ fp.Nodup ∧ drawOk xs ∧ xs.length ≤ 5 ∧ Only [g] w w' := by
  have hg := hs.lt
  have hB0 : Below w.heap.size w (w.alloc (.cells #[] 52)) := (Below.refl _ _).alloc (Nat.le_refl _) _
  go_enter Tryz.func24, Tryz.ntmps24
  go_wp2_with fail
  refine (pick_any n g 6 _ (hs.below hB0) (by omega) (by omega)).mono ?_
  rintro e w1 ⟨q, rfl, ⟨hq0, hq1, _⟩, hs1, ho1⟩
  have hq2 := hq1 (by omega)
  obtain ⟨m, rfl⟩ : ∃ m : Nat, q = m := ⟨q.toNat, by omega⟩
  have hO1 : Only [g] w w1 := Only.later hB0 ho1
  go_wp2
  go_loopw [3, 4] (fun v k wr => ∃ (j : Nat) (xs : List DBlock) (fp : List Nat), k = .int .i64 j ∧ j ≤ 5 ∧ j + xs.length ≤ 5 ∧ Sl fBlock.cod wr v xs fp ∧ (∀ b ∈ fp, w.heap.size ≤ b) ∧ fp.Nodup ∧ drawOk xs ∧ SrcD (n + 2 + 250 * (5 - j)) g wr ∧ Only [g] w wr) (fun _ k _ => (intOf k).toNat)
  case atStart => exact ⟨m, [], [], rfl, by omega, by rw [List.length_nil]; omega, ⟨_, 0, rfl, by simp, by simp [maxLen], .inl ⟨rfl, rfl⟩⟩, by simp, by simp, drawOk_nil, hs1.mono (by omega), hO1⟩
  case round =>
    obtain ⟨j, xs, fp, rfl, hj5, hj, hsl, hlo, hnd, hdr, hsr, hor⟩ := hrel
    cases j with
    | zero =>
      go_wp2
      go_ret
      exact ⟨_, xs, fp, rfl, hsl, hlo, hnd, hdr, by omega, hor⟩
    | succ j =>
      go_wp2_with fail
      refine (l29DrawOne_any _ g _ hsr (by omega)).mono ?_
      rintro e w2 ⟨x, he, hkx, htx, hnx, hs2, ho2⟩
      unfold bAg at he
      subst he
      have hor2 := hor.trans ho2
      have hsl2 := hsl.only ho2 (fun b hb => by have := hlo b hb; simp; omega)
      have hokx : fBlock.ok x := ⟨by have := kindL_size hkx; show _ ≤ _; omega, by have := nameL_size hnx; show _ ≤ _; omega, by show _ ≤ _; omega⟩
      clear hsl hsr
      go_wp2_with fail
      refine (specPutBlock_any _ xs fp x _ hsl2 hokx).mono ?_
      rintro e w3 ⟨v3, rfl, ⟨⟨fp3, hsl3, hlo3, hnd3⟩, hb3⟩⟩
      have hor3 := hor2.then (hb3.mono hor2.size)
      have hs3 := hs2.below hb3
      by_cases hc : pbC xs x = 0
      · obtain ⟨hd3, hl3⟩ := drawOk_put hdr hkx hc
        have e1 : (pbC xs x == 0) = true := by rw [hc]; rfl
        have hsz2 := hor2.size
        generalize pbF xs x = ys at *
        generalize pbC xs x = cc at *
        clear hc hsl2
        go_wp2
        go_roundw
        case rel => exact ⟨j, ys, fp3, by go_num, by omega, by omega, hsl3, fun b hb => Nat.le_trans hsz2 (hlo3 b hb), hnd3, hd3, hs3.mono (by omega), hor3⟩
        case measure => simp [intOf]
      · have e1 : (pbC xs x == 0) = false := by rw [beq_eq_false_iff_ne]; exact hc
        have hsl4 := hsl2.below' hb3
        generalize pbC xs x = cc at *
        clear hc hsl2 hsl3
        go_wp2
        go_roundw
        case rel => exact ⟨j, xs, fp, by go_num, by omega, by omega, hsl4, hlo, hnd, hdr, hs3.mono (by omega), hor3⟩
        case measure => simp [intOf]
set_option maxRecDepth 100000 in
set_option maxHeartbeats 2000000 in
theorem l00From_any (v : Value) (xs : List UInt8) (fp : List Nat) (w : World) (hx : Sl fByte.cod w v xs fp) :
    Calls Tryz.prog 23 #[v] w fun e w' => e = .returned (.pointer (some ⟨w.heap.size, 0, none⟩)) ∧ SrcD 0 w.heap.size w' ∧ Below w.heap.size w w' := by
  obtain ⟨A, cap, rfl, hlen, hcap⟩ := hx.form
  have hB : ∀ T, Below w.heap.size w (w.alloc (.cells #[.slice A xs.length cap, .int .i64 0, .int .u64 0] T)) := fun T => (Below.refl _ _).alloc (Nat.le_refl _) _
  have hlt := hx.lt
  go_enter Tryz.func23, Tryz.ntmps23
  go_wp2
  go_ret
  exact ⟨rfl, ⟨_, xs, fp, 0, 0, by simp, by simp, by simp, World.frozen?_alloc_at _ _ _ _ rfl, World.frozen?_alloc_at _ _ _ _ rfl, Nat.le_refl _, hx.below' (hB _), hlt⟩, hB _⟩
set_option maxRecDepth 100000 in
set_option maxHeartbeats 2000000 in
theorem R8Blocks_any (v : Value) (xs : List UInt8) (fp : List Nat) (w : World) (hx : Sl fByte.cod w v xs fp) :
    Calls Tryz.prog 6 #[v] w fun e w' => ∃ (y : Value) (ys : List DBlock), e = .returned y ∧ drawOk ys ∧ ys.length ≤ 5 ∧ New fBlock.cod w y ys w' := by
  go_enter Tryz.func6, Tryz.ntmps6
  go_wp2_with fail
  refine (l00From_any _ _ _ _ hx).mono ?_
  rintro e w1 ⟨rfl, hs1, hb1⟩
  go_wp2_with fail
  refine (l29Draw_any _ _ _ hs1 (by omega)).mono ?_
  rintro e w2 ⟨y, ys, fq, rfl, hsl, hlo, hnd, hdr, hl5, ho⟩
  go_wp2
  go_ret
  have hsz := hb1.size
  exact ⟨_, ys, rfl, hdr, hl5, ⟨⟨fq, hsl, fun b hb => Nat.le_trans hsz (hlo b hb), hnd⟩, hb1.trans (ho.below hsz (by simp))⟩⟩

end Go.Proofs.YtdlihohkamajbaaGreatDoor
