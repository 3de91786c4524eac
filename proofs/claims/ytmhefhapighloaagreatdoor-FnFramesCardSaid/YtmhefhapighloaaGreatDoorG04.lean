/- Parts of the proof: Pa, TInt64, Dm, Bp, Bn, Bd, Bq, Bt, Bi, Bj, Bm. -/
import Derived.Test.YtmhefhapighloaaGreatDoorG03
import Derived.Test.YtmhefhapighloaaGreatDoorG01
import Derived.Lib.AppendZerosOnto
import Derived.Lib.Overlaps
import Derived.Laws.Externs
namespace Go.Proofs.YtmhefhapighloaaGreatDoor
open Go.RowKit
set_option linter.unusedVariables false

def restP (line : ByteArray) : ByteArray := line.extract 6 line.size
def firK (r : ByteArray) : Nat := ixL 32 r.data.toList
def secK (r : ByteArray) : Nat := firK r + 1 + ixL 32 (r.data.toList.drop (firK r + 1))
def blkP (r : ByteArray) : DBlock := ⟨r.extract 0 (firK r), r.extract (firK r + 1) (secK r), r.extract (secK r + 1) r.size⟩
def parseC (line : ByteArray) : Int := if line.size < 6 ∨ line.data.toList[5]? ≠ some 32 then 9 else if line.extract 0 5 ≠ fiveS (crcF (restP line)) then 10 else if (restP line).size ≤ secK (restP line) ∨ blockB (blkP (restP line)) = false then 9 else 0
def parseB (line : ByteArray) : DBlock := if parseC line = 0 then blkP (restP line) else b0
theorem parse_short {line : ByteArray} (h : line.size < 6) : parseC line = 9 ∧ parseB line = b0 := by
  have e : parseC line = 9 := by unfold parseC; rw [if_pos (.inl h)]
  exact ⟨e, by unfold parseB; rw [e]; rfl⟩
theorem at_list {s : ByteArray} {k : Nat} (h : k < s.size) : s.data.toList[k]? = some s[k] := by
  rw [List.getElem?_eq_getElem (by simpa using h)]; rfl
theorem parse_nosp {line : ByteArray} (h : 5 < line.size) (h5 : line[5] ≠ 32) : parseC line = 9 ∧ parseB line = b0 := by
  have e : parseC line = 9 := by
    unfold parseC; rw [if_pos (.inr (by rw [at_list h]; intro e; exact h5 (Option.some.inj e)))]
  exact ⟨e, by unfold parseB; rw [e]; rfl⟩
theorem parse_go {line : ByteArray} (h : 5 < line.size) (h5 : line[5] = 32) : ¬ (line.size < 6 ∨ line.data.toList[5]? ≠ some 32) := by
  rw [at_list h, h5]; rintro (h1 | h1)
  · omega
  · exact h1 rfl
theorem parse_sum {line : ByteArray} (h : 5 < line.size) (h5 : line[5] = 32) (hne : line.extract 0 5 ≠ fiveS (crcF (restP line))) : parseC line = 10 ∧ parseB line = b0 := by
  have e : parseC line = 10 := by unfold parseC; rw [if_neg (parse_go h h5), if_pos hne]
  exact ⟨e, by unfold parseB; rw [e]; rfl⟩
theorem parse_form {line : ByteArray} (h : 5 < line.size) (h5 : line[5] = 32) (he : line.extract 0 5 = fiveS (crcF (restP line))) (hk : (restP line).size ≤ secK (restP line)) : parseC line = 9 ∧ parseB line = b0 := by
  have e : parseC line = 9 := by unfold parseC; rw [if_neg (parse_go h h5), if_neg (fun hn => hn he), if_pos (.inl hk)]
  exact ⟨e, by unfold parseB; rw [e]; rfl⟩
theorem parse_bad {line : ByteArray} (h : 5 < line.size) (h5 : line[5] = 32) (he : line.extract 0 5 = fiveS (crcF (restP line))) (hk : blockB (blkP (restP line)) = false) : parseC line = 9 ∧ parseB line = b0 := by
  have e : parseC line = 9 := by unfold parseC; rw [if_neg (parse_go h h5), if_neg (fun hn => hn he), if_pos (.inr hk)]
  exact ⟨e, by unfold parseB; rw [e]; rfl⟩
theorem parse_fine {line : ByteArray} (h : 5 < line.size) (h5 : line[5] = 32) (he : line.extract 0 5 = fiveS (crcF (restP line))) (hk : secK (restP line) < (restP line).size) (hb : blockB (blkP (restP line)) = true) : parseC line = 0 ∧ parseB line = blkP (restP line) := by
  have e : parseC line = 0 := by
    unfold parseC; rw [if_neg (parse_go h h5), if_neg (fun hn => hn he), if_neg]
    rintro (h1 | h1)
    · omega
    · rw [hb] at h1; cases h1
  exact ⟨e, by unfold parseB; rw [if_pos e]⟩
def bAgg (b : DBlock) : Value := .agg #[.string b.kind, .string b.name, .string b.text]
def PRet (line : ByteArray) (e : Ending) : Prop := e = .returned (.tuple #[bAgg (parseB line), .int .i64 (parseC line)])
theorem PRet.of {line : ByteArray} {b : DBlock} {c : Int} (h : parseC line = c ∧ parseB line = b) : PRet line (.returned (.tuple #[bAgg b, .int .i64 c])) := by
  unfold PRet; rw [h.1, h.2]
theorem firK_le (r : ByteArray) : firK r ≤ r.size := by
  have := ixL_le 32 r.data.toList; unfold firK; simpa using this
theorem secK_hit {r : ByteArray} {i k : Nat} (hi : firK r = i) (hk : k < r.size) (hik : i + 1 ≤ k) (h : r[k] = 32) (hs : secK r = k + ixL 32 (r.data.toList.drop k)) : secK r = k := by
  rw [hs, ixL_hit (by simpa using hk) h]; rfl
theorem ix_end {r : ByteArray} {k : Nat} (hk : r.size ≤ k) : ixL 32 (r.data.toList.drop k) = 0 := ixL_end (by simpa using hk)
theorem ix_no {r : ByteArray} {k : Nat} (hk : k < r.size) (h : r[k] ≠ 32) : ixL 32 (r.data.toList.drop k) = ixL 32 (r.data.toList.drop (k + 1)) + 1 := ixL_no (by simpa using hk) h
theorem ix_hit {r : ByteArray} {k : Nat} (hk : k < r.size) (h : r[k] = 32) : ixL 32 (r.data.toList.drop k) = 0 := ixL_hit (by simpa using hk) h
theorem byte_ne {a b : UInt8} (h : a ≠ b) : ¬ (a.toNat : Int) = (b.toNat : Int) := by intro e; exact h (UInt8.toNat_inj.1 (by omega))
theorem byte_neT {a : UInt8} (h : a ≠ 32) : ((a.toNat : Int) != 32) = true := by rw [bne_iff_ne]; exact byte_ne (b := 32) h
theorem byte_neF {a : UInt8} (h : a = 32) : ((a.toNat : Int) != 32) = false := by rw [h]; rfl
theorem setCell_hit {w : World} {p : Addr} {x : Value} (h : (w.cell? p).isSome = true) : (w.setCell p x).cell? p = some x := by
  obtain ⟨v, hv⟩ := Option.isSome_iff_exists.1 h
  exact World.cell?_setCell_same w p x hv
/-- The three cells of a box of a block that lies in front of the base. -/
structure Box3 (w : World) (g : Nat) : Prop where
  d0 : w.cell? ⟨g, 0, none⟩ = some (.string ⟨#[]⟩)
  d1 : w.cell? ⟨g, 1, none⟩ = some (.string ⟨#[]⟩)
  d2 : w.cell? ⟨g, 2, none⟩ = some (.string ⟨#[]⟩)
  z0 : w.frozen? ⟨g, 0, none⟩ = false
  z1 : w.frozen? ⟨g, 1, none⟩ = false
  z2 : w.frozen? ⟨g, 2, none⟩ = false
theorem Box3.new (w : World) (T : TypeId) : Box3 (w.alloc (.cells #[.string ⟨#[]⟩, .string ⟨#[]⟩, .string ⟨#[]⟩] T)) w.heap.size := by
  constructor <;> simp
theorem Box3.below {w w' : World} {g B : Nat} (h : Box3 w g) (hb : Below B w w') (hg : g < B) (hw : g < w.heap.size) : Box3 w' g :=
  ⟨(hb.cell (p := ⟨g, _, none⟩) hg).trans h.d0, (hb.cell (p := ⟨g, _, none⟩) hg).trans h.d1, (hb.cell (p := ⟨g, _, none⟩) hg).trans h.d2,
   (hb.frozen (p := ⟨g, _, none⟩) hg).trans h.z0, (hb.frozen (p := ⟨g, _, none⟩) hg).trans h.z1, (hb.frozen (p := ⟨g, _, none⟩) hg).trans h.z2⟩

theorem bytes_take (s : ByteArray) (i : Nat) : (⟨(s.data.toList.take i).toArray⟩ : ByteArray) = s.extract 0 i := data_inj (by rw [extract_toList, List.drop_zero])
theorem bytes_drop (s : ByteArray) (i : Nat) : (⟨(s.data.toList.drop i).toArray⟩ : ByteArray) = s.extract i s.size := data_inj (by rw [extract_toList, List.take_of_length_le (by simp)])
theorem cut_hit {s : ByteArray} (h : firK s < s.size) : Lib.cut s.data.toList [32] = (s.data.toList.take (firK s), s.data.toList.drop (firK s + 1), true) := by
  have hi := ixL_index 32 s.data.toList
  have hf : ixL 32 s.data.toList = firK s := rfl
  rw [hf, if_pos (by simpa using h)] at hi
  unfold Lib.cut
  rw [hi, if_pos (by omega)]
  rfl
theorem cut_miss {s : ByteArray} (h : s.size ≤ firK s) : Lib.cut s.data.toList [32] = (s.data.toList, [], false) := by
  have hi := ixL_index 32 s.data.toList
  have hf : ixL 32 s.data.toList = firK s := rfl
  rw [hf, if_neg (by simp; omega)] at hi
  unfold Lib.cut
  rw [hi, if_neg (by omega)]
def cutA (s : ByteArray) : ByteArray := if firK s < s.size then s.extract 0 (firK s) else s
def cutZ (s : ByteArray) : ByteArray := if firK s < s.size then s.extract (firK s + 1) s.size else ⟨#[]⟩
def cutF (s : ByteArray) : Bool := decide (firK s < s.size)
theorem cut_any (s : ByteArray) (m : Int) (w : World) (hs : s.size ≤ 1048576) (hm : w.cell? ⟨1, 0, none⟩ = some (.int .i64 m)) :
    Calls Tryz.prog 57 #[.string s, .string ⟨#[32]⟩] w fun e w' => e = .returned (.tuple #[.string (cutA s), .string (cutZ s), .bool (cutF s)]) ∧ Below w.heap.size w w' := by
  refine (Tryz.strings_Cut s ⟨#[32]⟩ m w (by omega) hm).mono ?_
  rintro e w' ⟨rfl, n, rfl⟩
  refine ⟨?_, below_drewN (Below.refl _ _) _⟩
  rw [show (⟨#[32]⟩ : ByteArray).data.toList = [32] from rfl]
  unfold cutA cutZ cutF
  by_cases h : firK s < s.size
  · rw [cut_hit h, if_pos h, if_pos h, decide_eq_true h]
    simp only [bytes_take, bytes_drop]
  · rw [cut_miss (by omega), if_neg h, if_neg h, decide_eq_false h, ← bytes_selfA s]
theorem firK_rest {R : ByteArray} {i : Nat} : firK (R.extract i R.size) = ixL 32 (R.data.toList.drop i) := by
  unfold firK; rw [extract_toList, List.take_of_length_le (by simp)]
theorem ext_name {R : ByteArray} {i j : Nat} : (R.extract i R.size).extract 0 j = R.extract i (i + j) := by
  refine data_inj ?_
  rw [extract_toList, extract_toList, extract_toList, List.take_of_length_le (l := R.data.toList) (by simp), List.drop_zero, List.drop_take]
  congr 1; omega
theorem ext_text {R : ByteArray} {i j : Nat} : (R.extract i R.size).extract j (R.extract i R.size).size = R.extract (i + j) R.size := by
  refine data_inj ?_
  rw [extract_toList, List.take_of_length_le (by simp), extract_toList, extract_toList, List.take_of_length_le (l := R.data.toList) (by simp), List.drop_drop]
set_option maxRecDepth 100000 in
set_option maxHeartbeats 4000000 in
theorem blockOf_any (line : ByteArray) (m : Int) (w : World) (hs : line.size ≤ 1048576) (hm : w.cell? ⟨1, 0, none⟩ = some (.int .i64 m)) (ht : Tab10 w) :
    Calls Tryz.prog 31 #[.string line] w fun e w' => PRet line e ∧ Below w.heap.size w w' := by
  by_cases h6 : line.size < 6
  · go_enter Tryz.func31, Tryz.ntmps31
    go_wp2
    exact bodyPost_ret (v := .tuple #[bAgg b0, .int .i64 9]) (by simp [bAgg, b0, results, Tryz.results31, go_sem]) rfl ⟨PRet.of (parse_short h6), (by repeat (first | exact Below.refl _ _ | assumption | refine Below.alloc ?_ (by first | omega | (simp <;> omega)) _ | refine Below.setCell ?_ (by first | (show _ ≤ _; omega) | (simp <;> omega)) _ | refine Below.drew ?_ | refine below_drewN ?_ _))⟩
  · have h5 : 5 < line.size := by omega
    by_cases hsp : line[5] = 32
    · have q5 : ((line[5].toNat : Int) != 32) = false := by rw [hsp]; rfl
      obtain ⟨R, hRd⟩ : ∃ R, R = line.extract 6 line.size := ⟨_, rfl⟩
      have hRP : restP line = R := hRd.symm
      have hRl : (line.extract 6 line.size).size ≤ 1048576 := by rw [ByteArray.size_extract]; omega
      have hRs : R.size ≤ 1048576 := by rw [hRd]; exact hRl
      have HRD := Lib.hid hRd
      have HSP := Lib.hid hsp
      clear hRd hsp
      by_cases hck : line.extract 0 5 = fiveS (crcF (line.extract 6 line.size))
      · skip
        have HCK := Lib.hid hck
        have e1 : ((line.extract 0 5).toList == (fiveS (crcF (line.extract 6 line.size))).toList) = true := eqS_true.2 hck
        clear hck
        go_enter Tryz.func31, Tryz.ntmps31
        go_wp2
        refine at_world (fun N => Below w.heap.size w N ∧ Box3 N w.heap.size ∧ w.heap.size < N.heap.size) ⟨(Below.refl _ _).alloc (Nat.le_refl _) _, Box3.new _ _, by simp⟩ ?_
        rintro W ⟨hW, hX, hXs⟩
        have htW := ht.below hW
        have hmW := cell_below hW hm
        refine wp_region_mix (C := fun w' => ∃ p : Regrown, w' = Go.Sort.grow (redrawn W p.d) p.os) [true, true, true, true, false, true, true] (by kernel_rfl) (by kernel_rfl) (by kernel_rfl) (fun _ _ d _ _ h => by cases d <;> exact h) (regrown_of_below (Below.drew (Below.refl _ _))) ?_
        have hS0 : Below W.heap.size W W.drew := Below.drew (Below.refl _ _)
        refine wpMix_pure (by kernel_rfl) (fun K hK => ?_)
        go_big_quiet_op
        refine hK _ ?_; clear hK K
        refine wpMix_pure (by kernel_rfl) (fun K hK => ?_)
        go_big_quiet_op
        refine hK _ ?_; clear hK K
        refine wpMix_pure (by kernel_rfl) (fun K hK => ?_)
        go_big_quiet_op
        refine hK _ ?_; clear hK K
        refine wpMix_pure (by kernel_rfl) (fun K hK => ?_)
        go_big_quiet_op
        refine hK _ ?_; clear hK K
        refine wpMix_act (by kernel_rfl) (fun K hK => ?_)
        go_big_op
        refine (checkText_any _ _ hRl (htW.below hS0)).mono ?_
        rintro e wr1 ⟨rfl, hbr1⟩
        have hbr1S : Below W.heap.size W wr1 := hS0.trans (hbr1.mono hS0.size)
        refine hK _ _ (regrown_of_below hbr1S) ?_
        clear hK K
        refine wpMix_pure (by kernel_rfl) (fun K hK => ?_)
        go_big_quiet_op
        refine hK _ ?_; clear hK K
        refine wpMix_pure (by kernel_rfl) (fun K hK => ?_)
        go_big_quiet_op
        refine hK _ ?_; clear hK K
        refine wpMix_nil ?_
        have hX1 := hX.below hbr1S hXs hXs
        have hB1 := hW.trans ((hbr1S).mono hW.size)
        have hg1 : w.heap.size < wr1.heap.size := Nat.lt_of_lt_of_le hXs (hbr1S).size
        have hm1 := cell_below hbr1S hmW
        clear hX htW
        go_wp2_with fail
        rw [← HRD.out]
        refine (cut_any R m _ hRs hm1).mono ?_
        rintro e w2 ⟨rfl, hb2⟩
        have hX2 := hX1.below hb2 hg1 hg1
        have hB2 := hB1.trans (hb2.mono (by omega))
        have hg2 : w.heap.size < w2.heap.size := Nat.lt_of_lt_of_le hg1 hb2.size
        have hm2 := cell_below hb2 hm1
        obtain ⟨i, hi⟩ : ∃ i, firK R = i := ⟨_, rfl⟩
        have HI := Lib.hid hi
        clear hi
        by_cases hlt : i < R.size
        · have hA : cutA R = R.extract 0 i := by unfold cutA; rw [HI.out, if_pos hlt]
          have hZ : cutZ R = R.extract (i + 1) R.size := by unfold cutZ; rw [HI.out, if_pos hlt]
          have hF : cutF R = true := by unfold cutF; rw [HI.out]; exact decide_eq_true hlt
          rw [hA, hZ, hF]
          clear hA hZ hF
          have hR2s : (R.extract (i + 1) R.size).size ≤ 1048576 := by rw [ByteArray.size_extract]; omega
          go_wp2_with fail
          refine (cut_any (R.extract (i + 1) R.size) m _ hR2s hm2).mono ?_
          rintro e w3 ⟨rfl, hb3⟩
          have hX3 := hX2.below hb3 hg2 hg2
          have hB3 := hB2.trans (hb3.mono (by omega))
          have hg3 : w.heap.size < w3.heap.size := Nat.lt_of_lt_of_le hg2 hb3.size
          obtain ⟨j, hj⟩ : ∃ j, firK (R.extract (i + 1) R.size) = j := ⟨_, rfl⟩
          have hsk : secK R = i + 1 + j := by unfold secK; rw [HI.out, ← firK_rest, hj]
          have hz2 : (R.extract (i + 1) R.size).size = R.size - (i + 1) := by rw [ByteArray.size_extract]; omega
          by_cases hlt2 : j < (R.extract (i + 1) R.size).size
          · have hA : cutA (R.extract (i + 1) R.size) = R.extract (i + 1) (i + 1 + j) := by unfold cutA; rw [hj, if_pos hlt2]; exact ext_name
            have hZ : cutZ (R.extract (i + 1) R.size) = R.extract (i + 1 + j + 1) R.size := by unfold cutZ; rw [hj, if_pos hlt2, ext_text]; congr 1
            have hF : cutF (R.extract (i + 1) R.size) = true := by unfold cutF; rw [hj]; exact decide_eq_true hlt2
            rw [hA, hZ, hF]
            clear hA hZ hF
            obtain ⟨x, hx⟩ : ∃ x : DBlock, x = ⟨R.extract 0 i, R.extract (i + 1) (i + 1 + j), R.extract (i + 1 + j + 1) R.size⟩ := ⟨_, rfl⟩
            have hbx : blkP R = x := by rw [hx]; unfold blkP; rw [hsk, HI.out]
            have hk : secK R < R.size := by rw [hsk]; omega
            have hok : fBlock.ok ⟨R.extract 0 i, R.extract (i + 1) (i + 1 + j), R.extract (i + 1 + j + 1) R.size⟩ := by
              refine ⟨?_, ?_, ?_⟩
              all_goals (show ByteArray.size _ ≤ 9223372036854775807; rw [ByteArray.size_extract]; omega)
            have hfine : blockB x = true → parseC line = 0 ∧ parseB line = x := fun h => by
              rw [← hbx]
              exact (parse_fine h5 HSP.out HCK.out (by rw [hRP]; exact hk) (by rw [hRP, hbx]; exact h)).imp id (fun h => h.trans (by rw [hRP]))
            have hbad : blockB x = false → parseC line = 9 ∧ parseB line = b0 := fun h => parse_bad h5 HSP.out HCK.out (by rw [hRP, hbx]; exact h)
            rw [hx] at hfine hbad
            have HFI := Lib.hid hfine
            have HBA := Lib.hid hbad
            clear hfine hbad hbx hx hj hsk hk hz2 hlt2 hX1 hX2
            have hBa : Below w3.heap.size w3 (w3.alloc (.cells #[.string (R.extract 0 i), .string (R.extract (i + 1) (i + 1 + j)), .string (R.extract (i + 1 + j + 1) R.size)] 57)) := (Below.refl _ _).alloc (Nat.le_refl _) _
            have hp := PBlock.box w3 ⟨R.extract 0 i, R.extract (i + 1) (i + 1 + j), R.extract (i + 1 + j + 1) R.size⟩ 57
            go_wp2_with fail
            refine (implValidBlock_any ⟨R.extract 0 i, R.extract (i + 1) (i + 1 + j), R.extract (i + 1 + j + 1) R.size⟩ _ hok).mono ?_
            rintro e w4 ⟨rfl, hb4⟩
            have hp4 := hp.below' hb4
            have hBw : Below w3.heap.size w3 w4 := hBa.trans (hb4.mono (by simp))
            have hB4 : Below w.heap.size w w4 := hB3.trans (hBw.mono (by omega))
            obtain ⟨d0, d1, d2, z0, z1, z2⟩ := hX3.below hBw hg3 hg3
            obtain ⟨c0, c1, c2⟩ := hp4
            clear hp hX3 hBa
            cases hbk : blockB ⟨R.extract 0 i, R.extract (i + 1) (i + 1 + j), R.extract (i + 1 + j + 1) R.size⟩
            · have HC := Lib.hid (HBA.out hbk)
              clear hbk
              go_wp2
              exact bodyPost_ret (v := .tuple #[bAgg b0, .int .i64 9]) (by simp [bAgg, b0, results, setCell_hit, *, Tryz.results31, go_sem]) rfl ⟨PRet.of HC.out, (by repeat (first | exact Below.refl _ _ | assumption | refine Below.alloc ?_ (by first | omega | (simp <;> omega)) _ | refine Below.setCell ?_ (by first | (show _ ≤ _; omega) | (simp <;> omega)) _ | refine Below.drew ?_ | refine below_drewN ?_ _))⟩
            · have HC := Lib.hid (HFI.out hbk)
              clear hbk
              go_wp2
              exact bodyPost_ret (v := .tuple #[bAgg ⟨R.extract 0 i, R.extract (i + 1) (i + 1 + j), R.extract (i + 1 + j + 1) R.size⟩, .int .i64 0]) (by simp [bAgg, b0, results, setCell_hit, *, Tryz.results31, go_sem]) rfl ⟨PRet.of HC.out, (by repeat (first | exact Below.refl _ _ | assumption | refine Below.alloc ?_ (by first | omega | (simp <;> omega)) _ | refine Below.setCell ?_ (by first | (show _ ≤ _; omega) | (simp <;> omega)) _ | refine Below.drew ?_ | refine below_drewN ?_ _))⟩
          · have hF : cutF (R.extract (i + 1) R.size) = false := by unfold cutF; rw [hj]; exact decide_eq_false hlt2
            rw [hF]
            have hfo : parseC line = 9 ∧ parseB line = b0 := parse_form h5 HSP.out HCK.out (by rw [hRP, hsk]; omega)
            have HFO := Lib.hid hfo
            clear hfo hF hj hsk hz2 hlt2
            obtain ⟨d0, d1, d2, z0, z1, z2⟩ := hX3
            go_wp2
            exact bodyPost_ret (v := .tuple #[bAgg b0, .int .i64 9]) (by simp [bAgg, b0, results, setCell_hit, *, Tryz.results31, go_sem]) rfl ⟨PRet.of HFO.out, (by repeat (first | exact Below.refl _ _ | assumption | refine Below.alloc ?_ (by first | omega | (simp <;> omega)) _ | refine Below.setCell ?_ (by first | (show _ ≤ _; omega) | (simp <;> omega)) _ | refine Below.drew ?_ | refine below_drewN ?_ _))⟩
        · have hA : cutA R = R := by unfold cutA; rw [HI.out, if_neg hlt]
          have hZ : cutZ R = ⟨#[]⟩ := by unfold cutZ; rw [HI.out, if_neg hlt]
          have hF : cutF R = false := by unfold cutF; rw [HI.out]; exact decide_eq_false hlt
          rw [hA, hZ, hF]
          clear hA hZ hF
          go_wp2_with fail
          refine (cut_any ⟨#[]⟩ m _ (by decide) hm2).mono ?_
          rintro e w3 ⟨rfl, hb3⟩
          have hX3 := hX2.below hb3 hg2 hg2
          have hg3 : w.heap.size < w3.heap.size := Nat.lt_of_lt_of_le hg2 hb3.size
          have hB3 := hB2.trans (hb3.mono (by omega))
          rw [show cutF ⟨#[]⟩ = false from rfl]
          have hfo : parseC line = 9 ∧ parseB line = b0 := parse_form h5 HSP.out HCK.out (by rw [hRP]; unfold secK; rw [HI.out]; omega)
          have HFO := Lib.hid hfo
          clear hfo
          obtain ⟨d0, d1, d2, z0, z1, z2⟩ := hX3
          go_wp2
          exact bodyPost_ret (v := .tuple #[bAgg b0, .int .i64 9]) (by simp [bAgg, b0, results, setCell_hit, *, Tryz.results31, go_sem]) rfl ⟨PRet.of HFO.out, (by repeat (first | exact Below.refl _ _ | assumption | refine Below.alloc ?_ (by first | omega | (simp <;> omega)) _ | refine Below.setCell ?_ (by first | (show _ ≤ _; omega) | (simp <;> omega)) _ | refine Below.drew ?_ | refine below_drewN ?_ _))⟩
      · skip
        have HCK := Lib.hid hck
        have e1 : ((line.extract 0 5).toList == (fiveS (crcF (line.extract 6 line.size))).toList) = false := bytes_beq_false hck
        clear hck
        go_enter Tryz.func31, Tryz.ntmps31
        go_wp2
        refine at_world (fun N => Below w.heap.size w N ∧ Box3 N w.heap.size ∧ w.heap.size < N.heap.size) ⟨(Below.refl _ _).alloc (Nat.le_refl _) _, Box3.new _ _, by simp⟩ ?_
        rintro W ⟨hW, hX, hXs⟩
        have htW := ht.below hW
        refine wp_region_mix (C := fun w' => ∃ p : Regrown, w' = Go.Sort.grow (redrawn W p.d) p.os) [true, true, true, true, false, true, true] (by kernel_rfl) (by kernel_rfl) (by kernel_rfl) (fun _ _ d _ _ h => by cases d <;> exact h) (regrown_of_below (Below.drew (Below.refl _ _))) ?_
        have hS0 : Below W.heap.size W W.drew := Below.drew (Below.refl _ _)
        refine wpMix_pure (by kernel_rfl) (fun K hK => ?_)
        go_big_quiet_op
        refine hK _ ?_; clear hK K
        refine wpMix_pure (by kernel_rfl) (fun K hK => ?_)
        go_big_quiet_op
        refine hK _ ?_; clear hK K
        refine wpMix_pure (by kernel_rfl) (fun K hK => ?_)
        go_big_quiet_op
        refine hK _ ?_; clear hK K
        refine wpMix_pure (by kernel_rfl) (fun K hK => ?_)
        go_big_quiet_op
        refine hK _ ?_; clear hK K
        refine wpMix_act (by kernel_rfl) (fun K hK => ?_)
        go_big_op
        refine (checkText_any _ _ hRl (htW.below hS0)).mono ?_
        rintro e wr1 ⟨rfl, hbr1⟩
        have hbr1S : Below W.heap.size W wr1 := hS0.trans (hbr1.mono hS0.size)
        refine hK _ _ (regrown_of_below hbr1S) ?_
        clear hK K
        refine wpMix_pure (by kernel_rfl) (fun K hK => ?_)
        go_big_quiet_op
        refine hK _ ?_; clear hK K
        refine wpMix_pure (by kernel_rfl) (fun K hK => ?_)
        go_big_quiet_op
        refine hK _ ?_; clear hK K
        refine wpMix_nil ?_
        obtain ⟨d0, d1, d2, z0, z1, z2⟩ := hX.below hbr1S hXs hXs
        have hB2 := hW.trans ((hbr1S).mono hW.size)
        go_wp2
        exact bodyPost_ret (v := .tuple #[bAgg b0, .int .i64 10]) (by simp [bAgg, b0, results, setCell_hit, *, Tryz.results31, go_sem]) rfl ⟨PRet.of (parse_sum h5 HSP.out HCK.out), (by repeat (first | exact Below.refl _ _ | assumption | refine Below.alloc ?_ (by first | omega | (simp <;> omega)) _ | refine Below.setCell ?_ (by first | (show _ ≤ _; omega) | (simp <;> omega)) _ | refine Below.drew ?_ | refine below_drewN ?_ _))⟩
    · have q5 : ((line[5].toNat : Int) != 32) = true := byte_neT hsp
      go_enter Tryz.func31, Tryz.ntmps31
      go_wp2
      exact bodyPost_ret (v := .tuple #[bAgg b0, .int .i64 9]) (by simp [bAgg, b0, results, setCell_hit, *, Tryz.results31, go_sem]) rfl ⟨PRet.of (parse_nosp h5 hsp), (by repeat (first | exact Below.refl _ _ | assumption | refine Below.alloc ?_ (by first | omega | (simp <;> omega)) _ | refine Below.setCell ?_ (by first | (show _ ≤ _; omega) | (simp <;> omega)) _ | refine Below.drew ?_ | refine below_drewN ?_ _))⟩

end Go.Proofs.YtmhefhapighloaaGreatDoor

namespace Go.Proofs.YtmhefhapighloaaGreatDoor
open Go.RowKit
set_option linter.unusedVariables false

def totInt64S (xs : List Int) : Nat := xs.length




def mkInt64 (k : Int) : Int := k
def marksInt64 (k : Int) (n : Nat) : List Int := (List.range n).map fun (i : Nat) => mkInt64 (k + 1 * (i : Int))

theorem marksInt64_get (k0 : Int) (n i : Nat) (h : i < (marksInt64 k0 n).length) : (marksInt64 k0 n)[i] = mkInt64 (k0 + 1 * (i : Int)) := by
  simp [marksInt64]
theorem marksInt64_len (k0 : Int) (n : Nat) : (marksInt64 k0 n).length = n := by simp [marksInt64]



end Go.Proofs.YtmhefhapighloaaGreatDoor

namespace Go.Proofs.YtmhefhapighloaaGreatDoor
open Go.RowKit
set_option linter.unusedVariables false

/-- The first ones of a slice. -/
theorem Sl.fst_ {α : Type} {E : Flat α} {w : World} {b off len cap : Nat} {xs : List α} {fp : List Nat} (h : Sl E.cod w (.slice (some ⟨b, off, none⟩) len cap) xs fp) {k : Nat} (hk : k ≤ xs.length) :
    ∃ fp', Sl E.cod w (.slice (some ⟨b, off, none⟩) k cap) (xs.take k) fp' := by
  obtain ⟨A', cap', hv, hl, hc, hr⟩ := h
  injection hv with hA hn hcap
  subst hcap
  have hlk : (xs.take k).length = k := by simp; omega
  rcases hr with ⟨h1, _⟩ | ⟨b', off', F, hA2, hb, hfp, hi⟩
  · subst h1
    have : k = 0 := by simpa using hk
    subst this
    exact ⟨[], _, cap, rfl, by simp, hc, .inl ⟨rfl, rfl⟩⟩
  · rw [← hA] at hA2
    injection hA2 with e
    injection e with e1 e2 _
    subst e1 e2
    refine ⟨_, _, cap, by rw [hlk], by rw [hlk]; omega, hc, .inr ⟨b, off, F, rfl, hb, rfl, fun i hi' => ?_⟩⟩
    rw [hlk] at hi'
    obtain ⟨cs, q1, q2, q3⟩ := hi i (by omega)
    exact ⟨cs, q1, q2, by rw [List.getElem_take]; exact q3⟩
def linL (s : ByteArray) : List ByteArray := (splS 10 s).dropLast
def linQ (s : ByteArray) : ByteArray := (splS 10 s).getLastD ⟨#[]⟩
theorem lin_cut (s : ByteArray) : splS 10 s = linL s ++ [linQ s] ∧ ((linL s).flatMap fun p : ByteArray => p.data.toList ++ [10]) ++ (linQ s).data.toList = s.data.toList := by
  obtain ⟨P, q, h1, h2⟩ := splS_cut 10 s
  have hL : linL s = P := by unfold linL; rw [h1, List.dropLast_concat]
  have hQ : linQ s = q := by unfold linQ; rw [h1]; simp [List.getLastD_eq_getLast?]
  rw [hL, hQ]
  exact ⟨h1, h2⟩
theorem flat_lens (L : List ByteArray) : (L.flatMap fun p : ByteArray => p.data.toList ++ [10]).length = (L.map (fun p : ByteArray => p.size + 1)).sum := by
  induction L with
  | nil => rfl
  | cons a L ih => rw [List.flatMap_cons, List.length_append, ih, List.map_cons, List.sum_cons, List.length_append]; simp
theorem sum_mem_le {L : List ByteArray} {x : ByteArray} (h : x ∈ L) : x.size + L.length ≤ (L.map (fun p : ByteArray => p.size + 1)).sum := by
  induction L with
  | nil => cases h
  | cons a L ih =>
    rw [List.map_cons, List.sum_cons, List.length_cons]
    have hl : L.length ≤ (L.map (fun p : ByteArray => p.size + 1)).sum := by
      clear ih h
      induction L with
      | nil => simp
      | cons b L ih => rw [List.map_cons, List.sum_cons, List.length_cons]; omega
    rcases List.mem_cons.1 h with rfl | h
    · omega
    · have := ih h; omega
theorem lin_tot (s : ByteArray) : ((linL s).map (fun p : ByteArray => p.size + 1)).sum + (linQ s).size = s.size := by
  obtain ⟨_, h2⟩ := lin_cut s
  have h3 := congrArg List.length h2
  rw [List.length_append, flat_lens, data_len, data_len] at h3
  exact h3
theorem lin_size (s : ByteArray) : ∀ x ∈ splS 10 s, x.size ≤ s.size := by
  intro x hx
  have ht := lin_tot s
  rw [(lin_cut s).1, List.mem_append] at hx
  rcases hx with hx | hx
  · have := sum_mem_le hx; omega
  · rw [List.mem_singleton] at hx; subst hx; omega
theorem lin_len (s : ByteArray) : (linL s).length ≤ s.size := by
  have ht := lin_tot s
  cases hL : linL s with
  | nil => simp
  | cons a L =>
    rw [hL] at ht
    have h1 := sum_mem_le (L := a :: L) (x := a) (by simp)
    rw [List.length_cons] at h1 ⊢
    omega
theorem linL_size {s x : ByteArray} (h : x ∈ linL s) : x.size ≤ s.size := lin_size s x (by rw [(lin_cut s).1]; simp [h])
theorem New.on {α : Type} {E : Cod α} {w w1 w2 : World} {v : Value} {xs : List α} (h : New E w v xs w1) (hb : Below w1.heap.size w1 w2) : New E w v xs w2 := by
  obtain ⟨⟨fp, h1, h2, h3⟩, h4⟩ := h
  exact ⟨⟨fp, h1.below' hb, h2, h3⟩, h4.trans (hb.mono h4.size)⟩
theorem blockB_ok {x : DBlock} (h : blockB x = true) : fBlock.ok x := by
  obtain ⟨h0, h1, h2⟩ := blockB_sizes h
  exact ⟨by show x.kind.size ≤ 9223372036854775807; omega, by show x.name.size ≤ 9223372036854775807; omega, by show x.text.size ≤ 9223372036854775807; omega⟩
theorem parse_valid {line : ByteArray} (h : parseC line = 0) : blockB (parseB line) = true := by
  unfold parseB; rw [if_pos h]
  unfold parseC at h
  split at h
  · cases h
  · split at h
    · cases h
    · split at h
      · cases h
      · rename_i h3
        cases hb : blockB (blkP (restP line))
        · exact absurd (.inr hb) h3
        · rfl
def emptyB (s : ByteArray) : Bool := decide (s = ⟨#[]⟩)
def LinR (w : World) (s : ByteArray) (e : Ending) (w' : World) : Prop := ∃ v fp, e = .returned (.tuple #[v, .bool (emptyB (linQ s))]) ∧ Sl fStr.cod w' v (linL s) fp ∧ Below w.heap.size w w'
theorem emptyB_eq (s : ByteArray) : (s.toList == []) = emptyB s := by
  unfold emptyB
  by_cases h : s = ⟨#[]⟩
  · rw [decide_eq_true h, h]; simp [ByteArray.toList_eq]
  · rw [decide_eq_false h, beq_eq_false_iff_ne]
    exact fun e => h (bytes_toList_inj (e.trans (by simp [ByteArray.toList_eq])))

theorem infoInt0d : (Tryz.prog.info? 2).map (fun i => (i.zero, i.size, i.bytes)) = some (some (.int .i64 0), 1, 8) := by kernel_rfl
/-- Is line i damaged? The last piece, which no newline ends, is if it is not empty; the first line is none. -/
def dmB (L : List ByteArray) (q : ByteArray) (i : Nat) : Bool := if i < L.length then decide (0 < i) && !decide (parseC (L.getD i ⟨#[]⟩) = 0) else !(emptyB q)
def dmK (L : List ByteArray) (q : ByteArray) (k : Nat) : List Int := keptL (dmB L q) (fun i : Nat => (i : Int) + 1) (List.range (L.length + 1)) k
def dmF (s : ByteArray) : List Int := dmK (linL s) (linQ s) ((linL s).length + 1)
theorem dmK_yes {L : List ByteArray} {q : ByteArray} {k : Nat} (hk : k ≤ L.length) (h : dmB L q k = true) : dmK L q (k + 1) = dmK L q k ++ [(k : Int) + 1] := by
  have := keptL_yes (p := dmB L q) (f := fun i : Nat => (i : Int) + 1) (xs := List.range (L.length + 1)) (k := k) (by simp; omega) (by simpa using h)
  simpa [dmK] using this
theorem dmK_no {L : List ByteArray} {q : ByteArray} {k : Nat} (hk : k ≤ L.length) (h : dmB L q k = false) : dmK L q (k + 1) = dmK L q k :=
  keptL_no (by simp; omega) (by simpa using h)
theorem dmK_len {L : List ByteArray} {q : ByteArray} {k : Nat} : (dmK L q k).length ≤ k := keptL_len
theorem dmK_ok {L : List ByteArray} {q : ByteArray} {k : Nat} (hl : L.length ≤ 1048576) : ∀ x ∈ dmK L q k, fInt.ok x := by
  intro x hx
  unfold dmK keptL at hx
  obtain ⟨i, hi, rfl⟩ := List.mem_map.1 hx
  have := List.mem_range.1 (List.mem_of_mem_take (List.mem_filter.1 hi).1)
  show _ ∧ _
  omega
theorem dmF_len {s : ByteArray} (h : s.size ≤ 1048576) : (dmF s).length ≤ 100000000000 := by
  unfold dmF; have := dmK_len (L := linL s) (q := linQ s) (k := (linL s).length + 1); have := lin_len s; omega
theorem dmB_in {L : List ByteArray} {q : ByteArray} {k : Nat} (hk : k < L.length) (h0 : 0 < k) (c : Int) (hc : parseC L[k] = c) : dmB L q k = !decide (c = 0) := by
  unfold dmB; rw [if_pos hk, decide_eq_true h0, List.getD_eq_getElem?_getD, List.getElem?_eq_getElem hk, Option.getD_some, hc, Bool.true_and]
theorem dmB_first {L : List ByteArray} {q : ByteArray} (hk : 0 < L.length) : dmB L q 0 = false := by
  unfold dmB; rw [if_pos hk]; rfl
theorem dmB_last {L : List ByteArray} {q : ByteArray} {k : Nat} (hk : L.length ≤ k) : dmB L q k = !(emptyB q) := by
  unfold dmB; rw [if_neg (by omega)]
theorem splitD_any (s : ByteArray) (c : UInt8) (m : Int) (w : World) (hs : s.size ≤ 1048576) (hm : w.cell? ⟨1, 0, none⟩ = some (.int .i64 m)) :
    Calls Tryz.prog 26 #[.string s, .string ⟨#[c]⟩] w fun e w' => OwnRT fStr 9 w (splS c s) e w' := by
  refine (Tryz.strings_Split s ⟨#[c]⟩ m w (by omega) hm (Nat.le_refl 1)).mono ?_
  rintro e w' ⟨rfl, rfl⟩
  have hl := Lib.splitB_all ⟨#[c]⟩ (Nat.le_refl 1) 0 _ s rfl
  rw [splS_split] at hl ⊢
  rw [← hl]
  have hb0 : Below w.heap.size w (w.alloc (.cells ((splS c s).map Value.string).toArray 9)) := (Below.refl _ _).alloc (Nat.le_refl _) _
  refine ⟨_, rfl, ?_, hb0⟩
  have hll : (splS c s).length ≤ s.size + 1 := by
    have h1 := Lib.countB_le ⟨#[c]⟩ (Nat.le_refl 1) s.size s (Nat.le_refl _)
    omega
  have h := World.ownsRow_lit (e := 9) (size := 1) (base := w.heap.size) w ((splS c s).map Value.string).toArray (splS c s).length (Nat.le_refl _) (by unfold maxLen; omega) (by simp)
  have e1 : (splS c s).map Value.string = (splS c s).flatMap fStr.enc := by
    generalize splS c s = L
    induction L with
    | nil => rfl
    | cons x L ih => rw [List.map_cons, List.flatMap_cons, ih]; rfl
  rw [show ((splS c s).map Value.string).toArray.toList = (splS c s).flatMap fStr.enc from by simpa using e1] at h
  exact h
set_option maxRecDepth 100000 in
set_option maxHeartbeats 4000000 in
theorem implDamagedLines_any (s : ByteArray) (m : Int) (w : World) (hs : s.size ≤ 1048576) (hm : w.cell? ⟨1, 0, none⟩ = some (.int .i64 m)) (ht : Tab10 w) :
    Calls Tryz.prog 8 #[.string s] w fun e w' => NewR fInt.cod w (dmF s) e w' := by
  obtain ⟨i0, hi, hz0, hz1, hz2⟩ := info_parts infoInt0d
  obtain ⟨hq1, hq2⟩ := lin_cut s
  have hlen := lin_len s
  have hszs := lin_size s
  go_enter Tryz.func8, Tryz.ntmps8
  go_wp2_with fail
  refine (splitD_any s 10 m _ hs hm).mono ?_
  rintro e w1 ⟨v1, rfl, hown, hb1⟩
  have hok : ∀ x ∈ splS 10 s, fStr.ok x := fun x hx => by have := hszs x hx; show _ ≤ _; omega
  have HF : Hid (dmF s = dmK (linL s) (linQ s) ((linL s).length + 1)) := rfl
  rw [hq1] at hown hok hszs
  obtain ⟨fp1, hsl, _, _⟩ := Sl.of_own (n := (linL s ++ [linQ s]).length) rfl hown hok
  clear hq1 hq2 hown hok
  have hm1 := cell_below hb1 hm
  have ht1 := ht.below hb1
  generalize linL s = L at *
  generalize linQ s = q at *
  obtain ⟨A, cap, rfl, hle, hca⟩ := hsl.form
  have hl1 : (L ++ [q]).length = L.length + 1 := by simp
  rw [hl1] at hsl hle ⊢
  have Hl1 := Lib.hid hl1
  clear hl1
  have hOK := dmK_ok (L := L) (q := q) (k := L.length + 1) (by omega)
  go_wp2
  go_loopw [4, 14] (fun v i wr => ∃ k : Nat, k ≤ L.length + 1 ∧ i = .int .i64 k ∧ Own fInt wr w1.heap.size 2 v (dmK L q k) ∧ Below w1.heap.size w1 wr) (fun _ i _ => L.length + 1 - (intOf i).toNat)
  case atStart => exact ⟨0, Nat.zero_le _, rfl, Own.nil fInt _ _ _, Below.refl _ _⟩
  case round =>
    obtain ⟨k, hk2, rfl, ho, hb⟩ := hrel
    by_cases hlt : k < L.length + 1
    · have hltX : k < (L ++ [q]).length := by rw [Hl1.out]; exact hlt
      obtain ⟨b, off, rfl, _, hok, hc0, _⟩ := (hsl.below' hb).cell1 rfl hltX rfl
      have hls := hszs (L ++ [q])[k] (List.getElem_mem hltX)
      obtain ⟨line, hline⟩ : ∃ line, (L ++ [q])[k] = line := ⟨_, rfl⟩
      rw [hline] at hc0 hls
      have hkl := dmK_len (L := L) (q := q) (k := k)
      clear hok
      go_wp2_with fail
      refine (blockOf_any line m _ (by omega) (cell_below hb hm1) (ht1.below hb)).mono ?_
      rintro e w2 ⟨he, hb2⟩
      obtain ⟨cc, hcc⟩ : ∃ cc, parseC line = cc := ⟨_, rfl⟩
      obtain ⟨bb, hbb⟩ : ∃ bb, parseB line = bb := ⟨_, rfl⟩
      unfold PRet bAgg at he
      rw [hcc, hbb] at he
      subst he
      have ho2 := ho.below hb2
      have hB2 := hb.trans (hb2.mono hb.size)
      have hB3 : Below w1.heap.size w1 (w2.alloc (.cells #[.string bb.kind, .string bb.name, .string bb.text] 57)) := hB2.alloc hB2.size _
      have ho3 : (w2.alloc (.cells #[.string bb.kind, .string bb.name, .string bb.text] 57)).ownsRow w1.heap.size 2 1 u4 (dmK L q k).length ((dmK L q k).flatMap fInt.enc) := World.ownsRow.alloc ho2 _
      have hs2 := hB3.size
      clear hbb ho ho2
      by_cases hkn : k < L.length
      · have hel : L[k] = line := by rw [← hline, List.getElem_append_left hkn]
        have e0 : ((k : Int) == (L.length : Int)) = false := by rw [beq_eq_false_iff_ne]; omega
        by_cases hk0 : k = 0
        · subst hk0
          have ho4 : Own fInt (w2.alloc (.cells #[.string bb.kind, .string bb.name, .string bb.text] 57)) w1.heap.size 2 u4 (dmK L q (0 + 1)) := by rw [dmK_no (by omega) (dmB_first hkn)]; exact ho3
          clear ho3 hline hel
          go_wp2
          all_goals
            go_roundw
            case rel => exact ⟨0 + 1, by omega, by go_num, ho4, hB3⟩
            case measure => simp [intOf] <;> omega
        · have hkp : (0 : Int) < (k : Int) := by omega
          have e3 : decide ((0 : Int) < (k : Int)) = true := decide_eq_true hkp
          have hdm := dmB_in (q := q) hkn (by omega) cc (by rw [hel]; exact hcc)
          by_cases h0 : cc = 0
          · subst h0
            have ho4 : Own fInt (w2.alloc (.cells #[.string bb.kind, .string bb.name, .string bb.text] 57)) w1.heap.size 2 u4 (dmK L q (k + 1)) := by rw [dmK_no (by omega) (by rw [hdm]; rfl)]; exact ho3
            clear ho3 hline hel hdm hcc
            go_wp2
            all_goals
              go_roundw
              case rel => exact ⟨k + 1, by omega, by go_num, ho4, hB3⟩
              case measure => simp [intOf] <;> omega
          · have hn := dmK_yes (L := L) (q := q) (k := k) (by omega) (by rw [hdm]; simp [h0])
            have HN := Lib.hid hn
            have e2 : (cc != 0) = true := by rw [bne_iff_ne]; exact h0
            clear hline hel hdm hn
            go_wp2_with (at_builtin; refine wpList_append_oneA (w2.heap.size + 1) (by simp) rfl _ _ 30 rfl w1.heap.size 2 i0 (.int .i64 0) 1 8 Tryz.underlying30 hi hz0 hz1 hz2 rfl (by decide) u4 (dmK L q k).length _ rfl ho3 [.int .i64 ((k : Int) + 1)] rfl (by intro u hu; rw [List.mem_singleton] at hu; subst hu; rfl) rfl (by omega) (by decide) hs2 ?_)
            all_goals
              intro v' u hown hbu _ _
              have hbu' := hB3.trans hbu
              have ho4 : Own fInt u w1.heap.size 2 v' (dmK L q (k + 1)) := by rw [HN.out]; exact Own.push _ rfl hown
              clear hown
              go_wp2
              all_goals
                go_roundw
                case rel => exact ⟨k + 1, by omega, by go_num, ho4, hbu'⟩
                case measure => simp [intOf] <;> omega
      · obtain rfl : k = L.length := by omega
        have hel : line = q := by rw [← hline]; simp
        have e0 : ((L.length : Int) == (L.length : Int)) = true := by rw [beq_iff_eq]
        have ee := emptyB_eq line
        have ei : line.toList.isEmpty = emptyB line := by rw [← ee]; cases line.toList <;> rfl
        cases he : emptyB line
        · rw [he] at ee ei
          have en : ¬ line.toList = [] := by rw [beq_eq_false_iff_ne] at ee; exact ee
          have eb : (line.toList != []) = true := by rw [bne_iff_ne]; exact en
          have hn := dmK_yes (L := L) (q := q) (k := L.length) (Nat.le_refl _) (by rw [dmB_last (Nat.le_refl _), ← hel, he]; rfl)
          have HN := Lib.hid hn
          clear hline hel hn he hcc
          go_wp2_with (at_builtin; refine wpList_append_oneA (w2.heap.size + 1) (by simp) rfl _ _ 30 rfl w1.heap.size 2 i0 (.int .i64 0) 1 8 Tryz.underlying30 hi hz0 hz1 hz2 rfl (by decide) u4 (dmK L q L.length).length _ rfl ho3 [.int .i64 ((L.length : Int) + 1)] rfl (by intro u hu; rw [List.mem_singleton] at hu; subst hu; rfl) rfl (by omega) (by decide) hs2 ?_)
          all_goals
            intro v' u hown hbu _ _
            have hbu' := hB3.trans hbu
            have ho4 : Own fInt u w1.heap.size 2 v' (dmK L q (L.length + 1)) := by rw [HN.out]; exact Own.push _ rfl hown
            clear hown
            go_wp2
            all_goals
              go_roundw
              case rel => exact ⟨L.length + 1, by omega, by go_num, ho4, hbu'⟩
              case measure => simp [intOf] <;> omega
        · rw [he] at ee ei
          have en : line.toList = [] := by rw [beq_iff_eq] at ee; exact ee
          have ho4 : Own fInt (w2.alloc (.cells #[.string bb.kind, .string bb.name, .string bb.text] 57)) w1.heap.size 2 u4 (dmK L q (L.length + 1)) := by rw [dmK_no (Nat.le_refl _) (by rw [dmB_last (Nat.le_refl _), ← hel, he]; rfl)]; exact ho3
          clear ho3 hline hel he hcc
          go_wp2
          all_goals
            go_roundw
            case rel => exact ⟨L.length + 1, by omega, by go_num, ho4, hB3⟩
            case measure => simp [intOf] <;> omega
    · obtain rfl : k = L.length + 1 := by omega
      have ho4 : Own fInt wr w1.heap.size 2 u4 (dmF s) := by rw [HF.out]; exact ho
      rw [← HF.out] at hOK
      clear ho
      go_wp2
      go_ret
      exact ⟨_, rfl, (ho4.new hb hOK).later hb1⟩

end Go.Proofs.YtmhefhapighloaaGreatDoor

namespace Go.Proofs.YtmhefhapighloaaGreatDoor
set_option linter.unusedVariables false

theorem beforeB_irrefl (a : DBlock) : beforeB a a = false := by unfold beforeB; rw [ltS_irrefl, ltS_irrefl]; simp
theorem beforeB_trans {a b c : DBlock} (h1 : beforeB a b = true) (h2 : beforeB b c = true) : beforeB a c = true := by
  unfold beforeB at *
  simp only [Bool.or_eq_true, Bool.and_eq_true, decide_eq_true_eq] at *
  rcases h1 with h1 | ⟨e1, h1⟩ <;> rcases h2 with h2 | ⟨e2, h2⟩
  · exact .inl (ltS_trans h1 h2)
  · exact .inl (e2 ▸ h1)
  · exact .inl (e1 ▸ h2)
  · exact .inr ⟨e1.trans e2, ltS_trans h1 h2⟩
theorem beforeB_key {a b c : DBlock} (hk : a.kind = b.kind) (hn : a.name = b.name) : beforeB a c = beforeB b c := by unfold beforeB; rw [hk, hn]
theorem beforeB_key' {a b c : DBlock} (hk : a.kind = b.kind) (hn : a.name = b.name) : beforeB c a = beforeB c b := by unfold beforeB; rw [hk, hn]
theorem beforeB_asymm {a b : DBlock} (h : beforeB a b = true) : beforeB b a = false := by
  cases hh : beforeB b a with
  | false => rfl
  | true => have := beforeB_trans h hh; rw [beforeB_irrefl] at this; cases this
theorem beforeB_tri {a b : DBlock} (h1 : beforeB a b = false) (h2 : beforeB b a = false) : a.kind = b.kind ∧ a.name = b.name := by
  unfold beforeB at *
  simp only [Bool.or_eq_false_iff, Bool.and_eq_false_iff, decide_eq_false_iff_not] at *
  have hk := ltS_tri h1.1 h2.1
  refine ⟨hk, ?_⟩
  rcases h1.2 with h | h
  · exact absurd hk h
  · rcases h2.2 with h' | h'
    · exact absurd hk.symm h'
    · exact ltS_tri h h'
/-- In order, strictly. -/
def Ordered (xs : List DBlock) : Prop := ∀ m, (h : m + 1 < xs.length) → beforeB (xs[m]'(by omega)) xs[m + 1] = true
theorem Ordered.lt {xs : List DBlock} (h : Ordered xs) : ∀ (d i : Nat) (hj : i + d + 1 < xs.length), beforeB (xs[i]'(by omega)) (xs[i + d + 1]'hj) = true
  | 0, i, hj => h i hj
  | d + 1, i, hj => beforeB_trans (Ordered.lt h d i (by omega)) (h (i + d + 1) hj)
theorem Ordered.lt' {xs : List DBlock} (h : Ordered xs) {i j : Nat} (hij : i < j) (hj : j < xs.length) : beforeB (xs[i]'(by omega)) xs[j] = true := by
  obtain ⟨d, rfl⟩ : ∃ d, j = i + d + 1 := ⟨j - i - 1, by omega⟩
  exact Ordered.lt h d i hj
theorem blocksB_ordered {xs : List DBlock} (h : blocksB xs = true) : Ordered xs := fun m hm => blocksB_two h hm
/-- Where t would stand. -/
def atB (xs : List DBlock) (t : DBlock) : Nat := (xs.takeWhile (fun x => beforeB x t)).length
theorem takeWhile_len {α : Type} (p : α → Bool) : ∀ (xs : List α) (i : Nat), i ≤ xs.length → (∀ m (h : m < xs.length), m < i → p xs[m] = true) → (∀ h : i < xs.length, p xs[i] = false) → (xs.takeWhile p).length = i
  | [], i, hi, _, _ => by simp at hi; subst hi; rfl
  | x :: xs, 0, _, _, h2 => by
    have := h2 (by simp)
    simp at this
    simp [List.takeWhile_cons, this]
  | x :: xs, i + 1, hi, h1, h2 => by
    have h0 := h1 0 (by simp) (by omega)
    simp at h0
    rw [List.takeWhile_cons, h0]
    simp only [if_true, List.length_cons]
    rw [takeWhile_len p xs i (by simpa using hi) (fun m h hm => by have := h1 (m + 1) (by simpa using h) (by omega); simpa using this) (fun h => by have := h2 (by simpa using h); simpa using this)]
theorem takeWhile_spec {α : Type} (p : α → Bool) : ∀ (xs : List α), (xs.takeWhile p).length ≤ xs.length ∧ (∀ m (h : m < xs.length), m < (xs.takeWhile p).length → p xs[m] = true) ∧ (∀ h : (xs.takeWhile p).length < xs.length, p xs[(xs.takeWhile p).length] = false)
  | [] => by simp
  | x :: xs => by
    obtain ⟨h1, h2, h3⟩ := takeWhile_spec p xs
    cases hp : p x with
    | false => simp [List.takeWhile_cons, hp]
    | true =>
      simp only [List.takeWhile_cons, hp, if_true, List.length_cons]
      refine ⟨by omega, ?_, ?_⟩
      · intro m h hm
        cases m with
        | zero => simpa using hp
        | succ m => simpa using h2 m (by simpa using h) (by omega)
      · intro h
        simpa using h3 (by simpa using h)
def keyB (x : DBlock) (k n : ByteArray) : Bool := decide (x.kind = k) && decide (x.name = n)
def hasKey (xs : List DBlock) (t : DBlock) : Bool := match xs[atB xs t]? with | some x => keyB x t.kind t.name | none => false
theorem atB_le (xs : List DBlock) (t : DBlock) : atB xs t ≤ xs.length := (takeWhile_spec _ xs).1
theorem atB_key {xs : List DBlock} (h : Ordered xs) {t : DBlock} {m : Nat} (hm : m < xs.length) (hk : keyB xs[m] t.kind t.name = true) : atB xs t = m := by
  unfold keyB at hk
  simp only [Bool.and_eq_true, decide_eq_true_eq] at hk
  refine takeWhile_len _ xs m (by omega) (fun i hi him => ?_) (fun h' => ?_)
  · rw [← beforeB_key' hk.1 hk.2]; exact h.lt' him hm
  · rw [beforeB_key hk.1 hk.2, beforeB_irrefl]
theorem hasKey_none {xs : List DBlock} (h : Ordered xs) {t : DBlock} (hn : hasKey xs t = false) : ∀ m (hm : m < xs.length), keyB xs[m] t.kind t.name = false := by
  intro m hm
  cases hk : keyB xs[m] t.kind t.name with
  | false => rfl
  | true =>
    have e := atB_key h hm hk
    unfold hasKey at hn
    rw [e] at hn
    simp [hm, hk] at hn
theorem hasKey_some {xs : List DBlock} {t : DBlock} (hn : hasKey xs t = true) : ∃ h : atB xs t < xs.length, keyB xs[atB xs t] t.kind t.name = true := by
  unfold hasKey at hn
  by_cases h : atB xs t < xs.length
  · refine ⟨h, ?_⟩
    simpa [h] using hn
  · rw [List.getElem?_eq_none (by omega)] at hn; cases hn
theorem keyB_cmp (x t : DBlock) : keyB x t.kind t.name = decide (cmpB x t = 0) := by
  rw [Bool.eq_iff_iff, decide_eq_true_eq, cmpB_zero]; simp [keyB]
end Go.Proofs.YtmhefhapighloaaGreatDoor

namespace Go.Proofs.YtmhefhapighloaaGreatDoor
open Go.RowKit
set_option linter.unusedVariables false

theorem before_later {xs : List DBlock} (h : Ordered xs) {t : DBlock} {a b : Nat} (hab : a ≤ b) (hb : b < xs.length) (h0 : beforeB (xs[a]'(by omega)) t = false) : beforeB xs[b] t = false := by
  rcases Nat.lt_or_eq_of_le hab with h1 | rfl
  · cases hh : beforeB xs[b] t with
    | false => rfl
    | true => rw [beforeB_trans (h.lt' h1 hb) hh] at h0; cases h0
  · exact h0
set_option maxRecDepth 100000 in
set_option maxHeartbeats 4000000 in
theorem bsearch_any (v : Value) (xs : List DBlock) (fp : List Nat) (t : DBlock) (w : World) (hx : Sl fBlock.cod w v xs fp) (hor : Ordered xs) (hl : xs.length ≤ 1000000) :
    Calls Tryz.prog 94 #[v, .agg #[.string t.kind, .string t.name, .string t.text], .func (.func 32) #[] #[]] w fun e w' => e = .returned (.tuple #[.int .i64 (atB xs t), .bool (hasKey xs t)]) ∧ Below w.heap.size w w' := by
  obtain ⟨A, cap, rfl, hlen, hcap⟩ := hx.form
  have hpt := PBlock.box w t 57
  go_enter Tryz.func94, Tryz.ntmps94
  go_wp2
  refine at_world (fun W => Below w.heap.size w W ∧ PBlock W w.heap.size 0 t) ⟨(by repeat (first | exact Below.refl _ _ | assumption | refine Below.alloc ?_ (by first | omega | (simp <;> omega)) _ | refine Below.setCell ?_ (by first | (show _ ≤ _; omega) | (simp <;> omega)) _ | refine Below.drew ?_ | refine below_drewN ?_ _)), hpt⟩ ?_
  clear hpt
  rintro W0 ⟨hW0, hpt⟩
  go_loopw [9, 10] (fun i j wr => ∃ a b : Nat, a ≤ b ∧ b ≤ xs.length ∧ i = .int .i64 a ∧ j = .int .i64 b ∧ Hid (∀ m (h : m < xs.length), m < a → beforeB xs[m] t = true) ∧ Hid (∀ m (h : m < xs.length), b ≤ m → beforeB xs[m] t = false) ∧ Below w.heap.size w wr ∧ PBlock wr w.heap.size 0 t) (fun i j _ => (intOf j).toNat - (intOf i).toNat)
  case atStart => exact ⟨0, xs.length, Nat.zero_le _, Nat.le_refl _, rfl, rfl, fun m _ h => absurd h (Nat.not_lt_zero _), fun m h1 h2 => absurd h1 (by omega), hW0, hpt⟩
  case round =>
    obtain ⟨a, b, hab, hbn, rfl, rfl, HA, HB, hb, hp⟩ := hrel
    clear hpt hW0
    by_cases hlt : a < b
    · obtain ⟨m, hm⟩ : ∃ m, m = (a + b) / 2 := ⟨_, rfl⟩
      have em : ((a : Int) + (b : Int)) / 2 = (m : Int) := by omega
      have hmn : m < xs.length := by omega
      have hmb : m < b := by omega
      have ham : a ≤ m := by omega
      clear hm
      obtain ⟨b1, off, rfl, _, hok, hpm⟩ := PBlock.elem (hx.below' hb) hmn
      obtain ⟨c0, c1, c2⟩ := id hpm
      obtain ⟨d0, d1, d2⟩ := id hp
      go_wp2
      have gc0 := cell_regrown c0
      have gc1 := cell_regrown c1
      have gc2 := cell_regrown c2
      have gd0 := cell_regrown d0
      have gd1 := cell_regrown d1
      have gd2 := cell_regrown d2
      refine wp_region_mix (C := fun w' => ∃ p : Regrown, w' = Go.Sort.grow (redrawn wr p.d) p.os) [true, true, true, true, true, true, false, true] (by kernel_rfl) (by kernel_rfl) (by kernel_rfl) (fun _ _ d _ _ h => by cases d <;> exact h) (regrown_of_below (Below.drew (Below.refl _ _))) ?_
      have hS0 : Below wr.heap.size wr wr.drew := Below.drew (Below.refl _ _)
      refine wpMix_pure (by kernel_rfl) (fun K hK => ?_)
      go_big_quiet_op
      refine hK _ ?_; clear hK K
      refine wpMix_pure (by kernel_rfl) (fun K hK => ?_)
      go_big_quiet_op
      refine hK _ ?_; clear hK K
      refine wpMix_pure (by kernel_rfl) (fun K hK => ?_)
      go_big_quiet_op
      refine hK _ ?_; clear hK K
      refine wpMix_pure (by kernel_rfl) (fun K hK => ?_)
      go_big_quiet_op
      refine hK _ ?_; clear hK K
      refine wpMix_pure (by kernel_rfl) (fun K hK => ?_)
      go_big_quiet_op
      refine hK _ ?_; clear hK K
      refine wpMix_pure (by kernel_rfl) (fun K hK => ?_)
      go_big_quiet_op
      refine hK _ ?_; clear hK K
      refine wpMix_act (by kernel_rfl) (fun K hK => ?_)
      go_big_op
      refine (compareBlocks_any _ _ _).mono ?_
      rintro e wr1 ⟨rfl, hbr1⟩
      have hbr1S : Below wr.heap.size wr wr1 := hS0.trans (hbr1.mono hS0.size)
      refine hK _ _ (regrown_of_below hbr1S) ?_
      clear hK K
      by_cases hq7 : beforeB xs[m] t = true
      · skip
        have hcm : cmpB xs[m] t < 0 := by have := cmpB_lt xs[m] t; rw [hq7] at this; simpa using this
        have e14 : decide (cmpB xs[m] t < 0) = true := by simpa using hcm
        refine wpMix_pure (by kernel_rfl) (fun K hK => ?_)
        go_big_quiet_op
        refine hK _ ?_; clear hK K
        refine wpMix_nil ?_
        have HA2 : Hid (∀ i (h : i < xs.length), i < m + 1 → beforeB xs[i] t = true) := fun i h him => by
          rcases Nat.lt_or_eq_of_le (Nat.le_of_lt_succ him) with h1 | rfl
          · cases hh : beforeB xs[i] t with
            | true => rfl
            | false => rw [before_later hor (Nat.le_of_lt h1) hmn hh] at hq7; cases hq7
          · exact hq7
        clear HA
        go_wp2
        go_roundw
        case rel => exact ⟨m + 1, b, by omega, hbn, by go_num, rfl, HA2, HB, hb.trans (hbr1S.mono hb.size), hp.below' hbr1S⟩
        case measure => simp [intOf]; omega
      · skip
        have hbf : beforeB xs[m] t = false := by simpa using hq7
        have hcm : 0 ≤ cmpB xs[m] t := by have := cmpB_lt xs[m] t; rw [hbf] at this; simpa using this
        have e14 : decide (cmpB xs[m] t < 0) = false := by simp; omega
        refine wpMix_pure (by kernel_rfl) (fun K hK => ?_)
        go_big_quiet_op
        refine hK _ ?_; clear hK K
        refine wpMix_nil ?_
        have HB2 : Hid (∀ i (h : i < xs.length), m ≤ i → beforeB xs[i] t = false) := fun i h him => before_later hor him h hbf
        clear HB
        go_wp2
        go_roundw
        case rel => exact ⟨a, m, ham, by omega, rfl, by go_num, HA, HB2, hb.trans (hbr1S.mono hb.size), hp.below' hbr1S⟩
        case measure => simp [intOf]; omega
    · obtain rfl : b = a := by omega
      have HAT : Hid (atB xs t = b) := takeWhile_len _ xs b hbn HA.out (fun h => HB.out b h (Nat.le_refl _))
      obtain ⟨d0, d1, d2⟩ := id hp
      by_cases hlt2 : b < xs.length
      · obtain ⟨b1, off, rfl, _, hok, hpm⟩ := PBlock.elem (hx.below' hb) hlt2
        obtain ⟨c0, c1, c2⟩ := id hpm
        have HK : Hid (hasKey xs t = (cmpB xs[b] t == 0)) := by
          show hasKey xs t = _
          unfold hasKey
          rw [HAT.out, List.getElem?_eq_getElem hlt2]
          show keyB _ _ _ = _
          rw [keyB_cmp, Bool.eq_iff_iff]
          simp
        go_wp2
        have gc0 := cell_regrown c0
        have gc1 := cell_regrown c1
        have gc2 := cell_regrown c2
        have gd0 := cell_regrown d0
        have gd1 := cell_regrown d1
        have gd2 := cell_regrown d2
        refine wp_region_mix (C := fun w' => ∃ p : Regrown, w' = Go.Sort.grow (redrawn wr p.d) p.os) [true, true, true, true, true, true, true, true, true, true, true, false, true, true, true, true] (by kernel_rfl) (by kernel_rfl) (by kernel_rfl) (fun _ _ d _ _ h => by cases d <;> exact h) (regrown_of_below (Below.drew (Below.refl _ _))) ?_
        have hS0 : Below wr.heap.size wr wr.drew := Below.drew (Below.refl _ _)
        refine wpMix_pure (by kernel_rfl) (fun K hK => ?_)
        go_big_quiet_op
        refine hK _ ?_; clear hK K
        refine wpMix_pure (by kernel_rfl) (fun K hK => ?_)
        go_big_quiet_op
        refine hK _ ?_; clear hK K
        refine wpMix_pure (by kernel_rfl) (fun K hK => ?_)
        go_big_quiet_op
        refine hK _ ?_; clear hK K
        refine wpMix_pure (by kernel_rfl) (fun K hK => ?_)
        go_big_quiet_op
        refine hK _ ?_; clear hK K
        refine wpMix_pure (by kernel_rfl) (fun K hK => ?_)
        go_big_quiet_op
        refine hK _ ?_; clear hK K
        refine wpMix_pure (by kernel_rfl) (fun K hK => ?_)
        go_big_quiet_op
        refine hK _ ?_; clear hK K
        refine wpMix_pure (by kernel_rfl) (fun K hK => ?_)
        go_big_quiet_op
        refine hK _ ?_; clear hK K
        refine wpMix_pure (by kernel_rfl) (fun K hK => ?_)
        go_big_quiet_op
        refine hK _ ?_; clear hK K
        refine wpMix_pure (by kernel_rfl) (fun K hK => ?_)
        go_big_quiet_op
        refine hK _ ?_; clear hK K
        refine wpMix_pure (by kernel_rfl) (fun K hK => ?_)
        go_big_quiet_op
        refine hK _ ?_; clear hK K
        refine wpMix_pure (by kernel_rfl) (fun K hK => ?_)
        go_big_quiet_op
        refine hK _ ?_; clear hK K
        refine wpMix_act (by kernel_rfl) (fun K hK => ?_)
        go_big_op
        refine (compareBlocks_any _ _ _).mono ?_
        rintro e wr1 ⟨rfl, hbr1⟩
        have hbr1S : Below wr.heap.size wr wr1 := hS0.trans (hbr1.mono hS0.size)
        refine hK _ _ (regrown_of_below hbr1S) ?_
        clear hK K
        refine wpMix_pure (by kernel_rfl) (fun K hK => ?_)
        go_big_quiet_op
        refine hK _ ?_; clear hK K
        refine wpMix_pure (by kernel_rfl) (fun K hK => ?_)
        go_big_quiet_op
        refine hK _ ?_; clear hK K
        refine wpMix_pure (by kernel_rfl) (fun K hK => ?_)
        go_big_quiet_op
        refine hK _ ?_; clear hK K
        refine wpMix_pure (by kernel_rfl) (fun K hK => ?_)
        go_big_quiet_op
        refine hK _ ?_; clear hK K
        refine wpMix_nil ?_
        go_wp2
        go_ret2
        exact ⟨by rw [HAT.out, HK.out]; simp [*], hb.trans (hbr1S.mono hb.size)⟩
      · have HK : Hid (hasKey xs t = false) := by
          show hasKey xs t = _
          unfold hasKey
          rw [HAT.out, List.getElem?_eq_none (by omega)]
        go_wp2
        refine wp_region_mix (C := fun w' => ∃ p : Regrown, w' = Go.Sort.grow (redrawn wr p.d) p.os) [true, true, true, true, true, true, true, true, true, true, true, false, true, true, true, true] (by kernel_rfl) (by kernel_rfl) (by kernel_rfl) (fun _ _ d _ _ h => by cases d <;> exact h) (regrown_of_below (Below.drew (Below.refl _ _))) ?_
        have hS0 : Below wr.heap.size wr wr.drew := Below.drew (Below.refl _ _)
        refine wpMix_pure (by kernel_rfl) (fun K hK => ?_)
        go_big_quiet_op
        refine hK _ ?_; clear hK K
        refine wpMix_pure (by kernel_rfl) (fun K hK => ?_)
        go_big_quiet_op
        refine hK _ ?_; clear hK K
        refine wpMix_pure (by kernel_rfl) (fun K hK => ?_)
        go_big_quiet_op
        refine hK _ ?_; clear hK K
        refine wpMix_pure (by kernel_rfl) (fun K hK => ?_)
        go_big_quiet_op
        refine hK _ ?_; clear hK K
        refine wpMix_pure (by kernel_rfl) (fun K hK => ?_)
        go_big_quiet_op
        refine hK _ ?_; clear hK K
        refine wpMix_skip (by kernel_rfl) (fun K hK => ?_)
        simp only [Act.put, List.setIfInBounds_toArray, List.set_cons_zero, List.set_cons_succ]
        refine hK _ ?_; clear hK K
        refine wpMix_skip (by kernel_rfl) (fun K hK => ?_)
        simp only [Act.put, List.setIfInBounds_toArray, List.set_cons_zero, List.set_cons_succ]
        refine hK _ ?_; clear hK K
        refine wpMix_skip (by kernel_rfl) (fun K hK => ?_)
        simp only [Act.put, List.setIfInBounds_toArray, List.set_cons_zero, List.set_cons_succ]
        refine hK _ ?_; clear hK K
        refine wpMix_skip (by kernel_rfl) (fun K hK => ?_)
        simp only [Act.put, List.setIfInBounds_toArray, List.set_cons_zero, List.set_cons_succ]
        refine hK _ ?_; clear hK K
        refine wpMix_skip (by kernel_rfl) (fun K hK => ?_)
        simp only [Act.put, List.setIfInBounds_toArray, List.set_cons_zero, List.set_cons_succ]
        refine hK _ ?_; clear hK K
        refine wpMix_skip (by kernel_rfl) (fun K hK => ?_)
        simp only [Act.put, List.setIfInBounds_toArray, List.set_cons_zero, List.set_cons_succ]
        refine hK _ ?_; clear hK K
        refine wpMix_skip (by kernel_rfl) (fun K hK => ?_)
        simp only [Act.put, List.setIfInBounds_toArray, List.set_cons_zero, List.set_cons_succ]
        refine hK _ ?_; clear hK K
        refine wpMix_skip (by kernel_rfl) (fun K hK => ?_)
        simp only [Act.put, List.setIfInBounds_toArray, List.set_cons_zero, List.set_cons_succ]
        refine hK _ ?_; clear hK K
        refine wpMix_pure (by kernel_rfl) (fun K hK => ?_)
        go_big_quiet_op
        refine hK _ ?_; clear hK K
        refine wpMix_pure (by kernel_rfl) (fun K hK => ?_)
        go_big_quiet_op
        refine hK _ ?_; clear hK K
        refine wpMix_pure (by kernel_rfl) (fun K hK => ?_)
        go_big_quiet_op
        refine hK _ ?_; clear hK K
        refine wpMix_nil ?_
        go_wp2
        go_ret2
        exact ⟨by rw [HAT.out, HK.out]; simp [*], hb.trans (hS0.mono hb.size)⟩

def bnC (xs : List DBlock) (k n : ByteArray) : Int := if blocksB xs then (if hasKey xs ⟨k, n, ⟨#[]⟩⟩ then 0 else 3) else 1
def bnF (xs : List DBlock) (k n : ByteArray) : ByteArray := if blocksB xs && hasKey xs ⟨k, n, ⟨#[]⟩⟩ then (xs.getD (atB xs ⟨k, n, ⟨#[]⟩⟩) b0).text else ⟨#[]⟩
/-- Two results: a text and a code. -/
def SC (s : ByteArray) (c : Int) (w : World) (e : Ending) (w' : World) : Prop := e = .returned (.tuple #[.string s, .int .i64 c]) ∧ Below w.heap.size w w'

end Go.Proofs.YtmhefhapighloaaGreatDoor

namespace Go.Proofs.YtmhefhapighloaaGreatDoor
open Go.RowKit
set_option linter.unusedVariables false

theorem infoBlock2 : (Tryz.prog.info? 57).map (fun i => (i.zero, i.size, i.bytes)) = some (some (.agg #[.string ⟨#[]⟩, .string ⟨#[]⟩, .string ⟨#[]⟩]), 3, 48) := by kernel_rfl
/-- A row of the call's own that holds the list. -/
def OwnR {α : Type} (E : Flat α) (T : TypeId) (w : World) (xs : List α) (e : Ending) (w' : World) : Prop := ∃ v, e = .returned v ∧ Own E w' w.heap.size T v xs ∧ Below w.heap.size w w'
set_option maxRecDepth 100000 in
set_option maxHeartbeats 1000000 in
theorem cloneB_any (v : Value) (xs : List DBlock) (fp : List Nat) (w : World) (hx : Sl fBlock.cod w v xs fp) (hl : xs.length ≤ 1000000) :
    Calls Tryz.prog 95 #[v] w fun e w' => OwnR fBlock 57 w xs e w' := by
  obtain ⟨A, cap, rfl, hlen, hcap⟩ := hx.form
  obtain ⟨i0, hi, hz0, hz1, hz2⟩ := info_parts infoBlock2
  have hsrc := (hx.below' ((Below.refl _ _).alloc (Nat.le_refl _) (.cells #[] 57))).src
  have ho := Own.lit0 fBlock w 57
  have hb0 : Below w.heap.size w (w.alloc (.cells #[] 57)) := (Below.refl _ _).alloc (Nat.le_refl _) _
  have hs2 := hb0.size
  have q22 : ∀ (w : World) (a : Option Addr) (n c n' c' : Nat), (binOp .eql 24 (.slice a n c) (.slice none n' c')).run Tryz.prog w = .ok (.bool a.isNone) w := fun w a n c n' c' => Lib.run_eql_slice_nil w _ _ a n c n' c' Tryz.underlying24
  cases A with
  | none =>
    have hnil : xs = [] := by
      rcases Nat.eq_zero_or_pos xs.length with h0 | h0
      · exact List.eq_nil_of_length_eq_zero h0
      · obtain ⟨b, off, hA, _⟩ := hx.cells h0
        cases hA
    subst hnil
    go_enter Tryz.func95, Tryz.ntmps95
    go_wp2
    go_ret
    exact ⟨_, rfl, Own.nil _ _ _ _, Below.refl _ _⟩
  | some ad =>
    go_enter Tryz.func95, Tryz.ntmps95
    go_wp2_with (at_builtin; refine wpList_append_src (E := fBlock) rfl _ _ 24 rfl w.heap.size 57 i0 (.agg #[.string ⟨#[]⟩, .string ⟨#[]⟩, .string ⟨#[]⟩]) 48 Tryz.underlying24 hi hz0 hz1 hz2 rfl (.slice (some ⟨w.heap.size, 0, none⟩) 0 0) [] rfl ho _ xs rfl hsrc (by simp; omega) (by decide) hs2 ?_)
    intro v' u hown hbu
    try rw [List.nil_append] at hown
    go_wp2
    go_ret
    exact ⟨_, rfl, hown, hb0.trans hbu⟩

def dbC (xs : List DBlock) (k n : ByteArray) : Int := if blocksB xs then (if hasKey xs ⟨k, n, ⟨#[]⟩⟩ then 0 else 3) else 1
def dbF (xs : List DBlock) (k n : ByteArray) : List DBlock := if blocksB xs && hasKey xs ⟨k, n, ⟨#[]⟩⟩ then xs.take (atB xs ⟨k, n, ⟨#[]⟩⟩) ++ xs.drop (atB xs ⟨k, n, ⟨#[]⟩⟩ + 1) else []
theorem dbF_ok {xs : List DBlock} {k n : ByteArray} (h : ∀ x ∈ xs, fBlock.ok x) : ∀ x ∈ dbF xs k n, fBlock.ok x := by
  unfold dbF; split
  · intro x hx
    rcases List.mem_append.1 hx with hx | hx
    · exact h x (List.mem_of_mem_take hx)
    · exact h x (List.mem_of_mem_drop hx)
  · simp
theorem dbF_len {xs : List DBlock} {k n : ByteArray} (h : xs.length ≤ 1048576) : (dbF xs k n).length ≤ 100000000000 := by
  unfold dbF; split
  · simp; omega
  · simp

theorem own_mono {w : World} {base base' : Nat} {e : TypeId} {size : Nat} {v : Value} {n : Nat} {xs : List Value} (h : w.ownsRow base e size v n xs) (hb : base' ≤ base) : w.ownsRow base' e size v n xs := by
  obtain ⟨h1, h2⟩ := h
  refine ⟨h1, ?_⟩
  rcases h2 with h2 | ⟨g, cap, cur, hv, hg, r⟩
  · exact .inl h2
  · exact .inr ⟨g, cap, cur, hv, by omega, r⟩
theorem own_open {w : World} {base : Nat} {e : TypeId} {size : Nat} {v : Value} {n : Nat} {xs : List Value} (h : w.ownsRow base e size v n xs) (hn : 0 < n) :
    ∃ g cap, v = .slice (some ⟨g, 0, none⟩) n cap ∧ base ≤ g ∧ g < w.heap.size ∧ n ≤ cap ∧ cap ≤ 9223372036854775807 := by
  obtain ⟨h1, h2⟩ := h
  rcases h2 with ⟨_, h0⟩ | ⟨g, cap, cur, hv, hg, hh, hnc, hcm, _, _⟩
  · omega
  · refine ⟨g, cap, hv, hg, ?_, hnc, by unfold maxLen at hcm; exact hcm⟩
    rcases Nat.lt_or_ge g w.heap.size with hlt | hge
    · exact hlt
    · rw [Array.getElem?_eq_none hge] at hh; cases hh

end Go.Proofs.YtmhefhapighloaaGreatDoor

namespace Go.Proofs.YtmhefhapighloaaGreatDoor
open Go.RowKit
set_option linter.unusedVariables false

def skB (xs : List DBlock) (b : DBlock) : Nat := if hasKey xs b then atB xs b + 1 else atB xs b
def putF (xs : List DBlock) (b : DBlock) : List DBlock := xs.take (atB xs b) ++ b :: xs.drop (skB xs b)
def putK (xs : List DBlock) (b : DBlock) (k : Nat) : List DBlock := if k ≤ atB xs b then xs.take k else xs.take (atB xs b) ++ b :: (xs.take k).drop (skB xs b)
theorem putK_A {xs : List DBlock} {b : DBlock} {k : Nat} (hk : k < xs.length) (h : k < atB xs b) : putK xs b (k + 1) = putK xs b k ++ [xs[k]] := by
  unfold putK; rw [if_pos (by omega), if_pos (by omega), List.take_succ_eq_append_getElem hk]
theorem putK_B1 {xs : List DBlock} {b : DBlock} (h : hasKey xs b = true) : putK xs b (atB xs b + 1) = putK xs b (atB xs b) ++ [b] := by
  unfold putK; rw [if_neg (by omega), if_pos (Nat.le_refl _)]
  have : (xs.take (atB xs b + 1)).drop (skB xs b) = [] := by unfold skB; rw [if_pos h]; exact List.drop_of_length_le (by simp; omega)
  rw [this]
theorem putK_B2 {xs : List DBlock} {b : DBlock} (hk : atB xs b < xs.length) (h : hasKey xs b = false) : putK xs b (atB xs b + 1) = (putK xs b (atB xs b) ++ [b]) ++ [xs[atB xs b]] := by
  unfold putK; rw [if_neg (by omega), if_pos (Nat.le_refl _)]
  have : (xs.take (atB xs b + 1)).drop (skB xs b) = [xs[atB xs b]] := by
    have e : skB xs b = atB xs b := by unfold skB; rw [h]; rfl
    rw [e, List.take_succ_eq_append_getElem hk, List.drop_append_of_le_length (by simp; omega), List.drop_of_length_le (by simp; omega)]; rfl
  rw [this]; simp
theorem putK_C {xs : List DBlock} {b : DBlock} {k : Nat} (hk : k < xs.length) (h : atB xs b < k) : putK xs b (k + 1) = putK xs b k ++ [xs[k]] := by
  unfold putK; rw [if_neg (by omega), if_neg (by omega)]
  have hs : skB xs b ≤ k := by unfold skB; split <;> omega
  rw [List.take_succ_eq_append_getElem hk, List.drop_append_of_le_length (by simp; omega)]; simp
theorem putK_end1 {xs : List DBlock} {b : DBlock} (h : atB xs b < xs.length) : putK xs b xs.length = putF xs b := by
  unfold putK putF; rw [if_neg (by omega), List.take_length]
theorem putK_end2 {xs : List DBlock} {b : DBlock} (h : atB xs b = xs.length) : putK xs b xs.length ++ [b] = putF xs b := by
  unfold putK putF; rw [if_pos (by omega)]
  have : xs.drop (skB xs b) = [] := List.drop_of_length_le (by unfold skB; split <;> omega)
  rw [this, h]
theorem putK_len {xs : List DBlock} {b : DBlock} {k : Nat} : (putK xs b k).length ≤ k + 1 + xs.length := by
  unfold putK; split
  · simp; omega
  · simp; have := atB_le xs b; omega
theorem key_at {xs : List DBlock} (h : Ordered xs) {b : DBlock} {k : Nat} (hk : k < xs.length) : keyB xs[k] b.kind b.name = (decide (k = atB xs b) && hasKey xs b) := by
  cases hh : keyB xs[k] b.kind b.name with
  | true =>
    have e := atB_key h hk hh
    have : hasKey xs b = true := by unfold hasKey; rw [e, List.getElem?_eq_getElem hk]; exact hh
    rw [this, e]; simp
  | false =>
    cases h2 : hasKey xs b with
    | false => simp
    | true =>
      by_cases e : k = atB xs b
      · subst e
        obtain ⟨_, h3⟩ := hasKey_some h2
        rw [h3] at hh; cases hh
      · simp [e]
theorem before_at {xs : List DBlock} {b : DBlock} {k : Nat} (hk : k < xs.length) (h : k < atB xs b) : beforeB xs[k] b = true := (takeWhile_spec (fun x => beforeB x b) xs).2.1 k hk h
theorem before_not {xs : List DBlock} {b : DBlock} (hk : atB xs b < xs.length) : beforeB xs[atB xs b] b = false := (takeWhile_spec (fun x => beforeB x b) xs).2.2 hk
set_option maxRecDepth 100000 in
set_option maxHeartbeats 4000000 in
theorem l29Put_any (v : Value) (xs : List DBlock) (fp : List Nat) (t : DBlock) (w : World) (hx : Sl fBlock.cod w v xs fp) (hor : Ordered xs) (hl : xs.length ≤ 1000000) :
    Calls Tryz.prog 74 #[v, .agg #[.string t.kind, .string t.name, .string t.text]] w fun e w' => OwnR fBlock 57 w (putF xs t) e w' := by
  obtain ⟨A, cap, rfl, hlen, hcap⟩ := hx.form
  obtain ⟨i0, hi, hz0, hz1, hz2⟩ := info_parts infoBlock2
  have hatn := atB_le xs t
  have hpt := (PBlock.box w t 57).below' ((Below.refl _ _).alloc (Nat.le_refl _) (.cells #[] 57))
  have ho0 : Own fBlock ((w.alloc (.cells #[.string t.kind, .string t.name, .string t.text] 57)).alloc (.cells #[] 57)) (w.heap.size + 1) 57 (.slice (some ⟨(w.alloc (.cells #[.string t.kind, .string t.name, .string t.text] 57)).heap.size, 0, none⟩) 0 0) [] := Own.lit0m fBlock (by simp)
  rw [World.size_alloc] at ho0
  go_enter Tryz.func74, Tryz.ntmps74
  go_wp2
  refine at_world (fun W => Below w.heap.size w W ∧ PBlock W w.heap.size 0 t ∧ Own fBlock W (w.heap.size + 1) 57 (.slice (some ⟨w.heap.size + 1, 0, none⟩) 0 0) []) ⟨(by repeat (first | exact Below.refl _ _ | assumption | refine Below.alloc ?_ (by first | omega | (simp <;> omega)) _ | refine Below.setCell ?_ (by first | (show _ ≤ _; omega) | (simp <;> omega)) _ | refine Below.drew ?_ | refine below_drewN ?_ _)), hpt, ho0⟩ ?_
  clear hpt ho0
  rintro W0 ⟨hW0, hpt, ho0⟩
  have hz0' := hpt.lt
  go_loopw [5, 6, 7] (fun o d i wr => ∃ k : Nat, k ≤ xs.length ∧ i = .int .i64 k ∧ ∃ Dn : Bool, d = .bool Dn ∧ Hid (Dn = decide (atB xs t < k)) ∧ Own fBlock wr (w.heap.size + 1) 57 o (putK xs t k) ∧ Below (w.heap.size + 1) W0 wr) (fun _ _ i _ => xs.length - (intOf i).toNat)
  case atStart => exact ⟨0, Nat.zero_le _, rfl, false, rfl, by show _ = _; simp, by unfold putK; rw [if_pos (Nat.zero_le _)]; exact ho0, Below.refl _ _⟩
  case round =>
    clear ho0
    obtain ⟨k, hk, rfl, Dn, rfl, HD, ho, hB⟩ := hrel
    have hb : Below w.heap.size w wr := hW0.trans (hB.mono (Nat.le_succ _))
    have hp : PBlock wr w.heap.size 0 t := hpt.below hB (Nat.lt_succ_self _)
    have hBs := hB.size
    have hpl := putK_len (xs := xs) (b := t) (k := k)
    by_cases hlt : k < xs.length
    · obtain ⟨b, off, rfl, hbm, hok, hpk⟩ := PBlock.elem (hx.below' hb) hlt
      have hbl := hx.lt b hbm
      have hkey := key_at hor (b := t) hlt
      rcases Nat.lt_or_ge k (atB xs t) with hA | hge
      · have hbf := before_at hlt hA
        obtain rfl : Dn = false := by have := HD.out; rw [this]; simp; omega
        have hkf : keyB xs[k] t.kind t.name = false := by rw [hkey]; simp; omega
        have HK := Lib.hid (putK_A hlt hA)
        clear hkey
        go_wp2_with fail
        refine (l29Before_any _ _ _ _ _ _ _ hpk hp).mono ?_
        rintro e w2 ⟨rfl, hb2⟩
        have hBn : Below (w.heap.size + 1) W0 w2 := hB.trans (hb2.mono (by omega))
        have hoN := ho.below hb2
        obtain ⟨c0, c1, c2⟩ := hpk.below' hb2
        obtain ⟨d0, d1, d2⟩ := hp.below' hb2
        clear ho hpk hp
        rw [hbf]
        go_wp2
        have gc0 := cell_regrown c0
        have gc1 := cell_regrown c1
        have gc2 := cell_regrown c2
        have gd0 := cell_regrown d0
        have gd1 := cell_regrown d1
        have gd2 := cell_regrown d2
        refine wp_region_mix (C := fun w' => ∃ p : Regrown, w' = Go.Sort.grow (redrawn w2 p.d) p.os) [true, true, true, true, true, true, true, true, true, true, true, true, true, true, true, true, true, true] (by kernel_rfl) (by kernel_rfl) (by kernel_rfl) (fun _ _ d _ _ h => by cases d <;> exact h) (regrown_of_below (Below.drew (Below.refl _ _))) ?_
        have hS0 : Below w2.heap.size w2 w2.drew := Below.drew (Below.refl _ _)
        refine wpMix_pure (by kernel_rfl) (fun K hK => ?_)
        go_big_quiet_op
        refine hK _ ?_; clear hK K
        refine wpMix_pure (by kernel_rfl) (fun K hK => ?_)
        go_big_quiet_op
        refine hK _ ?_; clear hK K
        refine wpMix_pure (by kernel_rfl) (fun K hK => ?_)
        go_big_quiet_op
        refine hK _ ?_; clear hK K
        refine wpMix_pure (by kernel_rfl) (fun K hK => ?_)
        go_big_quiet_op
        refine hK _ ?_; clear hK K
        refine wpMix_pure (by kernel_rfl) (fun K hK => ?_)
        go_big_quiet_op
        refine hK _ ?_; clear hK K
        refine wpMix_pure (by kernel_rfl) (fun K hK => ?_)
        go_big_quiet_op
        refine hK _ ?_; clear hK K
        refine wpMix_pure (by kernel_rfl) (fun K hK => ?_)
        go_big_quiet_op
        refine hK _ ?_; clear hK K
        by_cases hq7 : xs[k].kind = t.kind
        · skip
          have e7 : (xs[k].kind.toList == t.kind.toList) = true := eqS_true.2 hq7
          refine wpMix_pure (by kernel_rfl) (fun K hK => ?_)
          go_big_quiet_op
          refine hK _ ?_; clear hK K
          refine wpMix_pure (by kernel_rfl) (fun K hK => ?_)
          go_big_quiet_op
          refine hK _ ?_; clear hK K
          refine wpMix_pure (by kernel_rfl) (fun K hK => ?_)
          go_big_quiet_op
          refine hK _ ?_; clear hK K
          refine wpMix_pure (by kernel_rfl) (fun K hK => ?_)
          go_big_quiet_op
          refine hK _ ?_; clear hK K
          refine wpMix_pure (by kernel_rfl) (fun K hK => ?_)
          go_big_quiet_op
          refine hK _ ?_; clear hK K
          refine wpMix_pure (by kernel_rfl) (fun K hK => ?_)
          go_big_quiet_op
          refine hK _ ?_; clear hK K
          refine wpMix_pure (by kernel_rfl) (fun K hK => ?_)
          go_big_quiet_op
          refine hK _ ?_; clear hK K
          refine wpMix_pure (by kernel_rfl) (fun K hK => ?_)
          go_big_quiet_op
          refine hK _ ?_; clear hK K
          refine wpMix_pure (by kernel_rfl) (fun K hK => ?_)
          go_big_quiet_op
          refine hK _ ?_; clear hK K
          by_cases hq16 : xs[k].name = t.name
          · skip
            have e8 : (xs[k].name.toList == t.name.toList) = true := eqS_true.2 hq16
            refine wpMix_pure (by kernel_rfl) (fun K hK => ?_)
            go_big_quiet_op
            refine hK _ ?_; clear hK K
            refine wpMix_pure (by kernel_rfl) (fun K hK => ?_)
            go_big_quiet_op
            refine hK _ ?_; clear hK K
            refine wpMix_nil ?_
            exact absurd hkf (by simp [keyB, *])
          · skip
            have e8 : (xs[k].name.toList == t.name.toList) = false := bytes_beq_false hq16
            refine wpMix_pure (by kernel_rfl) (fun K hK => ?_)
            go_big_quiet_op
            refine hK _ ?_; clear hK K
            refine wpMix_pure (by kernel_rfl) (fun K hK => ?_)
            go_big_quiet_op
            refine hK _ ?_; clear hK K
            refine wpMix_nil ?_
            have hBd : Below (w.heap.size + 1) W0 w2.drew := hBn.trans (Below.drew (Below.refl _ _))
            have hoD : Own fBlock w2.drew (w.heap.size + 1) 57 u5 (putK xs t k) := hoN
            have hs3 : w.heap.size + 1 ≤ w2.drew.heap.size := Nat.le_trans hz0' hBd.size
            have ho3 : w2.drew.ownsRow (w.heap.size + 1) 57 3 u5 ((putK xs t k)).length (((putK xs t k)).flatMap fBlock.enc) := hoD
            have hlL : ((putK xs t k)).length ≤ k + 2 + xs.length := by (try rw [List.length_append]); (try rw [List.length_singleton]); omega
            clear hoN hoD
            try clear hq7
            go_wp2_with (at_builtin; refine wpList_append_one rfl _ _ 24 rfl (w.heap.size + 1) 57 i0 (.agg #[.string ⟨#[]⟩, .string ⟨#[]⟩, .string ⟨#[]⟩]) 3 48 Tryz.underlying24 hi hz0 hz1 hz2 rfl (by decide) u5 ((putK xs t k)).length _ rfl ho3 [.string xs[k].kind, .string xs[k].name, .string xs[k].text] rfl (by intro u hu; simp at hu; rcases hu with rfl | rfl | rfl <;> rfl) rfl (by omega) (by decide) hs3 ?_)
            intro v2 u2 hown2 hbu2 _ _
            have ho2 : Own fBlock u2 (w.heap.size + 1) 57 v2 (putK xs t (k + 1)) := by rw [HK.out]; first | exact Own.push _ rfl hown2 | exact Own.push (n := (putK xs t k).length + 1 + 1) _ (by simp) (by rw [List.flatMap_append, List.append_assoc]; simp only [List.flatMap_singleton]; exact hown2)
            have hB2 := hBd.trans hbu2
            clear hown2 ho3
            go_wp2
            go_roundw
            case rel => exact ⟨k + 1, by omega, by go_num, false, rfl, by show _ = _; simp; omega, ho2, hB2⟩
            case measure => simp [intOf]; omega
        · skip
          have e7 : (xs[k].kind.toList == t.kind.toList) = false := bytes_beq_false hq7
          refine wpMix_pure (by kernel_rfl) (fun K hK => ?_)
          go_big_quiet_op
          refine hK _ ?_; clear hK K
          refine wpMix_pure (by kernel_rfl) (fun K hK => ?_)
          go_big_quiet_op
          refine hK _ ?_; clear hK K
          refine wpMix_skip (by kernel_rfl) (fun K hK => ?_)
          simp only [Act.put, List.setIfInBounds_toArray, List.set_cons_zero, List.set_cons_succ]
          refine hK _ ?_; clear hK K
          refine wpMix_skip (by kernel_rfl) (fun K hK => ?_)
          simp only [Act.put, List.setIfInBounds_toArray, List.set_cons_zero, List.set_cons_succ]
          refine hK _ ?_; clear hK K
          refine wpMix_skip (by kernel_rfl) (fun K hK => ?_)
          simp only [Act.put, List.setIfInBounds_toArray, List.set_cons_zero, List.set_cons_succ]
          refine hK _ ?_; clear hK K
          refine wpMix_skip (by kernel_rfl) (fun K hK => ?_)
          simp only [Act.put, List.setIfInBounds_toArray, List.set_cons_zero, List.set_cons_succ]
          refine hK _ ?_; clear hK K
          refine wpMix_skip (by kernel_rfl) (fun K hK => ?_)
          simp only [Act.put, List.setIfInBounds_toArray, List.set_cons_zero, List.set_cons_succ]
          refine hK _ ?_; clear hK K
          refine wpMix_skip (by kernel_rfl) (fun K hK => ?_)
          simp only [Act.put, List.setIfInBounds_toArray, List.set_cons_zero, List.set_cons_succ]
          refine hK _ ?_; clear hK K
          refine wpMix_skip (by kernel_rfl) (fun K hK => ?_)
          simp only [Act.put, List.setIfInBounds_toArray, List.set_cons_zero, List.set_cons_succ]
          refine hK _ ?_; clear hK K
          refine wpMix_skip (by kernel_rfl) (fun K hK => ?_)
          simp only [Act.put, List.setIfInBounds_toArray, List.set_cons_zero, List.set_cons_succ]
          refine hK _ ?_; clear hK K
          refine wpMix_pure (by kernel_rfl) (fun K hK => ?_)
          go_big_quiet_op
          refine hK _ ?_; clear hK K
          refine wpMix_nil ?_
          have hBd : Below (w.heap.size + 1) W0 w2.drew := hBn.trans (Below.drew (Below.refl _ _))
          have hoD : Own fBlock w2.drew (w.heap.size + 1) 57 u5 (putK xs t k) := hoN
          have hs3 : w.heap.size + 1 ≤ w2.drew.heap.size := Nat.le_trans hz0' hBd.size
          have ho3 : w2.drew.ownsRow (w.heap.size + 1) 57 3 u5 ((putK xs t k)).length (((putK xs t k)).flatMap fBlock.enc) := hoD
          have hlL : ((putK xs t k)).length ≤ k + 2 + xs.length := by (try rw [List.length_append]); (try rw [List.length_singleton]); omega
          clear hoN hoD
          try clear hq7
          go_wp2_with (at_builtin; refine wpList_append_one rfl _ _ 24 rfl (w.heap.size + 1) 57 i0 (.agg #[.string ⟨#[]⟩, .string ⟨#[]⟩, .string ⟨#[]⟩]) 3 48 Tryz.underlying24 hi hz0 hz1 hz2 rfl (by decide) u5 ((putK xs t k)).length _ rfl ho3 [.string xs[k].kind, .string xs[k].name, .string xs[k].text] rfl (by intro u hu; simp at hu; rcases hu with rfl | rfl | rfl <;> rfl) rfl (by omega) (by decide) hs3 ?_)
          intro v2 u2 hown2 hbu2 _ _
          have ho2 : Own fBlock u2 (w.heap.size + 1) 57 v2 (putK xs t (k + 1)) := by rw [HK.out]; first | exact Own.push _ rfl hown2 | exact Own.push (n := (putK xs t k).length + 1 + 1) _ (by simp) (by rw [List.flatMap_append, List.append_assoc]; simp only [List.flatMap_singleton]; exact hown2)
          have hB2 := hBd.trans hbu2
          clear hown2 ho3
          go_wp2
          go_roundw
          case rel => exact ⟨k + 1, by omega, by go_num, false, rfl, by show _ = _; simp; omega, ho2, hB2⟩
          case measure => simp [intOf]; omega
      · rcases Nat.eq_or_lt_of_le hge with hke | hC
        · have hbf : beforeB xs[k] t = false := by
            have h1 : atB xs t < xs.length := by omega
            have h2 := before_not h1
            have h3 : xs[k] = xs[atB xs t] := by congr 1; exact hke.symm
            rw [h3]; exact h2
          obtain rfl : Dn = false := by have := HD.out; rw [this]; simp; omega
          have hkt0 : keyB xs[k] t.kind t.name = hasKey xs t := by rw [hkey]; simp; omega
          clear hkey
          have HK1 : hasKey xs t = true → putK xs t (k + 1) = putK xs t k ++ [t] := by intro hh; have := putK_B1 hh; rw [hke] at this; exact this
          have HK2 : hasKey xs t = false → putK xs t (k + 1) = (putK xs t k ++ [t]) ++ [xs[k]] := by intro hh; subst hke; exact putK_B2 hlt hh
          clear hge
          go_wp2_with fail
          refine (l29Before_any _ _ _ _ _ _ _ hpk hp).mono ?_
          rintro e w2 ⟨rfl, hb2⟩
          have hBn : Below (w.heap.size + 1) W0 w2 := hB.trans (hb2.mono (by omega))
          have hoN := ho.below hb2
          obtain ⟨d0, d1, d2⟩ := hp.below' hb2
          have hpk2 := hpk.below' hb2
          have hp2 := hp.below hb2 (by omega)
          clear ho hpk hp
          rw [hbf]
          have hs4 : w.heap.size + 1 ≤ w2.heap.size := Nat.le_trans hz0' hBn.size
          have ho4 : w2.ownsRow (w.heap.size + 1) 57 3 u5 (putK xs t k).length ((putK xs t k).flatMap fBlock.enc) := hoN
          clear hoN
          go_wp2_with (at_builtin; refine wpList_append_one rfl _ _ 24 rfl (w.heap.size + 1) 57 i0 (.agg #[.string ⟨#[]⟩, .string ⟨#[]⟩, .string ⟨#[]⟩]) 3 48 Tryz.underlying24 hi hz0 hz1 hz2 rfl (by decide) u5 (putK xs t k).length _ rfl ho4 [.string t.kind, .string t.name, .string t.text] rfl (by intro u hu; simp at hu; rcases hu with rfl | rfl | rfl <;> rfl) rfl (by omega) (by decide) hs4 ?_)
          intro v2 u2 hown2 hbu2 _ _
          have hoN : Own fBlock u2 (w.heap.size + 1) 57 v2 (putK xs t k ++ [t]) := Own.push _ rfl hown2
          obtain ⟨c0, c1, c2⟩ := hpk2.below hbu2 (by omega)
          obtain ⟨d0, d1, d2⟩ := hp2.below hbu2 (Nat.lt_succ_self _)
          have hBn := hBn.trans hbu2
          clear hpk2 hp2 hown2 ho4
          go_wp2
          cases hh : hasKey xs t with
          | true =>
            have hkt : keyB xs[k] t.kind t.name = true := by rw [hkt0]; exact hh
            have HK := Lib.hid (HK1 hh)
            clear HK1 HK2 hkt0
            have gc0 := cell_regrown c0
            have gc1 := cell_regrown c1
            have gc2 := cell_regrown c2
            have gd0 := cell_regrown d0
            have gd1 := cell_regrown d1
            have gd2 := cell_regrown d2
            refine wp_region_mix (C := fun w' => ∃ p : Regrown, w' = Go.Sort.grow (redrawn u2 p.d) p.os) [true, true, true, true, true, true, true, true, true, true, true, true, true, true, true, true, true, true] (by kernel_rfl) (by kernel_rfl) (by kernel_rfl) (fun _ _ d _ _ h => by cases d <;> exact h) (regrown_of_below (Below.drew (Below.refl _ _))) ?_
            have hS0 : Below u2.heap.size u2 u2.drew := Below.drew (Below.refl _ _)
            refine wpMix_pure (by kernel_rfl) (fun K hK => ?_)
            go_big_quiet_op
            refine hK _ ?_; clear hK K
            refine wpMix_pure (by kernel_rfl) (fun K hK => ?_)
            go_big_quiet_op
            refine hK _ ?_; clear hK K
            refine wpMix_pure (by kernel_rfl) (fun K hK => ?_)
            go_big_quiet_op
            refine hK _ ?_; clear hK K
            refine wpMix_pure (by kernel_rfl) (fun K hK => ?_)
            go_big_quiet_op
            refine hK _ ?_; clear hK K
            refine wpMix_pure (by kernel_rfl) (fun K hK => ?_)
            go_big_quiet_op
            refine hK _ ?_; clear hK K
            refine wpMix_pure (by kernel_rfl) (fun K hK => ?_)
            go_big_quiet_op
            refine hK _ ?_; clear hK K
            refine wpMix_pure (by kernel_rfl) (fun K hK => ?_)
            go_big_quiet_op
            refine hK _ ?_; clear hK K
            by_cases hq7 : xs[k].kind = t.kind
            · skip
              have e7 : (xs[k].kind.toList == t.kind.toList) = true := eqS_true.2 hq7
              refine wpMix_pure (by kernel_rfl) (fun K hK => ?_)
              go_big_quiet_op
              refine hK _ ?_; clear hK K
              refine wpMix_pure (by kernel_rfl) (fun K hK => ?_)
              go_big_quiet_op
              refine hK _ ?_; clear hK K
              refine wpMix_pure (by kernel_rfl) (fun K hK => ?_)
              go_big_quiet_op
              refine hK _ ?_; clear hK K
              refine wpMix_pure (by kernel_rfl) (fun K hK => ?_)
              go_big_quiet_op
              refine hK _ ?_; clear hK K
              refine wpMix_pure (by kernel_rfl) (fun K hK => ?_)
              go_big_quiet_op
              refine hK _ ?_; clear hK K
              refine wpMix_pure (by kernel_rfl) (fun K hK => ?_)
              go_big_quiet_op
              refine hK _ ?_; clear hK K
              refine wpMix_pure (by kernel_rfl) (fun K hK => ?_)
              go_big_quiet_op
              refine hK _ ?_; clear hK K
              refine wpMix_pure (by kernel_rfl) (fun K hK => ?_)
              go_big_quiet_op
              refine hK _ ?_; clear hK K
              refine wpMix_pure (by kernel_rfl) (fun K hK => ?_)
              go_big_quiet_op
              refine hK _ ?_; clear hK K
              by_cases hq16 : xs[k].name = t.name
              · skip
                have e8 : (xs[k].name.toList == t.name.toList) = true := eqS_true.2 hq16
                refine wpMix_pure (by kernel_rfl) (fun K hK => ?_)
                go_big_quiet_op
                refine hK _ ?_; clear hK K
                refine wpMix_pure (by kernel_rfl) (fun K hK => ?_)
                go_big_quiet_op
                refine hK _ ?_; clear hK K
                refine wpMix_nil ?_
                have hBd : Below (w.heap.size + 1) W0 u2.drew := hBn.trans (Below.drew (Below.refl _ _))
                have hoD : Own fBlock u2.drew (w.heap.size + 1) 57 v2 (putK xs t k ++ [t]) := hoN
                have ho2 : Own fBlock u2.drew (w.heap.size + 1) 57 v2 (putK xs t (k + 1)) := by rw [HK.out]; exact hoD
                clear hoN hoD
                go_wp2
                go_roundw
                case rel => exact ⟨k + 1, by omega, by go_num, true, rfl, by show _ = _; simp; omega, ho2, hBd⟩
                case measure => simp [intOf]; omega
              · skip
                have e8 : (xs[k].name.toList == t.name.toList) = false := bytes_beq_false hq16
                refine wpMix_pure (by kernel_rfl) (fun K hK => ?_)
                go_big_quiet_op
                refine hK _ ?_; clear hK K
                refine wpMix_pure (by kernel_rfl) (fun K hK => ?_)
                go_big_quiet_op
                refine hK _ ?_; clear hK K
                refine wpMix_nil ?_
                exact absurd hkt (by simp [keyB, *])
            · skip
              have e7 : (xs[k].kind.toList == t.kind.toList) = false := bytes_beq_false hq7
              refine wpMix_pure (by kernel_rfl) (fun K hK => ?_)
              go_big_quiet_op
              refine hK _ ?_; clear hK K
              refine wpMix_pure (by kernel_rfl) (fun K hK => ?_)
              go_big_quiet_op
              refine hK _ ?_; clear hK K
              refine wpMix_skip (by kernel_rfl) (fun K hK => ?_)
              simp only [Act.put, List.setIfInBounds_toArray, List.set_cons_zero, List.set_cons_succ]
              refine hK _ ?_; clear hK K
              refine wpMix_skip (by kernel_rfl) (fun K hK => ?_)
              simp only [Act.put, List.setIfInBounds_toArray, List.set_cons_zero, List.set_cons_succ]
              refine hK _ ?_; clear hK K
              refine wpMix_skip (by kernel_rfl) (fun K hK => ?_)
              simp only [Act.put, List.setIfInBounds_toArray, List.set_cons_zero, List.set_cons_succ]
              refine hK _ ?_; clear hK K
              refine wpMix_skip (by kernel_rfl) (fun K hK => ?_)
              simp only [Act.put, List.setIfInBounds_toArray, List.set_cons_zero, List.set_cons_succ]
              refine hK _ ?_; clear hK K
              refine wpMix_skip (by kernel_rfl) (fun K hK => ?_)
              simp only [Act.put, List.setIfInBounds_toArray, List.set_cons_zero, List.set_cons_succ]
              refine hK _ ?_; clear hK K
              refine wpMix_skip (by kernel_rfl) (fun K hK => ?_)
              simp only [Act.put, List.setIfInBounds_toArray, List.set_cons_zero, List.set_cons_succ]
              refine hK _ ?_; clear hK K
              refine wpMix_skip (by kernel_rfl) (fun K hK => ?_)
              simp only [Act.put, List.setIfInBounds_toArray, List.set_cons_zero, List.set_cons_succ]
              refine hK _ ?_; clear hK K
              refine wpMix_skip (by kernel_rfl) (fun K hK => ?_)
              simp only [Act.put, List.setIfInBounds_toArray, List.set_cons_zero, List.set_cons_succ]
              refine hK _ ?_; clear hK K
              refine wpMix_pure (by kernel_rfl) (fun K hK => ?_)
              go_big_quiet_op
              refine hK _ ?_; clear hK K
              refine wpMix_nil ?_
              exact absurd hkt (by simp [keyB, *])
          | false =>
            have hkf : keyB xs[k] t.kind t.name = false := by rw [hkt0]; exact hh
            have HK := Lib.hid (HK2 hh)
            clear HK1 HK2 hkt0
            have gc0 := cell_regrown c0
            have gc1 := cell_regrown c1
            have gc2 := cell_regrown c2
            have gd0 := cell_regrown d0
            have gd1 := cell_regrown d1
            have gd2 := cell_regrown d2
            refine wp_region_mix (C := fun w' => ∃ p : Regrown, w' = Go.Sort.grow (redrawn u2 p.d) p.os) [true, true, true, true, true, true, true, true, true, true, true, true, true, true, true, true, true, true] (by kernel_rfl) (by kernel_rfl) (by kernel_rfl) (fun _ _ d _ _ h => by cases d <;> exact h) (regrown_of_below (Below.drew (Below.refl _ _))) ?_
            have hS0 : Below u2.heap.size u2 u2.drew := Below.drew (Below.refl _ _)
            refine wpMix_pure (by kernel_rfl) (fun K hK => ?_)
            go_big_quiet_op
            refine hK _ ?_; clear hK K
            refine wpMix_pure (by kernel_rfl) (fun K hK => ?_)
            go_big_quiet_op
            refine hK _ ?_; clear hK K
            refine wpMix_pure (by kernel_rfl) (fun K hK => ?_)
            go_big_quiet_op
            refine hK _ ?_; clear hK K
            refine wpMix_pure (by kernel_rfl) (fun K hK => ?_)
            go_big_quiet_op
            refine hK _ ?_; clear hK K
            refine wpMix_pure (by kernel_rfl) (fun K hK => ?_)
            go_big_quiet_op
            refine hK _ ?_; clear hK K
            refine wpMix_pure (by kernel_rfl) (fun K hK => ?_)
            go_big_quiet_op
            refine hK _ ?_; clear hK K
            refine wpMix_pure (by kernel_rfl) (fun K hK => ?_)
            go_big_quiet_op
            refine hK _ ?_; clear hK K
            by_cases hq7 : xs[k].kind = t.kind
            · skip
              have e7 : (xs[k].kind.toList == t.kind.toList) = true := eqS_true.2 hq7
              refine wpMix_pure (by kernel_rfl) (fun K hK => ?_)
              go_big_quiet_op
              refine hK _ ?_; clear hK K
              refine wpMix_pure (by kernel_rfl) (fun K hK => ?_)
              go_big_quiet_op
              refine hK _ ?_; clear hK K
              refine wpMix_pure (by kernel_rfl) (fun K hK => ?_)
              go_big_quiet_op
              refine hK _ ?_; clear hK K
              refine wpMix_pure (by kernel_rfl) (fun K hK => ?_)
              go_big_quiet_op
              refine hK _ ?_; clear hK K
              refine wpMix_pure (by kernel_rfl) (fun K hK => ?_)
              go_big_quiet_op
              refine hK _ ?_; clear hK K
              refine wpMix_pure (by kernel_rfl) (fun K hK => ?_)
              go_big_quiet_op
              refine hK _ ?_; clear hK K
              refine wpMix_pure (by kernel_rfl) (fun K hK => ?_)
              go_big_quiet_op
              refine hK _ ?_; clear hK K
              refine wpMix_pure (by kernel_rfl) (fun K hK => ?_)
              go_big_quiet_op
              refine hK _ ?_; clear hK K
              refine wpMix_pure (by kernel_rfl) (fun K hK => ?_)
              go_big_quiet_op
              refine hK _ ?_; clear hK K
              by_cases hq16 : xs[k].name = t.name
              · skip
                have e8 : (xs[k].name.toList == t.name.toList) = true := eqS_true.2 hq16
                refine wpMix_pure (by kernel_rfl) (fun K hK => ?_)
                go_big_quiet_op
                refine hK _ ?_; clear hK K
                refine wpMix_pure (by kernel_rfl) (fun K hK => ?_)
                go_big_quiet_op
                refine hK _ ?_; clear hK K
                refine wpMix_nil ?_
                exact absurd hkf (by simp [keyB, *])
              · skip
                have e8 : (xs[k].name.toList == t.name.toList) = false := bytes_beq_false hq16
                refine wpMix_pure (by kernel_rfl) (fun K hK => ?_)
                go_big_quiet_op
                refine hK _ ?_; clear hK K
                refine wpMix_pure (by kernel_rfl) (fun K hK => ?_)
                go_big_quiet_op
                refine hK _ ?_; clear hK K
                refine wpMix_nil ?_
                have hBd : Below (w.heap.size + 1) W0 u2.drew := hBn.trans (Below.drew (Below.refl _ _))
                have hoD : Own fBlock u2.drew (w.heap.size + 1) 57 v2 (putK xs t k ++ [t]) := hoN
                have hs3 : w.heap.size + 1 ≤ u2.drew.heap.size := Nat.le_trans hz0' hBd.size
                have ho3 : u2.drew.ownsRow (w.heap.size + 1) 57 3 v2 ((putK xs t k ++ [t])).length (((putK xs t k ++ [t])).flatMap fBlock.enc) := hoD
                have hlL : ((putK xs t k ++ [t])).length ≤ k + 2 + xs.length := by (try rw [List.length_append]); (try rw [List.length_singleton]); omega
                clear hoN hoD
                try clear hq7
                go_wp2_with (at_builtin; refine wpList_append_one rfl _ _ 24 rfl (w.heap.size + 1) 57 i0 (.agg #[.string ⟨#[]⟩, .string ⟨#[]⟩, .string ⟨#[]⟩]) 3 48 Tryz.underlying24 hi hz0 hz1 hz2 rfl (by decide) v2 ((putK xs t k ++ [t])).length _ rfl ho3 [.string xs[k].kind, .string xs[k].name, .string xs[k].text] rfl (by intro u hu; simp at hu; rcases hu with rfl | rfl | rfl <;> rfl) rfl (by omega) (by decide) hs3 ?_)
                intro v2 u2 hown2 hbu2 _ _
                have ho2 : Own fBlock u2 (w.heap.size + 1) 57 v2 (putK xs t (k + 1)) := by rw [HK.out]; first | exact Own.push _ rfl hown2 | exact Own.push (n := (putK xs t k).length + 1 + 1) _ (by simp) (by rw [List.flatMap_append, List.append_assoc]; simp only [List.flatMap_singleton]; exact hown2)
                have hB2 := hBd.trans hbu2
                clear hown2 ho3
                go_wp2
                go_roundw
                case rel => exact ⟨k + 1, by omega, by go_num, true, rfl, by show _ = _; simp; omega, ho2, hB2⟩
                case measure => simp [intOf]; omega
            · skip
              have e7 : (xs[k].kind.toList == t.kind.toList) = false := bytes_beq_false hq7
              refine wpMix_pure (by kernel_rfl) (fun K hK => ?_)
              go_big_quiet_op
              refine hK _ ?_; clear hK K
              refine wpMix_pure (by kernel_rfl) (fun K hK => ?_)
              go_big_quiet_op
              refine hK _ ?_; clear hK K
              refine wpMix_skip (by kernel_rfl) (fun K hK => ?_)
              simp only [Act.put, List.setIfInBounds_toArray, List.set_cons_zero, List.set_cons_succ]
              refine hK _ ?_; clear hK K
              refine wpMix_skip (by kernel_rfl) (fun K hK => ?_)
              simp only [Act.put, List.setIfInBounds_toArray, List.set_cons_zero, List.set_cons_succ]
              refine hK _ ?_; clear hK K
              refine wpMix_skip (by kernel_rfl) (fun K hK => ?_)
              simp only [Act.put, List.setIfInBounds_toArray, List.set_cons_zero, List.set_cons_succ]
              refine hK _ ?_; clear hK K
              refine wpMix_skip (by kernel_rfl) (fun K hK => ?_)
              simp only [Act.put, List.setIfInBounds_toArray, List.set_cons_zero, List.set_cons_succ]
              refine hK _ ?_; clear hK K
              refine wpMix_skip (by kernel_rfl) (fun K hK => ?_)
              simp only [Act.put, List.setIfInBounds_toArray, List.set_cons_zero, List.set_cons_succ]
              refine hK _ ?_; clear hK K
              refine wpMix_skip (by kernel_rfl) (fun K hK => ?_)
              simp only [Act.put, List.setIfInBounds_toArray, List.set_cons_zero, List.set_cons_succ]
              refine hK _ ?_; clear hK K
              refine wpMix_skip (by kernel_rfl) (fun K hK => ?_)
              simp only [Act.put, List.setIfInBounds_toArray, List.set_cons_zero, List.set_cons_succ]
              refine hK _ ?_; clear hK K
              refine wpMix_skip (by kernel_rfl) (fun K hK => ?_)
              simp only [Act.put, List.setIfInBounds_toArray, List.set_cons_zero, List.set_cons_succ]
              refine hK _ ?_; clear hK K
              refine wpMix_pure (by kernel_rfl) (fun K hK => ?_)
              go_big_quiet_op
              refine hK _ ?_; clear hK K
              refine wpMix_nil ?_
              have hBd : Below (w.heap.size + 1) W0 u2.drew := hBn.trans (Below.drew (Below.refl _ _))
              have hoD : Own fBlock u2.drew (w.heap.size + 1) 57 v2 (putK xs t k ++ [t]) := hoN
              have hs3 : w.heap.size + 1 ≤ u2.drew.heap.size := Nat.le_trans hz0' hBd.size
              have ho3 : u2.drew.ownsRow (w.heap.size + 1) 57 3 v2 ((putK xs t k ++ [t])).length (((putK xs t k ++ [t])).flatMap fBlock.enc) := hoD
              have hlL : ((putK xs t k ++ [t])).length ≤ k + 2 + xs.length := by (try rw [List.length_append]); (try rw [List.length_singleton]); omega
              clear hoN hoD
              try clear hq7
              go_wp2_with (at_builtin; refine wpList_append_one rfl _ _ 24 rfl (w.heap.size + 1) 57 i0 (.agg #[.string ⟨#[]⟩, .string ⟨#[]⟩, .string ⟨#[]⟩]) 3 48 Tryz.underlying24 hi hz0 hz1 hz2 rfl (by decide) v2 ((putK xs t k ++ [t])).length _ rfl ho3 [.string xs[k].kind, .string xs[k].name, .string xs[k].text] rfl (by intro u hu; simp at hu; rcases hu with rfl | rfl | rfl <;> rfl) rfl (by omega) (by decide) hs3 ?_)
              intro v2 u2 hown2 hbu2 _ _
              have ho2 : Own fBlock u2 (w.heap.size + 1) 57 v2 (putK xs t (k + 1)) := by rw [HK.out]; first | exact Own.push _ rfl hown2 | exact Own.push (n := (putK xs t k).length + 1 + 1) _ (by simp) (by rw [List.flatMap_append, List.append_assoc]; simp only [List.flatMap_singleton]; exact hown2)
              have hB2 := hBd.trans hbu2
              clear hown2 ho3
              go_wp2
              go_roundw
              case rel => exact ⟨k + 1, by omega, by go_num, true, rfl, by show _ = _; simp; omega, ho2, hB2⟩
              case measure => simp [intOf]; omega
        · obtain rfl : Dn = true := by have := HD.out; rw [this]; simp; omega
          have hkf : keyB xs[k] t.kind t.name = false := by rw [hkey]; simp; omega
          have HK := Lib.hid (putK_C hlt hC)
          clear hkey hge
          obtain ⟨c0, c1, c2⟩ := hpk
          obtain ⟨d0, d1, d2⟩ := hp
          have hBn := hB
          have hoN := ho
          clear ho
          go_wp2
          have gc0 := cell_regrown c0
          have gc1 := cell_regrown c1
          have gc2 := cell_regrown c2
          have gd0 := cell_regrown d0
          have gd1 := cell_regrown d1
          have gd2 := cell_regrown d2
          refine wp_region_mix (C := fun w' => ∃ p : Regrown, w' = Go.Sort.grow (redrawn wr p.d) p.os) [true, true, true, true, true, true, true, true, true, true, true, true, true, true, true, true, true, true] (by kernel_rfl) (by kernel_rfl) (by kernel_rfl) (fun _ _ d _ _ h => by cases d <;> exact h) (regrown_of_below (Below.drew (Below.refl _ _))) ?_
          have hS0 : Below wr.heap.size wr wr.drew := Below.drew (Below.refl _ _)
          refine wpMix_pure (by kernel_rfl) (fun K hK => ?_)
          go_big_quiet_op
          refine hK _ ?_; clear hK K
          refine wpMix_pure (by kernel_rfl) (fun K hK => ?_)
          go_big_quiet_op
          refine hK _ ?_; clear hK K
          refine wpMix_pure (by kernel_rfl) (fun K hK => ?_)
          go_big_quiet_op
          refine hK _ ?_; clear hK K
          refine wpMix_pure (by kernel_rfl) (fun K hK => ?_)
          go_big_quiet_op
          refine hK _ ?_; clear hK K
          refine wpMix_pure (by kernel_rfl) (fun K hK => ?_)
          go_big_quiet_op
          refine hK _ ?_; clear hK K
          refine wpMix_pure (by kernel_rfl) (fun K hK => ?_)
          go_big_quiet_op
          refine hK _ ?_; clear hK K
          refine wpMix_pure (by kernel_rfl) (fun K hK => ?_)
          go_big_quiet_op
          refine hK _ ?_; clear hK K
          by_cases hq7 : xs[k].kind = t.kind
          · skip
            have e7 : (xs[k].kind.toList == t.kind.toList) = true := eqS_true.2 hq7
            refine wpMix_pure (by kernel_rfl) (fun K hK => ?_)
            go_big_quiet_op
            refine hK _ ?_; clear hK K
            refine wpMix_pure (by kernel_rfl) (fun K hK => ?_)
            go_big_quiet_op
            refine hK _ ?_; clear hK K
            refine wpMix_pure (by kernel_rfl) (fun K hK => ?_)
            go_big_quiet_op
            refine hK _ ?_; clear hK K
            refine wpMix_pure (by kernel_rfl) (fun K hK => ?_)
            go_big_quiet_op
            refine hK _ ?_; clear hK K
            refine wpMix_pure (by kernel_rfl) (fun K hK => ?_)
            go_big_quiet_op
            refine hK _ ?_; clear hK K
            refine wpMix_pure (by kernel_rfl) (fun K hK => ?_)
            go_big_quiet_op
            refine hK _ ?_; clear hK K
            refine wpMix_pure (by kernel_rfl) (fun K hK => ?_)
            go_big_quiet_op
            refine hK _ ?_; clear hK K
            refine wpMix_pure (by kernel_rfl) (fun K hK => ?_)
            go_big_quiet_op
            refine hK _ ?_; clear hK K
            refine wpMix_pure (by kernel_rfl) (fun K hK => ?_)
            go_big_quiet_op
            refine hK _ ?_; clear hK K
            by_cases hq16 : xs[k].name = t.name
            · skip
              have e8 : (xs[k].name.toList == t.name.toList) = true := eqS_true.2 hq16
              refine wpMix_pure (by kernel_rfl) (fun K hK => ?_)
              go_big_quiet_op
              refine hK _ ?_; clear hK K
              refine wpMix_pure (by kernel_rfl) (fun K hK => ?_)
              go_big_quiet_op
              refine hK _ ?_; clear hK K
              refine wpMix_nil ?_
              exact absurd hkf (by simp [keyB, *])
            · skip
              have e8 : (xs[k].name.toList == t.name.toList) = false := bytes_beq_false hq16
              refine wpMix_pure (by kernel_rfl) (fun K hK => ?_)
              go_big_quiet_op
              refine hK _ ?_; clear hK K
              refine wpMix_pure (by kernel_rfl) (fun K hK => ?_)
              go_big_quiet_op
              refine hK _ ?_; clear hK K
              refine wpMix_nil ?_
              have hBd : Below (w.heap.size + 1) W0 wr.drew := hBn.trans (Below.drew (Below.refl _ _))
              have hoD : Own fBlock wr.drew (w.heap.size + 1) 57 u5 (putK xs t k) := hoN
              have hs3 : w.heap.size + 1 ≤ wr.drew.heap.size := Nat.le_trans hz0' hBd.size
              have ho3 : wr.drew.ownsRow (w.heap.size + 1) 57 3 u5 ((putK xs t k)).length (((putK xs t k)).flatMap fBlock.enc) := hoD
              have hlL : ((putK xs t k)).length ≤ k + 2 + xs.length := by (try rw [List.length_append]); (try rw [List.length_singleton]); omega
              clear hoN hoD
              try clear hq7
              go_wp2_with (at_builtin; refine wpList_append_one rfl _ _ 24 rfl (w.heap.size + 1) 57 i0 (.agg #[.string ⟨#[]⟩, .string ⟨#[]⟩, .string ⟨#[]⟩]) 3 48 Tryz.underlying24 hi hz0 hz1 hz2 rfl (by decide) u5 ((putK xs t k)).length _ rfl ho3 [.string xs[k].kind, .string xs[k].name, .string xs[k].text] rfl (by intro u hu; simp at hu; rcases hu with rfl | rfl | rfl <;> rfl) rfl (by omega) (by decide) hs3 ?_)
              intro v2 u2 hown2 hbu2 _ _
              have ho2 : Own fBlock u2 (w.heap.size + 1) 57 v2 (putK xs t (k + 1)) := by rw [HK.out]; first | exact Own.push _ rfl hown2 | exact Own.push (n := (putK xs t k).length + 1 + 1) _ (by simp) (by rw [List.flatMap_append, List.append_assoc]; simp only [List.flatMap_singleton]; exact hown2)
              have hB2 := hBd.trans hbu2
              clear hown2 ho3
              go_wp2
              go_roundw
              case rel => exact ⟨k + 1, by omega, by go_num, true, rfl, by show _ = _; simp; omega, ho2, hB2⟩
              case measure => simp [intOf]; omega
          · skip
            have e7 : (xs[k].kind.toList == t.kind.toList) = false := bytes_beq_false hq7
            refine wpMix_pure (by kernel_rfl) (fun K hK => ?_)
            go_big_quiet_op
            refine hK _ ?_; clear hK K
            refine wpMix_pure (by kernel_rfl) (fun K hK => ?_)
            go_big_quiet_op
            refine hK _ ?_; clear hK K
            refine wpMix_skip (by kernel_rfl) (fun K hK => ?_)
            simp only [Act.put, List.setIfInBounds_toArray, List.set_cons_zero, List.set_cons_succ]
            refine hK _ ?_; clear hK K
            refine wpMix_skip (by kernel_rfl) (fun K hK => ?_)
            simp only [Act.put, List.setIfInBounds_toArray, List.set_cons_zero, List.set_cons_succ]
            refine hK _ ?_; clear hK K
            refine wpMix_skip (by kernel_rfl) (fun K hK => ?_)
            simp only [Act.put, List.setIfInBounds_toArray, List.set_cons_zero, List.set_cons_succ]
            refine hK _ ?_; clear hK K
            refine wpMix_skip (by kernel_rfl) (fun K hK => ?_)
            simp only [Act.put, List.setIfInBounds_toArray, List.set_cons_zero, List.set_cons_succ]
            refine hK _ ?_; clear hK K
            refine wpMix_skip (by kernel_rfl) (fun K hK => ?_)
            simp only [Act.put, List.setIfInBounds_toArray, List.set_cons_zero, List.set_cons_succ]
            refine hK _ ?_; clear hK K
            refine wpMix_skip (by kernel_rfl) (fun K hK => ?_)
            simp only [Act.put, List.setIfInBounds_toArray, List.set_cons_zero, List.set_cons_succ]
            refine hK _ ?_; clear hK K
            refine wpMix_skip (by kernel_rfl) (fun K hK => ?_)
            simp only [Act.put, List.setIfInBounds_toArray, List.set_cons_zero, List.set_cons_succ]
            refine hK _ ?_; clear hK K
            refine wpMix_skip (by kernel_rfl) (fun K hK => ?_)
            simp only [Act.put, List.setIfInBounds_toArray, List.set_cons_zero, List.set_cons_succ]
            refine hK _ ?_; clear hK K
            refine wpMix_pure (by kernel_rfl) (fun K hK => ?_)
            go_big_quiet_op
            refine hK _ ?_; clear hK K
            refine wpMix_nil ?_
            have hBd : Below (w.heap.size + 1) W0 wr.drew := hBn.trans (Below.drew (Below.refl _ _))
            have hoD : Own fBlock wr.drew (w.heap.size + 1) 57 u5 (putK xs t k) := hoN
            have hs3 : w.heap.size + 1 ≤ wr.drew.heap.size := Nat.le_trans hz0' hBd.size
            have ho3 : wr.drew.ownsRow (w.heap.size + 1) 57 3 u5 ((putK xs t k)).length (((putK xs t k)).flatMap fBlock.enc) := hoD
            have hlL : ((putK xs t k)).length ≤ k + 2 + xs.length := by (try rw [List.length_append]); (try rw [List.length_singleton]); omega
            clear hoN hoD
            try clear hq7
            go_wp2_with (at_builtin; refine wpList_append_one rfl _ _ 24 rfl (w.heap.size + 1) 57 i0 (.agg #[.string ⟨#[]⟩, .string ⟨#[]⟩, .string ⟨#[]⟩]) 3 48 Tryz.underlying24 hi hz0 hz1 hz2 rfl (by decide) u5 ((putK xs t k)).length _ rfl ho3 [.string xs[k].kind, .string xs[k].name, .string xs[k].text] rfl (by intro u hu; simp at hu; rcases hu with rfl | rfl | rfl <;> rfl) rfl (by omega) (by decide) hs3 ?_)
            intro v2 u2 hown2 hbu2 _ _
            have ho2 : Own fBlock u2 (w.heap.size + 1) 57 v2 (putK xs t (k + 1)) := by rw [HK.out]; first | exact Own.push _ rfl hown2 | exact Own.push (n := (putK xs t k).length + 1 + 1) _ (by simp) (by rw [List.flatMap_append, List.append_assoc]; simp only [List.flatMap_singleton]; exact hown2)
            have hB2 := hBd.trans hbu2
            clear hown2 ho3
            go_wp2
            go_roundw
            case rel => exact ⟨k + 1, by omega, by go_num, true, rfl, by show _ = _; simp; omega, ho2, hB2⟩
            case measure => simp [intOf]; omega
    · have hkn : k = xs.length := by omega
      subst hkn
      rcases Nat.lt_or_ge (atB xs t) xs.length with hA | hA
      · obtain rfl : Dn = true := by have := HD.out; rw [this]; simp; omega
        have ho5 := ho
        rw [putK_end1 hA] at ho5
        go_wp2
        go_ret
        exact ⟨_, rfl, own_mono ho5 (by omega), hb⟩
      · have hAe : atB xs t = xs.length := by omega
        obtain rfl : Dn = false := by have := HD.out; rw [this]; simp; omega
        obtain ⟨d0, d1, d2⟩ := hp
        have hBn := hB
        have hoN := ho
        have HE := Lib.hid (putK_end2 hAe)
        clear ho
        have hs4 : w.heap.size + 1 ≤ wr.heap.size := Nat.le_trans hz0' hBn.size
        have ho4 : wr.ownsRow (w.heap.size + 1) 57 3 u5 (putK xs t xs.length).length ((putK xs t xs.length).flatMap fBlock.enc) := hoN
        clear hoN
        go_wp2_with (at_builtin; refine wpList_append_one rfl _ _ 24 rfl (w.heap.size + 1) 57 i0 (.agg #[.string ⟨#[]⟩, .string ⟨#[]⟩, .string ⟨#[]⟩]) 3 48 Tryz.underlying24 hi hz0 hz1 hz2 rfl (by decide) u5 (putK xs t xs.length).length _ rfl ho4 [.string t.kind, .string t.name, .string t.text] rfl (by intro u hu; simp at hu; rcases hu with rfl | rfl | rfl <;> rfl) rfl (by omega) (by decide) hs4 ?_)
        intro v2 u2 hown2 hbu2 _ _
        have hoN : Own fBlock u2 (w.heap.size + 1) 57 v2 (putK xs t xs.length ++ [t]) := Own.push _ rfl hown2
        rw [HE.out] at hoN
        go_wp2
        go_ret
        exact ⟨_, rfl, own_mono hoN (by omega), hW0.trans ((hBn.trans hbu2).mono (by omega))⟩

end Go.Proofs.YtmhefhapighloaaGreatDoor

namespace Go.Proofs.YtmhefhapighloaaGreatDoor
open Go.RowKit
set_option linter.unusedVariables false

def pbOk (xs : List DBlock) (t : DBlock) : Bool := blocksB xs && blockB t
def pbF (xs : List DBlock) (t : DBlock) : List DBlock := if pbOk xs t && decide ((putF xs t).length ≤ 32) then putF xs t else []
def pbC (xs : List DBlock) (t : DBlock) : Int := if pbOk xs t then (if (putF xs t).length ≤ 32 then 0 else 5) else 1
theorem putF_ok {xs : List DBlock} {t : DBlock} (h : ∀ x ∈ xs, fBlock.ok x) (ht : fBlock.ok t) : ∀ x ∈ putF xs t, fBlock.ok x := by
  intro x hx
  unfold putF at hx
  rcases List.mem_append.1 hx with hx | hx
  · exact h x (List.mem_of_mem_take hx)
  · rcases List.mem_cons.1 hx with rfl | hx
    · exact ht
    · exact h x (List.mem_of_mem_drop hx)
theorem putF_len {xs : List DBlock} {t : DBlock} : (putF xs t).length ≤ 2 * xs.length + 1 := by
  unfold putF; simp; omega
set_option maxRecDepth 100000 in
set_option maxHeartbeats 2000000 in
theorem specPutBlock_any (v : Value) (xs : List DBlock) (fp : List Nat) (t : DBlock) (w : World) (hx : Sl fBlock.cod w v xs fp) (hok : fBlock.ok t) :
    Calls Tryz.prog 44 #[v, .agg #[.string t.kind, .string t.name, .string t.text]] w fun e w' => NewR2 fBlock.cod w (pbF xs t) (pbC xs t) e w' := by
  obtain ⟨A, cap, rfl, hlen, hcap⟩ := hx.form
  have hW0 : Below w.heap.size w (w.alloc (.cells #[.string t.kind, .string t.name, .string t.text] 57)) := (Below.refl _ _).alloc (Nat.le_refl _) _
  have hp := PBlock.box w t 57
  have hx0 := hx.below' hW0
  have hs0 : (w.alloc (.cells #[.string t.kind, .string t.name, .string t.text] 57)).heap.size = w.heap.size + 1 := World.size_alloc _ _
  go_enter Tryz.func44, Tryz.ntmps44
  go_wp2_with fail
  refine (l29Ok_any _ xs fp _ hx0).mono ?_
  rintro e w1 ⟨rfl, hb1⟩
  have hB1 := hW0.trans (hb1.mono hW0.size)
  have hp1 := hp.below' hb1
  cases h0 : blocksB xs
  · go_wp2
    go_ret2
    exact ⟨_, by rw [pbC, pbOk, h0]; rfl, by rw [pbF, pbOk, h0]; exact New.nil hB1⟩
  · have hor := blocksB_ordered h0
    have hl32 := blocksB_len h0
    have hx1 := hx.below' hB1
    go_wp2_with fail
    refine (l29One_any _ 0 t _ hp1 hok).mono ?_
    rintro e w2 ⟨rfl, hb2⟩
    have hB2 := hB1.trans (hb2.mono hB1.size)
    have hx2 := hx.below' hB2
    obtain ⟨d0, d1, d2⟩ := hp1.below' hb2
    cases h1 : blockB t
    · go_wp2
      go_ret2
      exact ⟨_, by rw [pbC, pbOk, h0, h1]; rfl, by rw [pbF, pbOk, h0, h1]; exact New.nil hB2⟩
    · have HL := putF_len (xs := xs) (t := t)
      have HOK := putF_ok hx.oks hok
      go_wp2_with fail
      refine (l29Put_any _ xs fp t _ hx2 hor (by omega)).mono ?_
      rintro e w3 ⟨v3, rfl, hown, hb3⟩
      have hB3 := hB2.trans (hb3.mono hB2.size)
      have ho3 : Own fBlock w3 w.heap.size 57 v3 (putF xs t) := own_mono hown hB2.size
      have ho4 : w3.ownsRow w.heap.size 57 3 v3 (putF xs t).length ((putF xs t).flatMap fBlock.enc) := ho3
      have hpos : 0 < (putF xs t).length := by unfold putF; simp; omega
      obtain ⟨g, cap3, rfl, hg, hgw, hc1, hc2⟩ := own_open ho4 hpos
      clear hown
      by_cases h2 : (putF xs t).length ≤ 32
      · have HF : Hid (pbF xs t = putF xs t) := by show _ = _; rw [pbF, pbOk, h0, h1]; simp [h2]
        have HC : Hid (pbC xs t = 0) := by show _ = _; rw [pbC, pbOk, h0, h1]; simp [h2]
        go_wp2
        go_ret2
        exact ⟨_, by rw [HC.out]; rfl, by rw [HF.out]; exact ho3.new hB3 HOK⟩
      · have HF : Hid (pbF xs t = []) := by show _ = _; rw [pbF, pbOk, h0, h1]; simp [h2]
        have HC : Hid (pbC xs t = 5) := by show _ = _; rw [pbC, pbOk, h0, h1]; simp [h2]
        go_wp2
        go_ret2
        exact ⟨_, by rw [HC.out]; rfl, by rw [HF.out]; exact New.nil hB3⟩

end Go.Proofs.YtmhefhapighloaaGreatDoor

namespace Go.Proofs.YtmhefhapighloaaGreatDoor
open Go.RowKit
set_option linter.unusedVariables false
/-- A cell inside a row of the call's own. -/
theorem own_set {w : World} {base : Nat} {e : TypeId} {size g n cap : Nat} {xs : List Value} (h : w.ownsRow base e size (.slice (some ⟨g, 0, none⟩) n cap) n xs) (p : Nat) (u : Value) (hu : u.oneCell' = true) (hp : p < n * size) :
    (w.setCell ⟨g, p, none⟩ u).ownsRow base e size (.slice (some ⟨g, 0, none⟩) n cap) n (xs.set p u) := by
  obtain ⟨h1, h2⟩ := h
  refine ⟨?_, ?_⟩
  · first
      | (rw [List.length_set]; exact h1)
      | (obtain ⟨h1a, h1b⟩ := h1
         refine ⟨by rw [List.length_set]; exact h1a, ?_⟩
         intro y hy
         rcases List.mem_or_eq_of_mem_set hy with hy | rfl
         · exact h1b y hy
         · exact hu)
      | (intro y hy
         rcases List.mem_or_eq_of_mem_set hy with hy | rfl
         · exact h1 y hy
         · exact hu)
  rcases h2 with ⟨hv, _⟩ | ⟨g', cap', cur, hv, hg, hh, hnc, hcm, hsz, hxs⟩
  · cases hv
  · injection hv with hv1 _ hv2
    injection hv1 with hv1
    injection hv1 with hv1 _ _
    subst hv1 hv2
    refine .inr ⟨g, cap, cur.setIfInBounds p u, rfl, hg, ?_, hnc, hcm, by simpa using hsz, ?_⟩
    · have hl : g < w.heap.size := by
        rcases Nat.lt_or_ge g w.heap.size with hlt | hge
        · exact hlt
        · rw [Array.getElem?_eq_none hge] at hh; cases hh
      simp only [World.setCell]
      rw [Array.getElem?_modify, if_pos rfl, hh]
      rfl
    · rw [Array.toList_setIfInBounds, List.take_set, hxs]
theorem flat_set (xs : List DBlock) (k : Nat) (t : DBlock) (hk : k < xs.length) :
    (((xs.flatMap fBlock.enc).set (k * 3) (.string t.kind)).set (k * 3 + 1) (.string t.name)).set (k * 3 + 1 + 1) (.string t.text) = (xs.set k t).flatMap fBlock.enc := by
  induction xs generalizing k with
  | nil => cases hk
  | cons x xs ih =>
    cases k with
    | zero => rfl
    | succ k =>
      have h := ih k (by simpa using hk)
      rw [show (k + 1) * 3 = k * 3 + 1 + 1 + 1 by omega]
      rw [List.set_cons_succ, List.flatMap_cons, List.flatMap_cons, ← h]
      rfl
theorem putF_has {xs : List DBlock} {t : DBlock} (h : hasKey xs t = true) (hk : atB xs t < xs.length) : putF xs t = xs.set (atB xs t) t := by
  unfold putF skB; rw [if_pos h, List.set_eq_take_append_cons_drop, if_pos hk]
theorem putF_no {xs : List DBlock} {t : DBlock} (h : hasKey xs t = false) : putF xs t = xs.take (atB xs t) ++ t :: xs.drop (atB xs t) := by
  unfold putF skB; rw [h]; rfl
theorem row_part {cur A B : List Value} {n p j : Nat} {u : Value} (hct : cur.take n = A ++ B) (hA : A.length = p) (hu : B[j]? = some u) : cur[p + j]? = some u := by
  have hj : p + j < n := by
    have h1 : (A ++ B).length ≤ n := by rw [← hct, List.length_take]; omega
    rw [List.length_append] at h1
    have h2 : j < B.length := by
      rcases Nat.lt_or_ge j B.length with h | h
      · exact h
      · rw [List.getElem?_eq_none h] at hu; cases hu
    omega
  have h := congrArg (fun l : List Value => l[p + j]?) hct
  simp only [List.getElem?_take, if_pos hj] at h
  rw [h, List.getElem?_append_right (by omega), hA, Nat.add_sub_cancel_left]
  exact hu
theorem toArray_three (A : List Value) (X Y : Array Value) : (A ++ (X.toList ++ Y.toList)).toArray = A.toArray ++ X ++ Y := by
  apply Array.ext'; simp
theorem row_head {cur A B : List Value} {n j : Nat} {u : Value} (hct : cur.take n = A ++ B) (hu : A[j]? = some u) : cur[j]? = some u := by
  have h2 : j < A.length := by
    rcases Nat.lt_or_ge j A.length with h | h
    · exact h
    · rw [List.getElem?_eq_none h] at hu; cases hu
  have hj : j < n := by
    have h1 : (A ++ B).length ≤ n := by rw [← hct, List.length_take]; omega
    rw [List.length_append] at h1
    omega
  have h := congrArg (fun l : List Value => l[j]?) hct
  simp only [List.getElem?_take, if_pos hj] at h
  rw [h, List.getElem?_append_left h2]
  exact hu
theorem insert_row {cur A t B : List Value} {at_ n cap : Nat} (hlt : at_ < n) (hroom : n < cap) (hcl : cur.length = cap * 3) (hct : cur.take (n * 3) = A ++ B) (hA : A.length = at_ * 3) (hB : B.length = (n - at_) * 3) (ht : t.length = 3) :
    (splice (splice cur ((at_ + 1) * 3) B) (at_ * 3) t).length = cap * 3 ∧ (splice (splice cur ((at_ + 1) * 3) B) (at_ * 3) t).take ((n + 1) * 3) = A ++ (t ++ B) := by
  have e1 : (at_ + 1) * 3 = at_ * 3 + 3 := by omega
  have e2 : (n + 1) * 3 = at_ * 3 + 3 + (n - at_) * 3 := by omega
  have e3 : n * 3 = at_ * 3 + (n - at_) * 3 := by omega
  rw [e3] at hct
  have h1 : (splice cur (at_ * 3 + 3) B).length = cur.length := length_splice _ _ _ (by omega)
  rw [e1, e2]
  exact ⟨by rw [length_splice _ _ _ (by omega), h1, hcl], splice_shift hct hA hB ht (by omega)⟩
theorem fill_row {cur A t B : List Value} {at_ n cap : Nat} (hlt : at_ < n) (hroom : n < cap) (hcl : cur.length = cap * 3) (hct : cur.take (at_ * 3) = A) (hA : A.length = at_ * 3) (hB : B.length = (n - at_) * 3) (ht : t.length = 3) :
    (splice (splice cur (at_ * 3) t) ((at_ + 1) * 3) B).length = cap * 3 ∧ (splice (splice cur (at_ * 3) t) ((at_ + 1) * 3) B).take ((n + 1) * 3) = A ++ (t ++ B) := by
  have e1 : (at_ + 1) * 3 = at_ * 3 + 3 := by omega
  have e2 : (n + 1) * 3 = at_ * 3 + 3 + (n - at_) * 3 := by omega
  have h1 : (splice cur (at_ * 3) t).length = cur.length := length_splice _ _ _ (by omega)
  rw [e1, e2]
  exact ⟨by rw [length_splice _ _ _ (by omega), h1, hcl], splice_fill hct hA hB ht (by omega)⟩
set_option maxRecDepth 100000 in
set_option maxHeartbeats 2000000 in
/-- Put in at the end: an append. -/
theorem insertB_end (v : Value) (xs : List DBlock) (t : DBlock) (nb base : Nat) (w : World) (hown : Own fBlock w base 57 v xs) (hs : Src fBlock w (.slice (some ⟨nb, 0, none⟩) 1 1) [t]) (hl : xs.length ≤ 1000000) (hbase : base ≤ w.heap.size) :
    Calls Tryz.prog 96 #[v, .int .i64 xs.length, .slice (some ⟨nb, 0, none⟩) 1 1] w fun e w' => ∃ v', e = .returned v' ∧ Own fBlock w' base 57 v' (xs ++ [t]) ∧ Below base w w' := by
  obtain ⟨i0, hi, hz0, hz1, hz2⟩ := info_parts infoBlock2
  rcases Nat.eq_zero_or_pos xs.length with h0 | h0
  · obtain rfl := List.eq_nil_of_length_eq_zero h0
    have hF : ∃ A cap, v = .slice A 0 cap := by
      obtain ⟨h1, h2⟩ := hown
      rcases h2 with ⟨hv, _⟩ | ⟨g, cap, cur, hv, _⟩
      · exact ⟨_, _, hv⟩
      · exact ⟨_, _, hv⟩
    obtain ⟨A, cap, rfl⟩ := hF
    go_enter Tryz.func96, Tryz.ntmps96
    go_wp2_with (at_builtin; refine wpList_append_src (E := fBlock) rfl _ _ 24 rfl base 57 i0 (.agg #[.string ⟨#[]⟩, .string ⟨#[]⟩, .string ⟨#[]⟩]) 48 Tryz.underlying24 hi hz0 hz1 hz2 rfl _ [] rfl hown _ [t] rfl hs (by simp <;> omega) (by decide) hbase ?_)
    all_goals
      intro v' u hown' hbu
      go_wp2
      go_ret
      exact ⟨_, rfl, hown', hbu⟩
  · have hown' : w.ownsRow base 57 3 v xs.length (xs.flatMap fBlock.enc) := hown
    obtain ⟨g, cap, rfl, hg, hgw, hc1, hc2⟩ := own_open hown' h0
    clear hown'
    go_enter Tryz.func96, Tryz.ntmps96
    go_wp2_with (at_builtin; refine wpList_append_src (E := fBlock) rfl _ _ 24 rfl base 57 i0 (.agg #[.string ⟨#[]⟩, .string ⟨#[]⟩, .string ⟨#[]⟩]) 48 Tryz.underlying24 hi hz0 hz1 hz2 rfl _ xs rfl hown _ [t] rfl hs (by simp <;> omega) (by decide) hbase ?_)
    all_goals
      intro v' u hown' hbu
      go_wp2
      go_ret
      exact ⟨_, rfl, hown', hbu⟩
set_option maxRecDepth 100000 in
set_option maxHeartbeats 4000000 in
/-- Put in ahead of others. -/
theorem insertB_mid (xs : List DBlock) (t : DBlock) (g cap at_ nb base : Nat) (w : World) (hown : w.ownsRow base 57 3 (.slice (some ⟨g, 0, none⟩) xs.length cap) xs.length (xs.flatMap fBlock.enc)) (hlt : at_ < xs.length)
    (hnb : w.heap[nb]? = some (.cells #[.string t.kind, .string t.name, .string t.text] 57 (0, 0))) (hne : nb ≠ g) (hl : xs.length ≤ 1000000) (hbase : base ≤ w.heap.size) :
    Calls Tryz.prog 96 #[.slice (some ⟨g, 0, none⟩) xs.length cap, .int .i64 at_, .slice (some ⟨nb, 0, none⟩) 1 1] w fun e w' => ∃ v', e = .returned v' ∧ Own fBlock w' base 57 v' (xs.take at_ ++ t :: xs.drop at_) ∧ Below base w w' := by
  obtain ⟨i0, hi, hz0, hz1, hz2⟩ := info_parts infoBlock2
  have hsz : (Tryz.prog.info? 57).map (·.size) = some 3 := by rw [hi]; simp [hz1]
  have hszf : ∀ w : World, (Go.sizeOf 57).run Tryz.prog w = .ok 3 w := fun w => by simp [sizeOf, typeInfo, hi, hz1]
  obtain ⟨cur, hrow, hcl, hct, hc1, hc2, hg⟩ := own_row hown
  unfold maxLen at hc2
  obtain ⟨A, hA⟩ : ∃ A, A = (xs.take at_).flatMap fBlock.enc := ⟨_, rfl⟩
  obtain ⟨B, hB⟩ : ∃ B, B = (xs.drop at_).flatMap fBlock.enc := ⟨_, rfl⟩
  have hAB : xs.flatMap fBlock.enc = A ++ B := by rw [hA, hB, ← List.flatMap_append, List.take_append_drop]
  have hAl : A.length = at_ * 3 := by rw [hA, flat_len fBlock.enc 3 _ (fun x _ => fBlock.len x)]; simp; omega
  have hBl : B.length = (xs.length - at_) * 3 := by rw [hB, flat_len fBlock.enc 3 _ (fun x _ => fBlock.len x)]; simp
  have hBone : ∀ u ∈ B, u.oneCell' = true := fun u hu => by
    rw [hB] at hu
    obtain ⟨y, _, hy⟩ := List.mem_flatMap.1 hu
    exact fBlock.one y u hy
  have HE := Lib.hid (show (xs.take at_ ++ t :: xs.drop at_).flatMap fBlock.enc = A ++ (fBlock.enc t ++ B) by rw [List.flatMap_append, List.flatMap_cons, hA, hB])
  have HL := Lib.hid (show (xs.take at_ ++ t :: xs.drop at_).length = xs.length + 1 by simp; omega)
  rw [hAB] at hct
  have htl : (fBlock.enc t).length = 3 := fBlock.len t
  have htone : ∀ u ∈ fBlock.enc t, u.oneCell' = true := fBlock.one t
  have hnw : nb < w.heap.size := by
    rcases Nat.lt_or_ge nb w.heap.size with h | h
    · exact h
    · rw [Array.getElem?_eq_none h] at hnb; cases hnb
  have hgw : g < w.heap.size := by
    rcases Nat.lt_or_ge g w.heap.size with h | h
    · exact h
    · rw [Array.getElem?_eq_none h] at hrow; cases hrow
  have hsrcT : ∀ W : World, W.heap[nb]? = w.heap[nb]? → ∀ (j : Nat) u, (fBlock.enc t)[j]? = some u → W.cell? ((⟨nb, 0, none⟩ : Addr).add j) = some u := fun W hW j u hu => by
    rw [addr_add, World.cell?, hW, hnb]
    simpa [fBlock] using hu
  have hov : ∀ off lb cb, (callFunc 120 #[.slice (some ⟨nb, 0, none⟩) 1 1, .slice (some ⟨g, off, none⟩) lb cb]).run Tryz.prog w = .ok (.value (.bool false)) w := fun off lb cb => by
    rw [run_callFunc_extern Tryz.func120 (by kernel_rfl) (by kernel_rfl) (by kernel_rfl) (e := Extern.SlicesOverlaps.overlaps #[24, 24] #[4]) (by kernel_rfl),
      Lib.run_overlaps_apart w 24 4 57 Tryz.underlying24 3 hszf ⟨nb, 0, none⟩ ⟨g, off, none⟩ 1 1 lb cb hne 57 57 3 cur.length (by simp [World.shape?, hnb]) (by simp [World.shape?, hrow]) (by omega) (by simp [World.frozen?, hnb]) (by simp [World.frozen?, hnb])]
    rfl
  generalize xs.length = n at *
  have e1 : ((at_ : Int) == (n : Int)) = false := by rw [beq_eq_false_iff_ne]; omega
  clear hown hA hB hAB hnb
  rcases Nat.lt_or_ge n cap with hroom | hroom
  · have hsrcB : ∀ (j : Nat) u, B[j]? = some u → w.drew.cell? ((⟨g, at_ * 3, none⟩ : Addr).add j) = some u := fun j u hu => by
      rw [addr_add]
      exact (row_cell hrow _).trans (row_part hct hAl hu)
    obtain ⟨hRl, hRt⟩ := insert_row hlt hroom hcl hct hAl hBl htl
    clear hi hz0
    go_enter Tryz.func96, Tryz.ntmps96
    go_wp2_with (simp only [hov])
    refine wp_region_mix (C := fun _ => True) [true, true, true, true, true, true, true, true, false] (by kernel_rfl) (by kernel_rfl) (by kernel_rfl) (fun _ _ d _ _ h => by cases d <;> exact h) trivial ?_
    have hS0 : Below w.heap.size w w.drew := Below.drew (Below.refl _ _)
    refine wpMix_pure (by kernel_rfl) (fun K hK => ?_)
    go_big_quiet_op
    refine hK _ ?_; clear hK K
    refine wpMix_pure (by kernel_rfl) (fun K hK => ?_)
    go_big_quiet_op
    refine hK _ ?_; clear hK K
    refine wpMix_pure (by kernel_rfl) (fun K hK => ?_)
    go_big_quiet_op
    refine hK _ ?_; clear hK K
    refine wpMix_pure (by kernel_rfl) (fun K hK => ?_)
    go_big_quiet_op
    refine hK _ ?_; clear hK K
    refine wpMix_pure (by kernel_rfl) (fun K hK => ?_)
    go_big_quiet_op
    refine hK _ ?_; clear hK K
    refine wpMix_pure (by kernel_rfl) (fun K hK => ?_)
    go_big_quiet_op
    refine hK _ ?_; clear hK K
    refine wpMix_pure (by kernel_rfl) (fun K hK => ?_)
    go_big_quiet_op
    refine hK _ ?_; clear hK K
    refine wpMix_pure (by kernel_rfl) (fun K hK => ?_)
    go_big_quiet_op
    refine hK _ ?_; clear hK K
    refine wpMix_act (by kernel_rfl) (fun K hK => ?_)
    refine wp_copy_at _ _ 24 24 rfl 57 Tryz.underlying24 3 hsz g ((at_ + 1) * 3) _ _ ⟨g, at_ * 3, none⟩ _ _ rfl rfl cur 57 hrow B (n - at_) (by simp only [Nat.min_def]; split <;> omega) hBl hsrcB (by omega) hBone ?_
    intro w5 hrow5 hoth5 hb5
    simp only [Act.put, List.setIfInBounds_toArray, List.set_cons_zero, List.set_cons_succ]
    refine hK _ _ trivial ?_
    clear hK K
    refine wpMix_nil ?_
    have HR5 := Lib.hid hrow5
    clear hrow5
    have hl5 : (splice cur ((at_ + 1) * 3) B).length = cur.length := length_splice _ _ _ (by omega)
    go_wp2_with (refine wpList_copy_at rfl _ _ 24 24 rfl 57 Tryz.underlying24 3 hsz g (at_ * 3) _ _ ⟨nb, 0, none⟩ _ _ rfl rfl (splice cur ((at_ + 1) * 3) B) 57 HR5.out (fBlock.enc t) (1) (by simp only [Nat.min_def]; split <;> omega) (by omega) (hsrcT w5 (hoth5 nb hne)) (by omega) htone ?_)
    intro w6 hrow6 hoth6 hb6
    have HR6 := Lib.hid hrow6
    clear hrow6
    go_wp2
    go_ret
    refine ⟨_, rfl, ?_, (((Below.refl base w).drew).trans (hb5.mono hg)).trans (hb6.mono hg)⟩
    show World.ownsRow _ base _ 3 _ (xs.take at_ ++ t :: xs.drop at_).length ((xs.take at_ ++ t :: xs.drop at_).flatMap fBlock.enc)
    rw [HL.out, HE.out]
    exact own_of_row HR6.out hg hroom (by unfold maxLen; omega) hRl hRt

  · have hbig : (n + 1) * 48 ≤ 140737488355328 := by omega
    have hcapN : ¬ ((cap : Int) = (at_ : Int)) := by omega
    have hold : (Builtin.firstCells i0.size at_ (.slice (some ⟨g, 0, none⟩) at_ cap)).run Tryz.prog w.drew = .ok A.toArray w.drew := by
      rw [hz1]
      exact run_firstCells_some w.drew 3 at_ ⟨g, 0, none⟩ at_ cap A (by rw [hAl]) (fun j v hj => by
        rw [addr_add]
        refine (row_cell (w := w.drew) hrow _).trans ?_
        rw [Nat.zero_add]
        exact row_head hct hj)
    have hrz : ∀ ty, (Builtin.append_ #[24, 3] ty #[.slice (some ⟨g, 0, none⟩) at_ cap, .int .i64 ((n : Int) + 1 - (at_ : Int))]).run Tryz.prog w =
        .ok (.slice (some ⟨w.heap.size, 0, none⟩) (n + 1) (grownCap w (n + 1) cap 57)) (w.drew.alloc (.cells (A.toArray ++ Builtin.zeroCells (Value.agg #[.string ⟨#[]⟩, .string ⟨#[]⟩, .string ⟨#[]⟩]).cells (n + 1 - at_) ++ Builtin.zeroCells (Value.agg #[.string ⟨#[]⟩, .string ⟨#[]⟩, .string ⟨#[]⟩]).cells (grownCap w (n + 1) cap 57 - (n + 1))) 57)) := fun ty => by
      have hik : at_ + (n + 1 - at_) = n + 1 := by omega
      have hkk : (n : Int) + 1 - (at_ : Int) = ((n + 1 - at_ : Nat) : Int) := by omega
      have h := Lib.run_append_grow_zeros w 24 3 ty 57 i0 _ .i64 .i64 Tryz.underlying24 Tryz.underlying3 hi hz0 (some ⟨g, 0, none⟩) at_ cap A hold (n + 1 - at_) (by omega) (by omega) (by omega) (by omega) (by rw [hz2]; omega) (by rw [hz2, hik]; exact growslice_fits (by omega) hbig)
      rw [hik] at h
      rw [hkk]
      exact h
    obtain ⟨G, hG⟩ : ∃ G, G = grownCap w (n + 1) cap 57 := ⟨_, rfl⟩
    have hGn : n + 1 ≤ G := by rw [hG]; exact grownCap_ge w _ _ _
    have hG63 : G ≤ maxLen := by rw [hG]; exact grownCap_le_maxLen w (n + 1) cap 57 (by unfold maxLen; omega)
    rw [← hG] at hrz
    obtain ⟨ROW, hROW⟩ : ∃ ROW : List Value, ROW = A ++ ((Builtin.zeroCells (Value.agg #[.string ⟨#[]⟩, .string ⟨#[]⟩, .string ⟨#[]⟩]).cells (n + 1 - at_)).toList ++ (Builtin.zeroCells (Value.agg #[.string ⟨#[]⟩, .string ⟨#[]⟩, .string ⟨#[]⟩]).cells (G - (n + 1))).toList) := ⟨_, rfl⟩
    have hRl : ROW.length = G * 3 := by
      rw [hROW]
      simp [Builtin.zeroCells, Value.cells, hAl]
      omega
    have hRt : ROW.take (at_ * 3) = A := by rw [hROW, List.take_append_of_le_length (by omega), List.take_of_length_le (by omega)]
    obtain ⟨W1, hW1⟩ : ∃ W1, W1 = w.drew.alloc (.cells ROW.toArray 57) := ⟨_, rfl⟩
    have hrz1 : ∀ ty, (Builtin.append_ #[24, 3] ty #[.slice (some ⟨g, 0, none⟩) at_ cap, .int .i64 ((n : Int) + 1 - (at_ : Int))]).run Tryz.prog w = .ok (.slice (some ⟨w.heap.size, 0, none⟩) (n + 1) G) W1 := fun ty => by
      rw [hrz ty, hW1, hROW, toArray_three]
    have hrow1 : W1.heap[w.heap.size]? = some (.cells ROW.toArray 57 (0, 0)) := by rw [hW1]; exact heap_alloc_new w.drew _
    have hoth1 : ∀ k, k < w.heap.size → W1.heap[k]? = w.heap[k]? := fun k hk => by rw [hW1]; exact heap_alloc_old w.drew _ hk
    have hB1 : Below base w W1 := by rw [hW1]; exact ((Below.refl base w).drew).alloc hbase _
    obtain ⟨hFl, hFt⟩ := fill_row hlt (by omega) hRl hRt hAl hBl htl
    have hRs : (splice ROW (at_ * 3) (fBlock.enc t)).length = ROW.length := length_splice _ _ _ (by omega)
    have hGi : ¬ ((G : Int) = (at_ : Int)) := by omega
    have hHR1 := Lib.hid hrow1
    generalize hN : w.heap.size = N at *
    clear hrz hold hG hROW hW1 hrow1 hi hz0
    unfold maxLen at hG63
    go_enter Tryz.func96, Tryz.ntmps96
    go_wp2_with (first | (at_builtin; refine Lib.wpList_append_run _ rfl _ _ _ _ rfl _ _ rfl rfl _ _ (hrz1 _) ?_) | (refine wpList_copy_at rfl _ _ 24 24 rfl 57 Tryz.underlying24 3 hsz N (at_ * 3) _ _ ⟨nb, 0, none⟩ _ _ rfl rfl ROW 57 hHR1.out (fBlock.enc t) (1) (by simp only [Nat.min_def]; split <;> omega) (by omega) (hsrcT W1 (hoth1 nb hnw)) (by omega) htone ?_))
    intro w5 hrow5 hoth5 hb5
    have HR5 := Lib.hid hrow5
    have hsrcB : ∀ (j : Nat) u, B[j]? = some u → w5.drew.cell? ((⟨g, at_ * 3, none⟩ : Addr).add j) = some u := fun j u hu => by
      rw [addr_add]
      have h1 : w5.heap[g]? = some (.cells cur.toArray 57 (0, 0)) := ((hoth5 g (by omega)).trans (hoth1 g hgw)).trans hrow
      exact (row_cell (w := w5.drew) h1 _).trans (row_part hct hAl hu)
    clear hrow5 hrow
    go_wp2
    refine wp_region_mix (C := fun _ => True) [true, true, true, true, true, true, true, true, false] (by kernel_rfl) (by kernel_rfl) (by kernel_rfl) (fun _ _ d _ _ h => by cases d <;> exact h) trivial ?_
    have hS0 : Below w5.heap.size w5 w5.drew := Below.drew (Below.refl _ _)
    refine wpMix_pure (by kernel_rfl) (fun K hK => ?_)
    go_big_quiet_op
    refine hK _ ?_; clear hK K
    refine wpMix_pure (by kernel_rfl) (fun K hK => ?_)
    go_big_quiet_op
    refine hK _ ?_; clear hK K
    refine wpMix_pure (by kernel_rfl) (fun K hK => ?_)
    go_big_quiet_op
    refine hK _ ?_; clear hK K
    refine wpMix_pure (by kernel_rfl) (fun K hK => ?_)
    go_big_quiet_op
    refine hK _ ?_; clear hK K
    refine wpMix_pure (by kernel_rfl) (fun K hK => ?_)
    go_big_quiet_op
    refine hK _ ?_; clear hK K
    refine wpMix_pure (by kernel_rfl) (fun K hK => ?_)
    go_big_quiet_op
    refine hK _ ?_; clear hK K
    refine wpMix_pure (by kernel_rfl) (fun K hK => ?_)
    go_big_quiet_op
    refine hK _ ?_; clear hK K
    refine wpMix_pure (by kernel_rfl) (fun K hK => ?_)
    go_big_quiet_op
    refine hK _ ?_; clear hK K
    refine wpMix_act (by kernel_rfl) (fun K hK => ?_)
    refine wp_copy_at _ _ 24 24 rfl 57 Tryz.underlying24 3 hsz N ((at_ + 1) * 3) _ _ ⟨g, at_ * 3, none⟩ _ _ rfl rfl (splice ROW (at_ * 3) (fBlock.enc t)) 57 HR5.out B (n - at_) (by simp only [Nat.min_def]; split <;> omega) hBl hsrcB (by omega) hBone ?_
    intro w6 hrow6 hoth6 hb6
    simp only [Act.put, List.setIfInBounds_toArray, List.set_cons_zero, List.set_cons_succ]
    refine hK _ _ trivial ?_
    clear hK K
    refine wpMix_nil ?_
    have HR6 := Lib.hid hrow6
    clear hrow6
    go_wp2
    go_ret
    refine ⟨_, rfl, ?_, (hB1.trans (hb5.mono hbase)).trans (((Below.refl base w5).drew).trans (hb6.mono hbase))⟩
    show World.ownsRow _ base _ 3 _ (xs.take at_ ++ t :: xs.drop at_).length ((xs.take at_ ++ t :: xs.drop at_).flatMap fBlock.enc)
    rw [HL.out, HE.out]
    exact own_of_row HR6.out hbase (by omega) (by unfold maxLen; omega) hFl hFt

set_option maxRecDepth 100000 in
set_option maxHeartbeats 4000000 in
theorem withBlock_any (v : Value) (xs : List DBlock) (fp : List Nat) (t : DBlock) (w : World) (hx : Sl fBlock.cod w v xs fp) (hor : Ordered xs) (hl : xs.length ≤ 1000000) :
    Calls Tryz.prog 60 #[v, .agg #[.string t.kind, .string t.name, .string t.text]] w fun e w' => OwnR fBlock 57 w (putF xs t) e w' := by
  obtain ⟨A, cap, rfl, hlen, hcap⟩ := hx.form
  obtain ⟨i0, hi, hz0, hz1, hz2⟩ := info_parts infoBlock2
  have hW0 : Below w.heap.size w (w.alloc (.cells #[.string t.kind, .string t.name, .string t.text] 57)) := (Below.refl _ _).alloc (Nat.le_refl _) _
  have hp := PBlock.box w t 57
  have hx0 := hx.below' hW0
  have hs0 : (w.alloc (.cells #[.string t.kind, .string t.name, .string t.text] 57)).heap.size = w.heap.size + 1 := World.size_alloc _ _
  go_enter Tryz.func60, Tryz.ntmps60
  go_wp2_with fail
  refine (bsearch_any _ xs fp t _ hx0 hor (by omega)).mono ?_
  rintro e w2 ⟨rfl, hb2⟩
  have hB2 := hW0.trans (hb2.mono hW0.size)
  have hp2 := hp.below' hb2
  have hx2 := hx.below' hB2
  go_wp2_with fail
  refine (cloneB_any _ xs fp _ hx2 (by omega)).mono ?_
  rintro e w3 ⟨v3, rfl, hown, hb3⟩
  have hB3 := hB2.trans (hb3.mono hB2.size)
  obtain ⟨d0, d1, d2⟩ := hp2.below' hb3
  cases h1 : hasKey xs t
  · have HF := Lib.hid (putF_no h1)
    have hat := atB_le xs t
    have hs3 := hb3.size
    have hal : Below w3.heap.size w3 (w3.alloc (.cells #[.string t.kind, .string t.name, .string t.text] 57)) := (Below.refl _ _).alloc (Nat.le_refl _) _
    have hsrc : Src fBlock (w3.alloc (.cells #[.string t.kind, .string t.name, .string t.text] 57)) (.slice (some ⟨w3.heap.size, 0, none⟩) 1 1) [t] := by
      refine ⟨some ⟨w3.heap.size, 0, none⟩, 1, rfl, by simp, ?_⟩
      intro ad had j u hu
      cases had
      obtain ⟨c0, c1, c2⟩ := PBlock.box w3 t 57
      match j, hu with
      | 0, hu => cases hu; exact c0
      | 1, hu => cases hu; exact c1
      | 2, hu => cases hu; exact c2
      | (n + 3), hu => simp [fBlock] at hu
    have hown4 : Own fBlock (w3.alloc (.cells #[.string t.kind, .string t.name, .string t.text] 57)) w2.heap.size 57 v3 xs := hown.below hal
    rcases Nat.lt_or_ge (atB xs t) xs.length with hlt | hge
    · have hown5 : World.ownsRow (w3.alloc (.cells #[.string t.kind, .string t.name, .string t.text] 57)) w2.heap.size 57 3 v3 xs.length (xs.flatMap fBlock.enc) := hown4
      obtain ⟨g, cap3, rfl, hg, hgw, hc1, hc2⟩ := own_open (show w3.ownsRow w2.heap.size 57 3 v3 xs.length (xs.flatMap fBlock.enc) from hown) (by omega)
      have hins := insertB_mid xs t g cap3 (atB xs t) w3.heap.size w2.heap.size _ hown5 hlt (heap_alloc_new w3 _) (by omega) hl (by have := hal.size; omega)
      clear hown4 hown5 hown
      generalize atB xs t = at_ at *
      go_wp2_with fail
      refine hins.mono ?_
      rintro e w4 ⟨v4, rfl, hown6, hb5⟩
      go_wp2
      go_ret
      exact ⟨_, rfl, by rw [HF.out]; exact own_mono hown6 hB2.size, (hB3.trans (hal.mono hB3.size)).trans (hb5.mono hB2.size)⟩
    · have hae : atB xs t = xs.length := by omega
      have HF2 : Hid (putF xs t = xs ++ [t]) := by
        show _ = _
        rw [HF.out, hae, List.take_length, List.drop_length]
      rw [hae]
      go_wp2_with fail
      refine (insertB_end v3 xs t _ w2.heap.size _ hown4 hsrc hl (by have := hal.size; omega)).mono ?_
      rintro e w4 ⟨v4, rfl, hown5, hb5⟩
      go_wp2
      go_ret
      exact ⟨_, rfl, by rw [HF2.out]; exact own_mono hown5 hB2.size, (hB3.trans (hal.mono hB3.size)).trans (hb5.mono hB2.size)⟩
  · obtain ⟨hlt, _⟩ := hasKey_some h1
    have HF := Lib.hid (putF_has h1 hlt)
    have hown' : w3.ownsRow w2.heap.size 57 3 v3 xs.length (xs.flatMap fBlock.enc) := hown
    obtain ⟨g, cap3, rfl, hg, hgw, hc1, hc2⟩ := own_open hown' (by omega)
    have hfl := flat_set xs (atB xs t) t hlt
    generalize atB xs t = at_ at *
    obtain ⟨⟨u0, q0⟩, f0⟩ := own_cell hown' (p := at_ * 3) (by omega)
    obtain ⟨⟨u1, q1⟩, f1⟩ := own_cell hown' (p := at_ * 3 + 1) (by omega)
    obtain ⟨⟨u2, q2⟩, f2⟩ := own_cell hown' (p := at_ * 3 + 1 + 1) (by omega)
    have hset := own_set (own_set (own_set hown' (at_ * 3) (.string t.kind) rfl (by omega)) (at_ * 3 + 1) (.string t.name) rfl (by omega)) (at_ * 3 + 1 + 1) (.string t.text) rfl (by omega)
    rw [hfl] at hset
    have hg' : w.heap.size ≤ g := Nat.le_trans hB2.size hg
    go_wp2
    go_ret
    refine ⟨_, rfl, ?_, ?_⟩
    · rw [HF.out]
      show World.ownsRow _ w.heap.size _ 3 _ (xs.set at_ t).length ((xs.set at_ t).flatMap fBlock.enc)
      rw [List.length_set]
      exact own_mono hset hB2.size
    · exact ((hB3.setCell (p := ⟨g, _, none⟩) hg' _).setCell (p := ⟨g, _, none⟩) hg' _).setCell (p := ⟨g, _, none⟩) hg' _

end Go.Proofs.YtmhefhapighloaaGreatDoor

namespace Go.Proofs.YtmhefhapighloaaGreatDoor
open Go.RowKit
set_option linter.unusedVariables false
theorem pbF_len {xs : List DBlock} {t : DBlock} : (pbF xs t).length ≤ 100000000000 := by
  unfold pbF; split
  · rename_i h
    simp only [Bool.and_eq_true, decide_eq_true_eq] at h
    omega
  · simp
set_option maxRecDepth 100000 in
set_option maxHeartbeats 2000000 in
theorem implPutBlock_any (v : Value) (xs : List DBlock) (fp : List Nat) (t : DBlock) (w : World) (hx : Sl fBlock.cod w v xs fp) (hok : fBlock.ok t) :
    Calls Tryz.prog 33 #[v, .agg #[.string t.kind, .string t.name, .string t.text]] w fun e w' => NewR2 fBlock.cod w (pbF xs t) (pbC xs t) e w' := by
  obtain ⟨A, cap, rfl, hlen, hcap⟩ := hx.form
  have hW0 : Below w.heap.size w (w.alloc (.cells #[.string t.kind, .string t.name, .string t.text] 57)) := (Below.refl _ _).alloc (Nat.le_refl _) _
  have hp := PBlock.box w t 57
  have hx0 := hx.below' hW0
  have hs0 : (w.alloc (.cells #[.string t.kind, .string t.name, .string t.text] 57)).heap.size = w.heap.size + 1 := World.size_alloc _ _
  go_enter Tryz.func33, Tryz.ntmps33
  go_wp2_with fail
  refine (validBlocks_any _ xs fp _ hx0).mono ?_
  rintro e w1 ⟨rfl, hb1⟩
  have hB1 := hW0.trans (hb1.mono hW0.size)
  have hp1 := hp.below' hb1
  cases h0 : blocksB xs
  · go_wp2
    go_ret2
    exact ⟨_, by rw [pbC, pbOk, h0]; rfl, by rw [pbF, pbOk, h0]; exact New.nil hB1⟩
  · have hor := blocksB_ordered h0
    obtain ⟨c0, c1, c2⟩ := hp1
    have hp1 : PBlock w1 w.heap.size 0 t := ⟨c0, c1, c2⟩
    have hl32 := blocksB_len h0
    have hx1 := hx.below' hB1
    go_wp2_with fail
    refine (implValidBlock_any t _ hok).mono ?_
    rintro e w2 ⟨rfl, hb2⟩
    have hB2 := hB1.trans (hb2.mono hB1.size)
    have hx2 := hx.below' hB2
    obtain ⟨d0, d1, d2⟩ := hp1.below' hb2
    cases h1 : blockB t
    · go_wp2
      go_ret2
      exact ⟨_, by rw [pbC, pbOk, h0, h1]; rfl, by rw [pbF, pbOk, h0, h1]; exact New.nil hB2⟩
    · have HL := putF_len (xs := xs) (t := t)
      have HOK := putF_ok hx.oks hok
      go_wp2_with fail
      refine (withBlock_any _ xs fp t _ hx2 hor (by omega)).mono ?_
      rintro e w3 ⟨v3, rfl, hown, hb3⟩
      have hB3 := hB2.trans (hb3.mono hB2.size)
      have ho3 : Own fBlock w3 w.heap.size 57 v3 (putF xs t) := own_mono hown hB2.size
      have ho4 : w3.ownsRow w.heap.size 57 3 v3 (putF xs t).length ((putF xs t).flatMap fBlock.enc) := ho3
      have hpos : 0 < (putF xs t).length := by unfold putF; simp; omega
      obtain ⟨g, cap3, rfl, hg, hgw, hc1, hc2⟩ := own_open ho4 hpos
      clear hown
      by_cases h2 : (putF xs t).length ≤ 32
      · have HF : Hid (pbF xs t = putF xs t) := by show _ = _; rw [pbF, pbOk, h0, h1]; simp [h2]
        have HC : Hid (pbC xs t = 0) := by show _ = _; rw [pbC, pbOk, h0, h1]; simp [h2]
        go_wp2
        go_ret2
        exact ⟨_, by rw [HC.out]; rfl, by rw [HF.out]; exact ho3.new hB3 HOK⟩
      · have HF : Hid (pbF xs t = []) := by show _ = _; rw [pbF, pbOk, h0, h1]; simp [h2]
        have HC : Hid (pbC xs t = 5) := by show _ = _; rw [pbC, pbOk, h0, h1]; simp [h2]
        go_wp2
        go_ret2
        exact ⟨_, by rw [HC.out]; rfl, by rw [HF.out]; exact New.nil hB3⟩

end Go.Proofs.YtmhefhapighloaaGreatDoor

namespace Go.Proofs.YtmhefhapighloaaGreatDoor
open Go.RowKit
set_option linter.unusedVariables false

theorem ordered_pairwise {xs : List DBlock} : Ordered xs ↔ xs.Pairwise (fun a b => beforeB a b = true) := by
  rw [List.pairwise_iff_getElem]
  constructor
  · intro h i j hi hj hij; exact h.lt' hij hj
  · intro h m hm; exact h m (m + 1) (by omega) hm (by omega)
theorem mem_take_get {α : Type} {xs : List α} {k : Nat} {x : α} (h : x ∈ xs.take k) : ∃ m, ∃ hm : m < xs.length, m < k ∧ xs[m] = x := by
  obtain ⟨m, hm, rfl⟩ := List.getElem_of_mem h
  simp at hm
  exact ⟨m, by omega, by omega, by simp⟩
theorem mem_drop_get {α : Type} {xs : List α} {k : Nat} {x : α} (h : x ∈ xs.drop k) : ∃ m, ∃ hm : m < xs.length, k ≤ m ∧ xs[m] = x := by
  obtain ⟨m, hm, rfl⟩ := List.getElem_of_mem h
  simp at hm
  exact ⟨k + m, by omega, by omega, by simp⟩
theorem beforeB_at {xs : List DBlock} {t : DBlock} {m : Nat} (hm : m < xs.length) (h : m < atB xs t) : beforeB xs[m] t = true := (takeWhile_spec (fun x => beforeB x t) xs).2.1 m hm h
theorem after_sk {xs : List DBlock} (h : Ordered xs) {t : DBlock} {m : Nat} (hm : m < xs.length) (hs : skB xs t ≤ m) : beforeB t xs[m] = true := by
  unfold skB at hs
  cases hk : hasKey xs t with
  | true =>
    rw [hk] at hs
    simp only [if_true] at hs
    obtain ⟨hlt, hkey⟩ := hasKey_some hk
    unfold keyB at hkey
    simp only [Bool.and_eq_true, decide_eq_true_eq] at hkey
    rw [← beforeB_key hkey.1 hkey.2]
    exact h.lt' (by omega) hm
  | false =>
    rw [hk] at hs
    simp only [Bool.false_eq_true, if_false] at hs
    have hlt : atB xs t < xs.length := by omega
    have h1 : beforeB xs[atB xs t] t = false := (takeWhile_spec (fun x => beforeB x t) xs).2.2 hlt
    have h2 : beforeB t xs[atB xs t] = true := by
      cases h3 : beforeB t xs[atB xs t] with
      | true => rfl
      | false =>
        obtain ⟨e1, e2⟩ := beforeB_tri h1 h3
        have := hasKey_none h hk _ hlt
        unfold keyB at this
        simp [e1, e2] at this
    rcases Nat.lt_or_ge (atB xs t) m with h4 | h4
    · exact beforeB_trans h2 (h.lt' h4 hm)
    · obtain rfl : m = atB xs t := by omega
      exact h2
theorem putF_ordered {xs : List DBlock} (h : Ordered xs) (t : DBlock) : Ordered (putF xs t) := by
  rw [ordered_pairwise]
  have hp := ordered_pairwise.1 h
  unfold putF
  rw [List.pairwise_append]
  refine ⟨hp.take, ?_, ?_⟩
  · rw [List.pairwise_cons]
    refine ⟨fun x hx => ?_, hp.drop⟩
    obtain ⟨m, hm, hk, rfl⟩ := mem_drop_get hx
    exact after_sk h hm hk
  · intro a ha b hb
    obtain ⟨m, hm, hk, rfl⟩ := mem_take_get ha
    have h1 := beforeB_at hm hk
    rcases List.mem_cons.1 hb with rfl | hb
    · exact h1
    · obtain ⟨m', hm', hk', rfl⟩ := mem_drop_get hb
      exact beforeB_trans h1 (after_sk h hm' hk')
/-- All blocks of ys put into xs. -/
def mgF (xs ys : List DBlock) : List DBlock := ys.foldl putF xs
theorem mgF_step {xs ys : List DBlock} {k : Nat} (hk : k < ys.length) : mgF xs (ys.take (k + 1)) = putF (mgF xs (ys.take k)) ys[k] := by
  unfold mgF; rw [List.take_succ_eq_append_getElem hk, List.foldl_append]; rfl
theorem mgF_ordered {xs : List DBlock} (h : Ordered xs) : ∀ ys : List DBlock, Ordered (mgF xs ys) := by
  intro ys
  induction ys generalizing xs with
  | nil => exact h
  | cons y ys ih => exact ih (putF_ordered h y)
theorem putF_len1 {xs : List DBlock} {t : DBlock} : (putF xs t).length ≤ xs.length + 1 := by
  unfold putF skB
  have := atB_le xs t
  split <;> (simp; omega)
theorem mgF_len {xs : List DBlock} : ∀ ys : List DBlock, (mgF xs ys).length ≤ xs.length + ys.length := by
  intro ys
  induction ys generalizing xs with
  | nil => simp [mgF]
  | cons y ys ih =>
    have h1 := @ih (putF xs y)
    have h2 := @putF_len1 xs y
    show (mgF (putF xs y) ys).length ≤ _
    simp; omega
theorem mgF_ok {xs ys : List DBlock} (h : ∀ x ∈ xs, fBlock.ok x) (hy : ∀ y ∈ ys, fBlock.ok y) : ∀ x ∈ mgF xs ys, fBlock.ok x := by
  induction ys generalizing xs with
  | nil => exact h
  | cons y ys ih => exact ih (putF_ok h (hy y (by simp))) (fun z hz => hy z (by simp [hz]))
def mbOk (xs ys : List DBlock) : Bool := blocksB xs && blocksB ys
def mbF (xs ys : List DBlock) : List DBlock := if mbOk xs ys && decide ((mgF xs ys).length ≤ 32) then mgF xs ys else []
theorem mbF_len {xs ys : List DBlock} : (mbF xs ys).length ≤ 100000000000 := by
  unfold mbF; split
  · rename_i h
    simp only [Bool.and_eq_true, decide_eq_true_eq] at h
    omega
  · simp
def mbC (xs ys : List DBlock) : Int := if mbOk xs ys then (if (mgF xs ys).length ≤ 32 then 0 else 5) else 1

end Go.Proofs.YtmhefhapighloaaGreatDoor
