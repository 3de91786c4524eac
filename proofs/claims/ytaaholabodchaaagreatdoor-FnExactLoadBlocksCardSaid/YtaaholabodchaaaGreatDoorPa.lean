/- The block of a line: plain laws; the reference's l29Parse, the program's blockOf. Written by wip/gen/pa.py. -/
import Derived.Test.YtaaholabodchaaaGreatDoorSa
import Derived.Test.YtaaholabodchaaaGreatDoorIx
import Derived.Test.YtaaholabodchaaaGreatDoorLawS
namespace Go.Proofs.YtaaholabodchaaaGreatDoor
open Go.RowKit
set_option linter.unusedVariables false

def restP (line : ByteArray) : ByteArray := line.extract 6 line.size
def firK (r : ByteArray) : Nat := ixL 32 r.data.toList
def secK (r : ByteArray) : Nat := firK r + 1 + ixL 32 (r.data.toList.drop (firK r + 1))
def blkP (r : ByteArray) : DBlock := ⟨r.extract 0 (firK r), r.extract (firK r + 1) (secK r), r.extract (secK r + 1) r.size⟩
def parseC (line : ByteArray) : Int := if line.size < 6 ∨ line.data.toList[5]? ≠ some 32 then 9 else if line.extract 0 5 ≠ fiveS (crcF (restP line)) then 10 else if (restP line).size ≤ secK (restP line) ∨ blockB (blkP (restP line)) = false then 9 else 0
def parseB (line : ByteArray) : DBlock := if parseC line = 0 then blkP (restP line) else b0
theorem parse_short {line : ByteArray} (h : line.size < 6) : parseC line = 9 ∧ parseB line = b0 := by
  have e : parseC line = 9 := by unfold parseC; rw [if_pos (.inl h)]
  exact ⟨e, by unfold parseB; rw [e]; rfl⟩
theorem at_list {s : ByteArray} {k : Nat} (h : k < s.size) : s.data.toList[k]? = some s[k] := by
  rw [List.getElem?_eq_getElem (by simpa using h)]; rfl
theorem parse_nosp {line : ByteArray} (h : 5 < line.size) (h5 : line[5] ≠ 32) : parseC line = 9 ∧ parseB line = b0 := by
  have e : parseC line = 9 := by
    unfold parseC; rw [if_pos (.inr (by rw [at_list h]; intro e; exact h5 (Option.some.inj e)))]
  exact ⟨e, by unfold parseB; rw [e]; rfl⟩
theorem parse_go {line : ByteArray} (h : 5 < line.size) (h5 : line[5] = 32) : ¬ (line.size < 6 ∨ line.data.toList[5]? ≠ some 32) := by
  rw [at_list h, h5]; rintro (h1 | h1)
  · omega
  · exact h1 rfl
theorem parse_sum {line : ByteArray} (h : 5 < line.size) (h5 : line[5] = 32) (hne : line.extract 0 5 ≠ fiveS (crcF (restP line))) : parseC line = 10 ∧ parseB line = b0 := by
  have e : parseC line = 10 := by unfold parseC; rw [if_neg (parse_go h h5), if_pos hne]
  exact ⟨e, by unfold parseB; rw [e]; rfl⟩
theorem parse_form {line : ByteArray} (h : 5 < line.size) (h5 : line[5] = 32) (he : line.extract 0 5 = fiveS (crcF (restP line))) (hk : (restP line).size ≤ secK (restP line)) : parseC line = 9 ∧ parseB line = b0 := by
  have e : parseC line = 9 := by unfold parseC; rw [if_neg (parse_go h h5), if_neg (fun hn => hn he), if_pos (.inl hk)]
  exact ⟨e, by unfold parseB; rw [e]; rfl⟩
theorem parse_bad {line : ByteArray} (h : 5 < line.size) (h5 : line[5] = 32) (he : line.extract 0 5 = fiveS (crcF (restP line))) (hk : blockB (blkP (restP line)) = false) : parseC line = 9 ∧ parseB line = b0 := by
  have e : parseC line = 9 := by unfold parseC; rw [if_neg (parse_go h h5), if_neg (fun hn => hn he), if_pos (.inr hk)]
  exact ⟨e, by unfold parseB; rw [e]; rfl⟩
theorem parse_fine {line : ByteArray} (h : 5 < line.size) (h5 : line[5] = 32) (he : line.extract 0 5 = fiveS (crcF (restP line))) (hk : secK (restP line) < (restP line).size) (hb : blockB (blkP (restP line)) = true) : parseC line = 0 ∧ parseB line = blkP (restP line) := by
  have e : parseC line = 0 := by
    unfold parseC; rw [if_neg (parse_go h h5), if_neg (fun hn => hn he), if_neg]
    rintro (h1 | h1)
    · omega
    · rw [hb] at h1; cases h1
  exact ⟨e, by unfold parseB; rw [if_pos e]⟩
def bAgg (b : DBlock) : Value := .agg #[.string b.kind, .string b.name, .string b.text]
def PRet (line : ByteArray) (e : Ending) : Prop := e = .returned (.tuple #[bAgg (parseB line), .int .i64 (parseC line)])
theorem PRet.of {line : ByteArray} {b : DBlock} {c : Int} (h : parseC line = c ∧ parseB line = b) : PRet line (.returned (.tuple #[bAgg b, .int .i64 c])) := by
  unfold PRet; rw [h.1, h.2]
theorem firK_le (r : ByteArray) : firK r ≤ r.size := by
  have := ixL_le 32 r.data.toList; unfold firK; simpa using this
theorem secK_hit {r : ByteArray} {i k : Nat} (hi : firK r = i) (hk : k < r.size) (hik : i + 1 ≤ k) (h : r[k] = 32) (hs : secK r = k + ixL 32 (r.data.toList.drop k)) : secK r = k := by
  rw [hs, ixL_hit (by simpa using hk) h]; rfl
theorem ix_end {r : ByteArray} {k : Nat} (hk : r.size ≤ k) : ixL 32 (r.data.toList.drop k) = 0 := ixL_end (by simpa using hk)
theorem ix_no {r : ByteArray} {k : Nat} (hk : k < r.size) (h : r[k] ≠ 32) : ixL 32 (r.data.toList.drop k) = ixL 32 (r.data.toList.drop (k + 1)) + 1 := ixL_no (by simpa using hk) h
theorem ix_hit {r : ByteArray} {k : Nat} (hk : k < r.size) (h : r[k] = 32) : ixL 32 (r.data.toList.drop k) = 0 := ixL_hit (by simpa using hk) h
theorem byte_ne {a b : UInt8} (h : a ≠ b) : ¬ (a.toNat : Int) = (b.toNat : Int) := by intro e; exact h (UInt8.toNat_inj.1 (by omega))
theorem byte_neT {a : UInt8} (h : a ≠ 32) : ((a.toNat : Int) != 32) = true := by rw [bne_iff_ne]; exact byte_ne (b := 32) h
theorem byte_neF {a : UInt8} (h : a = 32) : ((a.toNat : Int) != 32) = false := by rw [h]; rfl
theorem setCell_hit {w : World} {p : Addr} {x : Value} (h : (w.cell? p).isSome = true) : (w.setCell p x).cell? p = some x := by
  obtain ⟨v, hv⟩ := Option.isSome_iff_exists.1 h
  exact World.cell?_setCell_same w p x hv
/-- The three cells of a box of a block that lies in front of the base. -/
structure Box3 (w : World) (g : Nat) : Prop where
  d0 : w.cell? ⟨g, 0, none⟩ = some (.string ⟨#[]⟩)
  d1 : w.cell? ⟨g, 1, none⟩ = some (.string ⟨#[]⟩)
  d2 : w.cell? ⟨g, 2, none⟩ = some (.string ⟨#[]⟩)
  z0 : w.frozen? ⟨g, 0, none⟩ = false
  z1 : w.frozen? ⟨g, 1, none⟩ = false
  z2 : w.frozen? ⟨g, 2, none⟩ = false
theorem Box3.new (w : World) (T : TypeId) : Box3 (w.alloc (.cells #[.string ⟨#[]⟩, .string ⟨#[]⟩, .string ⟨#[]⟩] T)) w.heap.size := by
  constructor <;> simp
theorem Box3.below {w w' : World} {g B : Nat} (h : Box3 w g) (hb : Below B w w') (hg : g < B) (hw : g < w.heap.size) : Box3 w' g :=
  ⟨(hb.cell (p := ⟨g, _, none⟩) hg).trans h.d0, (hb.cell (p := ⟨g, _, none⟩) hg).trans h.d1, (hb.cell (p := ⟨g, _, none⟩) hg).trans h.d2,
   (hb.frozen (p := ⟨g, _, none⟩) hg).trans h.z0, (hb.frozen (p := ⟨g, _, none⟩) hg).trans h.z1, (hb.frozen (p := ⟨g, _, none⟩) hg).trans h.z2⟩
set_option maxRecDepth 100000 in
set_option maxHeartbeats 4000000 in
theorem l29Parse_any (line : ByteArray) (w : World) (hs : line.size ≤ 1048576) :
    Calls Tryz.prog 19 #[.string line] w fun e w' => PRet line e ∧ Below w.heap.size w w' := by
  by_cases h6 : line.size < 6
  · go_enter Tryz.func19, Tryz.ntmps19
    go_wp2
    exact bodyPost_ret (v := .tuple #[bAgg b0, .int .i64 9]) (by simp [bAgg, b0, results, setCell_hit, *, Tryz.results19, go_sem]) rfl ⟨PRet.of (parse_short h6), (by repeat (first | exact Below.refl _ _ | assumption | refine Below.alloc ?_ (by first | omega | (simp <;> omega)) _ | refine Below.setCell ?_ (by first | (show _ ≤ _; omega) | (simp <;> omega)) _ | refine Below.drew ?_ | refine below_drewN ?_ _))⟩
  · have h5 : 5 < line.size := by omega
    by_cases hsp : line[5] = 32
    · have q5 : ((line[5].toNat : Int) != 32) = false := by rw [hsp]; rfl
      obtain ⟨R, hRd⟩ : ∃ R, R = line.extract 6 line.size := ⟨_, rfl⟩
      have hRP : restP line = R := hRd.symm
      have hRs : R.size ≤ 1048576 := by rw [hRd, ByteArray.size_extract]; omega
      have HRD := Lib.hid hRd
      have HSP := Lib.hid hsp
      clear hRd hsp
      by_cases hck : line.extract 0 5 = fiveS (crcF R)
      · skip
        have HCK := Lib.hid hck
        have e1 : ((line.extract 0 5).toList == (fiveS (crcF R)).toList) = true := eqS_true.2 hck
        clear hck
        go_enter Tryz.func19, Tryz.ntmps19
        go_wp2
        rw [← HRD.out]
        refine at_world (fun N => Below w.heap.size w N ∧ Box3 N w.heap.size ∧ w.heap.size < N.heap.size) ⟨(Below.refl _ _).alloc (Nat.le_refl _) _, Box3.new _ _, by simp⟩ ?_
        rintro W ⟨hW, hX, hXs⟩
        refine wp_region_mix (C := fun w' => ∃ p : Regrown, w' = Go.Sort.grow (redrawn W p.d) p.os) [true, true, true, false, false, true] (by kernel_rfl) (by kernel_rfl) (by kernel_rfl) (fun _ _ d _ _ h => by cases d <;> exact h) (regrown_of_below (Below.drew (Below.refl _ _))) ?_
        have hS0 : Below W.heap.size W W.drew := Below.drew (Below.refl _ _)
        refine wpMix_pure (by kernel_rfl) (fun K hK => ?_)
        go_big_quiet_op
        refine hK _ ?_; clear hK K
        refine wpMix_pure (by kernel_rfl) (fun K hK => ?_)
        go_big_quiet_op
        refine hK _ ?_; clear hK K
        refine wpMix_pure (by kernel_rfl) (fun K hK => ?_)
        go_big_quiet_op
        refine hK _ ?_; clear hK K
        refine wpMix_act (by kernel_rfl) (fun K hK => ?_)
        go_big_op
        refine (l01Crc_any R _ hRs).mono ?_
        rintro e w' ⟨rfl, rfl⟩
        refine hK _ _ (regrown_of_below hS0) ?_
        clear hK K
        refine wpMix_act (by kernel_rfl) (fun K hK => ?_)
        go_big_op
        refine (l29Five_any _ _ (crcF_lt _)).mono ?_
        rintro e wr2 ⟨rfl, hbr2⟩
        have hbr2S : Below W.heap.size W wr2 := hS0.trans (hbr2.mono hS0.size)
        refine hK _ _ (regrown_of_below hbr2S) ?_
        clear hK K
        refine wpMix_pure (by kernel_rfl) (fun K hK => ?_)
        go_big_quiet_op
        refine hK _ ?_; clear hK K
        refine wpMix_nil ?_
        have hX2 := hX.below hbr2S hXs hXs
        have hB2 := hW.trans ((hbr2S).mono hW.size)
        obtain ⟨d0, d1, d2, z0, z1, z2⟩ := hX2
        clear hX
        go_wp2
        have HK1 : Hid (secK R = firK R + 1 + ixL 32 (R.data.toList.drop (firK R + 1))) := rfl
        go_loop [5] (fun i => ∃ k : Nat, k ≤ R.size ∧ i = .int .i64 k ∧ Hid (firK R = k + ixL 32 (R.data.toList.drop k))) (fun i => R.size - (intOf i).toNat)
        case atStart => exact ⟨0, Nat.zero_le _, rfl, by show _ = _; simp [firK]⟩
        case round =>
          obtain ⟨k, hk, rfl, HI⟩ := hrel
          have hgo : (k < R.size ∧ firK R ≠ k) ∨ Hid (firK R = k) := by
            by_cases hlt : k < R.size
            · by_cases hb : R[k] = 32
              · exact .inr (by show _ = _; rw [HI.out, ix_hit hlt hb]; rfl)
              · refine .inl ⟨hlt, ?_⟩
                rw [HI.out, ix_no hlt hb]; omega
            · exact .inr (by show _ = _; rw [HI.out, ix_end (by omega)]; rfl)
          rcases hgo with ⟨hlt, hne⟩ | HE
          · have hb : R[k] ≠ 32 := fun hb => hne (by rw [HI.out, ix_hit hlt hb]; rfl)
            have e2 := byte_neT hb
            have HI2 : Hid (firK R = k + 1 + ixL 32 (R.data.toList.drop (k + 1))) := by
              show _ = _; rw [HI.out, ix_no hlt hb]; omega
            clear hb hne
            go_wp2
            go_round
            case rel => exact ⟨k + 1, by omega, by go_num, HI2⟩
            case measure => simp [intOf]; omega
          · have HK2 : Hid (secK R = k + 1 + ixL 32 (R.data.toList.drop (k + 1))) := by
              show _ = _; rw [HK1.out, HE.out]
            by_cases hlt : k < R.size
            · have hb : R[k] = 32 := by
                by_cases hb : R[k] = 32
                · exact hb
                · have := HI.out; rw [ix_no hlt hb, HE.out] at this; omega
              have e2 := byte_neF hb
              clear hb
              go_wp2
              go_loop [6] (fun i => ∃ m : Nat, k + 1 ≤ m ∧ m ≤ R.size + 1 ∧ i = .int .i64 m ∧ Hid (secK R = m + ixL 32 (R.data.toList.drop m))) (fun i => R.size + 1 - (intOf i).toNat)
              case atStart => exact ⟨k + 1, Nat.le_refl _, by omega, by go_num, HK2⟩
              case round =>
                obtain ⟨m, hkm, hm, rfl, HM⟩ := hrel
                by_cases hmlt : m < R.size
                · by_cases hb : R[m] = 32
                  · have e3 := byte_neF hb
                    have HE2 : Hid (secK R = m) := by show _ = _; rw [HM.out, ix_hit hmlt hb]; rfl
                    clear hb
                    have hkr : k < R.size := by omega
                    go_wp2
                    refine wp_region_mix (C := fun _ => True) [true, true, true, true, true, true, true, true, true, true, true, true, true, false, false] (by kernel_rfl) (by kernel_rfl) (by kernel_rfl) (fun _ _ d _ _ h => by cases d <;> exact h) trivial ?_
                    have hS0 : Below wr2.heap.size wr2 wr2.drew := Below.drew (Below.refl _ _)
                    refine wpMix_pure (by kernel_rfl) (fun K hK => ?_)
                    go_big_quiet_op
                    refine hK _ ?_; clear hK K
                    refine wpMix_pure (by kernel_rfl) (fun K hK => ?_)
                    go_big_quiet_op
                    refine hK _ ?_; clear hK K
                    refine wpMix_pure (by kernel_rfl) (fun K hK => ?_)
                    go_big_quiet_op
                    refine hK _ ?_; clear hK K
                    refine wpMix_pure (by kernel_rfl) (fun K hK => ?_)
                    go_big_quiet_op
                    refine hK _ ?_; clear hK K
                    refine wpMix_pure (by kernel_rfl) (fun K hK => ?_)
                    go_big_quiet_op
                    refine hK _ ?_; clear hK K
                    refine wpMix_pure (by kernel_rfl) (fun K hK => ?_)
                    go_big_quiet_op
                    refine hK _ ?_; clear hK K
                    refine wpMix_pure (by kernel_rfl) (fun K hK => ?_)
                    go_big_quiet_op
                    refine hK _ ?_; clear hK K
                    refine wpMix_pure (by kernel_rfl) (fun K hK => ?_)
                    go_big_quiet_op
                    refine hK _ ?_; clear hK K
                    refine wpMix_pure (by kernel_rfl) (fun K hK => ?_)
                    go_big_quiet_op
                    refine hK _ ?_; clear hK K
                    refine wpMix_pure (by kernel_rfl) (fun K hK => ?_)
                    go_big_quiet_op
                    refine hK _ ?_; clear hK K
                    refine wpMix_pure (by kernel_rfl) (fun K hK => ?_)
                    go_big_quiet_op
                    refine hK _ ?_; clear hK K
                    refine wpMix_pure (by kernel_rfl) (fun K hK => ?_)
                    go_big_quiet_op
                    refine hK _ ?_; clear hK K
                    refine wpMix_pure (by kernel_rfl) (fun K hK => ?_)
                    go_big_quiet_op
                    refine hK _ ?_; clear hK K
                    refine wpMix_act (by kernel_rfl) (fun K hK => ?_)
                    go_big_op
                    try simp only [Act.put, List.setIfInBounds_toArray, List.set_cons_zero, List.set_cons_succ]
                    refine hK _ _ trivial ?_
                    clear hK K
                    refine wpMix_act (by kernel_rfl) (fun K hK => ?_)
                    go_big_op
                    try simp only [Act.put, List.setIfInBounds_toArray, List.set_cons_zero, List.set_cons_succ]
                    refine hK _ _ trivial ?_
                    clear hK K
                    refine wpMix_nil ?_
                    obtain ⟨x, hx⟩ : ∃ x : DBlock, x = ⟨R.extract 0 k, R.extract (k + 1) m, R.extract (m + 1) R.size⟩ := ⟨_, rfl⟩
                    have hbx : blkP R = x := by rw [hx]; unfold blkP; rw [HE.out, HE2.out]
                    have hok : fBlock.ok x := by
                      rw [hx]
                      refine ⟨?_, ?_, ?_⟩
                      all_goals (show ByteArray.size _ ≤ 9223372036854775807; rw [ByteArray.size_extract]; omega)
                    have hp : PBlock ((wr2.alloc (.cells #[.string (R.extract 0 k), .string (R.extract (k + 1) m), .string (R.extract (m + 1) R.size)] 43)).drew) wr2.heap.size 0 x := by
                      rw [hx]
                      exact (PBlock.box wr2 ⟨R.extract 0 k, R.extract (k + 1) m, R.extract (m + 1) R.size⟩ 43).below' (Below.drew (Below.refl _ _))
                    have hX2 : Box3 wr2 w.heap.size := ⟨d0, d1, d2, z0, z1, z2⟩
                    have hg2 : w.heap.size < wr2.heap.size := Nat.lt_of_lt_of_le hXs (hbr2S.size)
                    have hfine : blockB x = true → parseC line = 0 ∧ parseB line = x := fun h => by
                      rw [← hbx]
                      exact (parse_fine h5 HSP.out (by rw [hRP]; exact HCK.out) (by rw [hRP, HE2.out]; exact hmlt) (by rw [hRP, hbx]; exact h)).imp id (fun h => h.trans (by rw [hRP]))
                    have hbad : blockB x = false → parseC line = 9 ∧ parseB line = b0 := fun h => parse_bad h5 HSP.out (by rw [hRP]; exact HCK.out) (by rw [hRP, hbx]; exact h)
                    have HFI : Hid (blockB x = true → parseC line = 0 ∧ parseB line = x) := hfine
                    have HBA : Hid (blockB x = false → parseC line = 9 ∧ parseB line = b0) := hbad
                    clear hfine hbad hbx hx d0 d1 d2 z0 z1 z2
                    go_wp2_with fail
                    refine (l29One_any _ 0 x _ hp hok).mono ?_
                    rintro e w3 ⟨rfl, hb3⟩
                    have hBw : Below wr2.heap.size wr2 w3 := (Below.drew ((Below.refl _ _).alloc (Nat.le_refl _) _)).trans (hb3.mono (by simp))
                    have hB3 : Below w.heap.size w w3 := hB2.trans (hBw.mono (by omega))
                    obtain ⟨d0, d1, d2, z0, z1, z2⟩ := hX2.below hBw hg2 hg2
                    obtain ⟨c0, c1, c2⟩ := hp.below' hb3
                    clear hp hX2
                    cases hbk : blockB x
                    · have HC := Lib.hid (HBA.out hbk)
                      clear hbk
                      go_wp2
                      exact bodyPost_ret (v := .tuple #[bAgg b0, .int .i64 9]) (by simp [bAgg, b0, results, setCell_hit, *, Tryz.results19, go_sem]) rfl ⟨PRet.of HC.out, (by repeat (first | exact Below.refl _ _ | assumption | refine Below.alloc ?_ (by first | omega | (simp <;> omega)) _ | refine Below.setCell ?_ (by first | (show _ ≤ _; omega) | (simp <;> omega)) _ | refine Below.drew ?_ | refine below_drewN ?_ _))⟩
                    · have HC := Lib.hid (HFI.out hbk)
                      clear hbk
                      go_wp2
                      exact bodyPost_ret (v := .tuple #[bAgg x, .int .i64 0]) (by simp [bAgg, b0, results, setCell_hit, *, Tryz.results19, go_sem]) rfl ⟨PRet.of HC.out, (by repeat (first | exact Below.refl _ _ | assumption | refine Below.alloc ?_ (by first | omega | (simp <;> omega)) _ | refine Below.setCell ?_ (by first | (show _ ≤ _; omega) | (simp <;> omega)) _ | refine Below.drew ?_ | refine below_drewN ?_ _))⟩
                  · have e3 := byte_neT hb
                    have HM2 : Hid (secK R = m + 1 + ixL 32 (R.data.toList.drop (m + 1))) := by
                      show _ = _; rw [HM.out, ix_no hmlt hb]; omega
                    clear hb
                    go_wp2
                    go_round
                    case rel => exact ⟨m + 1, by omega, by omega, by go_num, HM2⟩
                    case measure => simp [intOf]; omega
                · have hfo : parseC line = 9 ∧ parseB line = b0 := parse_form h5 HSP.out (by rw [hRP]; exact HCK.out) (by rw [hRP, HM.out, ix_end (by omega)]; omega)
                  have HFO := Lib.hid hfo
                  clear hfo
                  go_wp2
                  exact bodyPost_ret (v := .tuple #[bAgg b0, .int .i64 9]) (by simp [bAgg, b0, results, setCell_hit, *, Tryz.results19, go_sem]) rfl ⟨PRet.of HFO.out, (by repeat (first | exact Below.refl _ _ | assumption | refine Below.alloc ?_ (by first | omega | (simp <;> omega)) _ | refine Below.setCell ?_ (by first | (show _ ≤ _; omega) | (simp <;> omega)) _ | refine Below.drew ?_ | refine below_drewN ?_ _))⟩
            · go_wp2
              go_loop [6] (fun i => ∃ m : Nat, k + 1 ≤ m ∧ m ≤ R.size + 1 ∧ i = .int .i64 m ∧ Hid (secK R = m + ixL 32 (R.data.toList.drop m))) (fun i => R.size + 1 - (intOf i).toNat)
              case atStart => exact ⟨k + 1, Nat.le_refl _, by omega, by go_num, HK2⟩
              case round =>
                obtain ⟨m, hkm, hm, rfl, HM⟩ := hrel
                by_cases hmlt : m < R.size
                · exact absurd hmlt (by omega)
                · have hfo : parseC line = 9 ∧ parseB line = b0 := parse_form h5 HSP.out (by rw [hRP]; exact HCK.out) (by rw [hRP, HM.out, ix_end (by omega)]; omega)
                  have HFO := Lib.hid hfo
                  clear hfo
                  go_wp2
                  exact bodyPost_ret (v := .tuple #[bAgg b0, .int .i64 9]) (by simp [bAgg, b0, results, setCell_hit, *, Tryz.results19, go_sem]) rfl ⟨PRet.of HFO.out, (by repeat (first | exact Below.refl _ _ | assumption | refine Below.alloc ?_ (by first | omega | (simp <;> omega)) _ | refine Below.setCell ?_ (by first | (show _ ≤ _; omega) | (simp <;> omega)) _ | refine Below.drew ?_ | refine below_drewN ?_ _))⟩
      · skip
        have HCK := Lib.hid hck
        have e1 : ((line.extract 0 5).toList == (fiveS (crcF R)).toList) = false := bytes_beq_false hck
        clear hck
        go_enter Tryz.func19, Tryz.ntmps19
        go_wp2
        rw [← HRD.out]
        refine at_world (fun N => Below w.heap.size w N ∧ Box3 N w.heap.size ∧ w.heap.size < N.heap.size) ⟨(Below.refl _ _).alloc (Nat.le_refl _) _, Box3.new _ _, by simp⟩ ?_
        rintro W ⟨hW, hX, hXs⟩
        refine wp_region_mix (C := fun w' => ∃ p : Regrown, w' = Go.Sort.grow (redrawn W p.d) p.os) [true, true, true, false, false, true] (by kernel_rfl) (by kernel_rfl) (by kernel_rfl) (fun _ _ d _ _ h => by cases d <;> exact h) (regrown_of_below (Below.drew (Below.refl _ _))) ?_
        have hS0 : Below W.heap.size W W.drew := Below.drew (Below.refl _ _)
        refine wpMix_pure (by kernel_rfl) (fun K hK => ?_)
        go_big_quiet_op
        refine hK _ ?_; clear hK K
        refine wpMix_pure (by kernel_rfl) (fun K hK => ?_)
        go_big_quiet_op
        refine hK _ ?_; clear hK K
        refine wpMix_pure (by kernel_rfl) (fun K hK => ?_)
        go_big_quiet_op
        refine hK _ ?_; clear hK K
        refine wpMix_act (by kernel_rfl) (fun K hK => ?_)
        go_big_op
        refine (l01Crc_any R _ hRs).mono ?_
        rintro e w' ⟨rfl, rfl⟩
        refine hK _ _ (regrown_of_below hS0) ?_
        clear hK K
        refine wpMix_act (by kernel_rfl) (fun K hK => ?_)
        go_big_op
        refine (l29Five_any _ _ (crcF_lt _)).mono ?_
        rintro e wr2 ⟨rfl, hbr2⟩
        have hbr2S : Below W.heap.size W wr2 := hS0.trans (hbr2.mono hS0.size)
        refine hK _ _ (regrown_of_below hbr2S) ?_
        clear hK K
        refine wpMix_pure (by kernel_rfl) (fun K hK => ?_)
        go_big_quiet_op
        refine hK _ ?_; clear hK K
        refine wpMix_nil ?_
        obtain ⟨d0, d1, d2, z0, z1, z2⟩ := hX.below hbr2S hXs hXs
        have hB2 := hW.trans ((hbr2S).mono hW.size)
        go_wp2
        exact bodyPost_ret (v := .tuple #[bAgg b0, .int .i64 10]) (by simp [bAgg, b0, results, setCell_hit, *, Tryz.results19, go_sem]) rfl ⟨PRet.of (parse_sum h5 HSP.out (by rw [hRP]; exact HCK.out)), (by repeat (first | exact Below.refl _ _ | assumption | refine Below.alloc ?_ (by first | omega | (simp <;> omega)) _ | refine Below.setCell ?_ (by first | (show _ ≤ _; omega) | (simp <;> omega)) _ | refine Below.drew ?_ | refine below_drewN ?_ _))⟩
    · have q5 : ((line[5].toNat : Int) != 32) = true := byte_neT hsp
      go_enter Tryz.func19, Tryz.ntmps19
      go_wp2
      exact bodyPost_ret (v := .tuple #[bAgg b0, .int .i64 9]) (by simp [bAgg, b0, results, setCell_hit, *, Tryz.results19, go_sem]) rfl ⟨PRet.of (parse_nosp h5 hsp), (by repeat (first | exact Below.refl _ _ | assumption | refine Below.alloc ?_ (by first | omega | (simp <;> omega)) _ | refine Below.setCell ?_ (by first | (show _ ≤ _; omega) | (simp <;> omega)) _ | refine Below.drew ?_ | refine below_drewN ?_ _))⟩

theorem bytes_take (s : ByteArray) (i : Nat) : (⟨(s.data.toList.take i).toArray⟩ : ByteArray) = s.extract 0 i := data_inj (by rw [extract_toList, List.drop_zero])
theorem bytes_drop (s : ByteArray) (i : Nat) : (⟨(s.data.toList.drop i).toArray⟩ : ByteArray) = s.extract i s.size := data_inj (by rw [extract_toList, List.take_of_length_le (by simp)])
theorem cut_hit {s : ByteArray} (h : firK s < s.size) : Lib.cut s.data.toList [32] = (s.data.toList.take (firK s), s.data.toList.drop (firK s + 1), true) := by
  have hi := ixL_index 32 s.data.toList
  have hf : ixL 32 s.data.toList = firK s := rfl
  rw [hf, if_pos (by simpa using h)] at hi
  unfold Lib.cut
  rw [hi, if_pos (by omega)]
  rfl
theorem cut_miss {s : ByteArray} (h : s.size ≤ firK s) : Lib.cut s.data.toList [32] = (s.data.toList, [], false) := by
  have hi := ixL_index 32 s.data.toList
  have hf : ixL 32 s.data.toList = firK s := rfl
  rw [hf, if_neg (by simp; omega)] at hi
  unfold Lib.cut
  rw [hi, if_neg (by omega)]
def cutA (s : ByteArray) : ByteArray := if firK s < s.size then s.extract 0 (firK s) else s
def cutZ (s : ByteArray) : ByteArray := if firK s < s.size then s.extract (firK s + 1) s.size else ⟨#[]⟩
def cutF (s : ByteArray) : Bool := decide (firK s < s.size)
theorem cut_any (s : ByteArray) (m : Int) (w : World) (hs : s.size ≤ 1048576) (hm : w.cell? ⟨0, 0, none⟩ = some (.int .i64 m)) :
    Calls Tryz.prog 52 #[.string s, .string ⟨#[32]⟩] w fun e w' => e = .returned (.tuple #[.string (cutA s), .string (cutZ s), .bool (cutF s)]) ∧ Below w.heap.size w w' := by
  refine (Tryz.strings_Cut s ⟨#[32]⟩ m w (by omega) hm).mono ?_
  rintro e w' ⟨rfl, n, rfl⟩
  refine ⟨?_, below_drewN (Below.refl _ _) _⟩
  rw [show (⟨#[32]⟩ : ByteArray).data.toList = [32] from rfl]
  unfold cutA cutZ cutF
  by_cases h : firK s < s.size
  · rw [cut_hit h, if_pos h, if_pos h, decide_eq_true h]
    simp only [bytes_take, bytes_drop]
  · rw [cut_miss (by omega), if_neg h, if_neg h, decide_eq_false h, ← bytes_selfA s]
theorem firK_rest {R : ByteArray} {i : Nat} : firK (R.extract i R.size) = ixL 32 (R.data.toList.drop i) := by
  unfold firK; rw [extract_toList, List.take_of_length_le (by simp)]
theorem ext_name {R : ByteArray} {i j : Nat} : (R.extract i R.size).extract 0 j = R.extract i (i + j) := by
  refine data_inj ?_
  rw [extract_toList, extract_toList, extract_toList, List.take_of_length_le (l := R.data.toList) (by simp), List.drop_zero, List.drop_take]
  congr 1; omega
theorem ext_text {R : ByteArray} {i j : Nat} : (R.extract i R.size).extract j (R.extract i R.size).size = R.extract (i + j) R.size := by
  refine data_inj ?_
  rw [extract_toList, List.take_of_length_le (by simp), extract_toList, extract_toList, List.take_of_length_le (l := R.data.toList) (by simp), List.drop_drop]
set_option maxRecDepth 100000 in
set_option maxHeartbeats 4000000 in
theorem blockOf_any (line : ByteArray) (m : Int) (w : World) (hs : line.size ≤ 1048576) (hm : w.cell? ⟨0, 0, none⟩ = some (.int .i64 m)) (ht : Tab10 w) :
    Calls Tryz.prog 27 #[.string line] w fun e w' => PRet line e ∧ Below w.heap.size w w' := by
  by_cases h6 : line.size < 6
  · go_enter Tryz.func27, Tryz.ntmps27
    go_wp2
    exact bodyPost_ret (v := .tuple #[bAgg b0, .int .i64 9]) (by simp [bAgg, b0, results, Tryz.results27, go_sem]) rfl ⟨PRet.of (parse_short h6), (by repeat (first | exact Below.refl _ _ | assumption | refine Below.alloc ?_ (by first | omega | (simp <;> omega)) _ | refine Below.setCell ?_ (by first | (show _ ≤ _; omega) | (simp <;> omega)) _ | refine Below.drew ?_ | refine below_drewN ?_ _))⟩
  · have h5 : 5 < line.size := by omega
    by_cases hsp : line[5] = 32
    · have q5 : ((line[5].toNat : Int) != 32) = false := by rw [hsp]; rfl
      obtain ⟨R, hRd⟩ : ∃ R, R = line.extract 6 line.size := ⟨_, rfl⟩
      have hRP : restP line = R := hRd.symm
      have hRl : (line.extract 6 line.size).size ≤ 1048576 := by rw [ByteArray.size_extract]; omega
      have hRs : R.size ≤ 1048576 := by rw [hRd]; exact hRl
      have HRD := Lib.hid hRd
      have HSP := Lib.hid hsp
      clear hRd hsp
      by_cases hck : line.extract 0 5 = fiveS (crcF (line.extract 6 line.size))
      · skip
        have HCK := Lib.hid hck
        have e1 : ((line.extract 0 5).toList == (fiveS (crcF (line.extract 6 line.size))).toList) = true := eqS_true.2 hck
        clear hck
        go_enter Tryz.func27, Tryz.ntmps27
        go_wp2
        refine at_world (fun N => Below w.heap.size w N ∧ Box3 N w.heap.size ∧ w.heap.size < N.heap.size) ⟨(Below.refl _ _).alloc (Nat.le_refl _) _, Box3.new _ _, by simp⟩ ?_
        rintro W ⟨hW, hX, hXs⟩
        have htW := ht.below hW
        have hmW := cell_below hW hm
        refine wp_region_mix (C := fun w' => ∃ p : Regrown, w' = Go.Sort.grow (redrawn W p.d) p.os) [true, true, true, true, false, true, true] (by kernel_rfl) (by kernel_rfl) (by kernel_rfl) (fun _ _ d _ _ h => by cases d <;> exact h) (regrown_of_below (Below.drew (Below.refl _ _))) ?_
        have hS0 : Below W.heap.size W W.drew := Below.drew (Below.refl _ _)
        refine wpMix_pure (by kernel_rfl) (fun K hK => ?_)
        go_big_quiet_op
        refine hK _ ?_; clear hK K
        refine wpMix_pure (by kernel_rfl) (fun K hK => ?_)
        go_big_quiet_op
        refine hK _ ?_; clear hK K
        refine wpMix_pure (by kernel_rfl) (fun K hK => ?_)
        go_big_quiet_op
        refine hK _ ?_; clear hK K
        refine wpMix_pure (by kernel_rfl) (fun K hK => ?_)
        go_big_quiet_op
        refine hK _ ?_; clear hK K
        refine wpMix_act (by kernel_rfl) (fun K hK => ?_)
        go_big_op
        refine (checkText_any _ _ hRl (htW.below hS0)).mono ?_
        rintro e wr1 ⟨rfl, hbr1⟩
        have hbr1S : Below W.heap.size W wr1 := hS0.trans (hbr1.mono hS0.size)
        refine hK _ _ (regrown_of_below hbr1S) ?_
        clear hK K
        refine wpMix_pure (by kernel_rfl) (fun K hK => ?_)
        go_big_quiet_op
        refine hK _ ?_; clear hK K
        refine wpMix_pure (by kernel_rfl) (fun K hK => ?_)
        go_big_quiet_op
        refine hK _ ?_; clear hK K
        refine wpMix_nil ?_
        have hX1 := hX.below hbr1S hXs hXs
        have hB1 := hW.trans ((hbr1S).mono hW.size)
        have hg1 : w.heap.size < wr1.heap.size := Nat.lt_of_lt_of_le hXs (hbr1S).size
        have hm1 := cell_below hbr1S hmW
        clear hX htW
        go_wp2_with fail
        rw [← HRD.out]
        refine (cut_any R m _ hRs hm1).mono ?_
        rintro e w2 ⟨rfl, hb2⟩
        have hX2 := hX1.below hb2 hg1 hg1
        have hB2 := hB1.trans (hb2.mono (by omega))
        have hg2 : w.heap.size < w2.heap.size := Nat.lt_of_lt_of_le hg1 hb2.size
        have hm2 := cell_below hb2 hm1
        obtain ⟨i, hi⟩ : ∃ i, firK R = i := ⟨_, rfl⟩
        have HI := Lib.hid hi
        clear hi
        by_cases hlt : i < R.size
        · have hA : cutA R = R.extract 0 i := by unfold cutA; rw [HI.out, if_pos hlt]
          have hZ : cutZ R = R.extract (i + 1) R.size := by unfold cutZ; rw [HI.out, if_pos hlt]
          have hF : cutF R = true := by unfold cutF; rw [HI.out]; exact decide_eq_true hlt
          rw [hA, hZ, hF]
          clear hA hZ hF
          have hR2s : (R.extract (i + 1) R.size).size ≤ 1048576 := by rw [ByteArray.size_extract]; omega
          go_wp2_with fail
          refine (cut_any (R.extract (i + 1) R.size) m _ hR2s hm2).mono ?_
          rintro e w3 ⟨rfl, hb3⟩
          have hX3 := hX2.below hb3 hg2 hg2
          have hB3 := hB2.trans (hb3.mono (by omega))
          have hg3 : w.heap.size < w3.heap.size := Nat.lt_of_lt_of_le hg2 hb3.size
          obtain ⟨j, hj⟩ : ∃ j, firK (R.extract (i + 1) R.size) = j := ⟨_, rfl⟩
          have hsk : secK R = i + 1 + j := by unfold secK; rw [HI.out, ← firK_rest, hj]
          have hz2 : (R.extract (i + 1) R.size).size = R.size - (i + 1) := by rw [ByteArray.size_extract]; omega
          by_cases hlt2 : j < (R.extract (i + 1) R.size).size
          · have hA : cutA (R.extract (i + 1) R.size) = R.extract (i + 1) (i + 1 + j) := by unfold cutA; rw [hj, if_pos hlt2]; exact ext_name
            have hZ : cutZ (R.extract (i + 1) R.size) = R.extract (i + 1 + j + 1) R.size := by unfold cutZ; rw [hj, if_pos hlt2, ext_text]; congr 1
            have hF : cutF (R.extract (i + 1) R.size) = true := by unfold cutF; rw [hj]; exact decide_eq_true hlt2
            rw [hA, hZ, hF]
            clear hA hZ hF
            obtain ⟨x, hx⟩ : ∃ x : DBlock, x = ⟨R.extract 0 i, R.extract (i + 1) (i + 1 + j), R.extract (i + 1 + j + 1) R.size⟩ := ⟨_, rfl⟩
            have hbx : blkP R = x := by rw [hx]; unfold blkP; rw [hsk, HI.out]
            have hk : secK R < R.size := by rw [hsk]; omega
            have hok : fBlock.ok ⟨R.extract 0 i, R.extract (i + 1) (i + 1 + j), R.extract (i + 1 + j + 1) R.size⟩ := by
              refine ⟨?_, ?_, ?_⟩
              all_goals (show ByteArray.size _ ≤ 9223372036854775807; rw [ByteArray.size_extract]; omega)
            have hfine : blockB x = true → parseC line = 0 ∧ parseB line = x := fun h => by
              rw [← hbx]
              exact (parse_fine h5 HSP.out HCK.out (by rw [hRP]; exact hk) (by rw [hRP, hbx]; exact h)).imp id (fun h => h.trans (by rw [hRP]))
            have hbad : blockB x = false → parseC line = 9 ∧ parseB line = b0 := fun h => parse_bad h5 HSP.out HCK.out (by rw [hRP, hbx]; exact h)
            rw [hx] at hfine hbad
            have HFI := Lib.hid hfine
            have HBA := Lib.hid hbad
            clear hfine hbad hbx hx hj hsk hk hz2 hlt2 hX1 hX2
            have hBa : Below w3.heap.size w3 (w3.alloc (.cells #[.string (R.extract 0 i), .string (R.extract (i + 1) (i + 1 + j)), .string (R.extract (i + 1 + j + 1) R.size)] 43)) := (Below.refl _ _).alloc (Nat.le_refl _) _
            have hp := PBlock.box w3 ⟨R.extract 0 i, R.extract (i + 1) (i + 1 + j), R.extract (i + 1 + j + 1) R.size⟩ 43
            go_wp2_with fail
            refine (implValidBlock_any ⟨R.extract 0 i, R.extract (i + 1) (i + 1 + j), R.extract (i + 1 + j + 1) R.size⟩ _ hok).mono ?_
            rintro e w4 ⟨rfl, hb4⟩
            have hp4 := hp.below' hb4
            have hBw : Below w3.heap.size w3 w4 := hBa.trans (hb4.mono (by simp))
            have hB4 : Below w.heap.size w w4 := hB3.trans (hBw.mono (by omega))
            obtain ⟨d0, d1, d2, z0, z1, z2⟩ := hX3.below hBw hg3 hg3
            obtain ⟨c0, c1, c2⟩ := hp4
            clear hp hX3 hBa
            cases hbk : blockB ⟨R.extract 0 i, R.extract (i + 1) (i + 1 + j), R.extract (i + 1 + j + 1) R.size⟩
            · have HC := Lib.hid (HBA.out hbk)
              clear hbk
              go_wp2
              exact bodyPost_ret (v := .tuple #[bAgg b0, .int .i64 9]) (by simp [bAgg, b0, results, setCell_hit, *, Tryz.results27, go_sem]) rfl ⟨PRet.of HC.out, (by repeat (first | exact Below.refl _ _ | assumption | refine Below.alloc ?_ (by first | omega | (simp <;> omega)) _ | refine Below.setCell ?_ (by first | (show _ ≤ _; omega) | (simp <;> omega)) _ | refine Below.drew ?_ | refine below_drewN ?_ _))⟩
            · have HC := Lib.hid (HFI.out hbk)
              clear hbk
              go_wp2
              exact bodyPost_ret (v := .tuple #[bAgg ⟨R.extract 0 i, R.extract (i + 1) (i + 1 + j), R.extract (i + 1 + j + 1) R.size⟩, .int .i64 0]) (by simp [bAgg, b0, results, setCell_hit, *, Tryz.results27, go_sem]) rfl ⟨PRet.of HC.out, (by repeat (first | exact Below.refl _ _ | assumption | refine Below.alloc ?_ (by first | omega | (simp <;> omega)) _ | refine Below.setCell ?_ (by first | (show _ ≤ _; omega) | (simp <;> omega)) _ | refine Below.drew ?_ | refine below_drewN ?_ _))⟩
          · have hF : cutF (R.extract (i + 1) R.size) = false := by unfold cutF; rw [hj]; exact decide_eq_false hlt2
            rw [hF]
            have hfo : parseC line = 9 ∧ parseB line = b0 := parse_form h5 HSP.out HCK.out (by rw [hRP, hsk]; omega)
            have HFO := Lib.hid hfo
            clear hfo hF hj hsk hz2 hlt2
            obtain ⟨d0, d1, d2, z0, z1, z2⟩ := hX3
            go_wp2
            exact bodyPost_ret (v := .tuple #[bAgg b0, .int .i64 9]) (by simp [bAgg, b0, results, setCell_hit, *, Tryz.results27, go_sem]) rfl ⟨PRet.of HFO.out, (by repeat (first | exact Below.refl _ _ | assumption | refine Below.alloc ?_ (by first | omega | (simp <;> omega)) _ | refine Below.setCell ?_ (by first | (show _ ≤ _; omega) | (simp <;> omega)) _ | refine Below.drew ?_ | refine below_drewN ?_ _))⟩
        · have hA : cutA R = R := by unfold cutA; rw [HI.out, if_neg hlt]
          have hZ : cutZ R = ⟨#[]⟩ := by unfold cutZ; rw [HI.out, if_neg hlt]
          have hF : cutF R = false := by unfold cutF; rw [HI.out]; exact decide_eq_false hlt
          rw [hA, hZ, hF]
          clear hA hZ hF
          go_wp2_with fail
          refine (cut_any ⟨#[]⟩ m _ (by decide) hm2).mono ?_
          rintro e w3 ⟨rfl, hb3⟩
          have hX3 := hX2.below hb3 hg2 hg2
          have hg3 : w.heap.size < w3.heap.size := Nat.lt_of_lt_of_le hg2 hb3.size
          have hB3 := hB2.trans (hb3.mono (by omega))
          rw [show cutF ⟨#[]⟩ = false from rfl]
          have hfo : parseC line = 9 ∧ parseB line = b0 := parse_form h5 HSP.out HCK.out (by rw [hRP]; unfold secK; rw [HI.out]; omega)
          have HFO := Lib.hid hfo
          clear hfo
          obtain ⟨d0, d1, d2, z0, z1, z2⟩ := hX3
          go_wp2
          exact bodyPost_ret (v := .tuple #[bAgg b0, .int .i64 9]) (by simp [bAgg, b0, results, setCell_hit, *, Tryz.results27, go_sem]) rfl ⟨PRet.of HFO.out, (by repeat (first | exact Below.refl _ _ | assumption | refine Below.alloc ?_ (by first | omega | (simp <;> omega)) _ | refine Below.setCell ?_ (by first | (show _ ≤ _; omega) | (simp <;> omega)) _ | refine Below.drew ?_ | refine below_drewN ?_ _))⟩
      · skip
        have HCK := Lib.hid hck
        have e1 : ((line.extract 0 5).toList == (fiveS (crcF (line.extract 6 line.size))).toList) = false := bytes_beq_false hck
        clear hck
        go_enter Tryz.func27, Tryz.ntmps27
        go_wp2
        refine at_world (fun N => Below w.heap.size w N ∧ Box3 N w.heap.size ∧ w.heap.size < N.heap.size) ⟨(Below.refl _ _).alloc (Nat.le_refl _) _, Box3.new _ _, by simp⟩ ?_
        rintro W ⟨hW, hX, hXs⟩
        have htW := ht.below hW
        refine wp_region_mix (C := fun w' => ∃ p : Regrown, w' = Go.Sort.grow (redrawn W p.d) p.os) [true, true, true, true, false, true, true] (by kernel_rfl) (by kernel_rfl) (by kernel_rfl) (fun _ _ d _ _ h => by cases d <;> exact h) (regrown_of_below (Below.drew (Below.refl _ _))) ?_
        have hS0 : Below W.heap.size W W.drew := Below.drew (Below.refl _ _)
        refine wpMix_pure (by kernel_rfl) (fun K hK => ?_)
        go_big_quiet_op
        refine hK _ ?_; clear hK K
        refine wpMix_pure (by kernel_rfl) (fun K hK => ?_)
        go_big_quiet_op
        refine hK _ ?_; clear hK K
        refine wpMix_pure (by kernel_rfl) (fun K hK => ?_)
        go_big_quiet_op
        refine hK _ ?_; clear hK K
        refine wpMix_pure (by kernel_rfl) (fun K hK => ?_)
        go_big_quiet_op
        refine hK _ ?_; clear hK K
        refine wpMix_act (by kernel_rfl) (fun K hK => ?_)
        go_big_op
        refine (checkText_any _ _ hRl (htW.below hS0)).mono ?_
        rintro e wr1 ⟨rfl, hbr1⟩
        have hbr1S : Below W.heap.size W wr1 := hS0.trans (hbr1.mono hS0.size)
        refine hK _ _ (regrown_of_below hbr1S) ?_
        clear hK K
        refine wpMix_pure (by kernel_rfl) (fun K hK => ?_)
        go_big_quiet_op
        refine hK _ ?_; clear hK K
        refine wpMix_pure (by kernel_rfl) (fun K hK => ?_)
        go_big_quiet_op
        refine hK _ ?_; clear hK K
        refine wpMix_nil ?_
        obtain ⟨d0, d1, d2, z0, z1, z2⟩ := hX.below hbr1S hXs hXs
        have hB2 := hW.trans ((hbr1S).mono hW.size)
        go_wp2
        exact bodyPost_ret (v := .tuple #[bAgg b0, .int .i64 10]) (by simp [bAgg, b0, results, setCell_hit, *, Tryz.results27, go_sem]) rfl ⟨PRet.of (parse_sum h5 HSP.out HCK.out), (by repeat (first | exact Below.refl _ _ | assumption | refine Below.alloc ?_ (by first | omega | (simp <;> omega)) _ | refine Below.setCell ?_ (by first | (show _ ≤ _; omega) | (simp <;> omega)) _ | refine Below.drew ?_ | refine below_drewN ?_ _))⟩
    · have q5 : ((line[5].toNat : Int) != 32) = true := byte_neT hsp
      go_enter Tryz.func27, Tryz.ntmps27
      go_wp2
      exact bodyPost_ret (v := .tuple #[bAgg b0, .int .i64 9]) (by simp [bAgg, b0, results, setCell_hit, *, Tryz.results27, go_sem]) rfl ⟨PRet.of (parse_nosp h5 hsp), (by repeat (first | exact Below.refl _ _ | assumption | refine Below.alloc ?_ (by first | omega | (simp <;> omega)) _ | refine Below.setCell ?_ (by first | (show _ ≤ _; omega) | (simp <;> omega)) _ | refine Below.drew ?_ | refine below_drewN ?_ _))⟩

end Go.Proofs.YtaaholabodchaaaGreatDoor
