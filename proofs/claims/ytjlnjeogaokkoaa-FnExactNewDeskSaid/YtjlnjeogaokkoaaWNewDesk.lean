/- The walk of FnExactNewDesk. -/
import Derived.Test.YtjlnjeogaokkoaaNd
namespace Go.Proofs.Ytjlnjeogaokkoaa
open Go.RowKit
set_option linter.unusedVariables false

theorem fpN_apart {m p : Nat} (h : m ≠ p) : ∀ i j, i < 12 → j < 12 → i ≠ j → ∀ b ∈ fpN m p i, b ∉ fpN m p j := by
  intro i j _ _ hij b hb hb'
  have key : ∀ k, b ∈ fpN m p k → (k = 1 ∧ b = m) ∨ (k = 4 ∧ b = p) := by
    intro k hk
    unfold fpN at hk
    split at hk
    · exact .inl ⟨rfl, by simpa using hk⟩
    · exact .inr ⟨rfl, by simpa using hk⟩
    · simp at hk
  rcases key i hb with ⟨h1, h2⟩ | ⟨h1, h2⟩ <;> rcases key j hb' with ⟨h3, h4⟩ | ⟨h3, h4⟩ <;> omega
theorem fpN_all {m p : Nat} : ∀ b ∈ (List.range 12).flatMap (fpN m p), b = m ∨ b = p := by
  intro b hb
  obtain ⟨i, _, hi⟩ := List.mem_flatMap.1 hb
  unfold fpN at hi
  split at hi
  · exact .inl (by simpa using hi)
  · exact .inr (by simpa using hi)
  · simp at hi
theorem fpN_in {m p : Nat} : ∀ i, ∀ b ∈ fpN m p i, b = m ∨ b = p := by
  intro i b hi
  unfold fpN at hi
  split at hi
  · exact .inl (by simpa using hi)
  · exact .inr (by simpa using hi)
  · simp at hi
theorem DeskRd.onlyN {w w' : World} {v : DVals} {x : DDesk} {F : Nat → List Nat} {fp : List Nat} (h : DeskRd w v x F) (ho : Only fp w w') (hd : ∀ i, ∀ b ∈ F i, b ∉ fp) : DeskRd w' v x F :=
  ⟨h.ob.only ho (hd 0), h.ma.only ho (hd 1), h.te.only ho (hd 2), h.st.only ho (hd 3), h.pa.only ho (hd 4), h.zo.only ho (hd 5), h.re, h.ve.only ho (hd 7), h.sh.only ho (hd 8), h.gr.only ho (hd 9), h.wa.only ho (hd 10), h.in_.only ho (hd 11)⟩
set_option maxRecDepth 100000 in
set_option maxHeartbeats 8000000 in
theorem walkNewDesk (w : World) : Calls Try.prog 3 #[] w fun e w' => YesR w e w' := by
  go_enter Try.func3, Try.ntmps3
  go_wp2_with fail
  refine (specNewDesk_any _).mono ?_
  rintro e w1 ⟨m0, p0, rfl, ⟨hr0, ⟨l01, l02, l03⟩, hb1⟩⟩
  have p0' : DBox (w1.alloc (.cells #[.slice none 0 0, .int .i64 1, .int .i64 1, .slice (some ⟨m0, 0, none⟩) 1 1, .slice none 0 0, .slice none 0 0, .slice (some ⟨p0, 0, none⟩) 2 2, .slice none 0 0, .slice none 0 0, .slice none 0 0, .slice none 0 0, .slice none 0 0, .slice none 0 0, .slice none 0 0] 36)) w1.heap.size (valN m0 p0) deskN := DBox.new w1 (valN m0 p0) deskN 36
  have hm0 := hr0.ma.lt m0 (by simp [fpN])
  have hp0 := hr0.pa.lt p0 (by simp [fpN])
  have hB := hb1.trans (((Below.refl w1.heap.size w1).alloc (Nat.le_refl _) (.cells #[.slice none 0 0, .int .i64 1, .int .i64 1, .slice (some ⟨m0, 0, none⟩) 1 1, .slice none 0 0, .slice none 0 0, .slice (some ⟨p0, 0, none⟩) 2 2, .slice none 0 0, .slice none 0 0, .slice none 0 0, .slice none 0 0, .slice none 0 0, .slice none 0 0, .slice none 0 0] 36)).mono hb1.size)
  replace hr0 := hr0.below' ((Below.refl w1.heap.size w1).alloc (Nat.le_refl _) (.cells #[.slice none 0 0, .int .i64 1, .int .i64 1, .slice (some ⟨m0, 0, none⟩) 1 1, .slice none 0 0, .slice none 0 0, .slice (some ⟨p0, 0, none⟩) 2 2, .slice none 0 0, .slice none 0 0, .slice none 0 0, .slice none 0 0, .slice none 0 0, .slice none 0 0, .slice none 0 0] 36))
  have hsa : w1.heap.size < (w1.alloc (.cells #[.slice none 0 0, .int .i64 1, .int .i64 1, .slice (some ⟨m0, 0, none⟩) 1 1, .slice none 0 0, .slice none 0 0, .slice (some ⟨p0, 0, none⟩) 2 2, .slice none 0 0, .slice none 0 0, .slice none 0 0, .slice none 0 0, .slice none 0 0, .slice none 0 0, .slice none 0 0] 36)).heap.size := by simp
  unfold deskA deskN valN
  go_wp2_with fail
  generalize w1.alloc (.cells #[.slice none 0 0, .int .i64 1, .int .i64 1, .slice (some ⟨m0, 0, none⟩) 1 1, .slice none 0 0, .slice none 0 0, .slice (some ⟨p0, 0, none⟩) 2 2, .slice none 0 0, .slice none 0 0, .slice none 0 0, .slice none 0 0, .slice none 0 0, .slice none 0 0, .slice none 0 0] 36) = wa at *
  refine (implNewDesk_any _).mono ?_
  rintro e w2 ⟨m1, p1, rfl, ⟨hr1, ⟨l11, l12, l13⟩, hb2⟩⟩
  have hm1 := hr1.ma.lt m1 (by simp [fpN])
  have hp1 := hr1.pa.lt p1 (by simp [fpN])
  replace hr0 := hr0.below' hb2
  replace p0' := p0'.below' hb2
  replace hB := hB.trans (hb2.mono hB.size)
  have p1' : DBox (w2.alloc (.cells #[.slice none 0 0, .int .i64 1, .int .i64 1, .slice (some ⟨m1, 0, none⟩) 1 1, .slice none 0 0, .slice none 0 0, .slice (some ⟨p1, 0, none⟩) 2 2, .slice none 0 0, .slice none 0 0, .slice none 0 0, .slice none 0 0, .slice none 0 0, .slice none 0 0, .slice none 0 0] 36)) w2.heap.size (valN m1 p1) deskN := DBox.new w2 (valN m1 p1) deskN 36
  have hA := (Below.refl w2.heap.size w2).alloc (Nat.le_refl _) (.cells #[.slice none 0 0, .int .i64 1, .int .i64 1, .slice (some ⟨m1, 0, none⟩) 1 1, .slice none 0 0, .slice none 0 0, .slice (some ⟨p1, 0, none⟩) 2 2, .slice none 0 0, .slice none 0 0, .slice none 0 0, .slice none 0 0, .slice none 0 0, .slice none 0 0, .slice none 0 0] 36)
  replace hr0 := hr0.below' hA
  replace hr1 := hr1.below' hA
  replace p0' := p0'.below' hA
  replace hB := hB.trans (hA.mono hB.size)
  have hsb : w2.heap.size < (w2.alloc (.cells #[.slice none 0 0, .int .i64 1, .int .i64 1, .slice (some ⟨m1, 0, none⟩) 1 1, .slice none 0 0, .slice none 0 0, .slice (some ⟨p1, 0, none⟩) 2 2, .slice none 0 0, .slice none 0 0, .slice none 0 0, .slice none 0 0, .slice none 0 0, .slice none 0 0, .slice none 0 0] 36)).heap.size := by simp
  have hs2 := hb2.size
  clear hb2
  have a0 : _ = some (.slice none 0 0 : Value) := p0'.c0
  have a1 : _ = some (.int .i64 1 : Value) := p0'.c1
  have a2 : _ = some (.int .i64 1 : Value) := p0'.c2
  have a3 : _ = some (.slice (some ⟨m0, 0, none⟩) 1 1 : Value) := p0'.c3
  have a4 : _ = some (.slice none 0 0 : Value) := p0'.c4
  have a5 : _ = some (.slice none 0 0 : Value) := p0'.c5
  have a6 : _ = some (.slice (some ⟨p0, 0, none⟩) 2 2 : Value) := p0'.c6
  have a7 : _ = some (.slice none 0 0 : Value) := p0'.c7
  have a8 : _ = some (.slice none 0 0 : Value) := p0'.c8
  have a9 : _ = some (.slice none 0 0 : Value) := p0'.c9
  have a10 : _ = some (.slice none 0 0 : Value) := p0'.c10
  have a11 : _ = some (.slice none 0 0 : Value) := p0'.c11
  have a12 : _ = some (.slice none 0 0 : Value) := p0'.c12
  have a13 : _ = some (.slice none 0 0 : Value) := p0'.c13
  have b0 : _ = some (.slice none 0 0 : Value) := p1'.c0
  have b1 : _ = some (.int .i64 1 : Value) := p1'.c1
  have b2 : _ = some (.int .i64 1 : Value) := p1'.c2
  have b3 : _ = some (.slice (some ⟨m1, 0, none⟩) 1 1 : Value) := p1'.c3
  have b4 : _ = some (.slice none 0 0 : Value) := p1'.c4
  have b5 : _ = some (.slice none 0 0 : Value) := p1'.c5
  have b6 : _ = some (.slice (some ⟨p1, 0, none⟩) 2 2 : Value) := p1'.c6
  have b7 : _ = some (.slice none 0 0 : Value) := p1'.c7
  have b8 : _ = some (.slice none 0 0 : Value) := p1'.c8
  have b9 : _ = some (.slice none 0 0 : Value) := p1'.c9
  have b10 : _ = some (.slice none 0 0 : Value) := p1'.c10
  have b11 : _ = some (.slice none 0 0 : Value) := p1'.c11
  have b12 : _ = some (.slice none 0 0 : Value) := p1'.c12
  have b13 : _ = some (.slice none 0 0 : Value) := p1'.c13
  unfold deskA deskN valN
  go_wp2_with fail
  generalize w2.alloc (.cells #[.slice none 0 0, .int .i64 1, .int .i64 1, .slice (some ⟨m1, 0, none⟩) 1 1, .slice none 0 0, .slice none 0 0, .slice (some ⟨p1, 0, none⟩) 2 2, .slice none 0 0, .slice none 0 0, .slice none 0 0, .slice none 0 0, .slice none 0 0, .slice none 0 0, .slice none 0 0] 36) = wb at *
  generalize hg0 : w1.heap.size = g0 at *
  generalize hg1 : w2.heap.size = g1 at *
  clear hA
  refine (eqDesk_any deskN (valN m1 p1) (valN m0 p0) _ _ _ hr1 hr0).mono ?_
  rintro e w3 ⟨rfl, hbn⟩
  replace hr0 := hr0.below' hbn
  replace hr1 := hr1.below' hbn
  replace p0' := p0'.below' hbn
  replace p1' := p1'.below' hbn
  replace hB := hB.trans (hbn.mono hB.size)
  clear hbn
  clear a0 a1 a2 a3 a4 a5 a6 a7 a8 a9 a10 a11 a12 a13 b0 b1 b2 b3 b4 b5 b6 b7 b8 b9 b10 b11 b12 b13
  have b0 : _ = some (.slice none 0 0 : Value) := p1'.c0
  have b1 : _ = some (.int .i64 1 : Value) := p1'.c1
  have b2 : _ = some (.int .i64 1 : Value) := p1'.c2
  have b3 : _ = some (.slice (some ⟨m1, 0, none⟩) 1 1 : Value) := p1'.c3
  have b4 : _ = some (.slice none 0 0 : Value) := p1'.c4
  have b5 : _ = some (.slice none 0 0 : Value) := p1'.c5
  have b6 : _ = some (.slice (some ⟨p1, 0, none⟩) 2 2 : Value) := p1'.c6
  have b7 : _ = some (.slice none 0 0 : Value) := p1'.c7
  have b8 : _ = some (.slice none 0 0 : Value) := p1'.c8
  have b9 : _ = some (.slice none 0 0 : Value) := p1'.c9
  have b10 : _ = some (.slice none 0 0 : Value) := p1'.c10
  have b11 : _ = some (.slice none 0 0 : Value) := p1'.c11
  have b12 : _ = some (.slice none 0 0 : Value) := p1'.c12
  have b13 : _ = some (.slice none 0 0 : Value) := p1'.c13
  go_wp2_with fail
  have hs3 := hB.size
  refine (markDesk_any deskN (valN m1 p1) (fpN m1 p1) 1 _ hr1 (fpN_apart l13) rfl (by omega) (by omega) (by decide)).mono ?_
  rintro e w4 ⟨y, K, rfl, ⟨hmk⟩, hy1, hy2, hr1, ho⟩
  have hdis : ∀ i, ∀ b ∈ fpN m0 p0 i, b ∉ (List.range 12).flatMap (fpN m1 p1) := fun i b h1 h2 => by
    have q1 := fpN_in i b h1
    have q2 := fpN_all b h2
    omega
  replace hr0 := hr0.onlyN ho hdis
  replace p0' := p0'.only ho (fun h2 => by have q2 := fpN_all _ h2; omega)
  replace p1' := p1'.only ho (fun h2 => by have q2 := fpN_all _ h2; omega)
  replace hB := hB.trans (ho.below (B := w.heap.size) hs3 (fun b h2 => by have q2 := fpN_all b h2; omega))
  clear ho b0 b1 b2 b3 b4 b5 b6 b7 b8 b9 b10 b11 b12 b13
  have hdy : deskA (valN m1 p1) deskN = deskA (valN m1 p1) y := by unfold deskA; rw [hy1, hy2]
  have HDY := Lib.hid hdy
  clear hdy
  have b0 : _ = some (.slice none 0 0 : Value) := p1'.c0
  have b1 : _ = some (.int .i64 1 : Value) := p1'.c1
  have b2 : _ = some (.int .i64 1 : Value) := p1'.c2
  have b3 : _ = some (.slice (some ⟨m1, 0, none⟩) 1 1 : Value) := p1'.c3
  have b4 : _ = some (.slice none 0 0 : Value) := p1'.c4
  have b5 : _ = some (.slice none 0 0 : Value) := p1'.c5
  have b6 : _ = some (.slice (some ⟨p1, 0, none⟩) 2 2 : Value) := p1'.c6
  have b7 : _ = some (.slice none 0 0 : Value) := p1'.c7
  have b8 : _ = some (.slice none 0 0 : Value) := p1'.c8
  have b9 : _ = some (.slice none 0 0 : Value) := p1'.c9
  have b10 : _ = some (.slice none 0 0 : Value) := p1'.c10
  have b11 : _ = some (.slice none 0 0 : Value) := p1'.c11
  have b12 : _ = some (.slice none 0 0 : Value) := p1'.c12
  have b13 : _ = some (.slice none 0 0 : Value) := p1'.c13
  go_wp2_with fail
  have hh := heldDesk_any y (valN m1 p1) (fpN m1 p1) 1 K _ hr1 hmk (by omega) (by omega)
  rw [← HDY.out] at hh
  refine hh.mono ?_
  rintro e w5 ⟨rfl, hbn⟩
  clear hh
  replace hr0 := hr0.below' hbn
  replace hr1 := hr1.below' hbn
  replace p0' := p0'.below' hbn
  replace p1' := p1'.below' hbn
  replace hB := hB.trans (hbn.mono hB.size)
  clear hbn
  clear b0 b1 b2 b3 b4 b5 b6 b7 b8 b9 b10 b11 b12 b13
  have hK : 0 ≤ K := by have := hmk.last; omega
  go_wp2_with fail
  refine (implNewDesk_any _).mono ?_
  rintro e w6 ⟨m2, p2, rfl, ⟨hr2, ⟨l21, l22, l23⟩, hbn⟩⟩
  replace hr0 := hr0.below' hbn
  replace hr1 := hr1.below' hbn
  replace p0' := p0'.below' hbn
  replace p1' := p1'.below' hbn
  replace hB := hB.trans (hbn.mono hB.size)
  clear hbn
  have p2' : DBox (w6.alloc (.cells #[.slice none 0 0, .int .i64 1, .int .i64 1, .slice (some ⟨m2, 0, none⟩) 1 1, .slice none 0 0, .slice none 0 0, .slice (some ⟨p2, 0, none⟩) 2 2, .slice none 0 0, .slice none 0 0, .slice none 0 0, .slice none 0 0, .slice none 0 0, .slice none 0 0, .slice none 0 0] 36)) w6.heap.size (valN m2 p2) deskN := DBox.new w6 (valN m2 p2) deskN 36
  have hA := (Below.refl w6.heap.size w6).alloc (Nat.le_refl _) (.cells #[.slice none 0 0, .int .i64 1, .int .i64 1, .slice (some ⟨m2, 0, none⟩) 1 1, .slice none 0 0, .slice none 0 0, .slice (some ⟨p2, 0, none⟩) 2 2, .slice none 0 0, .slice none 0 0, .slice none 0 0, .slice none 0 0, .slice none 0 0, .slice none 0 0, .slice none 0 0] 36)
  replace hr0 := hr0.below' hA
  replace hr1 := hr1.below' hA
  replace hr2 := hr2.below' hA
  replace p0' := p0'.below' hA
  replace p1' := p1'.below' hA
  replace hB := hB.trans (hA.mono hB.size)
  have a0 : _ = some (.slice none 0 0 : Value) := p0'.c0
  have a1 : _ = some (.int .i64 1 : Value) := p0'.c1
  have a2 : _ = some (.int .i64 1 : Value) := p0'.c2
  have a3 : _ = some (.slice (some ⟨m0, 0, none⟩) 1 1 : Value) := p0'.c3
  have a4 : _ = some (.slice none 0 0 : Value) := p0'.c4
  have a5 : _ = some (.slice none 0 0 : Value) := p0'.c5
  have a6 : _ = some (.slice (some ⟨p0, 0, none⟩) 2 2 : Value) := p0'.c6
  have a7 : _ = some (.slice none 0 0 : Value) := p0'.c7
  have a8 : _ = some (.slice none 0 0 : Value) := p0'.c8
  have a9 : _ = some (.slice none 0 0 : Value) := p0'.c9
  have a10 : _ = some (.slice none 0 0 : Value) := p0'.c10
  have a11 : _ = some (.slice none 0 0 : Value) := p0'.c11
  have a12 : _ = some (.slice none 0 0 : Value) := p0'.c12
  have a13 : _ = some (.slice none 0 0 : Value) := p0'.c13
  have c0 : _ = some (.slice none 0 0 : Value) := p2'.c0
  have c1 : _ = some (.int .i64 1 : Value) := p2'.c1
  have c2 : _ = some (.int .i64 1 : Value) := p2'.c2
  have c3 : _ = some (.slice (some ⟨m2, 0, none⟩) 1 1 : Value) := p2'.c3
  have c4 : _ = some (.slice none 0 0 : Value) := p2'.c4
  have c5 : _ = some (.slice none 0 0 : Value) := p2'.c5
  have c6 : _ = some (.slice (some ⟨p2, 0, none⟩) 2 2 : Value) := p2'.c6
  have c7 : _ = some (.slice none 0 0 : Value) := p2'.c7
  have c8 : _ = some (.slice none 0 0 : Value) := p2'.c8
  have c9 : _ = some (.slice none 0 0 : Value) := p2'.c9
  have c10 : _ = some (.slice none 0 0 : Value) := p2'.c10
  have c11 : _ = some (.slice none 0 0 : Value) := p2'.c11
  have c12 : _ = some (.slice none 0 0 : Value) := p2'.c12
  have c13 : _ = some (.slice none 0 0 : Value) := p2'.c13
  unfold deskA deskN valN
  go_wp2_with fail
  generalize w6.alloc (.cells #[.slice none 0 0, .int .i64 1, .int .i64 1, .slice (some ⟨m2, 0, none⟩) 1 1, .slice none 0 0, .slice none 0 0, .slice (some ⟨p2, 0, none⟩) 2 2, .slice none 0 0, .slice none 0 0, .slice none 0 0, .slice none 0 0, .slice none 0 0, .slice none 0 0, .slice none 0 0] 36) = wc at *
  refine (eqDesk_any deskN (valN m2 p2) (valN m0 p0) _ _ _ hr2 hr0).mono ?_
  rintro e w7 ⟨rfl, hbn⟩
  clear hA
  replace hr0 := hr0.below' hbn
  replace hr1 := hr1.below' hbn
  replace p0' := p0'.below' hbn
  replace p1' := p1'.below' hbn
  replace hB := hB.trans (hbn.mono hB.size)
  clear hbn
  clear a0 a1 a2 a3 a4 a5 a6 a7 a8 a9 a10 a11 a12 a13 c0 c1 c2 c3 c4 c5 c6 c7 c8 c9 c10 c11 c12 c13
  have b0 : _ = some (.slice none 0 0 : Value) := p1'.c0
  have b1 : _ = some (.int .i64 1 : Value) := p1'.c1
  have b2 : _ = some (.int .i64 1 : Value) := p1'.c2
  have b3 : _ = some (.slice (some ⟨m1, 0, none⟩) 1 1 : Value) := p1'.c3
  have b4 : _ = some (.slice none 0 0 : Value) := p1'.c4
  have b5 : _ = some (.slice none 0 0 : Value) := p1'.c5
  have b6 : _ = some (.slice (some ⟨p1, 0, none⟩) 2 2 : Value) := p1'.c6
  have b7 : _ = some (.slice none 0 0 : Value) := p1'.c7
  have b8 : _ = some (.slice none 0 0 : Value) := p1'.c8
  have b9 : _ = some (.slice none 0 0 : Value) := p1'.c9
  have b10 : _ = some (.slice none 0 0 : Value) := p1'.c10
  have b11 : _ = some (.slice none 0 0 : Value) := p1'.c11
  have b12 : _ = some (.slice none 0 0 : Value) := p1'.c12
  have b13 : _ = some (.slice none 0 0 : Value) := p1'.c13
  go_wp2_with fail
  have hh := heldDesk_any y (valN m1 p1) (fpN m1 p1) 1 K _ hr1 hmk (by omega) (by omega)
  rw [← HDY.out] at hh
  refine hh.mono ?_
  rintro e w8 ⟨rfl, hbn⟩
  replace hB := hB.trans (hbn.mono hB.size)
  go_wp2
  go_ret
  exact ⟨rfl, hB⟩
end Go.Proofs.Ytjlnjeogaokkoaa
