/- Contracts of the functions behind ProblemName: the program's and the reference's, each for every argument. -/
import Derived.Test.YtmkjgehhkmfoiaaBase
namespace Go.Proofs.Ytmkjgehhkmfoiaa
open Go.RowKit



set_option maxHeartbeats 400000 in
theorem l00In_any (a b c : Int) (w : World) :
    Calls Try.prog 51 #[.int .i64 a, .int .i64 b, .int .i64 c] w fun e w' => e = .returned (.bool (decide (b ≤ a) && decide (a ≤ c))) ∧ w = w' := by
  go_enter Try.func51, Try.ntmps51
  go_wp2
  all_goals
    go_ret
    exact ⟨ret_bool (by simp [*] <;> omega), rfl⟩
set_option maxHeartbeats 400000 in
theorem within_any (a b c : Int) (w : World) :
    Calls Try.prog 38 #[.int .i64 a, .int .i64 b, .int .i64 c] w fun e w' => e = .returned (.bool (decide (b ≤ a) && decide (a ≤ c))) ∧ w = w' := by
  go_enter Try.func38, Try.ntmps38
  go_wp2
  all_goals
    go_ret
    exact ⟨ret_bool (by simp [*] <;> omega), rfl⟩
set_option maxHeartbeats 400000 in
theorem l31Kind_any (a : Int) (w : World) :
    Calls Try.prog 36 #[.int .i64 a] w fun e w' => e = .returned (.bool (decide (1 ≤ a) && decide (a ≤ 4))) ∧ w = w' := by
  go_enter Try.func36, Try.ntmps36
  go_wp2_with (go_at_call 51; refine (l00In_any _ _ _ _).mono ?_; rintro e w' ⟨rfl, rfl⟩)
  go_ret
  exact ⟨rfl, rfl⟩

abbrev strB (l : List UInt8) : Value := .string ⟨l.toArray⟩
def pname (k : Int) : List UInt8 := if k = 1 then [111, 112, 101, 110] else if k = 2 then [109, 97, 115, 115] else if k = 3 then [108, 101, 118, 101, 108] else if k = 4 then [116, 101, 120, 116] else []

abbrev names5 : Array Value := #[Value.string { data := #[] }, Value.string { data := #[111, 112, 101, 110] },
                Value.string { data := #[109, 97, 115, 115] }, Value.string { data := #[108, 101, 118, 101, 108] },
                Value.string { data := #[116, 101, 120, 116] }]

set_option maxHeartbeats 400000 in
theorem implProblemName_any (k : Int) (w : World) :
    Calls Try.prog 10 #[.int .i64 k] w fun e w' => e = .returned (strB (pname k)) ∧ w = w' := by
  by_cases h : (decide (1 ≤ k) && decide (k ≤ 4)) = true
  · have h2 : k = 1 ∨ k = 2 ∨ k = 3 ∨ k = 4 := by simp at h; omega
    have i1 : ∀ w : World, (Instr.index 56 (.agg names5) (.int .i64 1)).run Try.prog w = .ok (strB (pname 1)) w := fun _ => by kernel_rfl
    have i2 : ∀ w : World, (Instr.index 56 (.agg names5) (.int .i64 2)).run Try.prog w = .ok (strB (pname 2)) w := fun _ => by kernel_rfl
    have i3 : ∀ w : World, (Instr.index 56 (.agg names5) (.int .i64 3)).run Try.prog w = .ok (strB (pname 3)) w := fun _ => by kernel_rfl
    have i4 : ∀ w : World, (Instr.index 56 (.agg names5) (.int .i64 4)).run Try.prog w = .ok (strB (pname 4)) w := fun _ => by kernel_rfl
    rcases h2 with rfl | rfl | rfl | rfl
    all_goals
      go_enter Try.func10, Try.ntmps10
      go_wp2_with (go_at_call 38; refine (within_any _ _ _ _).mono ?_; rintro e w' ⟨rfl, rfl⟩)
      go_ret
      exact ⟨rfl, rfl⟩
  · have h' : (decide (1 ≤ k) && decide (k ≤ 4)) = false := by simpa using h
    have hp : pname k = [] := by simp at h'; unfold pname; split <;> (try split) <;> (try split) <;> (try split) <;> first | rfl | omega
    rw [hp]
    go_enter Try.func10, Try.ntmps10
    go_wp2_with (go_at_call 38; refine (within_any _ _ _ _).mono ?_; rintro e w' ⟨rfl, rfl⟩)
    go_ret
    exact ⟨rfl, rfl⟩

set_option maxHeartbeats 400000 in
theorem l31Names_any (w : World) :
    Calls Try.prog 37 #[] w fun e w' => e = .returned (.slice (some ⟨w.heap.size, 0, none⟩) 5 5) ∧ w.alloc (.cells names5 9) = w' := by
  go_enter Try.func37, Try.ntmps37
  go_wp2
  go_ret
  exact ⟨rfl, rfl⟩

set_option maxHeartbeats 400000 in
theorem specProblemName_any (k : Int) (w : World) :
    Calls Try.prog 9 #[.int .i64 k] w fun e w' => e = .returned (strB (pname k)) ∧ Below w.heap.size w w' := by
  by_cases h : (decide (1 ≤ k) && decide (k ≤ 4)) = true
  · have h2 : k = 1 ∨ k = 2 ∨ k = 3 ∨ k = 4 := by simp at h; omega
    rcases h2 with rfl | rfl | rfl | rfl
    all_goals
      go_enter Try.func9, Try.ntmps9
      go_wp2_with (first | (go_at_call 36; refine (l31Kind_any _ _).mono ?_; rintro e w' ⟨rfl, rfl⟩) | (go_at_call 37; refine (l31Names_any _).mono ?_; rintro e w' ⟨rfl, rfl⟩))
      go_ret
      exact ⟨rfl, (Below.refl _ _).alloc (Nat.le_refl _) _⟩
  · have h' : (decide (1 ≤ k) && decide (k ≤ 4)) = false := by simpa using h
    have hp : pname k = [] := by simp at h'; unfold pname; split <;> (try split) <;> (try split) <;> (try split) <;> first | rfl | omega
    rw [hp]
    go_enter Try.func9, Try.ntmps9
    go_wp2_with (go_at_call 36; refine (l31Kind_any _ _).mono ?_; rintro e w' ⟨rfl, rfl⟩)
    go_ret
    exact ⟨rfl, Below.refl _ _⟩

set_option maxHeartbeats 400000 in
theorem lawProblemName (k : Int) (w : World) :
    Calls Try.prog 3 #[.int .i64 k] w fun e w' => e = .returned (.bool true) ∧ Below w.heap.size w w' := by
  go_enter Try.func3, Try.ntmps3
  go_wp2_with (first | (go_at_call 9; refine (specProblemName_any _ _).mono ?_; rintro e w1 ⟨rfl, hb1⟩) | (go_at_call 10; refine (implProblemName_any _ _).mono ?_; rintro e w' ⟨rfl, rfl⟩))

  go_ret
  exact ⟨rfl, hb1⟩

end Go.Proofs.Ytmkjgehhkmfoiaa
