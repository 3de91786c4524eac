/- The walk of FnExactValidReport. -/
import Derived.Test.YtmkjgehhkmfoiaaLn
import Derived.Test.YtmkjgehhkmfoiaaGs
namespace Go.Proofs.Ytmkjgehhkmfoiaa
open Go.RowKit

set_option maxHeartbeats 400000 in
theorem walkValidReport (v : Value) (xs : List ByteArray) (fp : List Nat) (w : World) (hx : Sl fStr.cod w v xs fp) :
    Calls Try.prog 5 #[v] w fun e w' => YesR w e w' := by
  go_enter Try.func5, Try.ntmps5
  go_wp2_with fail
  refine (szStringS_any _ _ _ _ _ hx (by omega) (by omega)).mono ?_
  rintro e w1 ⟨r, rfl, hr, hb1⟩
  by_cases h0 : r < 0
  · go_wp2
    go_ret
    exact ⟨rfl, hb1⟩
  · have hs : xs.length ≤ 1048576 := by
      rcases hr with rfl | ⟨_, hr⟩
      · omega
      · unfold totS at hr; omega
    clear hr
    have hx1 := hx.below' hb1
    go_wp2_with fail
    refine (toStringS_any _ _ _ _ hx1 hs).mono ?_
    rintro e w2 ⟨v2, rfl, ⟨fp2, h2, _, _⟩, hb2⟩
    go_wp2_with fail
    refine (specValidReport_any _ _ _ _ h2).mono ?_
    rintro e w' ⟨rfl, rfl⟩
    go_wp2_with fail
    have hx2 := hx1.below' hb2
    refine (toStringS_any _ _ _ _ hx2 hs).mono ?_
    rintro e w3 ⟨v3, rfl, ⟨fp3, h3, _, _⟩, hb3⟩
    go_wp2_with fail
    refine (implValidReport_any _ _ _ _ h3).mono ?_
    rintro e w' ⟨rfl, rfl⟩
    go_wp2_with fail
    have hx3 := hx2.below' hb3
    refine (toStringS_any _ _ _ _ hx3 hs).mono ?_
    rintro e w4 ⟨v4, rfl, ⟨fp4, h4, _, _⟩, hb4⟩
    go_wp2_with fail
    refine (eqStringS_any _ _ _ _ _ _ (h3.below' hb4) h4).mono ?_
    rintro e w5 ⟨rfl, hb5⟩
    go_wp2_with fail
    go_ret
    exact ⟨rfl, ((((hb1.trans (hb2.mono hb1.size)).trans (hb3.mono (by have := hb1.size; have := hb2.size; omega))).trans (hb4.mono (by have := hb1.size; have := hb2.size; have := hb3.size; omega))).trans (hb5.mono (by have := hb1.size; have := hb2.size; have := hb3.size; have := hb4.size; omega)))⟩
end Go.Proofs.Ytmkjgehhkmfoiaa
