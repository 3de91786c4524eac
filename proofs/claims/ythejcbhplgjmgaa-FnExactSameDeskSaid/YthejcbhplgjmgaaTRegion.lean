/- Region: the data, its cells; the given helpers over it. Written by wip/gen/treg.py. -/
import Derived.Test.YthejcbhplgjmgaaTString
import Derived.Test.YthejcbhplgjmgaaNest
import Derived.Test.YthejcbhplgjmgaaSeg
namespace Go.Proofs.Ythejcbhplgjmgaa
open Go.RowKit
set_option linter.unusedVariables false

structure DRegion where
  id : ByteArray
  level : Int
  near : List ByteArray
  deriving DecidableEq
def rg0 : DRegion := ⟨⟨#[]⟩, 0, []⟩
def cRegion : Cod DRegion where
  n := 3
  rd := fun w cs x fp => ∃ v, cs = [.string x.id, .int .i64 x.level, v] ∧ fStr.ok x.id ∧ fInt.ok x.level ∧ fStr.cod.slice.rd w [v] x.near fp
  pos := by omega
  len := by rintro w cs x fp ⟨v, rfl, _⟩; rfl
  lt := by rintro w cs x fp ⟨v, _, _, _, h⟩; exact fStr.cod.slice.lt h
  keep := by rintro w w' cs x fp ⟨v, rfl, h1, h2, h⟩ hk; exact ⟨v, rfl, h1, h2, fStr.cod.slice.keep h hk⟩
/-- The rows of a slice of regions, laid open. -/
structure RRows (w : World) (b off n : Nat) (V : Nat → Value) (cur : Nat → DRegion) (F : Nat → List Nat) : Prop where
  c0 : ∀ i, i < n → w.cell? ⟨b, off + i * 3, none⟩ = some (.string (cur i).id)
  c1 : ∀ i, i < n → w.cell? ⟨b, off + i * 3 + 1, none⟩ = some (.int .i64 (cur i).level)
  c2 : ∀ i, i < n → w.cell? ⟨b, off + i * 3 + 2, none⟩ = some (V i)
  z : ∀ i, i < n → ∀ j, j < 3 → w.frozen? ⟨b, off + i * 3 + j, none⟩ = false
  ok : ∀ i, i < n → fStr.ok (cur i).id ∧ fInt.ok (cur i).level
  rd : ∀ i, i < n → Sl fStr.cod w (V i) (cur i).near (F i)
section
variable {w w' : World} {b off n cap len : Nat} {A : Option Addr} {V : Nat → Value} {cur : Nat → DRegion} {F : Nat → List Nat} {xs : List DRegion} {fp : List Nat}
theorem Sl.regs (h : Sl cRegion w (.slice A len cap) xs fp) (h0 : 0 < xs.length) :
    ∃ b off V F, A = some ⟨b, off, none⟩ ∧ b < w.heap.size ∧ fp = b :: (List.range xs.length).flatMap F ∧ RRows w b off xs.length V (fun i => xs.getD i rg0) F := by
  obtain ⟨A', cap', hv, hl, hc, hr⟩ := h
  injection hv with hA hn hcap
  subst hA
  rcases hr with ⟨h1, _⟩ | ⟨b, off, F, hA, hb, hfp, hi⟩
  · subst h1; simp at h0
  · have hex : ∀ i, ∃ u, ∀ h : i < xs.length, w.cell? ⟨b, off + i * 3, none⟩ = some (.string xs[i].id) ∧ w.cell? ⟨b, off + i * 3 + 1, none⟩ = some (.int .i64 xs[i].level) ∧ w.cell? ⟨b, off + i * 3 + 2, none⟩ = some u ∧ (∀ j, j < 3 → w.frozen? ⟨b, off + i * 3 + j, none⟩ = false) ∧ (fStr.ok xs[i].id ∧ fInt.ok xs[i].level) ∧ Sl fStr.cod w u xs[i].near (F i) := fun i => by
      by_cases hlt : i < xs.length
      · obtain ⟨cs, h1, h2, v, rfl, h3, h4, u, hu, h5⟩ := hi i hlt
        injection hu with hu _
        subst hu
        exact ⟨v, fun _ => ⟨h1 0 (by decide), h1 1 (by decide), h1 2 (by decide), fun j hj => h2 j hj, ⟨h3, h4⟩, h5⟩⟩
      · exact ⟨undef, fun h => absurd h hlt⟩
    have hg : ∀ i (h : i < xs.length), xs.getD i rg0 = xs[i] := fun i h => by simp [List.getD_eq_getElem?_getD, h]
    refine ⟨b, off, fun i => Classical.choose (hex i), F, hA, hb, hfp, ⟨fun i h => ?_, fun i h => ?_, fun i h => ?_, fun i h => ?_, fun i h => ?_, fun i h => ?_⟩⟩
    · have := (Classical.choose_spec (hex i) h).1; rw [hg i h]; exact this
    · have := (Classical.choose_spec (hex i) h).2.1; rw [hg i h]; exact this
    · exact (Classical.choose_spec (hex i) h).2.2.1
    · exact (Classical.choose_spec (hex i) h).2.2.2.1
    · have := (Classical.choose_spec (hex i) h).2.2.2.2.1; rw [hg i h]; exact this
    · have := (Classical.choose_spec (hex i) h).2.2.2.2.2; rw [hg i h]; exact this
theorem RRows.sl (h : RRows w b off n V cur F) (hb : b < w.heap.size) (hn : xs.length = n) (hx : ∀ i (hi : i < xs.length), xs[i] = cur i) (hc : n ≤ cap) (hm : cap ≤ maxLen) :
    Sl cRegion w (.slice (some ⟨b, off, none⟩) n cap) xs (b :: (List.range n).flatMap F) := by
  subst hn
  refine ⟨_, cap, rfl, hc, hm, .inr ⟨b, off, F, rfl, hb, rfl, fun i hi => ⟨[.string (cur i).id, .int .i64 (cur i).level, V i], fun j hj => ?_, fun j hj => h.z i hi j hj, ?_⟩⟩⟩
  · match j, hj with
    | 0, _ => exact h.c0 i hi
    | 1, _ => exact h.c1 i hi
    | 2, _ => exact h.c2 i hi
  · rw [hx i hi]
    exact ⟨V i, rfl, (h.ok i hi).1, (h.ok i hi).2, V i, rfl, h.rd i hi⟩
theorem RRows.below (h : RRows w b off n V cur F) (hb : b < w.heap.size) (hw : Below w.heap.size w w') : RRows w' b off n V cur F :=
  ⟨fun i hi => (hw.cell (p := ⟨b, _, none⟩) hb).trans (h.c0 i hi), fun i hi => (hw.cell (p := ⟨b, _, none⟩) hb).trans (h.c1 i hi), fun i hi => (hw.cell (p := ⟨b, _, none⟩) hb).trans (h.c2 i hi), fun i hi j hj => (hw.frozen (p := ⟨b, _, none⟩) hb).trans (h.z i hi j hj), h.ok, fun i hi => (h.rd i hi).below' hw⟩
theorem RRows.congr {cur' : Nat → DRegion} (h : RRows w b off n V cur F) (hc : ∀ i, i < n → cur i = cur' i) : RRows w b off n V cur' F :=
  ⟨fun i hi => by rw [← hc i hi]; exact h.c0 i hi, fun i hi => by rw [← hc i hi]; exact h.c1 i hi, h.c2, h.z, fun i hi => by rw [← hc i hi]; exact h.ok i hi, fun i hi => by rw [← hc i hi]; exact h.rd i hi⟩
theorem RRows.setId {k : Nat} (h : RRows w b off n V cur F) (hbF : ∀ i, i < n → b ∉ F i) (hk : k < n) (s : ByteArray) (hs : fStr.ok s) :
    RRows (w.setCell ⟨b, off + k * 3, none⟩ (.string s)) b off n V (fun i => if i = k then ⟨s, (cur i).level, (cur i).near⟩ else cur i) F := by
  have hne : ∀ p, p ≠ off + k * 3 → (w.setCell ⟨b, off + k * 3, none⟩ (.string s)).cell? ⟨b, p, none⟩ = w.cell? ⟨b, p, none⟩ := fun p hp => World.cell?_setCell_other _ _ _ _ (fun e => by injection e with _ e _; exact hp e.symm)
  refine ⟨fun i hi => ?_, fun i hi => ?_, fun i hi => ?_, fun i hi j hj => (frozen?_setCell _ _ _ _).trans (h.z i hi j hj), fun i hi => ?_, fun i hi => ?_⟩
  · by_cases e : i = k
    · subst e; rw [if_pos rfl]; exact World.cell?_setCell_same w _ _ (h.c0 i hi)
    · rw [if_neg e, hne _ (by omega)]; exact h.c0 i hi
  · rw [hne _ (by omega)]
    by_cases e : i = k
    · rw [if_pos e]; exact h.c1 i hi
    · rw [if_neg e]; exact h.c1 i hi
  · rw [hne _ (by omega)]; exact h.c2 i hi
  · by_cases e : i = k
    · rw [if_pos e]; exact ⟨hs, (h.ok i hi).2⟩
    · rw [if_neg e]; exact h.ok i hi
  · have ho : Only [b] w (w.setCell ⟨b, off + k * 3, none⟩ (.string s)) := (Only.refl _ _).set _ _
    have hr := (h.rd i hi).only ho (fun c hc hc2 => by rw [List.mem_singleton] at hc2; subst hc2; exact hbF i hi hc)
    by_cases e : i = k
    · rw [if_pos e]; exact hr
    · rw [if_neg e]; exact hr
theorem RRows.setLevel {k : Nat} (h : RRows w b off n V cur F) (hbF : ∀ i, i < n → b ∉ F i) (hk : k < n) (s : Int) (hs : fInt.ok s) :
    RRows (w.setCell ⟨b, off + k * 3 + 1, none⟩ (.int .i64 s)) b off n V (fun i => if i = k then ⟨(cur i).id, s, (cur i).near⟩ else cur i) F := by
  have hne : ∀ p, p ≠ off + k * 3 + 1 → (w.setCell ⟨b, off + k * 3 + 1, none⟩ (.int .i64 s)).cell? ⟨b, p, none⟩ = w.cell? ⟨b, p, none⟩ := fun p hp => World.cell?_setCell_other _ _ _ _ (fun e => by injection e with _ e _; exact hp e.symm)
  refine ⟨fun i hi => ?_, fun i hi => ?_, fun i hi => ?_, fun i hi j hj => (frozen?_setCell _ _ _ _).trans (h.z i hi j hj), fun i hi => ?_, fun i hi => ?_⟩
  · rw [hne _ (by omega)]
    by_cases e : i = k
    · rw [if_pos e]; exact h.c0 i hi
    · rw [if_neg e]; exact h.c0 i hi
  · by_cases e : i = k
    · subst e; rw [if_pos rfl]; exact World.cell?_setCell_same w _ _ (h.c1 i hi)
    · rw [if_neg e, hne _ (by omega)]; exact h.c1 i hi
  · rw [hne _ (by omega)]; exact h.c2 i hi
  · by_cases e : i = k
    · rw [if_pos e]; exact ⟨(h.ok i hi).1, hs⟩
    · rw [if_neg e]; exact h.ok i hi
  · have ho : Only [b] w (w.setCell ⟨b, off + k * 3 + 1, none⟩ (.int .i64 s)) := (Only.refl _ _).set _ _
    have hr := (h.rd i hi).only ho (fun c hc hc2 => by rw [List.mem_singleton] at hc2; subst hc2; exact hbF i hi hc)
    by_cases e : i = k
    · rw [if_pos e]; exact hr
    · rw [if_neg e]; exact hr
theorem RRows.setNear {k : Nat} {ys : List ByteArray} (h : RRows w b off n V cur F) (hb : b < w.heap.size) (hbF : b ∉ F k) (hap : ∀ i, i < n → i ≠ k → ∀ c ∈ F i, c ∉ F k) (hk : k < n) (hs : Sl fStr.cod w' (V k) ys (F k)) (ho : Only (F k) w w') :
    RRows w' b off n V (fun i => if i = k then ⟨(cur i).id, (cur i).level, ys⟩ else cur i) F := by
  have hbk := ho.block b hb hbF
  have hc : ∀ p, w'.cell? ⟨b, p, none⟩ = w.cell? ⟨b, p, none⟩ := fun p => World.cell?_of_block (a := ⟨b, p, none⟩) hbk
  have hz : ∀ p, w'.frozen? ⟨b, p, none⟩ = w.frozen? ⟨b, p, none⟩ := fun p => World.frozen?_of_block (a := ⟨b, p, none⟩) hbk
  refine ⟨fun i hi => ?_, fun i hi => ?_, fun i hi => (hc _).trans (h.c2 i hi), fun i hi j hj => (hz _).trans (h.z i hi j hj), fun i hi => ?_, fun i hi => ?_⟩
  · rw [hc]; by_cases e : i = k
    · rw [if_pos e]; exact h.c0 i hi
    · rw [if_neg e]; exact h.c0 i hi
  · rw [hc]; by_cases e : i = k
    · rw [if_pos e]; exact h.c1 i hi
    · rw [if_neg e]; exact h.c1 i hi
  · by_cases e : i = k
    · rw [if_pos e]; exact h.ok i hi
    · rw [if_neg e]; exact h.ok i hi
  · by_cases e : i = k
    · subst e; rw [if_pos rfl]; exact hs
    · rw [if_neg e]; exact (h.rd i hi).only ho (hap i hi e)
/-- One region of a slice. -/
theorem Sl.reg {k : Nat} (h : Sl cRegion w (.slice A len cap) xs fp) (hk : k < xs.length) :
    ∃ b off vk fk, A = some ⟨b, off, none⟩ ∧ w.cell? ⟨b, off + k * 3, none⟩ = some (.string xs[k].id) ∧ w.cell? ⟨b, off + k * 3 + 1, none⟩ = some (.int .i64 xs[k].level) ∧ w.cell? ⟨b, off + k * 3 + 2, none⟩ = some vk ∧ Sl fStr.cod w vk xs[k].near fk ∧ b ∈ fp ∧ (∀ c ∈ fk, c ∈ fp) ∧ fStr.ok xs[k].id ∧ fInt.ok xs[k].level := by
  obtain ⟨b, off, V, F, hA, hb, hfp, hr⟩ := h.regs (by omega)
  have e : xs.getD k rg0 = xs[k] := by simp [List.getD_eq_getElem?_getD, hk]
  have h0 := hr.c0 k hk
  have h1 := hr.c1 k hk
  have h3 := hr.rd k hk
  have h4 := hr.ok k hk
  rw [e] at h0 h1 h3 h4
  exact ⟨b, off, V k, F k, hA, h0, h1, hr.c2 k hk, h3, by rw [hfp]; simp, fun c hc => by rw [hfp]; exact List.mem_cons_of_mem _ (List.mem_flatMap.2 ⟨k, by simpa using hk, hc⟩), h4.1, h4.2⟩
end
def totRegion (x : DRegion) : Nat := x.id.size + totStringS x.near
def totRegionS (xs : List DRegion) : Nat := xs.length + (xs.map totRegion).sum
theorem totRegionS_mem {xs : List DRegion} {r : DRegion} (h : r ∈ xs) : totRegion r ≤ totRegionS xs := by
  unfold totRegionS
  have : totRegion r ≤ (xs.map totRegion).sum := by
    obtain ⟨i, hi, rfl⟩ := List.getElem_of_mem h
    have h1 := sum_take_step_ totRegion xs i hi
    have h2 : ((xs.take (i + 1)).map totRegion).sum ≤ (xs.map totRegion).sum := by
      have h3 := congrArg (fun l => (l.map totRegion).sum) (List.take_append_drop (i + 1) xs)
      simp only [List.map_append, List.sum_append] at h3
      omega
    omega
  omega
set_option maxRecDepth 100000 in
set_option maxHeartbeats 2000000 in
theorem szRegion_any (x : DRegion) (v : Value) (fp : List Nat) (left : Int) (w : World) (hx : Sl fStr.cod w v x.near fp) (hok : fStr.ok x.id) (h0 : 0 ≤ left) (h1 : left ≤ 1048576) :
    Calls Try.prog 138 #[.agg #[.string x.id, .int .i64 x.level, v], .int .i64 left] w fun e w' => SzR left (totRegion x) w e w' := by
  obtain ⟨A, cap, rfl, hlen, hcap⟩ := hx.form
  have hsz : x.id.size ≤ 9223372036854775807 := hok
  have hB : Below w.heap.size w (w.alloc (.cells #[.string x.id, .int .i64 x.level, .slice A x.near.length cap] 195)) := (Below.refl _ _).alloc (Nat.le_refl _) _
  have hx2 := hx.below' hB
  by_cases hl : left - (x.id.size : Int) < 0
  · go_enter Try.func138, Try.ntmps138
    go_wp2
    go_ret
    exact .no hB
  · go_enter Try.func138, Try.ntmps138
    go_wp2_with fail
    refine (szStringS_any _ _ _ _ _ hx2 (by omega) (by omega)).mono ?_
    rintro e w2 ⟨q, rfl, hq, hb2⟩
    have hbb := hB.trans (hb2.mono hB.size)
    by_cases hneg : q < 0
    · go_wp2
      go_ret
      exact .no hbb
    · have hq2 : 0 ≤ q ∧ q + (totStringS x.near : Nat) = left - (x.id.size : Int) := by
        rcases hq with h | h
        · omega
        · exact h
      have HQ := Lib.hid hq2.2
      clear hq hq2
      go_wp2
      go_ret
      exact .yes (by omega) (by have := HQ.out; unfold totRegion; omega) hbb
set_option maxRecDepth 100000 in
set_option maxHeartbeats 2000000 in
theorem szRegionS_any (v : Value) (xs : List DRegion) (fp : List Nat) (left : Int) (w : World) (hx : Sl cRegion w v xs fp) (h0 : 0 ≤ left) (h1 : left ≤ 1048576) :
    Calls Try.prog 54 #[v, .int .i64 left] w fun e w' => SzR left (totRegionS xs) w e w' := by
  obtain ⟨A, cap, rfl, hlen, hcap⟩ := hx.form
  by_cases hl : left - (xs.length : Int) < 0
  · go_enter Try.func54, Try.ntmps54
    go_wp2
    go_ret
    exact .no (Below.refl _ _)
  · go_enter Try.func54, Try.ntmps54
    go_wp2
    go_loopw [1, 5] (fun l i wr => ∃ k : Nat, k ≤ xs.length ∧ i = .int .i64 k ∧ Below w.heap.size w wr ∧ ∃ r : Int, l = .int .i64 r ∧ 0 ≤ r ∧ r + (xs.length + ((xs.take k).map totRegion).sum : Nat) = left) (fun _ i _ => xs.length - (intOf i).toNat)
    case atStart => exact ⟨0, Nat.zero_le _, rfl, Below.refl _ _, _, rfl, by omega, by simp⟩
    case round =>
      obtain ⟨k, hk, rfl, hb, r, rfl, hr0, hr⟩ := hrel
      have HR := Lib.hid hr
      clear hr
      have hr1 : r ≤ 1048576 := by have := HR.out; omega
      by_cases hlt : k < xs.length
      · obtain ⟨b, off, vk, fk, rfl, hc0, hc1, hc2, hs0, _, _, hok, _⟩ := (hx.below' hb).reg hlt
        obtain ⟨A1, cap1, rfl, _, _⟩ := hs0.form
        go_wp2_with fail
        refine (szRegion_any xs[k] _ _ r _ hs0 hok hr0 hr1).mono ?_
        rintro e w2 ⟨q, rfl, hq, hb2⟩
        have hbb := hb.trans (hb2.mono hb.size)
        by_cases hneg : q < 0
        · go_wp2
          go_ret
          exact .no hbb
        · have hq2 : 0 ≤ q ∧ q + (totRegion xs[k] : Nat) = r := by
            rcases hq with h | h
            · omega
            · exact h
          have HQ := Lib.hid hq2.2
          clear hq hq2 hc0 hc1 hc2
          go_wp2
          go_roundw
          case rel => exact ⟨k + 1, by omega, by go_num, hbb, _, rfl, by omega, by have := HR.out; have := HQ.out; have hst := sum_take_step_ totRegion xs k hlt; omega⟩
          case measure => simp [intOf]; omega
      · go_wp2
        go_ret
        exact .yes hr0 (by have := HR.out; rw [List.take_of_length_le (by omega)] at this; unfold totRegionS; exact this) hb
set_option maxRecDepth 100000 in
set_option maxHeartbeats 2000000 in
theorem eqRegion_any (x : DRegion) (v v' : Value) (fp fp' : List Nat) (w : World) (hx : Sl fStr.cod w v x.near fp) (hy : Sl fStr.cod w v' x.near fp') :
    Calls Try.prog 159 #[.agg #[.string x.id, .int .i64 x.level, v], .agg #[.string x.id, .int .i64 x.level, v']] w fun e w' => YesR w e w' := by
  obtain ⟨A, cap, rfl, hlen, hcap⟩ := hx.form
  obtain ⟨A', cap', rfl, hlen', hcap'⟩ := hy.form
  have hB : Below w.heap.size w ((w.alloc (.cells #[.string x.id, .int .i64 x.level, .slice A x.near.length cap] 202)).alloc (.cells #[.string x.id, .int .i64 x.level, .slice A' x.near.length cap'] 202)) := ((Below.refl _ _).alloc (Nat.le_refl _) _).alloc (by simp) _
  have hx2 := hx.below' hB
  have hy2 := hy.below' hB
  go_enter Try.func159, Try.ntmps159
  go_wp2_with fail
  refine (eqStringS_any _ _ _ _ _ _ hx2 hy2).mono ?_
  rintro e w1 ⟨rfl, hb⟩
  go_wp2
  go_ret
  exact ⟨rfl, hB.trans (hb.mono hB.size)⟩
set_option maxRecDepth 100000 in
set_option maxHeartbeats 4000000 in
theorem eqRegionS_any (v v' : Value) (xs : List DRegion) (fp fp' : List Nat) (w : World) (hx : Sl cRegion w v xs fp) (hy : Sl cRegion w v' xs fp') :
    Calls Try.prog 91 #[v, v'] w fun e w' => YesR w e w' := by
  obtain ⟨A, cap, rfl, hlen, hcap⟩ := hx.form
  obtain ⟨A', cap', rfl, hlen', hcap'⟩ := hy.form
  go_enter Try.func91, Try.ntmps91
  go_wp2
  go_loopw [5] (fun i wr => ∃ k : Nat, k ≤ xs.length ∧ i = .int .i64 k ∧ Below w.heap.size w wr) (fun i _ => xs.length - (intOf i).toNat)
  case atStart => exact ⟨0, Nat.zero_le _, rfl, Below.refl _ _⟩
  case round =>
    obtain ⟨k, hk, rfl, hb⟩ := hrel
    by_cases hlt : k < xs.length
    · obtain ⟨b, off, vk, fk, rfl, hc0, hc1, hc2, hs0, _⟩ := (hx.below' hb).reg hlt
      obtain ⟨b', off', vk', fk', rfl, hd0, hd1, hd2, hs1, _⟩ := (hy.below' hb).reg hlt
      obtain ⟨A1, cap1, rfl, _, _⟩ := hs0.form
      obtain ⟨A2, cap2, rfl, _, _⟩ := hs1.form
      go_wp2
      have ghc0 := cell_regrown hc0
      have ghc1 := cell_regrown hc1
      have ghc2 := cell_regrown hc2
      have ghd0 := cell_regrown hd0
      have ghd1 := cell_regrown hd1
      have ghd2 := cell_regrown hd2
      refine wp_region_mix (C := fun w' => ∃ p : Regrown, w' = Go.Sort.grow (redrawn wr p.d) p.os) [true, true, true, true, true, true, true, true, false, true] (by kernel_rfl) (by kernel_rfl) (by kernel_rfl) (fun _ _ d _ _ h => by cases d <;> exact h) (regrown_of_below (Below.drew (Below.refl _ _))) ?_
      have hS0 : Below (wr.heap.size) wr wr.drew := Below.drew (Below.refl _ _)
      refine wpMix_pure (by kernel_rfl) (fun K hK => ?_)
      go_big_quiet_op
      refine hK _ ?_; clear hK K
      refine wpMix_pure (by kernel_rfl) (fun K hK => ?_)
      go_big_quiet_op
      refine hK _ ?_; clear hK K
      refine wpMix_pure (by kernel_rfl) (fun K hK => ?_)
      go_big_quiet_op
      refine hK _ ?_; clear hK K
      refine wpMix_pure (by kernel_rfl) (fun K hK => ?_)
      go_big_quiet_op
      refine hK _ ?_; clear hK K
      refine wpMix_pure (by kernel_rfl) (fun K hK => ?_)
      go_big_quiet_op
      refine hK _ ?_; clear hK K
      refine wpMix_pure (by kernel_rfl) (fun K hK => ?_)
      go_big_quiet_op
      refine hK _ ?_; clear hK K
      refine wpMix_pure (by kernel_rfl) (fun K hK => ?_)
      go_big_quiet_op
      refine hK _ ?_; clear hK K
      refine wpMix_pure (by kernel_rfl) (fun K hK => ?_)
      go_big_quiet_op
      refine hK _ ?_; clear hK K
      refine wpMix_act (by kernel_rfl) (fun K hK => ?_)
      go_big_op
      refine (eqRegion_any xs[k] _ _ _ _ _ (hs0.below' hS0) (hs1.below' hS0)).mono ?_
      rintro e wr1 ⟨rfl, hbr1⟩
      have hbr1S : Below (wr.heap.size) wr wr1 := hS0.trans (hbr1.mono hS0.size)
      refine hK _ _ (regrown_of_below hbr1S) ?_
      clear hK K
      refine wpMix_pure (by kernel_rfl) (fun K hK => ?_)
      go_big_quiet_op
      refine hK _ ?_; clear hK K
      refine wpMix_nil ?_
      have hbb := hb.trans (hbr1S.mono hb.size)
      go_wp2
      go_roundw
      case rel => exact ⟨k + 1, by omega, by go_num, hbb⟩
      case measure => simp [intOf]; omega
    · go_wp2
      go_ret
      exact ⟨rfl, hb⟩

theorem Only.setIn {fp : List Nat} {w w' : World} {g : Nat} (h : Only fp w w') (hg : g ∈ fp) (o : Nat) (u : Value) : Only fp w (w'.setCell ⟨g, o, none⟩ u) :=
  ⟨h.os, h.tape, h.output, by simpa [World.setCell] using h.size, fun i hi hn => (Below.heap_setCell w' ⟨g, o, none⟩ u i (fun e => hn (by rw [e]; exact hg))).trans (h.block i hi hn)⟩
theorem three_mid (w : World) (o1 o3 : Obj) (cs : Array Value) (T : TypeId) (j : Nat) : (((w.alloc o1).alloc (.cells cs T)).alloc o3).cell? ⟨w.heap.size + 1, j, none⟩ = cs[j]? ∧ (((w.alloc o1).alloc (.cells cs T)).alloc o3).frozen? ⟨w.heap.size + 1, j, none⟩ = false := by
  have hb := (Below.refl ((w.alloc o1).alloc (.cells cs T)).heap.size ((w.alloc o1).alloc (.cells cs T))).alloc (Nat.le_refl _) o3
  have hlt : w.heap.size + 1 < ((w.alloc o1).alloc (.cells cs T)).heap.size := by rw [World.size_alloc, World.size_alloc]; omega
  have h2 : ((w.alloc o1).alloc (.cells cs T)).cell? ⟨(w.alloc o1).heap.size, j, none⟩ = cs[j]? := by rw [World.cell?_alloc_at _ _ _ _ rfl]
  have h3 : ((w.alloc o1).alloc (.cells cs T)).frozen? ⟨(w.alloc o1).heap.size, j, none⟩ = false := by rw [World.frozen?_alloc_at _ _ _ _ rfl]
  rw [World.size_alloc] at h2 h3
  exact ⟨(hb.cell (p := ⟨w.heap.size + 1, j, none⟩) hlt).trans h2, (hb.frozen (p := ⟨w.heap.size + 1, j, none⟩) hlt).trans h3⟩
theorem three_top (w : World) (o1 o2 : Obj) (cs : Array Value) (T : TypeId) (j : Nat) : (((w.alloc o1).alloc o2).alloc (.cells cs T)).cell? ⟨w.heap.size + 1 + 1, j, none⟩ = cs[j]? ∧ (((w.alloc o1).alloc o2).alloc (.cells cs T)).frozen? ⟨w.heap.size + 1 + 1, j, none⟩ = false := by
  have h2 : (((w.alloc o1).alloc o2).alloc (.cells cs T)).cell? ⟨((w.alloc o1).alloc o2).heap.size, j, none⟩ = cs[j]? := by rw [World.cell?_alloc_at _ _ _ _ rfl]
  have h3 : (((w.alloc o1).alloc o2).alloc (.cells cs T)).frozen? ⟨((w.alloc o1).alloc o2).heap.size, j, none⟩ = false := by rw [World.frozen?_alloc_at _ _ _ _ rfl]
  rw [World.size_alloc, World.size_alloc] at h2 h3
  exact ⟨h2, h3⟩
theorem hit_cellG {w : World} {p : Addr} {x : Value} (h : (w.cell? p).isSome = true) : (w.setCell p x).cell? p = some x := by
  obtain ⟨v, hv⟩ := Option.isSome_iff_exists.1 h
  exact World.cell?_setCell_same w p x hv
set_option maxRecDepth 100000 in
set_option maxHeartbeats 4000000 in
theorem toRegion_any (x : DRegion) (v : Value) (fp : List Nat) (w : World) (hx : Sl fStr.cod w v x.near fp) (hl : x.near.length ≤ 1048576) :
    Calls Try.prog 147 #[.agg #[.string x.id, .int .i64 x.level, v]] w fun e w' => ∃ A c, e = .returned (.agg #[.string x.id, .int .i64 x.level, .slice A x.near.length c]) ∧ New fStr.cod w (.slice A x.near.length c) x.near w' := by
  obtain ⟨A, cap, rfl, hlen, hcap⟩ := hx.form
  have hB : Below w.heap.size w (((w.alloc (.cells #[.string x.id, .int .i64 x.level, .slice A x.near.length cap] 195)).alloc (.cells #[.string ⟨#[]⟩, .int .i64 0, .slice none 0 0] 202)).alloc (.cells #[.string x.id, .int .i64 x.level, .slice none 0 0] 202)) := (((Below.refl _ _).alloc (Nat.le_refl _) _).alloc (by simp) _).alloc (by simp; omega) _
  have hx2 := hx.below' hB
  have d0 : (((w.alloc (.cells #[.string x.id, .int .i64 x.level, .slice A x.near.length cap] 195)).alloc (.cells #[.string ⟨#[]⟩, .int .i64 0, .slice none 0 0] 202)).alloc (.cells #[.string x.id, .int .i64 x.level, .slice none 0 0] 202)).cell? ⟨w.heap.size + 1, 0, none⟩ = some (.string ⟨#[]⟩) := (three_mid _ _ _ _ _ _).1
  have d1 : (((w.alloc (.cells #[.string x.id, .int .i64 x.level, .slice A x.near.length cap] 195)).alloc (.cells #[.string ⟨#[]⟩, .int .i64 0, .slice none 0 0] 202)).alloc (.cells #[.string x.id, .int .i64 x.level, .slice none 0 0] 202)).cell? ⟨w.heap.size + 1, 1, none⟩ = some (.int .i64 0) := (three_mid _ _ _ _ _ _).1
  have d2 : (((w.alloc (.cells #[.string x.id, .int .i64 x.level, .slice A x.near.length cap] 195)).alloc (.cells #[.string ⟨#[]⟩, .int .i64 0, .slice none 0 0] 202)).alloc (.cells #[.string x.id, .int .i64 x.level, .slice none 0 0] 202)).cell? ⟨w.heap.size + 1, 2, none⟩ = some (.slice none 0 0) := (three_mid _ _ _ _ _ _).1
  have e0 : (((w.alloc (.cells #[.string x.id, .int .i64 x.level, .slice A x.near.length cap] 195)).alloc (.cells #[.string ⟨#[]⟩, .int .i64 0, .slice none 0 0] 202)).alloc (.cells #[.string x.id, .int .i64 x.level, .slice none 0 0] 202)).cell? ⟨w.heap.size + 1 + 1, 0, none⟩ = some (.string x.id) := (three_top _ _ _ _ _ _).1
  have e1 : (((w.alloc (.cells #[.string x.id, .int .i64 x.level, .slice A x.near.length cap] 195)).alloc (.cells #[.string ⟨#[]⟩, .int .i64 0, .slice none 0 0] 202)).alloc (.cells #[.string x.id, .int .i64 x.level, .slice none 0 0] 202)).cell? ⟨w.heap.size + 1 + 1, 1, none⟩ = some (.int .i64 x.level) := (three_top _ _ _ _ _ _).1
  have e2 : (((w.alloc (.cells #[.string x.id, .int .i64 x.level, .slice A x.near.length cap] 195)).alloc (.cells #[.string ⟨#[]⟩, .int .i64 0, .slice none 0 0] 202)).alloc (.cells #[.string x.id, .int .i64 x.level, .slice none 0 0] 202)).cell? ⟨w.heap.size + 1 + 1, 2, none⟩ = some (.slice none 0 0) := (three_top _ _ _ _ _ _).1
  have zz1 : ∀ j, (((w.alloc (.cells #[.string x.id, .int .i64 x.level, .slice A x.near.length cap] 195)).alloc (.cells #[.string ⟨#[]⟩, .int .i64 0, .slice none 0 0] 202)).alloc (.cells #[.string x.id, .int .i64 x.level, .slice none 0 0] 202)).frozen? ⟨w.heap.size + 1, j, none⟩ = false := fun j => (three_mid _ _ _ _ _ _).2
  have zz2 : ∀ j, (((w.alloc (.cells #[.string x.id, .int .i64 x.level, .slice A x.near.length cap] 195)).alloc (.cells #[.string ⟨#[]⟩, .int .i64 0, .slice none 0 0] 202)).alloc (.cells #[.string x.id, .int .i64 x.level, .slice none 0 0] 202)).frozen? ⟨w.heap.size + 1 + 1, j, none⟩ = false := fun j => (three_top _ _ _ _ _ _).2
  have hsz : (((w.alloc (.cells #[.string x.id, .int .i64 x.level, .slice A x.near.length cap] 195)).alloc (.cells #[.string ⟨#[]⟩, .int .i64 0, .slice none 0 0] 202)).alloc (.cells #[.string x.id, .int .i64 x.level, .slice none 0 0] 202)).heap.size = w.heap.size + 1 + 1 + 1 := by simp
  go_enter Try.func147, Try.ntmps147
  go_wp2_with fail
  generalize (((w.alloc (.cells #[.string x.id, .int .i64 x.level, .slice A x.near.length cap] 195)).alloc (.cells #[.string ⟨#[]⟩, .int .i64 0, .slice none 0 0] 202)).alloc (.cells #[.string x.id, .int .i64 x.level, .slice none 0 0] 202)) = W at *
  refine (toStringS_any _ _ _ _ hx2 hl).mono ?_
  rintro e w2 ⟨y, rfl, ⟨⟨fy, hsy, hlo, hnd⟩, hb⟩⟩
  obtain ⟨Ay, cy, rfl, _, _⟩ := hsy.form
  replace d0 := (hb.cell (p := ⟨w.heap.size + 1, 0, none⟩) (by show w.heap.size + 1 < _; omega)).trans d0
  replace d1 := (hb.cell (p := ⟨w.heap.size + 1, 1, none⟩) (by show w.heap.size + 1 < _; omega)).trans d1
  replace d2 := (hb.cell (p := ⟨w.heap.size + 1, 2, none⟩) (by show w.heap.size + 1 < _; omega)).trans d2
  replace e0 := (hb.cell (p := ⟨w.heap.size + 1 + 1, 0, none⟩) (by show w.heap.size + 1 + 1 < _; omega)).trans e0
  replace e1 := (hb.cell (p := ⟨w.heap.size + 1 + 1, 1, none⟩) (by show w.heap.size + 1 + 1 < _; omega)).trans e1
  replace e2 := (hb.cell (p := ⟨w.heap.size + 1 + 1, 2, none⟩) (by show w.heap.size + 1 + 1 < _; omega)).trans e2
  have z0 := (hb.frozen (p := ⟨w.heap.size + 1, 0, none⟩) (by show w.heap.size + 1 < _; omega)).trans (zz1 0)
  have z1 := (hb.frozen (p := ⟨w.heap.size + 1, 1, none⟩) (by show w.heap.size + 1 < _; omega)).trans (zz1 1)
  have z2 := (hb.frozen (p := ⟨w.heap.size + 1, 2, none⟩) (by show w.heap.size + 1 < _; omega)).trans (zz1 2)
  have y2 := (hb.frozen (p := ⟨w.heap.size + 1 + 1, 2, none⟩) (by show w.heap.size + 1 + 1 < _; omega)).trans (zz2 2)
  have hbb := hB.trans (hb.mono hB.size)
  have hlo2 : ∀ b ∈ fy, w.heap.size + 3 ≤ b := fun b hbm => by have := hlo b hbm; omega
  have hbs := hbb.size
  clear zz1 zz2 hb hlo hx2
  go_wp2
  refine bodyPost_ret (v := .agg #[.string x.id, .int .i64 x.level, .slice Ay x.near.length cy]) (by simp [results, hit_cellG, d0, d1, d2, e0, e1, e2, Try.results147, go_sem]) rfl ⟨Ay, cy, rfl, ⟨⟨fy, hsy.only (fp' := [w.heap.size + 1, w.heap.size + 1 + 1]) ?_ ?_, fun b hbm => by have := hlo2 b hbm; omega, hnd⟩, ?_⟩⟩
  · repeat (refine Only.setIn ?_ (by simp) _ _)
    exact Only.refl _ _
  · intro b h1 h2
    have := hlo2 b h1
    simp at h2
    omega
  · exact ((((hbb.setCell (show w.heap.size ≤ w.heap.size + 1 + 1 by omega) _).setCell (show w.heap.size ≤ w.heap.size + 1 by omega) _).setCell (show w.heap.size ≤ w.heap.size + 1 by omega) _).setCell (show w.heap.size ≤ w.heap.size + 1 by omega) _)

/-- A row of regions that the call fills one by one. -/
def RSt (w : World) (g : Nat) (T : TypeId) (xs : List DRegion) (k : Nat) : Prop :=
  ∃ (V : Nat → Value) (F : Nat → List Nat), Fill w g g T 3 xs.length ((List.range k).flatMap fun i => [.string (xs.getD i rg0).id, .int .i64 (xs.getD i rg0).level, V i]) ∧ RRows w g 0 k V (fun i => xs.getD i rg0) F ∧ ((List.range k).flatMap F).Nodup ∧ (∀ c ∈ (List.range k).flatMap F, g < c ∧ c < w.heap.size)
theorem RSt.start (w : World) (T : TypeId) (z : Array Value) (xs : List DRegion) (hn : xs.length ≤ 9223372036854775807) : RSt (w.alloc (.cells (madeCells z (xs.length * 3)) T)) w.heap.size T xs 0 :=
  ⟨fun _ => undef, fun _ => [], by simpa using Fill.start w T 3 xs.length z hn, ⟨fun _ h => absurd h (Nat.not_lt_zero _), fun _ h => absurd h (Nat.not_lt_zero _), fun _ h => absurd h (Nat.not_lt_zero _), fun _ h => absurd h (Nat.not_lt_zero _), fun _ h => absurd h (Nat.not_lt_zero _), fun _ h => absurd h (Nat.not_lt_zero _)⟩, by simp, by simp⟩
section
variable {w w' : World} {g : Nat} {T : TypeId} {xs : List DRegion} {k : Nat}
theorem RSt.lt (h : RSt w g T xs k) : g < w.heap.size := by
  obtain ⟨V, F, h1, _⟩ := h
  exact h1.lt
theorem RSt.below (h : RSt w g T xs k) (hb : Below w.heap.size w w') : RSt w' g T xs k := by
  obtain ⟨V, F, h1, h2, h4, h5⟩ := h
  exact ⟨V, F, h1.below hb h1.lt, h2.below h1.lt hb, h4, fun c hc => ⟨(h5 c hc).1, Nat.lt_of_lt_of_le (h5 c hc).2 hb.size⟩⟩
theorem RSt.cell (h : RSt w g T xs k) {j : Nat} (hj : j < xs.length * 3) : ∃ u, w.cell? ⟨g, j, none⟩ = some u := by
  obtain ⟨V, F, h1, _⟩ := h
  exact h1.cell hj
theorem RSt.frozen (h : RSt w g T xs k) (j : Nat) : w.frozen? ⟨g, j, none⟩ = false := by
  obtain ⟨V, F, h1, _⟩ := h
  exact h1.frozen j
theorem RSt.next (h : RSt w g T xs k) (hk : k < xs.length) {y : Value} (hok : fStr.ok xs[k].id ∧ fInt.ok xs[k].level) (hn : New fStr.cod w y xs[k].near w') :
    RSt (((w'.setCell ⟨g, k * 3, none⟩ (.string xs[k].id)).setCell ⟨g, k * 3 + 1, none⟩ (.int .i64 xs[k].level)).setCell ⟨g, k * 3 + 2, none⟩ y) g T xs (k + 1) := by
  have hg := h.lt
  obtain ⟨V, F, h1, h2, h4, h5⟩ := h
  obtain ⟨⟨f, hs, hlo, hnd⟩, hb⟩ := hn
  generalize hW : ((w'.setCell ⟨g, k * 3, none⟩ (.string xs[k].id)).setCell ⟨g, k * 3 + 1, none⟩ (.int .i64 xs[k].level)).setCell ⟨g, k * 3 + 2, none⟩ y = W
  have ho : Only [g] w' W := by rw [← hW]; exact (((Only.refl _ _).set _ _).set _ _).set _ _
  have hgd : xs.getD k rg0 = xs[k] := by simp [List.getD_eq_getElem?_getD, hk]
  have hne : ∀ c, g < c → c ∉ [g] := fun c hc hm => by rw [List.mem_singleton] at hm; omega
  have em : (List.range (k + 1)).flatMap (fun i => [Value.string (xs.getD i rg0).id, Value.int .i64 (xs.getD i rg0).level, (fun i => if i = k then y else V i) i]) = (List.range k).flatMap (fun i => [Value.string (xs.getD i rg0).id, Value.int .i64 (xs.getD i rg0).level, V i]) ++ [.string xs[k].id] ++ [.int .i64 xs[k].level] ++ [y] := by
    rw [List.range_succ, List.flatMap_append, List.flatMap_cons, List.flatMap_nil, List.append_nil]
    have e0 : (List.range k).flatMap (fun i => [Value.string (xs.getD i rg0).id, Value.int .i64 (xs.getD i rg0).level, (fun i => if i = k then y else V i) i]) = (List.range k).flatMap (fun i => [Value.string (xs.getD i rg0).id, Value.int .i64 (xs.getD i rg0).level, V i]) := by
      rw [List.flatMap_def, List.flatMap_def]
      congr 1
      exact List.map_congr_left (fun i hi => by
        have : i ≠ k := by have : i < k := by simpa using hi
                           omega
        simp only [if_neg this])
    rw [e0, hgd]
    simp
  have ef : (List.range (k + 1)).flatMap (fun i => if i = k then f else F i) = (List.range k).flatMap F ++ f := by
    rw [List.range_succ, List.flatMap_append, List.flatMap_cons, List.flatMap_nil, if_pos rfl, List.append_nil]
    congr 1
    rw [List.flatMap_def, List.flatMap_def]
    congr 1
    exact List.map_congr_left (fun i hi => if_neg (by have : i < k := by simpa using hi
                                                      omega))
  have hf2 : Fill w' g g T 3 xs.length ((List.range k).flatMap fun i => [.string (xs.getD i rg0).id, .int .i64 (xs.getD i rg0).level, V i]) := h1.below hb hg
  have hl : ((List.range k).flatMap fun i => [Value.string (xs.getD i rg0).id, Value.int .i64 (xs.getD i rg0).level, V i]).length = k * 3 := by
    rw [flat_len _ 3 _ (fun _ _ => rfl)]; simp
  have hgw : g < w'.heap.size := Nat.lt_of_lt_of_le hg hb.size
  have h2' := h2.below hg hb
  have hk3 : k * 3 + 3 ≤ xs.length * 3 := by omega
  have p1 := hf2.put_at (p := k * 3) hl.symm (by omega) (.string xs[k].id)
  have p2 := p1.put_at (p := k * 3 + 1) (by rw [List.length_append, hl]; rfl) (by omega) (.int .i64 xs[k].level)
  have p3 := p2.put_at (p := k * 3 + 2) (by rw [List.length_append, List.length_append, hl]; rfl) (by omega) y
  rw [hW] at p3
  have hcell : ∀ j, j ≠ k * 3 → j ≠ k * 3 + 1 → j ≠ k * 3 + 2 → W.cell? ⟨g, j, none⟩ = w'.cell? ⟨g, j, none⟩ := fun j a1 a2 a3 => by
    rw [← hW, World.cell?_setCell_other _ _ _ _ (fun e => by injection e with _ e _; exact a3 e.symm), World.cell?_setCell_other _ _ _ _ (fun e => by injection e with _ e _; exact a2 e.symm), World.cell?_setCell_other _ _ _ _ (fun e => by injection e with _ e _; exact a1 e.symm)]
  obtain ⟨zs, hz⟩ := p3
  have q : ∀ j, j < 3 → W.cell? ⟨g, k * 3 + j, none⟩ = [Value.string xs[k].id, Value.int .i64 xs[k].level, y][j]? := fun j hj => by
    rw [hz.cellAt _ (by omega), List.append_assoc, List.append_assoc, List.append_assoc, List.getElem?_append_right (by rw [hl]; omega), hl, show k * 3 + j - k * 3 = j by omega]
    match j, hj with
    | 0, _ => rfl
    | 1, _ => rfl
    | 2, _ => rfl
  refine ⟨fun i => if i = k then y else V i, fun i => if i = k then f else F i, ?_, ⟨fun i hi => ?_, fun i hi => ?_, fun i hi => ?_, fun i hi j hj => hz.frozenAt _, fun i hi => ?_, fun i hi => ?_⟩, ?_, ?_⟩
  · rw [em]; exact ⟨zs, hz⟩
  · rw [Nat.zero_add]
    by_cases e : i = k
    · subst e; rw [hgd]; exact q 0 (by omega)
    · rw [hcell _ (by omega) (by omega) (by omega)]
      have := h2'.c0 i (by omega); rw [Nat.zero_add] at this; exact this
  · rw [Nat.zero_add]
    by_cases e : i = k
    · subst e; rw [hgd]; exact q 1 (by omega)
    · rw [hcell _ (by omega) (by omega) (by omega)]
      have := h2'.c1 i (by omega); rw [Nat.zero_add] at this; exact this
  · rw [Nat.zero_add]
    by_cases e : i = k
    · subst e; rw [if_pos rfl]; exact q 2 (by omega)
    · rw [hcell _ (by omega) (by omega) (by omega), if_neg e]
      have := h2'.c2 i (by omega); rw [Nat.zero_add] at this; exact this
  · by_cases e : i = k
    · subst e; rw [hgd]; exact hok
    · exact h2.ok i (by omega)
  · by_cases e : i = k
    · subst e; rw [if_pos rfl, if_pos rfl, hgd]
      exact hs.only ho (fun b hb' => hne b (by have := hlo b hb'; omega))
    · rw [if_neg e, if_neg e]
      exact (h2'.rd i (by omega)).only ho (fun b hb' => hne b (h5 b (List.mem_flatMap.2 ⟨i, by simp; omega, hb'⟩)).1)
  · rw [ef, List.nodup_append]
    exact ⟨h4, hnd, fun a ha b hb' e => by have := (h5 a ha).2; have := hlo b hb'; omega⟩
  · rw [ef]
    intro c hc
    have hsz : W.heap.size = w'.heap.size := by rw [← hW]; simp
    rcases List.mem_append.1 hc with hc | hc
    · exact ⟨(h5 c hc).1, by rw [hsz]; exact Nat.lt_of_lt_of_le (h5 c hc).2 hb.size⟩
    · exact ⟨by have := hlo c hc; omega, by rw [hsz]; exact hs.lt c hc⟩
theorem RSt.done (h : RSt w g T xs xs.length) (hm : xs.length ≤ maxLen) : ∃ fp, Sl cRegion w (.slice (some ⟨g, 0, none⟩) xs.length xs.length) xs fp ∧ (∀ b ∈ fp, g ≤ b) ∧ fp.Nodup := by
  have hg := h.lt
  obtain ⟨V, F, h1, h2, h4, h5⟩ := h
  refine ⟨_, h2.sl hg rfl (fun i hi => by simp [List.getD_eq_getElem?_getD, hi]) (Nat.le_refl _) hm, ?_, ?_⟩
  · intro b hb
    rcases List.mem_cons.1 hb with rfl | hb
    · exact Nat.le_refl _
    · exact Nat.le_of_lt (h5 b hb).1
  · rw [List.nodup_cons]
    exact ⟨fun hm' => Nat.lt_irrefl _ (h5 _ hm').1, h4⟩
end
theorem infoRegionS : (Try.prog.info? 202).map (fun i => (i.zero, i.size, i.bytes)) = some (some (.agg #[.string ⟨#[]⟩, .int .i64 0, .slice none 0 0]), 3, 48) := by kernel_rfl
set_option maxRecDepth 100000 in
set_option maxHeartbeats 4000000 in
theorem toRegionS_any (v : Value) (xs : List DRegion) (fp : List Nat) (w : World) (hx : Sl cRegion w v xs fp) (h1 : totRegionS xs ≤ 1048576) :
    Calls Try.prog 68 #[v] w fun e w' => NewR cRegion w xs e w' := by
  obtain ⟨A, cap, rfl, hlen, hcap⟩ := hx.form
  obtain ⟨i0, hi, hz0, hz1, hz2⟩ := info_parts infoRegionS
  have hl1 : xs.length ≤ 1048576 := by unfold totRegionS at h1; omega
  have hmk := fun W => run_make_rowN (P := Try.prog) 44 202 i0 _ Try.underlying44 hi hz0 .i64 .i64 xs.length xs.length (Nat.le_refl _) (by rw [hz2]; omega) (by omega) W
  rw [hz1] at hmk
  have hrl : ∀ r ∈ xs, r.near.length ≤ 1048576 := fun r hr => by
    have := totRegionS_mem hr
    unfold totRegion totStringS at this
    omega
  clear h1
  go_enter Try.func68, Try.ntmps68
  go_wp2
  go_loopw [4] (fun i wr => ∃ k : Nat, k ≤ xs.length ∧ i = .int .i64 k ∧ RSt wr w.heap.size 202 xs k ∧ Below w.heap.size w wr) (fun i _ => xs.length - (intOf i).toNat)
  case atStart => exact ⟨0, Nat.zero_le _, rfl, RSt.start w _ _ _ (by omega), (Below.refl _ _).alloc (Nat.le_refl _) _⟩
  case round =>
    obtain ⟨k, hk, rfl, hst, hb⟩ := hrel
    by_cases hlt : k < xs.length
    · obtain ⟨b, off, vk, fk, rfl, hc0, hc1, hc2, hs0, _, _, hok⟩ := (hx.below' hb).reg hlt
      obtain ⟨A1, cap1, rfl, _, _⟩ := hs0.form
      go_wp2_with fail
      refine (toRegion_any xs[k] _ _ _ hs0 (hrl _ (List.getElem_mem hlt))).mono ?_
      rintro e w2 ⟨Ay, cy, rfl, hn⟩
      have hst1 := hst.below hn.below
      obtain ⟨u0, hu0⟩ := hst1.cell (j := k * 3) (by omega)
      obtain ⟨u1, hu1⟩ := hst1.cell (j := k * 3 + 1) (by omega)
      obtain ⟨u2, hu2⟩ := hst1.cell (j := k * 3 + 2) (by omega)
      have hz0' := hst1.frozen (k * 3)
      have hz1' := hst1.frozen (k * 3 + 1)
      have hz2' := hst1.frozen (k * 3 + 2)
      have hst2 := hst.next hlt hok hn
      have hb2 := hb.trans (hn.below.mono hb.size)
      have hb3 : Below w.heap.size w (((w2.setCell ⟨w.heap.size, k * 3, none⟩ (.string xs[k].id)).setCell ⟨w.heap.size, k * 3 + 1, none⟩ (.int .i64 xs[k].level)).setCell ⟨w.heap.size, k * 3 + 2, none⟩ (.slice Ay xs[k].near.length cy)) := ((hb2.setCell (Nat.le_refl _) _).setCell (Nat.le_refl _) _).setCell (Nat.le_refl _) _
      clear hst hst1 hc0 hc1 hc2
      go_wp2
      go_roundw
      case rel => exact ⟨k + 1, by omega, by go_num, hst2, hb3⟩
      case measure => simp [intOf]; omega
    · have hk' : k = xs.length := by omega
      subst hk'
      go_wp2
      go_ret
      exact ⟨_, rfl, hst.done (by unfold maxLen; omega), hb⟩

def Kr (k0 : Int) (ns : List Nat) (i : Nat) : Int := k0 + 2 * (i : Int) + (preS ns i : Int)
def mkReg (k0 : Int) (ns : List Nat) (i : Nat) : DRegion := ⟨mt (Kr k0 ns i), Kr k0 ns i + 1, marksString (Kr k0 ns i + 1 + 1) (ns.getD i 0)⟩
def marksRegion (k0 : Int) (ns : List Nat) : List DRegion := (List.range ns.length).map (mkReg k0 ns)
theorem marksRegion_len (k0 : Int) (ns : List Nat) : (marksRegion k0 ns).length = ns.length := by simp [marksRegion]
theorem marksRegion_get (k0 : Int) (ns : List Nat) (i : Nat) (h : i < (marksRegion k0 ns).length) : (marksRegion k0 ns)[i] = mkReg k0 ns i := by simp [marksRegion]
def lensR (xs : List DRegion) : List Nat := xs.map fun r => r.near.length

end Go.Proofs.Ythejcbhplgjmgaa
