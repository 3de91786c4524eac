
/- What makes a day valid. Plain laws. By hand. -/
import Derived.Test.YtpebibegdeioeaaUs
import Derived.Test.YtpebibegdeioeaaDsd
import Derived.Test.YtpebibegdeioeaaNm
import Derived.Test.YtpebibegdeioeaaAll
import Derived.Test.YtpebibegdeioeaaGt
import Derived.Test.YtpebibegdeioeaaGr
namespace Go.Proofs.Ytpebibegdeioeaa
open Go.RowKit
set_option linter.unusedVariables false

def massB (g : DGrid) (ms : List Int) : Bool := allG ms 0 1000000 && decide ((ms.length : Int) = g.rows * g.columns)
/-- The code of a grid, a friction and masses. -/
def routeC (g : DGrid) (ms : List Int) (fr : Int) : Int := if gridB g = false then 1 else if inB fr 1 5000 = false then 2 else if massB g ms = false then 7 else 0
theorem routeC_zero {g : DGrid} {ms : List Int} {fr : Int} : routeC g ms fr = 0 ↔ gridB g = true ∧ inB fr 1 5000 = true ∧ massB g ms = true := by
  unfold routeC
  cases gridB g <;> cases inB fr 1 5000 <;> cases massB g ms <;> simp
def riseOk (xs : List Int) (lo hi : Int) (i : Nat) : Bool := inB (xs.getD i 0) lo hi && (decide (i = 0) || decide (xs.getD (i - 1) 0 < xs.getD i 0))
def risesB (xs : List Int) (lo hi : Int) : Bool := allIdx (riseOk xs lo hi) xs.length
def incrOk (xs : List Int) (i : Nat) : Bool := decide (i = 0) || decide (xs.getD (i - 1) 0 < xs.getD i 0)
def incrB (xs : List Int) : Bool := allIdx (incrOk xs) xs.length
theorem allG_idx (xs : List Int) (lo hi : Int) : allG xs lo hi = allIdx (fun i => inB (xs.getD i 0) lo hi) xs.length := by
  rw [Bool.eq_iff_iff, allIdx_true, allG_true]
  constructor
  · intro h i hi
    have := h _ (List.getElem_mem hi)
    rw [List.getD_eq_getElem?_getD, List.getElem?_eq_getElem hi]
    exact inB_true.2 this
  · intro h x hx
    obtain ⟨i, hi, rfl⟩ := List.getElem_of_mem hx
    have := h i hi
    rw [List.getD_eq_getElem?_getD, List.getElem?_eq_getElem hi] at this
    exact inB_true.1 this
theorem rises_split (xs : List Int) (lo hi : Int) : risesB xs lo hi = (incrB xs && allG xs lo hi) := by
  rw [allG_idx]
  unfold risesB incrB
  rw [Bool.eq_iff_iff, Bool.and_eq_true, allIdx_true, allIdx_true, allIdx_true]
  constructor
  · intro h
    exact ⟨fun i hi => by have := h i hi; unfold riseOk at this; rw [Bool.and_eq_true] at this; exact this.2, fun i hi => by have := h i hi; unfold riseOk at this; rw [Bool.and_eq_true] at this; exact this.1⟩
  · intro h i hi
    unfold riseOk
    rw [Bool.and_eq_true]
    exact ⟨h.2 i hi, h.1 i hi⟩
def assetB (n : Int) (x : DAsset) : Bool := nameB x.id && (decide (0 < x.cells.length) && (risesB x.cells 0 (n - 1) && inB x.worth 0 1000000))
def assetOk (n : Int) (xs : List DAsset) (i : Nat) : Bool := assetB n (xs.getD i as0) && (decide (i = 0) || ltS (xs.getD (i - 1) as0).id (xs.getD i as0).id)
def assetsB (n : Int) (xs : List DAsset) : Bool := allIdx (assetOk n xs) xs.length && decide (xs.length ≤ 12)
theorem assetOk_zero {n : Int} {xs : List DAsset} (h : 0 < xs.length) : assetOk n xs 0 = assetB n xs[0] := by simp [assetOk, h]
theorem assetOk_succ {n : Int} {xs : List DAsset} {m : Nat} (h : m + 1 < xs.length) : assetOk n xs (m + 1) = (assetB n xs[m + 1] && ltS xs[m].id xs[m + 1].id) := by
  have h1 : m < xs.length := by omega
  simp [assetOk, h, h1]
theorem assetsB_bad {n : Int} {xs : List DAsset} {k : Nat} (h : k < xs.length) (h1 : assetOk n xs k = false) : assetsB n xs = false := by
  unfold assetsB; rw [allIdx_bad h h1]; rfl
def composeC (before now above fresh weak : Int) : Int := if levelB before && levelB now && inB above 0 5000 && inB fresh 0 500 && inB weak 0 500 then 0 else 2
def grdOf (x : DServ) : DGrid := ⟨x.rows, x.columns, x.size, x.he⟩
def slopeB (rise run : Int) : Bool := inB rise 0 1000 && inB run 1 1000
def numB (x : DServ) : Bool := (slopeB x.rise x.run && (inB x.doubt 0 1000 && (inB x.limit 0 1000000 && (levelB x.before && (levelB x.level && inB x.tonnes 0 1000000))))) && (inB x.above 0 5000 && (inB x.fresh 0 500 && inB x.weak 0 500))
def servB (x : DServ) : Bool := decide (routeC (grdOf x) x.ma x.friction = 0) && decide ((x.se.length : Int) = x.rows * x.columns) && profB x.pr && decide (0 < x.pr.length) && numB x && assetsB (x.rows * x.columns) x.as_ && gatesB x.ga && decide (x.ga.length = x.as_.length) && decide (x.tx.length = 4)
end Go.Proofs.Ytpebibegdeioeaa
