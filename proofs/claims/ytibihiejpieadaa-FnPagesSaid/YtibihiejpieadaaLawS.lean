
/- The step from a walk to a given row, the world's shape kept (for contracts of the library's that read a variable of its own). -/
import Derived.Test.YtibihiejpieadaaLaw
import Derived.HandedShaped
import Derived.Shelf.Vars
namespace Go.Proofs.Ytibihiejpieadaa
open Go.RowKit Go.WideShapes Go.ChangeShapes Go.ChangeAt

set_option maxRecDepth 100000 in
theorem law_liftedS {F : FuncId} {fn : Func} {s : ChangeSpec} (os : Os) (started : os.Started) (H : Type) (enc : TypeId × Value → H)
    (hfn : Try.checked.prog.funcs[F]? = some fn) (noInit : Try.checked.prog.inits.idxOf? F = none)
    (witness : ∃ (w : World) (tape : Tape) (i : Input), w.os = os ∧ (w.forCall tape i).Shaped Try.checked.prog ∧ i.vars = [] ∧ Input.okWide Try.checked.prog (w.forCall tape i) .any w.heap.size F i ∧
      s.pre6 enc Try.checked.prog fn [] false (w.forCall tape i).memory i.args ∧ ({} : Assume).holds Try.checked.prog (lone (Frame.enter Try.checked.prog F i.args .normal) [] (w.forCall tape i)))
    (hs : s.vars = []) (hres : fn.resultTypes = #[4]) (hread : ∀ t ∈ fn.params.toList, Try.prog.readableRec t = true ∧ t < Try.prog.types.size)
    (hspec : ∀ ds : List (DataW H), ds.length = fn.params.toList.length → s.fn H ds = { results := [.lit (.bool true)], args := ds })
    (walk : ∀ (W : World) (args : Array Value) (ds : List (DataW H)) (p : List MemPlace), W.ShapedOpen Try.prog → (∀ (j : Nat) t v, fn.params[j]? = some t → args[j]? = some v → ∃ base, Value.okWide Try.prog W .any base t v) →
      DataW.TrodAll enc Try.prog W 0 (fun _ => true) true fn.params.toList args.toList ds p → W.noneFrozen p → Calls Try.prog F args W fun e W' => e = .returned (.bool true) ∧ Below W.heap.size W W') :
    ReturnsInHanded {} Try.checked os F .any (s.pre6 enc Try.checked.prog fn [] false) (s.post enc Try.checked.prog fn false true false false) := by
  refine returnsInHanded_of_change_shaped (C := Try.checked) Try.own started noInit hfn witness ?_
  intro W base args ds gs before hval hW hcnd _ hsh _
  have hW' := hW
  obtain ⟨p, q, hA, hV, hpq, hfz, hnd⟩ := hW
  rw [hs] at hV
  obtain ⟨rfl, rfl⟩ := trodVars_none hV
  rw [List.append_nil] at hpq
  subst hpq
  refine (walk W args ds _ hsh (fun j t v h1 h2 => ⟨base, hval j t v h1 h2⟩) hA hfz).mono fun e W' ⟨he, hb⟩ => ?_
  subst he
  have hsp : s.fn H (ds ++ []) = { results := [.lit (.bool true)], args := ds } := by
    rw [List.append_nil]; exact hspec ds (trodAll_len _ _ _ _ hA)
  have hlt := fun x hx => hW'.lt x hx
  refine ⟨_, rfl, post_of_below (pa := before) (pv := []) hW' (fun b sp hd => ?_) (fun sp h => ?_) (fun sp h => ?_) (by simp) hb ?_⟩
  · rw [hsp, hres]; exact trodAll_mk1 (shut_bool Try.underlying4 _)
  · rw [hsp]; exact trodAll_below Try.laidOut hb _ _ _ _ hread hA hlt h
  · rw [hsp, hs]; rfl
  · rw [hres]; exact fun j t r h1 h2 => ok_one (f := fn) hres rfl (okWide_bool_mk Try.underlying4 _) j t r (by rw [hres]; exact h1) (by rw [hres]; exact h2)

/-- A variable of the library's own holds some number. -/
theorem maxLen_cell {w : World} (h : w.ShapedOpen Try.prog) : ∃ m, w.cell? ⟨0, 0, none⟩ = some (.int .i64 m) :=
  Go.Proofs.cell_of_shapedOpen_int (zero := #[.int .i64 0]) (t := 3) h (of_decide_eq_true (by kernel_rfl)) (by kernel_rfl) rfl (by kernel_rfl) (by kernel_rfl) Try.underlying3
theorem cell_below {w w' : World} {a : Addr} {v : Value} (h : Below w.heap.size w w') (c : w.cell? a = some v) : w'.cell? a = some v := (h.cell (block_lt_of_cell c)).trans c
end Go.Proofs.Ytibihiejpieadaa
