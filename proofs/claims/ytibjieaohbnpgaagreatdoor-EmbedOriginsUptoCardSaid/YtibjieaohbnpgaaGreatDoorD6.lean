/- A closed fact of the card. -/
import Derived.Test.YtibjieaohbnpgaaGreatDoorCards
import Derived.SevenTiedAt
namespace Go.Proofs.YtibjieaohbnpgaaGreatDoor.embedOrigins
open Go
set_option maxRecDepth 100000
theorem noGo : Tryz.prog.funcs.all (fun fn => !fn.goes) = true := by kernel_rfl
theorem goes_none {P : Program} (h : P.funcs.all (fun fn => !fn.goes) = true) (func : String) : P.goesFrom func = false := by
 have hall : ∀ fn ∈ P.funcs, fn.goes = false := fun fn hfn => by
  have := (Array.all_eq_true'.1 h) fn hfn
  simpa using this
 have h1 : P.funcs.any Func.goes = false := by
  rw [Array.any_eq_false]
  intro i hi
  simp [hall _ (Array.getElem_mem hi)]
 unfold Program.goesFrom
 cases P.funcNamed func with
 | none => rfl
 | some f =>
  simp only [Option.any_some, Program.goes, h1, Bool.and_false, Bool.or_false]
  rw [List.any_eq_false]
  intro g _
  cases hg : P.funcs[g]? with
  | none => simp
  | some fn =>
   have := hall fn (Array.mem_of_getElem? hg)
   simp [this]
theorem goes_by {P : Program} (h : P.funcs.all (fun fn => !fn.goes) = true) (c : OpenClaim) (hs : c.start = .entering) : false = c.goesBy P := by
 unfold OpenClaim.goesBy Program.goesAt
 rw [goes_none h, hs]
 rfl
theorem goes : false = Rows.embedOriginsUptoRow.goesBy Tryz.pinned.checked.prog := goes_by noGo _ rfl
end Go.Proofs.YtibjieaohbnpgaaGreatDoor.embedOrigins
