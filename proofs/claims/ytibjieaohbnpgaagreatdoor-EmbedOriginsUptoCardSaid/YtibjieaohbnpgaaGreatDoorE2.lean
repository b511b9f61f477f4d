/- The tied card of 'EmbedOrigins' in its second form: for all that have a feature and every three origins that together are of bulk at most 1048576, the call returns true and leaves its arguments as they were. -/
import Derived.Test.YtibjieaohbnpgaaGreatDoorE1
import Derived.Test.YtibjieaohbnpgaaGreatDoorD5
import Derived.Test.YtibjieaohbnpgaaGreatDoorD6
import Derived.LaidLaws
set_option linter.all false
set_option linter.unusedSimpArgs false
set_option linter.unusedVariables false
set_option linter.unnecessarySimpa false
set_option linter.deprecated false
namespace Go.Proofs.YtibjieaohbnpgaaGreatDoor.embedOrigins
open Go.ChangeShapes Go.WideShapes Go.ChangeAt Go.RowKit
open Go.Proofs.YtibjieaohbnpgaaGreatDoor.Ae
set_option maxRecDepth 100000
mutual
/-- the cells of a datum that holds numbers alone -/
def cellsD : DataW Unit → List Value
 | .lit (.int k n) => [.int k n]
 | .agg ps => cellsDL ps
 | _ => []
def cellsDL : List (DataW Unit) → List Value
 | [] => []
 | d :: l => cellsD d ++ cellsDL l
end
noncomputable def low : Nat := (World.holding Tryz.prog default ⟨#[], #[], []⟩).heap.size
abbrev synS : ByteArray := { data := #[105, 110, 118, 97, 108, 105, 100, 32, 115, 121, 110, 116, 97, 120] }
abbrev rngS : ByteArray := { data := #[118, 97, 108, 117, 101, 32, 111, 117, 116, 32, 111, 102, 32, 114, 97, 110, 103, 101] }
def lay (i : Nat) (cs : List Value) (heap : Array Obj) : Array Obj := heap.modify i fun
 | .cells _ t frozen => .cells cs.toArray t frozen
 | o => o
noncomputable def laidWorld (os : Os) : World :=
  let w0 := World.holding Tryz.prog os ⟨#[.cells #[.string synS] 400, .cells #[.string rngS] 400], #[], []⟩
  { w0 with heap := lay 1 (cellsD Rows.laid_internal_strconv_uint64pow10) (lay 2 (cellsD Rows.laid_unicode_utf8_first) (lay 3 (cellsD Rows.laid_unicode_utf8_acceptRanges) (lay 6 (cellsD Rows.laid_math_bits_deBruijn32tab) (lay 7 (cellsD Rows.laid_math_bits_deBruijn64tab) (lay 4 [.iface 398 (.pointer (some ⟨low, 0, none⟩))] (lay 5 [.iface 398 (.pointer (some ⟨low + 1, 0, none⟩))] (w0.heap))))))) }
abbrev arg0 : Array Value := #[.agg #[.bool false, .bool false, .slice none 0 0], .agg #[.bool false, .int .i64 0, .string ⟨#[]⟩, .int .u8 0, .string ⟨#[]⟩, .int .u32 0, .int .u16 0, .int .u16 0, .int .u16 0, .int .u16 0, .int .u16 0, .int .u16 0, .int .u16 0, .int .u16 0, .int .i64 0, .bool false, .string ⟨#[]⟩, .bool false], .agg #[.bool false, .int .i64 0, .string ⟨#[]⟩, .int .u8 0, .string ⟨#[]⟩, .int .u32 0, .int .u16 0, .int .u16 0, .int .u16 0, .int .u16 0, .int .u16 0, .int .u16 0, .int .u16 0, .int .u16 0, .int .i64 0, .bool false, .string ⟨#[]⟩, .bool false], .agg #[.bool false, .int .i64 0, .string ⟨#[]⟩, .int .u8 0, .string ⟨#[]⟩, .int .u32 0, .int .u16 0, .int .u16 0, .int .u16 0, .int .u16 0, .int .u16 0, .int .u16 0, .int .u16 0, .int .u16 0, .int .i64 0, .bool false, .string ⟨#[]⟩, .bool false]]
theorem laid_met (os : Os) : laidMet Tryz.prog Rows.embedOriginsUptoRow.laid ((laidWorld os).forCall (fun _ _ => 0) ⟨#[], arg0, []⟩).memory :=
 laidMet_of_run' 8 (by kernel_rfl) (by kernel_rfl)
theorem reads (os : Os) {H : Type} (enc : TypeId × Value → H) : ∃ places, DataW.whole enc Tryz.prog ((laidWorld os).forCall (fun _ _ => 0) ⟨#[], arg0, []⟩).memory Tryz.f5.params.toList Rows.embedOriginsSpec.vars false arg0.toList 8 = some ([.agg [.lit (.bool false), .lit (.bool false), .nil], .agg [.lit (.bool false), .lit (.int .i64 0), .lit (.string []), .agg [.lit (.int .u8 0), .lit (.string []), .lit (.int .u32 0), .agg [.lit (.int .u16 0), .lit (.int .u16 0), .lit (.int .u16 0), .lit (.int .u16 0), .lit (.int .u16 0), .lit (.int .u16 0), .lit (.int .u16 0), .lit (.int .u16 0)]], .lit (.int .i64 0), .lit (.bool false), .lit (.string []), .lit (.bool false)], .agg [.lit (.bool false), .lit (.int .i64 0), .lit (.string []), .agg [.lit (.int .u8 0), .lit (.string []), .lit (.int .u32 0), .agg [.lit (.int .u16 0), .lit (.int .u16 0), .lit (.int .u16 0), .lit (.int .u16 0), .lit (.int .u16 0), .lit (.int .u16 0), .lit (.int .u16 0), .lit (.int .u16 0)]], .lit (.int .i64 0), .lit (.bool false), .lit (.string []), .lit (.bool false)], .agg [.lit (.bool false), .lit (.int .i64 0), .lit (.string []), .agg [.lit (.int .u8 0), .lit (.string []), .lit (.int .u32 0), .agg [.lit (.int .u16 0), .lit (.int .u16 0), .lit (.int .u16 0), .lit (.int .u16 0), .lit (.int .u16 0), .lit (.int .u16 0), .lit (.int .u16 0), .lit (.int .u16 0)]], .lit (.int .i64 0), .lit (.bool false), .lit (.string []), .lit (.bool false)]], [], places) :=
 ⟨[], by kernel_rfl⟩
theorem liftedUpto (os : Os) (started : os.Started) (H : Type) (enc : TypeId × Value → H) (F : Stop.Interp) :
    ReturnsInHanded {} Tryz.checked os 5 .any ((Rows.OpenSpec.upto Rows.embedOriginsSpec).preRow enc Tryz.prog Tryz.f5 Rows.embedOriginsUptoRow.domain false Rows.embedOriginsUptoRow.laid) (((Rows.OpenSpec.upto Rows.embedOriginsSpec).at F).post enc Tryz.prog Tryz.f5 false true false false) := by
  obtain ⟨places, hx⟩ := reads os enc
  refine returnsInHanded_of_row (C := Tryz.checked) (s := Rows.OpenSpec.upto Rows.embedOriginsSpec) own started (by kernel_rfl) Tryz.func5
    (witness_row_at (enc := enc) (C := Tryz.checked) false (laidWorld os) arg0 rfl (by kernel_rfl) (by kernel_rfl) (by kernel_rfl)
      (OpenSpec.preRow_of_cond 8 hx (by kernel_rfl) (fun k hk => by cases hk; kernel_rfl) (by kernel_rfl) (laid_met os))) ?_
  intro W base args ds gs before hval hW _ hcond _ hlaid _ _
  exact contract H enc W base args ds gs before hval hW (of_decide_eq_true (hcond _ rfl)) hlaid
theorem saidUpto : Rows.EmbedOriginsUptoSaid :=
  OpenClaim.holds_of_cond 5 Tryz.f5 rfl rfl rfl rfl rfl rfl rfl ⟨rfl, rfl, rfl, rfl, rfl⟩ rfl rfl rfl rfl rfl (by kernel_rfl) Tryz.func5 closed
    (of_decide_eq_true (by kernel_rfl)) (by unfold Func.isWrapper; first | (rw [if_pos (by decide +kernel)]; kernel_rfl) | (rw [if_neg (by decide +kernel)]; exact ⟨rfl, rfl⟩))
    (fun os started H enc _ F => by rw [OpenClaim.pre_eq_preRow]; exact liftedUpto os started H enc F)
theorem plain (f : FuncId) (fn : Func) (hf : Tryz.pinned.checked.prog.funcNamed "bastion/bastionlaw16.EmbedOrigins" = some f) (hfn : Tryz.pinned.checked.prog.funcs[f]? = some fn) :
  true = Tryz.pinned.checked.prog.looks [] ∧ ∀ (j : Nat) t, fn.params[j]? = some t → Tryz.pinned.checked.prog.wantsStandIn t = false := by
 obtain rfl : f = 5 := Option.some.inj ((show Tryz.prog.funcNamed "bastion/bastionlaw16.EmbedOrigins" = some 5 by kernel_rfl).symm.trans hf) |>.symm
 obtain rfl : fn = Tryz.f5 := (Option.some.inj (Tryz.func5.symm.trans hfn)).symm
 refine ⟨by kernel_rfl, fun j t ht => ?_⟩
 rw [Tryz.params5] at ht
 have k : ([49, 30, 30, 30] : List TypeId).all (fun t => !Tryz.prog.wantsStandIn t) = true := by kernel_rfl
 have h1 := List.all_eq_true.1 k t (by simpa using Array.mem_of_getElem? ht)
 have h2 : Tryz.prog.wantsStandIn t = false := by simpa using h1
 exact h2
theorem wfText : Rows.embedOriginsUptoRow.wfByText (Rows.OpenSpec.upto Rows.embedOriginsSpec) = true := by kernel_rfl
theorem mainIs : Tryz.pinned.checked.prog.mainIs = some (true, "8d616a4dfcff389a56eb08e5b1ea5545f54b379bbaa107b72c1b82f555436e5e".toList) := by kernel_rfl
theorem card : Rows.EmbedOriginsUptoCardSaid :=
 Claim7.holds_tied_plain_at .later [] _ _ (true, "8d616a4dfcff389a56eb08e5b1ea5545f54b379bbaa107b72c1b82f555436e5e") true saidUpto (fun _ h => by cases h) wfText (fun _ h => by cases h) embedOriginsUpto_row_tie rfl ⟨rfl, rfl⟩ mainIs rfl plain goes
#print axioms card
end Go.Proofs.YtibjieaohbnpgaaGreatDoor.embedOrigins
