/- Which answers are kept; the run. -/
import Derived.Test.YtnblehjhpjfilaaGreatDoorB2
import Derived.KernelRfl
set_option linter.all false
set_option linter.unusedSimpArgs false
set_option linter.unusedVariables false
set_option linter.unnecessarySimpa false
set_option linter.deprecated false
namespace Go.AE.Fns
open Go Go.AE
set_option maxRecDepth 100000
def keepT : NT Unit := (.n 98 () (.n 63 () (.n 42 () (.n 37 () (.n 9 () .l .l) .l) (.n 59 () (.n 49 () .l .l) .l)) (.n 87 () (.n 86 () (.n 77 () .l .l) .l) (.n 92 () (.n 88 () .l .l) .l))) (.n 218 () (.n 138 () (.n 119 () (.n 100 () .l .l) .l) (.n 210 () (.n 155 () .l .l) .l)) (.n 224 () (.n 221 () (.n 220 () .l .l) .l) (.n 226 () (.n 225 () .l .l) .l))))
noncomputable def keep (i : Nat) : Bool := (keepT.get i).isSome
noncomputable def run (n : Nat) (f : Nat) (args : List AV) : Option (AV × AHeap) := callsF lpT.get keep (hookA keep onceN once) n false f args []
def isT : Option (AV × AHeap) → Bool
  | some (.bool true, _) => true
  | _ => false
def okR : Option (AV × AHeap) → Bool
  | some _ => true
  | _ => false
end Go.AE.Fns
