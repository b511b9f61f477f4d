/- Which answers are kept; the example that the law runs first answers true. -/
import Derived.Test.YtnblehjhpjfilaaGreatDoorB2
import Derived.Test.YtnblehjhpjfilaaGreatDoorA6
import Derived.KernelRfl
namespace Go.AE.Fns
open Go Go.AE
set_option maxRecDepth 100000
def keepT : NT Unit := (.n 155 () (.n 86 () (.n 49 () (.n 37 () (.n 9 () .l .l) (.n 42 () .l .l)) (.n 63 () (.n 59 () .l .l) (.n 77 () .l .l))) (.n 98 () (.n 88 () (.n 87 () .l .l) (.n 92 () .l .l)) (.n 119 () (.n 100 () .l .l) (.n 138 () .l .l)))) (.n 272 () (.n 221 () (.n 218 () (.n 210 () .l .l) (.n 220 () .l .l)) (.n 225 () (.n 224 () .l .l) (.n 226 () .l .l))) (.n 320 () (.n 301 () (.n 284 () .l .l) (.n 314 () .l .l)) (.n 371 () (.n 326 () .l .l) (.n 372 () .l .l)))))
noncomputable def keep (i : Nat) : Bool := (keepT.get i).isSome
noncomputable def E : Env := envOf lpT keep onceN once
noncomputable def run (n : Nat) (f : Nat) (args : List AV) : Option (AV × AHeap) := callsF lpT.get keep (hookA keep onceN once) n false f args []
def isT : Option (AV × AHeap) → Bool
 | some (.bool true, _) => true
 | _ => false
end Go.AE.Fns
namespace Go.AE.Fns
open Go Go.AE
set_option maxRecDepth 100000
theorem r0 : isT (run 100000 47 []) = true := by kernel_rfl
end Go.AE.Fns
