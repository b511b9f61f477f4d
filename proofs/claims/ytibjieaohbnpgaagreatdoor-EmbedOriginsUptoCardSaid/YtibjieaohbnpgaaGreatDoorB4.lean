/- Which answers are kept; the example that the law runs first answers true. -/
import Derived.Test.YtibjieaohbnpgaaGreatDoorB2
import Derived.Test.YtibjieaohbnpgaaGreatDoorA6
import Derived.KernelRfl
namespace Go.AE.Fns
open Go Go.AE
set_option maxRecDepth 100000
def keepT : NT Unit := (.n 221 () (.n 88 () (.n 59 () (.n 42 () (.n 37 () (.n 9 () .l .l) .l) (.n 49 () .l .l)) (.n 86 () (.n 77 () (.n 63 () .l .l) .l) (.n 87 () .l .l))) (.n 138 () (.n 100 () (.n 98 () (.n 92 () .l .l) .l) (.n 119 () .l .l)) (.n 218 () (.n 210 () (.n 155 () .l .l) .l) (.n 220 () .l .l)))) (.n 371 () (.n 284 () (.n 226 () (.n 225 () (.n 224 () .l .l) .l) (.n 272 () .l .l)) (.n 320 () (.n 314 () (.n 301 () .l .l) .l) (.n 326 () .l .l))) (.n 417 () (.n 410 () (.n 395 () (.n 372 () .l .l) .l) (.n 415 () .l .l)) (.n 448 () (.n 429 () .l .l) (.n 456 () .l .l)))))
noncomputable def keep (i : Nat) : Bool := (keepT.get i).isSome
noncomputable def E : Env := envOf lpT keep onceN once
noncomputable def run (n : Nat) (f : Nat) (args : List AV) : Option (AV × AHeap) := callsF lpT.get keep (hookA keep onceN once) n false f args []
def isT : Option (AV × AHeap) → Bool
 | some (.bool true, _) => true
 | _ => false
end Go.AE.Fns
namespace Go.AE.Fns
open Go Go.AE
set_option maxRecDepth 100000
end Go.AE.Fns
namespace Go.AE.Fns
open Go Go.AE
set_option maxRecDepth 100000
theorem r1 : isT (run 100000 381 []) = true := by kernel_rfl
end Go.AE.Fns
