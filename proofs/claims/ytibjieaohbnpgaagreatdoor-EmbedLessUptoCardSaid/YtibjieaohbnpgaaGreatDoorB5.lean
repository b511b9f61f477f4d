/- What functions do, as formulas. -/
import Derived.Test.YtibjieaohbnpgaaGreatDoorB4
import Derived.Test.YtibjieaohbnpgaaGreatDoorA7
import Derived.KernelRfl
set_option linter.all false
set_option linter.unusedSimpArgs false
set_option linter.unusedVariables false
set_option linter.unnecessarySimpa false
set_option linter.deprecated false
variable {a0 a1 a2 a3 a4 a5 a6 a7 a8 : Go.AE.AV} {H : Go.AE.AHeap} {K : Go.AE.AV → Go.AE.AHeap → Prop}
namespace Go.AE.Fns
open Go Go.AE Env
set_option maxRecDepth 100000
end Go.AE.Fns
namespace Go.AE.Fns
open Go Go.AE Env
set_option maxRecDepth 100000
end Go.AE.Fns
namespace Go.AE.Fns
open Go Go.AE Env
set_option maxRecDepth 100000
end Go.AE.Fns
namespace Go.AE.Fns
open Go Go.AE Env
set_option maxRecDepth 100000
end Go.AE.Fns
namespace Go.AE.Fns
open Go Go.AE Env
set_option maxRecDepth 100000
theorem V236 (h :
 Res (newVarA H a0 0) fun x300 H _ =>
 Res (newVarA H a1 0) fun x301 H _ =>
 Opn (addA 0 x300) fun x302 =>
 Res (loadA H 1 false x302) fun x303 H _ =>
 J1 (fun x304 H => ∀ d305 : Nat → AV, Two x303 (.bool true) x304 fun x306 =>
 Pick x306 (Opn (addA 0 x300) fun x307 =>
 Res (loadA H 1 false x307) fun x308 H _ =>
 Opn (addA 0 x301) fun x309 =>
 Res (loadA H 1 false x309) fun x310 H _ =>
 Opn (eqV false .b x308 x310) fun x311 =>
 J1 (fun x312 H => ∀ d313 : Nat → AV, Two x311 x312 (.bool false) fun x314 =>
 K x314 H) fun j315 => Gd x311 true (Opn (addA 1 x300) fun x316 =>
 Res (loadA H 1 false x316) fun x317 H _ =>
 Opn (addA 1 x301) fun x318 =>
 Res (loadA H 1 false x318) fun x319 H _ =>
 Opn (binA .eql x317 x319) fun x320 =>
 j315 x320 H) (j315 undefA H))
 (Opn (addA 16 x301) fun x321 =>
 Res (loadA H 1 false x321) fun x322 H k323 =>
 Opn (addA 17 x301) fun x324 =>
 Res (loadA H 1 false x324) fun x325 H k326 =>
 Opn (addA 1 x301) fun x327 =>
 Res (loadA H 1 false x327) fun x328 H k329 =>
 Opn (addA 16 x300) fun x330 =>
 Res (storeA H 1 x330 x322) fun _ H k331 =>
 Opn (addA 17 x300) fun x332 =>
 Res (storeA H 1 x332 x325) fun _ H k333 =>
 Opn (addA 1 x300) fun x334 =>
 Res (storeA H 1 x334 x328) fun _ H k335 =>
 drawOk (drawn F236 0) [.p, k323, .p, k326, .p, k329, .p, k331, .p, k333, .p, k335] = true ∧
 Res (loadA H 18 true x300) fun x336 H _ =>
 Res (loadA H 18 true x301) fun x337 H _ =>
 Opn (eqV false (.st [(0, 1, false, .b), (1, 1, false, .i), (2, 1, false, .s), (3, 11, true, (.st [(0, 1, false, .i), (1, 1, false, .s), (2, 1, false, .i), (3, 8, true, (.st [(0, 1, false, .i), (1, 1, false, .i), (2, 1, false, .i), (3, 1, false, .i), (4, 1, false, .i), (5, 1, false, .i), (6, 1, false, .i), (7, 1, false, .i)]))])), (14, 1, false, .i), (15, 1, false, .b), (16, 1, false, .s), (17, 1, false, .b)]) x336 x337) fun x338 =>
 K x338 H)) fun j339 => Gd x303 false (Opn (addA 0 x301) fun x340 =>
 Res (loadA H 1 false x340) fun x341 H _ =>
 j339 x341 H) (j339 undefA H)) : ∃ v H', K v H' ∧ E.Ans 236 [a0, a1] H v H' := ans_of (F := F236) (np := 2) (nt := 35) (rs := [.t 4]) (x := (.seq (.reg (.one (.one (.one .done)))) (.seq (.seq (.reg (.one (.one (.one (.grp 2 7 false [9] (.one (.one .done)) (.one .done)))))) (.cond (.seq (.reg (.one (.one (.one (.one (.one (.one (.grp 5 16 true [21] (.one (.one (.one (.one (.one .done))))) (.one (.one .done)))))))))) .lf) .lf)) (.seq (.reg .done) (.seq (.reg (.one (.one (.one (.one .done))))) .lf))))) (by kernel_rfl) (by kernel_rfl) rfl (by decide) (by kernel_rfl) (HOk_by (l := []) (by kernel_rfl) (all_nil)) (Eq.mp (by kernel_rfl) h)
end Go.AE.Fns
namespace Go.AE.Fns
open Go Go.AE Env
set_option maxRecDepth 100000
end Go.AE.Fns
namespace Go.AE.Fns
open Go Go.AE Env
set_option maxRecDepth 100000
theorem V382 (h :
 Res (newVarA H a0 0) fun x300 H _ =>
 Res (newVarA H a1 0) fun x301 H _ =>
 Res (newVarA H a2 0) fun x302 H _ =>
 Opn (addA 0 x300) fun x303 =>
 Res (loadA H 1 false x303) fun x304 H _ =>
 J1 (fun x305 H => ∀ d306 : Nat → AV, Two x304 (.bool true) x305 fun x307 =>
 J1 (fun x308 H => ∀ d309 : Nat → AV, Two x307 (.bool true) x308 fun x310 =>
 K x310 H) fun j311 => Gd x307 false (Opn (addA 2 x300) fun x312 =>
 Res (loadA H 1 false x312) fun x313 H _ =>
 E.C 396 [x313, (.func 395 [] [x302])] H fun x314 H _ =>
 j311 x314 H) (j311 undefA H)) fun j315 => Gd x304 false (Opn (addA 1 x300) fun x316 =>
 Res (loadA H 1 false x316) fun x317 H _ =>
 J1 (fun x318 H => ∀ d319 : Nat → AV, Two x317 x318 (.bool false) fun x320 =>
 j315 x320 H) fun j321 => Gd x317 true (Res (loadA H 18 true x301) fun x322 H _ =>
 Res (loadA H 18 true x302) fun x323 H _ =>
 E.C 236 [x322, x323] H fun x324 H _ =>
 j321 x324 H) (j321 undefA H)) (j315 undefA H)) : ∃ v H', K v H' ∧ E.Ans 382 [a0, a1, a2] H v H' := ans_of (F := F382) (np := 3) (nt := 24) (rs := [.t 6]) (x := (.seq (.reg (.one (.one (.one (.one .done))))) (.seq (.reg (.one (.one (.one (.grp 7 9 false [16] (.one (.one (.one (.grp 3 12 true [15] (.one (.one (.one .done))) (.one .done))))) (.one (.one (.grp 4 18 false [22] (.one (.one (.one (.one .done)))) (.one (.one .done)))))))))) .lf))) (by kernel_rfl) (by kernel_rfl) rfl (by decide) (by kernel_rfl) (HOk_by (l := []) (by kernel_rfl) (all_nil)) (Eq.mp (by kernel_rfl) h)
def L383_0 (x0 x8 x9 x11 x35 x36 x37 : AV) (H : AHeap) (K0 : AHeap → Prop) (Kr : AV → AHeap → Prop) : Prop := LoopV E (F383.loop 0) [(0, x0), (8, x8), (9, x9), (11, x11), (35, x35), (36, x36), (37, x37)] 55 H (xq [(0, fun t H => K0  H)] (fun t H => Kr (getF t 10) H))
noncomputable def h383_0 : LHand := fun t H Q => L383_0 (getF t 0) (getF t 8) (getF t 9) (getF t 11) (getF t 35) (getF t 36) (getF t 37) H ( fun  H => ∀ d : Nat → AV, Q (.exit 0) (mkO 36028659580019712 [] d t 0 1) H) ( fun y10 H => ∀ d : Nat → AV, Q .ret (mkO 36028659580019712 [(10, y10)] d t 0 1) H)
theorem o383_0 : LpOkV E 55 (F383.loop 0) h383_0 := fun t _ H Q ht hn h => hand_ok (m := 36028659580019712) ht hn (by kernel_rfl) h (by simp) (all_cons (fun t' _ h => ⟨[], by simp, h⟩) (all_nil)) (fun t' _ h => ⟨[(10, getF t' 10)], by simp, h⟩)
theorem S383_0 {x0 x8 x9 x11 x35 x36 x37 : AV} {H : AHeap} {K0 : AHeap → Prop} {Kr : AV → AHeap → Prop} (h : ∀ d : Nat → AV,
 Opn (binA .lss x37 x36) fun x300 =>
 Pick x300 (Opn (idxAddrA 4 x35 x37) fun x301 =>
 Res (loadA H 4 true x301) fun x302 H _ =>
 Res (fAlloc [.str [], .bool false, .bool false, .nilsl] 0 H) fun x303 H _ =>
 Res (storeA H 4 x303 x302) fun _ H _ =>
 Opn (addA 0 x303) fun x304 =>
 Res (loadA H 1 false x304) fun x305 H _ =>
 Opn (binA .eql x305 x0) fun x306 =>
 Pick x306 (Opn (unA .not x11) fun x307 =>
 J1 (fun x308 H => ∀ d309 : Nat → AV, Two x307 (.bool true) x308 fun x310 =>
 Kr x310 H) fun j311 => Gd x307 false (Opn (addA 1 x303) fun x312 =>
 Res (loadA H 3 true x312) fun x313 H _ =>
 Res (loadA H 18 true x8) fun x314 H _ =>
 Res (loadA H 18 true x9) fun x315 H _ =>
 E.C 382 [x313, x314, x315] H fun x316 H _ =>
 j311 x316 H) (j311 undefA H))
 (Opn (binA .add x37 (.int .i64 1)) fun x317 =>
 L383_0 x0 x8 x9 x11 x35 x36 x317 H K0 Kr))
 (K0  H)) : L383_0 x0 x8 x9 x11 x35 x36 x37 H K0 Kr := step_of (x := (.seq (.reg (.one .done)) (.seq (.cond .lf .lf) (.seq (.block (.seq (.reg (.one (.one (.one (.one .done))))) (.seq (.reg (.one (.one (.one (.one .done))))) (.cond (.seq (.reg (.one (.one (.one (.grp 5 47 false [52] (.one (.one (.one (.one (.one .done))))) (.one (.one .done))))))) .lf) .lf)))) (.reg (.one (.one .done))))))) (back := fun t' H' => L383_0 (getF t' 0) (getF t' 8) (getF t' 9) (getF t' 11) (getF t' 35) (getF t' 36) (getF t' 37) H' K0 Kr) (by kernel_rfl) (by kernel_rfl) (HOk_by (l := []) (by kernel_rfl) (all_nil)) (fun t' _ h => ⟨[(0, getF t' 0), (8, getF t' 8), (9, getF t' 9), (11, getF t' 11), (35, getF t' 35), (36, getF t' 36), (37, getF t' 37)], by simp, h⟩) (fun d => Eq.mp (by kernel_rfl) (h d))
theorem V383 (h :
 Res (newVarA H a3 0) fun x300 H _ =>
 Res (newVarA H a4 0) fun x301 H _ =>
 E.C 381 [] H fun x302 H _ =>
 Opn (unA .not x302) fun x303 =>
 Pick x303 (K (.bool false) H)
 (Res (loadA H 18 true x300) fun x304 H _ =>
 Res (loadA H 18 true x301) fun x305 H _ =>
 E.C 384 [a0, (.bool false), a1, a2, x304, x305] H fun x306 H _ =>
 J1 (fun x307 H => ∀ d308 : Nat → AV, Two x306 (.bool true) x307 fun x309 =>
 Pick x309 (K (.bool false) H)
 (Res (loadA H 18 true x300) fun x310 H _ =>
 Res (loadA H 18 true x301) fun x311 H _ =>
 E.C 384 [a0, (.bool true), a1, a2, x310, x311] H fun x312 H _ =>
 Res (builtinA H .lenSl [a1]) fun x313 H _ =>
 L383_0 a0 x300 x301 x312 a1 x313 (.int .i64 0) H (fun  H => ∀ d314 : Nat → AV, K (.bool true) H) (fun x315 H => ∀ d316 : Nat → AV, K x315 H))) fun j317 => Gd x306 false (Res (loadA H 18 true x300) fun x318 H _ =>
 Res (loadA H 18 true x301) fun x319 H _ =>
 E.C 385 [a0, (.bool false), a1, x318, x319] H fun x320 H _ =>
 j317 x320 H) (j317 undefA H))) : ∃ v H', K v H' ∧ E.Ans 383 [a0, a1, a2, a3, a4] H v H' := ans_of (F := F383) (np := 5) (nt := 55) (rs := [.t 10]) (x := (.seq (.reg (.one (.one (.one .done)))) (.seq (.seq (.reg (.one (.one .done))) (.cond (.seq (.reg (.one .done)) .lf) .lf)) (.seq (.seq (.reg (.one (.one (.one (.one (.one (.one (.one (.grp 5 22 false [27] (.one (.one (.one (.one (.one .done))))) (.one .done)))))))))) (.cond (.seq (.reg (.one .done)) .lf) .lf)) (.seq (.reg (.one (.one (.one (.one (.one (.one (.one .done)))))))) (.seq (.seq (.reg (.one (.one (.one .done)))) (.block (.loop h383_0))) (.seq (.reg (.one .done)) .lf))))))) (by kernel_rfl) (by kernel_rfl) rfl (by decide) (by kernel_rfl) (HOk_by (l := [(h383_0, F383.loop 0)]) (by kernel_rfl) (all_cons (P := fun p : LHand × LCode => LpOkV E _ p.2 p.1) o383_0 (all_nil))) (Eq.mp (by kernel_rfl) h)
theorem V384 (h :
 Res (newVarA H a4 0) fun x300 H _ =>
 Res (newVarA H a5 0) fun x301 H _ =>
 E.C 397 [a2, a0] H fun x302 H _ =>
 Opn (exV 0 x302) fun x303 =>
 Opn (exV 1 x302) fun x304 =>
 Res (fAlloc [.bool false, .bool false, .nilsl] 0 H) fun x305 H _ =>
 Res (storeA H 3 x305 x303) fun _ H _ =>
 E.C 397 [a3, a0] H fun x306 H _ =>
 Opn (exV 0 x306) fun x307 =>
 Opn (exV 1 x306) fun x308 =>
 Res (fAlloc [.bool false, .bool false, .nilsl] 0 H) fun x309 H _ =>
 Res (storeA H 3 x309 x307) fun _ H _ =>
 J1 (fun x310 H => ∀ d311 : Nat → AV, Two a1 x310 (.bool false) fun x312 =>
 J1 (fun x313 H => ∀ d314 : Nat → AV, Two x312 x313 (.bool false) fun x315 =>
 K x315 H) fun j316 => Gd x312 true (Opn (unA .not x304) fun x317 =>
 J1 (fun x318 H => ∀ d319 : Nat → AV, Two x317 (.bool true) x318 fun x320 =>
 j316 x320 H) fun j321 => Gd x317 false (Res (loadA H 3 true x305) fun x322 H _ =>
 Res (loadA H 18 true x300) fun x323 H _ =>
 Res (loadA H 18 true x301) fun x324 H _ =>
 E.C 382 [x322, x323, x324] H fun x325 H _ =>
 j321 x325 H) (j321 undefA H)) (j316 undefA H)) fun j326 => Gd a1 true (Res (loadA H 3 true x309) fun x327 H _ =>
 Res (loadA H 18 true x300) fun x328 H _ =>
 Res (loadA H 18 true x301) fun x329 H _ =>
 E.C 382 [x327, x328, x329] H fun x330 H _ =>
 j326 x330 H) (j326 undefA H)) : ∃ v H', K v H' ∧ E.Ans 384 [a0, a1, a2, a3, a4, a5] H v H' := ans_of (F := F384) (np := 6) (nt := 46) (rs := [.t 12]) (x := (.seq (.reg (.one (.one (.one .done)))) (.seq (.reg (.one (.one (.one (.one (.one (.one (.one (.one (.one .done)))))))))) (.seq (.reg (.one (.one (.one (.one (.one (.one (.one (.one (.one .done)))))))))) (.seq (.reg (.one (.one (.grp 4 30 true [34] (.one (.one (.one (.one .done)))) (.one (.one (.grp 8 36 true [44] (.one (.one (.one (.grp 4 39 false [43] (.one (.one (.one (.one .done)))) (.one .done))))) (.one (.one .done))))))))) .lf))))) (by kernel_rfl) (by kernel_rfl) rfl (by decide) (by kernel_rfl) (HOk_by (l := []) (by kernel_rfl) (all_nil)) (Eq.mp (by kernel_rfl) h)
theorem V385 (h :
 Res (newVarA H a3 0) fun x300 H _ =>
 Res (newVarA H a4 0) fun x301 H _ =>
 E.C 397 [a2, a0] H fun x302 H _ =>
 Opn (exV 0 x302) fun x303 =>
 Opn (exV 1 x302) fun x304 =>
 Res (fAlloc [.bool false, .bool false, .nilsl] 0 H) fun x305 H _ =>
 Res (storeA H 3 x305 x303) fun _ H _ =>
 J1 (fun x306 H => ∀ d307 : Nat → AV, Two a1 x306 (.bool false) fun x308 =>
 K x308 H) fun j309 => Gd a1 true (Res (loadA H 3 true x305) fun x310 H _ =>
 Res (loadA H 18 true x300) fun x311 H _ =>
 Res (loadA H 18 true x301) fun x312 H _ =>
 E.C 382 [x310, x311, x312] H fun x313 H _ =>
 j309 x313 H) (j309 undefA H)) : ∃ v H', K v H' ∧ E.Ans 385 [a0, a1, a2, a3, a4] H v H' := ans_of (F := F385) (np := 5) (nt := 26) (rs := [.t 10]) (x := (.seq (.reg (.one (.one (.one .done)))) (.seq (.reg (.one (.one (.one (.one (.one (.one (.one (.one (.one .done)))))))))) (.seq (.reg (.one (.one (.grp 4 20 true [24] (.one (.one (.one (.one .done)))) (.one (.one .done)))))) .lf)))) (by kernel_rfl) (by kernel_rfl) rfl (by decide) (by kernel_rfl) (HOk_by (l := []) (by kernel_rfl) (all_nil)) (Eq.mp (by kernel_rfl) h)
end Go.AE.Fns
namespace Go.AE.Fns
open Go Go.AE Env
set_option maxRecDepth 100000
theorem V395 (h :
 Res (newVarA H a0 0) fun x300 H _ =>
 Res (loadA H 18 true x300) fun x301 H _ =>
 Res (loadA H 18 true a1) fun x302 H _ =>
 E.C 236 [x301, x302] H fun x303 H _ =>
 K x303 H) : ∃ v H', K v H' ∧ E.Ans 395 [a0, a1] H v H' := ans_of (F := F395) (np := 2) (nt := 7) (rs := [.t 3]) (x := (.seq (.reg (.one (.one .done))) (.seq (.reg (.one (.one (.one (.one .done))))) .lf))) (by kernel_rfl) (by kernel_rfl) rfl (by decide) (by kernel_rfl) (HOk_by (l := []) (by kernel_rfl) (all_nil)) (Eq.mp (by kernel_rfl) h)
theorem V396 (h :
 E.C 408 [a0, a1] H fun x300 H _ =>
 Opn (binA .geq x300 (.int .i64 0)) fun x301 =>
 K x301 H) : ∃ v H', K v H' ∧ E.Ans 396 [a0, a1] H v H' := ans_of (F := F396) (np := 2) (nt := 9) (rs := [.t 4]) (x := (.seq (.reg (.one .done)) (.seq (.reg (.one (.one (.one (.one (.one .done)))))) .lf))) (by kernel_rfl) (by kernel_rfl) rfl (by decide) (by kernel_rfl) (HOk_by (l := []) (by kernel_rfl) (all_nil)) (Eq.mp (by kernel_rfl) h)
theorem V397 (h :
 Res (fAlloc [.bool false, .bool false, .nilsl] 0 H) fun x300 H _ =>
 E.C 405 [a0, a1, (.func 404 [] [])] H fun x301 H _ =>
 Opn (exV 0 x301) fun x302 =>
 Opn (exV 1 x301) fun x303 =>
 Res (fAlloc [.str [], .bool false, .bool false, .nilsl] 0 H) fun x304 H _ =>
 Res (storeA H 4 x304 x302) fun _ H _ =>
 Pick x303 (Opn (addA 1 x304) fun x305 =>
 Res (loadA H 3 true x305) fun x306 H _ =>
 Res (storeA H 3 x300 x306) fun _ H _ =>
 Res (loadA H 3 true x300) fun x307 _ _ => K (.tuple [x307, (.bool true)]) H)
 (Opn (litV [.str []] 3 1 [(0, 1, (.str [112, 105, 99, 116, 117, 114, 101, 45, 105, 110, 45, 112, 105, 99, 116, 117, 114, 101])), (1, 1, (.str [115, 121, 110, 99, 45, 120, 104, 114])), (2, 1, (.str [103, 97, 109, 101, 112, 97, 100]))]) fun x308 =>
 E.C 163 [x308, a1] H fun x309 H _ =>
 Opn (unA .not x309) fun x310 =>
 Opn (bldV [.bool false, .bool false, .nilsl] [(0, 1, x309), (1, 1, x310)]) fun x311 =>
 Res (storeA H 3 x300 x311) fun _ H _ =>
 Res (loadA H 3 true x300) fun x312 _ _ => K (.tuple [x312, (.bool false)]) H)) : ∃ v H', K v H' ∧ E.Ans 397 [a0, a1] H v H' := ans_of (F := F397) (np := 2) (nt := 25) (rs := [.cell 4 3 true, .t 5]) (x := (.seq (.reg (.one (.one .done))) (.seq (.seq (.reg (.one (.one (.one (.one (.one (.one (.one (.one (.one .done)))))))))) (.seq (.reg (.one .done)) (.cond (.seq (.reg (.one (.one (.one (.one .done))))) .lf) .lf))) (.seq (.reg (.one (.one (.one (.one .done))))) (.seq (.reg (.one (.one (.one (.one (.one (.one .done))))))) .lf))))) (by kernel_rfl) (by kernel_rfl) rfl (by decide) (by kernel_rfl) (HOk_by (l := []) (by kernel_rfl) (all_nil)) (Eq.mp (by kernel_rfl) h)
theorem V404 (h :
 Res (newVarA H a0 0) fun x300 H _ =>
 Opn (addA 0 x300) fun x301 =>
 Res (loadA H 1 false x301) fun x302 H _ =>
 K x302 H) : ∃ v H', K v H' ∧ E.Ans 404 [a0] H v H' := ans_of (F := F404) (np := 1) (nt := 5) (rs := [.t 2]) (x := (.seq (.reg (.one (.one .done))) (.seq (.reg (.one (.one (.one .done)))) .lf))) (by kernel_rfl) (by kernel_rfl) rfl (by decide) (by kernel_rfl) (HOk_by (l := []) (by kernel_rfl) (all_nil)) (Eq.mp (by kernel_rfl) h)
theorem V405 (h :
 Res (newVarA H a1 0) fun x300 H _ =>
 Res (newVarA H a2 0) fun x301 H _ =>
 Res (fAlloc [.str [], .bool false, .bool false, .nilsl] 0 H) fun x302 H _ =>
 E.C 418 [a0, (.func 417 [] [x301, x300])] H fun x303 H _ =>
 Opn (binA .lss x303 (.int .i64 0)) fun x304 =>
 Pick x304 (Res (fAlloc [.str [], .bool false, .bool false, .nilsl] 0 H) fun x305 H _ =>
 Res (loadA H 4 true x305) fun x306 H _ =>
 Res (storeA H 4 x302 x306) fun _ H _ =>
 Res (loadA H 4 true x302) fun x307 _ _ => K (.tuple [x307, (.bool false)]) H)
 (Opn (idxAddrA 4 a0 x303) fun x308 =>
 Res (loadA H 4 true x308) fun x309 H _ =>
 Res (storeA H 4 x302 x309) fun _ H _ =>
 Res (loadA H 4 true x302) fun x310 _ _ => K (.tuple [x310, (.bool true)]) H)) : ∃ v H', K v H' ∧ E.Ans 405 [a0, a1, a2] H v H' := ans_of (F := F405) (np := 3) (nt := 20) (rs := [.cell 6 4 true, .t 7]) (x := (.seq (.reg (.one (.one (.one (.one .done))))) (.seq (.reg (.one (.one (.one (.one .done))))) (.seq (.seq (.reg (.one (.one .done))) (.cond (.seq (.reg (.one .done)) (.seq (.reg (.one (.one (.one .done)))) .lf)) .lf)) (.seq (.reg (.one (.one (.one (.one (.one (.one .done))))))) .lf))))) (by kernel_rfl) (by kernel_rfl) rfl (by decide) (by kernel_rfl) (HOk_by (l := []) (by kernel_rfl) (all_nil)) (Eq.mp (by kernel_rfl) h)
def L408_0 (x0 x1 x7 x8 : AV) (H : AHeap) (K0 : AHeap → Prop) (Kr : AV → AHeap → Prop) : Prop := LoopV E (F408.loop 0) [(0, x0), (1, x1), (7, x7), (8, x8)] 19 H (xq [(0, fun t H => K0  H)] (fun t H => Kr (getF t 4) H))
noncomputable def h408_0 : LHand := fun t H Q => L408_0 (getF t 0) (getF t 1) (getF t 7) (getF t 8) H ( fun  H => ∀ d : Nat → AV, Q (.exit 0) (mkO 524080 [] d t 0 1) H) ( fun y4 H => ∀ d : Nat → AV, Q .ret (mkO 524080 [(4, y4)] d t 0 1) H)
theorem o408_0 : LpOkV E 19 (F408.loop 0) h408_0 := fun t _ H Q ht hn h => hand_ok (m := 524080) ht hn (by kernel_rfl) h (by simp) (all_cons (fun t' _ h => ⟨[], by simp, h⟩) (all_nil)) (fun t' _ h => ⟨[(4, getF t' 4)], by simp, h⟩)
theorem S408_0 {x0 x1 x7 x8 : AV} {H : AHeap} {K0 : AHeap → Prop} {Kr : AV → AHeap → Prop} (h : ∀ d : Nat → AV,
 Opn (binA .lss x8 x7) fun x300 =>
 Pick x300 (Opn (idxAddrA 18 x0 x8) fun x301 =>
 Res (loadA H 18 true x301) fun x302 H _ =>
 CV E x1 [x302] H fun x303 H _ =>
 Pick x303 (Kr x8 H)
 (Opn (binA .add x8 (.int .i64 1)) fun x304 =>
 L408_0 x0 x1 x7 x304 H K0 Kr))
 (K0  H)) : L408_0 x0 x1 x7 x8 H K0 Kr := step_of (x := (.seq (.reg (.one .done)) (.seq (.cond .lf .lf) (.seq (.block (.seq (.reg (.one (.one .done))) (.seq (.reg (.one (.one (.one (.one (.one (.one .done))))))) (.cond (.seq (.reg (.one (.one .done))) .lf) .lf)))) (.reg (.one (.one .done))))))) (back := fun t' H' => L408_0 (getF t' 0) (getF t' 1) (getF t' 7) (getF t' 8) H' K0 Kr) (by kernel_rfl) (by kernel_rfl) (HOk_by (l := []) (by kernel_rfl) (all_nil)) (fun t' _ h => ⟨[(0, getF t' 0), (1, getF t' 1), (7, getF t' 7), (8, getF t' 8)], by simp, h⟩) (fun d => Eq.mp (by kernel_rfl) (h d))
theorem V408 (h :
 Res (builtinA H .lenSl [a0]) fun x300 H _ =>
 L408_0 a0 a1 x300 (.int .i64 0) H (fun  H => ∀ d301 : Nat → AV, K (.int .i64 (-1)) H) (fun x302 H => ∀ d303 : Nat → AV, K x302 H)) : ∃ v H', K v H' ∧ E.Ans 408 [a0, a1] H v H' := ans_of (F := F408) (np := 2) (nt := 19) (rs := [.t 4]) (x := (.seq (.reg (.one .done)) (.seq (.seq (.reg (.one (.one (.one .done)))) (.block (.loop h408_0))) (.seq (.reg (.one .done)) .lf)))) (by kernel_rfl) (by kernel_rfl) rfl (by decide) (by kernel_rfl) (HOk_by (l := [(h408_0, F408.loop 0)]) (by kernel_rfl) (all_cons (P := fun p : LHand × LCode => LpOkV E _ p.2 p.1) o408_0 (all_nil))) (Eq.mp (by kernel_rfl) h)
theorem V417 (h :
 Res (newVarA H a0 0) fun x300 H _ =>
 Res (loadA H 1 false a1) fun x301 H k302 =>
 Res (loadA H 4 true x300) fun x303 H k304 =>
 CV E x301 [x303] H fun x305 H k306 =>
 Res (loadA H 1 false a2) fun x307 H k308 =>
 Opn (binA .eql x305 x307) fun x309 =>
 drawOk (drawn F417 0) [k302, k304, k306, k308, .p, .p] = true ∧
 K x309 H) : ∃ v H', K v H' ∧ E.Ans 417 [a0, a1, a2] H v H' := ans_of (F := F417) (np := 3) (nt := 10) (rs := [.t 4]) (x := (.seq (.reg (.one (.one .done))) (.seq (.reg .done) .lf))) (by kernel_rfl) (by kernel_rfl) rfl (by decide) (by kernel_rfl) (HOk_by (l := []) (by kernel_rfl) (all_nil)) (Eq.mp (by kernel_rfl) h)
def L418_0 (x0 x1 x7 x8 : AV) (H : AHeap) (K0 : AHeap → Prop) (Kr : AV → AHeap → Prop) : Prop := LoopV E (F418.loop 0) [(0, x0), (1, x1), (7, x7), (8, x8)] 19 H (xq [(0, fun t H => K0  H)] (fun t H => Kr (getF t 4) H))
noncomputable def h418_0 : LHand := fun t H Q => L418_0 (getF t 0) (getF t 1) (getF t 7) (getF t 8) H ( fun  H => ∀ d : Nat → AV, Q (.exit 0) (mkO 524080 [] d t 0 1) H) ( fun y4 H => ∀ d : Nat → AV, Q .ret (mkO 524080 [(4, y4)] d t 0 1) H)
theorem o418_0 : LpOkV E 19 (F418.loop 0) h418_0 := fun t _ H Q ht hn h => hand_ok (m := 524080) ht hn (by kernel_rfl) h (by simp) (all_cons (fun t' _ h => ⟨[], by simp, h⟩) (all_nil)) (fun t' _ h => ⟨[(4, getF t' 4)], by simp, h⟩)
theorem S418_0 {x0 x1 x7 x8 : AV} {H : AHeap} {K0 : AHeap → Prop} {Kr : AV → AHeap → Prop} (h : ∀ d : Nat → AV,
 Opn (binA .lss x8 x7) fun x300 =>
 Pick x300 (Opn (idxAddrA 4 x0 x8) fun x301 =>
 Res (loadA H 4 true x301) fun x302 H _ =>
 CV E x1 [x302] H fun x303 H _ =>
 Pick x303 (Kr x8 H)
 (Opn (binA .add x8 (.int .i64 1)) fun x304 =>
 L418_0 x0 x1 x7 x304 H K0 Kr))
 (K0  H)) : L418_0 x0 x1 x7 x8 H K0 Kr := step_of (x := (.seq (.reg (.one .done)) (.seq (.cond .lf .lf) (.seq (.block (.seq (.reg (.one (.one .done))) (.seq (.reg (.one (.one (.one (.one (.one (.one .done))))))) (.cond (.seq (.reg (.one (.one .done))) .lf) .lf)))) (.reg (.one (.one .done))))))) (back := fun t' H' => L418_0 (getF t' 0) (getF t' 1) (getF t' 7) (getF t' 8) H' K0 Kr) (by kernel_rfl) (by kernel_rfl) (HOk_by (l := []) (by kernel_rfl) (all_nil)) (fun t' _ h => ⟨[(0, getF t' 0), (1, getF t' 1), (7, getF t' 7), (8, getF t' 8)], by simp, h⟩) (fun d => Eq.mp (by kernel_rfl) (h d))
theorem V418 (h :
 Res (builtinA H .lenSl [a0]) fun x300 H _ =>
 L418_0 a0 a1 x300 (.int .i64 0) H (fun  H => ∀ d301 : Nat → AV, K (.int .i64 (-1)) H) (fun x302 H => ∀ d303 : Nat → AV, K x302 H)) : ∃ v H', K v H' ∧ E.Ans 418 [a0, a1] H v H' := ans_of (F := F418) (np := 2) (nt := 19) (rs := [.t 4]) (x := (.seq (.reg (.one .done)) (.seq (.seq (.reg (.one (.one (.one .done)))) (.block (.loop h418_0))) (.seq (.reg (.one .done)) .lf)))) (by kernel_rfl) (by kernel_rfl) rfl (by decide) (by kernel_rfl) (HOk_by (l := [(h418_0, F418.loop 0)]) (by kernel_rfl) (all_cons (P := fun p : LHand × LCode => LpOkV E _ p.2 p.1) o418_0 (all_nil))) (Eq.mp (by kernel_rfl) h)
end Go.AE.Fns
namespace Go.AE.Fns
open Go Go.AE Env
set_option maxRecDepth 100000
end Go.AE.Fns
