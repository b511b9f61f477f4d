/- What functions do, as formulas. -/
import Derived.Test.YtibjieaohbnpgaaGreatDoorB4
import Derived.Test.YtibjieaohbnpgaaGreatDoorA7
import Derived.KernelRfl
set_option linter.all false
set_option linter.unusedSimpArgs false
set_option linter.unusedVariables false
set_option linter.unnecessarySimpa false
set_option linter.deprecated false
variable {a0 a1 a2 a3 a4 a5 a6 a7 a8 : Go.AE.AV} {H : Go.AE.AHeap} {K : Go.AE.AV → Go.AE.AHeap → Prop}
namespace Go.AE.Fns
open Go Go.AE Env
set_option maxRecDepth 100000
end Go.AE.Fns
namespace Go.AE.Fns
open Go Go.AE Env
set_option maxRecDepth 100000
end Go.AE.Fns
namespace Go.AE.Fns
open Go Go.AE Env
set_option maxRecDepth 100000
end Go.AE.Fns
namespace Go.AE.Fns
open Go Go.AE Env
set_option maxRecDepth 100000
end Go.AE.Fns
namespace Go.AE.Fns
open Go Go.AE Env
set_option maxRecDepth 100000
theorem V236 (h :
 Res (newVarA H a0 0) fun x300 H _ =>
 Res (newVarA H a1 0) fun x301 H _ =>
 Opn (addA 0 x300) fun x302 =>
 Res (loadA H 1 false x302) fun x303 H _ =>
 J1 (fun x304 H => ∀ d305 : Nat → AV, Two x303 (.bool true) x304 fun x306 =>
 Pick x306 (Opn (addA 0 x300) fun x307 =>
 Res (loadA H 1 false x307) fun x308 H _ =>
 Opn (addA 0 x301) fun x309 =>
 Res (loadA H 1 false x309) fun x310 H _ =>
 Opn (eqV false .b x308 x310) fun x311 =>
 J1 (fun x312 H => ∀ d313 : Nat → AV, Two x311 x312 (.bool false) fun x314 =>
 K x314 H) fun j315 => Gd x311 true (Opn (addA 1 x300) fun x316 =>
 Res (loadA H 1 false x316) fun x317 H _ =>
 Opn (addA 1 x301) fun x318 =>
 Res (loadA H 1 false x318) fun x319 H _ =>
 Opn (binA .eql x317 x319) fun x320 =>
 j315 x320 H) (j315 undefA H))
 (Opn (addA 16 x301) fun x321 =>
 Res (loadA H 1 false x321) fun x322 H k323 =>
 Opn (addA 17 x301) fun x324 =>
 Res (loadA H 1 false x324) fun x325 H k326 =>
 Opn (addA 1 x301) fun x327 =>
 Res (loadA H 1 false x327) fun x328 H k329 =>
 Opn (addA 16 x300) fun x330 =>
 Res (storeA H 1 x330 x322) fun _ H k331 =>
 Opn (addA 17 x300) fun x332 =>
 Res (storeA H 1 x332 x325) fun _ H k333 =>
 Opn (addA 1 x300) fun x334 =>
 Res (storeA H 1 x334 x328) fun _ H k335 =>
 drawOk (drawn F236 0) [.p, k323, .p, k326, .p, k329, .p, k331, .p, k333, .p, k335] = true ∧
 Res (loadA H 18 true x300) fun x336 H _ =>
 Res (loadA H 18 true x301) fun x337 H _ =>
 Opn (eqV false (.st [(0, 1, false, .b), (1, 1, false, .i), (2, 1, false, .s), (3, 11, true, (.st [(0, 1, false, .i), (1, 1, false, .s), (2, 1, false, .i), (3, 8, true, (.st [(0, 1, false, .i), (1, 1, false, .i), (2, 1, false, .i), (3, 1, false, .i), (4, 1, false, .i), (5, 1, false, .i), (6, 1, false, .i), (7, 1, false, .i)]))])), (14, 1, false, .i), (15, 1, false, .b), (16, 1, false, .s), (17, 1, false, .b)]) x336 x337) fun x338 =>
 K x338 H)) fun j339 => Gd x303 false (Opn (addA 0 x301) fun x340 =>
 Res (loadA H 1 false x340) fun x341 H _ =>
 j339 x341 H) (j339 undefA H)) : ∃ v H', K v H' ∧ E.Ans 236 [a0, a1] H v H' := ans_of (F := F236) (np := 2) (nt := 35) (rs := [.t 4]) (x := (.seq (.reg (.one (.one (.one .done)))) (.seq (.seq (.reg (.one (.one (.one (.grp 2 7 false [9] (.one (.one .done)) (.one .done)))))) (.cond (.seq (.reg (.one (.one (.one (.one (.one (.one (.grp 5 16 true [21] (.one (.one (.one (.one (.one .done))))) (.one (.one .done)))))))))) .lf) .lf)) (.seq (.reg .done) (.seq (.reg (.one (.one (.one (.one .done))))) .lf))))) (by kernel_rfl) (by kernel_rfl) rfl (by decide) (by kernel_rfl) (HOk_by (l := []) (by kernel_rfl) (all_nil)) (Eq.mp (by kernel_rfl) h)
end Go.AE.Fns
namespace Go.AE.Fns
open Go Go.AE Env
set_option maxRecDepth 100000
end Go.AE.Fns
namespace Go.AE.Fns
open Go Go.AE Env
set_option maxRecDepth 100000
theorem V380 (h :
 Res (newVarA H a0 0) fun x300 H _ =>
 Res (newVarA H a1 0) fun x301 H _ =>
 Res (newVarA H a2 0) fun x302 H _ =>
 Res (newVarA H a3 0) fun x303 H _ =>
 E.C 381 [] H fun x304 H _ =>
 Opn (unA .not x304) fun x305 =>
 Pick x305 (K (.bool false) H)
 (Res (loadA H 3 true x300) fun x306 H _ =>
 Res (loadA H 18 true x301) fun x307 H _ =>
 Res (loadA H 18 true x302) fun x308 H _ =>
 E.C 382 [x306, x307, x308] H fun x309 H _ =>
 Res (loadA H 3 true x300) fun x310 H _ =>
 Res (fAlloc [.bool false, .bool false, .nilsl] 0 H) fun x311 H _ =>
 Res (storeA H 3 x311 x310) fun _ H _ =>
 Opn (litV [.bool false, .int .i64 0, .str [], .int .u8 0, .str [], .int .u32 0, .int .u16 0, .int .u16 0, .int .u16 0, .int .u16 0, .int .u16 0, .int .u16 0, .int .u16 0, .int .u16 0, .int .i64 0, .bool false, .str [], .bool false] 0 18 []) fun x312 =>
 Opn (addA 2 x300) fun x313 =>
 Res (loadA H 1 false x313) fun x314 H k315 =>
 Res (builtinA H (.append 18 120 0 [.bool false, .int .i64 0, .str [], .int .u8 0, .str [], .int .u32 0, .int .u16 0, .int .u16 0, .int .u16 0, .int .u16 0, .int .u16 0, .int .u16 0, .int .u16 0, .int .u16 0, .int .i64 0, .bool false, .str [], .bool false]) [x312, x314]) fun x316 H k317 =>
 Res (loadA H 18 true x303) fun x318 H k319 =>
 Opn (litV [.bool false, .int .i64 0, .str [], .int .u8 0, .str [], .int .u32 0, .int .u16 0, .int .u16 0, .int .u16 0, .int .u16 0, .int .u16 0, .int .u16 0, .int .u16 0, .int .u16 0, .int .i64 0, .bool false, .str [], .bool false] 1 18 [(0, 18, x318)]) fun x320 =>
 Res (builtinA H (.append 18 120 0 [.bool false, .int .i64 0, .str [], .int .u8 0, .str [], .int .u32 0, .int .u16 0, .int .u16 0, .int .u16 0, .int .u16 0, .int .u16 0, .int .u16 0, .int .u16 0, .int .u16 0, .int .i64 0, .bool false, .str [], .bool false]) [x316, x320]) fun x321 H k322 =>
 Opn (addA 2 x311) fun x323 =>
 Res (storeA H 1 x323 x321) fun _ H k324 =>
 drawOk (drawn F380 0) [.p, .p, k315, k317, k319, .p, k322, .p, k324] = true ∧
 Res (loadA H 3 true x311) fun x325 H _ =>
 Res (loadA H 18 true x301) fun x326 H _ =>
 Res (loadA H 18 true x302) fun x327 H _ =>
 E.C 382 [x325, x326, x327] H fun x328 H _ =>
 Opn (addA 2 x300) fun x329 =>
 Res (loadA H 1 false x329) fun x330 H _ =>
 Opn (bldV [.bool false, .bool false, .nilsl] [(2, 1, x330)]) fun x331 =>
 Res (loadA H 18 true x301) fun x332 H _ =>
 Res (loadA H 18 true x302) fun x333 H _ =>
 E.C 382 [x331, x332, x333] H fun x334 H _ =>
 Opn (bldV [.bool false, .bool false, .nilsl] [(1, 1, (.bool true))]) fun x335 =>
 Res (loadA H 18 true x301) fun x336 H _ =>
 Res (loadA H 18 true x302) fun x337 H _ =>
 E.C 382 [x335, x336, x337] H fun x338 H _ =>
 Opn (addA 0 x300) fun x339 =>
 Res (loadA H 1 false x339) fun x340 H _ =>
 J1 (fun x341 H => ∀ d342 : Nat → AV, Two x340 (.bool true) x341 fun x343 =>
 J1 (fun x344 H => ∀ d345 : Nat → AV, Two x343 (.bool true) x344 fun x346 =>
 Opn (eqV false .b x309 x346) fun x347 =>
 J1 (fun x348 H => ∀ d349 : Nat → AV, Two x347 x348 (.bool false) fun x350 =>
 J1 (fun x351 H => ∀ d352 : Nat → AV, Two x350 x351 (.bool false) fun x353 =>
 J1 (fun x354 H => ∀ d355 : Nat → AV, Two x353 x354 (.bool false) fun x356 =>
 J1 (fun x357 H => ∀ d358 : Nat → AV, Two x356 x357 (.bool false) fun x359 =>
 K x359 H) fun j360 => Gd x356 true (Opn (bldV [.bool false, .bool false, .nilsl] []) fun x361 =>
 Res (loadA H 18 true x301) fun x362 H _ =>
 Res (loadA H 18 true x302) fun x363 H _ =>
 E.C 382 [x361, x362, x363] H fun x364 H _ =>
 Opn (unA .not x364) fun x365 =>
 j360 x365 H) (j360 undefA H)) fun j366 => Gd x353 true (Opn (bldV [.bool false, .bool false, .nilsl] [(1, 1, (.bool true))]) fun x367 =>
 Res (loadA H 18 true x302) fun x368 H _ =>
 Res (loadA H 18 true x302) fun x369 H _ =>
 E.C 382 [x367, x368, x369] H fun x370 H _ =>
 j366 x370 H) (j366 undefA H)) fun j371 => Gd x350 true (Res (loadA H 18 true x302) fun x372 H _ =>
 Opn (litV [.bool false, .int .i64 0, .str [], .int .u8 0, .str [], .int .u32 0, .int .u16 0, .int .u16 0, .int .u16 0, .int .u16 0, .int .u16 0, .int .u16 0, .int .u16 0, .int .u16 0, .int .i64 0, .bool false, .str [], .bool false] 1 18 [(0, 18, x372)]) fun x373 =>
 Opn (bldV [.bool false, .bool false, .nilsl] [(2, 1, x373)]) fun x374 =>
 Res (loadA H 18 true x301) fun x375 H _ =>
 Res (loadA H 18 true x302) fun x376 H _ =>
 E.C 382 [x374, x375, x376] H fun x377 H _ =>
 j371 x377 H) (j371 undefA H)) fun j378 => Gd x347 true (Opn (unA .not x309) fun x379 =>
 J1 (fun x380 H => ∀ d381 : Nat → AV, Two x379 (.bool true) x380 fun x382 =>
 j378 x382 H) fun j383 => Gd x379 false (j383 x328 H) (j383 undefA H)) (j378 undefA H)) fun j384 => Gd x343 false (j384 x334 H) (j384 undefA H)) fun j385 => Gd x340 false (Opn (addA 1 x300) fun x386 =>
 Res (loadA H 1 false x386) fun x387 H _ =>
 J1 (fun x388 H => ∀ d389 : Nat → AV, Two x387 x388 (.bool false) fun x390 =>
 j385 x390 H) fun j391 => Gd x387 true (j391 x338 H) (j391 undefA H)) (j385 undefA H))) : ∃ v H', K v H' ∧ E.Ans 380 [a0, a1, a2, a3] H v H' := ans_of (F := F380) (np := 4) (nt := 85) (rs := [.t 8]) (x := (.seq (.reg (.one (.one (.one (.one (.one .done)))))) (.seq (.seq (.reg (.one (.one .done))) (.cond (.seq (.reg (.one .done)) .lf) .lf)) (.seq (.reg (.one (.one (.one (.one (.one .done)))))) (.seq (.reg (.one (.one (.one .done)))) (.seq (.reg .done) (.seq (.reg (.one (.one (.one (.one (.one .done)))))) (.seq (.reg (.one (.one (.one (.one (.one (.one (.one .done)))))))) (.seq (.reg (.one (.one (.one (.one (.one .done)))))) (.seq (.reg (.one (.one (.one (.one (.grp 5 46 false [51] (.one (.one (.one (.grp 1 49 true [50] (.one .done) (.one .done))))) (.one (.one (.grp 1 53 false [54] (.one .done) (.one (.one (.one (.grp 5 57 true [62] (.one (.one (.one (.grp 1 60 false [61] (.one .done) (.one .done))))) (.one (.one (.grp 6 64 true [70] (.one (.one (.one (.one (.one (.one .done)))))) (.one (.one (.grp 4 72 true [76] (.one (.one (.one (.one .done)))) (.one (.one (.grp 5 78 true [83] (.one (.one (.one (.one (.one .done))))) (.one (.one .done)))))))))))))))))))))))) .lf)))))))))) (by kernel_rfl) (by kernel_rfl) rfl (by decide) (by kernel_rfl) (HOk_by (l := []) (by kernel_rfl) (all_nil)) (Eq.mp (by kernel_rfl) h)
theorem V382 (h :
 Res (newVarA H a0 0) fun x300 H _ =>
 Res (newVarA H a1 0) fun x301 H _ =>
 Res (newVarA H a2 0) fun x302 H _ =>
 Opn (addA 0 x300) fun x303 =>
 Res (loadA H 1 false x303) fun x304 H _ =>
 J1 (fun x305 H => ∀ d306 : Nat → AV, Two x304 (.bool true) x305 fun x307 =>
 J1 (fun x308 H => ∀ d309 : Nat → AV, Two x307 (.bool true) x308 fun x310 =>
 K x310 H) fun j311 => Gd x307 false (Opn (addA 2 x300) fun x312 =>
 Res (loadA H 1 false x312) fun x313 H _ =>
 E.C 396 [x313, (.func 395 [] [x302])] H fun x314 H _ =>
 j311 x314 H) (j311 undefA H)) fun j315 => Gd x304 false (Opn (addA 1 x300) fun x316 =>
 Res (loadA H 1 false x316) fun x317 H _ =>
 J1 (fun x318 H => ∀ d319 : Nat → AV, Two x317 x318 (.bool false) fun x320 =>
 j315 x320 H) fun j321 => Gd x317 true (Res (loadA H 18 true x301) fun x322 H _ =>
 Res (loadA H 18 true x302) fun x323 H _ =>
 E.C 236 [x322, x323] H fun x324 H _ =>
 j321 x324 H) (j321 undefA H)) (j315 undefA H)) : ∃ v H', K v H' ∧ E.Ans 382 [a0, a1, a2] H v H' := ans_of (F := F382) (np := 3) (nt := 24) (rs := [.t 6]) (x := (.seq (.reg (.one (.one (.one (.one .done))))) (.seq (.reg (.one (.one (.one (.grp 7 9 false [16] (.one (.one (.one (.grp 3 12 true [15] (.one (.one (.one .done))) (.one .done))))) (.one (.one (.grp 4 18 false [22] (.one (.one (.one (.one .done)))) (.one (.one .done)))))))))) .lf))) (by kernel_rfl) (by kernel_rfl) rfl (by decide) (by kernel_rfl) (HOk_by (l := []) (by kernel_rfl) (all_nil)) (Eq.mp (by kernel_rfl) h)
end Go.AE.Fns
namespace Go.AE.Fns
open Go Go.AE Env
set_option maxRecDepth 100000
theorem V395 (h :
 Res (newVarA H a0 0) fun x300 H _ =>
 Res (loadA H 18 true x300) fun x301 H _ =>
 Res (loadA H 18 true a1) fun x302 H _ =>
 E.C 236 [x301, x302] H fun x303 H _ =>
 K x303 H) : ∃ v H', K v H' ∧ E.Ans 395 [a0, a1] H v H' := ans_of (F := F395) (np := 2) (nt := 7) (rs := [.t 3]) (x := (.seq (.reg (.one (.one .done))) (.seq (.reg (.one (.one (.one (.one .done))))) .lf))) (by kernel_rfl) (by kernel_rfl) rfl (by decide) (by kernel_rfl) (HOk_by (l := []) (by kernel_rfl) (all_nil)) (Eq.mp (by kernel_rfl) h)
theorem V396 (h :
 E.C 408 [a0, a1] H fun x300 H _ =>
 Opn (binA .geq x300 (.int .i64 0)) fun x301 =>
 K x301 H) : ∃ v H', K v H' ∧ E.Ans 396 [a0, a1] H v H' := ans_of (F := F396) (np := 2) (nt := 9) (rs := [.t 4]) (x := (.seq (.reg (.one .done)) (.seq (.reg (.one (.one (.one (.one (.one .done)))))) .lf))) (by kernel_rfl) (by kernel_rfl) rfl (by decide) (by kernel_rfl) (HOk_by (l := []) (by kernel_rfl) (all_nil)) (Eq.mp (by kernel_rfl) h)
def L408_0 (x0 x1 x7 x8 : AV) (H : AHeap) (K0 : AHeap → Prop) (Kr : AV → AHeap → Prop) : Prop := LoopV E (F408.loop 0) [(0, x0), (1, x1), (7, x7), (8, x8)] 19 H (xq [(0, fun t H => K0  H)] (fun t H => Kr (getF t 4) H))
noncomputable def h408_0 : LHand := fun t H Q => L408_0 (getF t 0) (getF t 1) (getF t 7) (getF t 8) H ( fun  H => ∀ d : Nat → AV, Q (.exit 0) (mkO 524080 [] d t 0 1) H) ( fun y4 H => ∀ d : Nat → AV, Q .ret (mkO 524080 [(4, y4)] d t 0 1) H)
theorem o408_0 : LpOkV E 19 (F408.loop 0) h408_0 := fun t _ H Q ht hn h => hand_ok (m := 524080) ht hn (by kernel_rfl) h (by simp) (all_cons (fun t' _ h => ⟨[], by simp, h⟩) (all_nil)) (fun t' _ h => ⟨[(4, getF t' 4)], by simp, h⟩)
theorem S408_0 {x0 x1 x7 x8 : AV} {H : AHeap} {K0 : AHeap → Prop} {Kr : AV → AHeap → Prop} (h : ∀ d : Nat → AV,
 Opn (binA .lss x8 x7) fun x300 =>
 Pick x300 (Opn (idxAddrA 18 x0 x8) fun x301 =>
 Res (loadA H 18 true x301) fun x302 H _ =>
 CV E x1 [x302] H fun x303 H _ =>
 Pick x303 (Kr x8 H)
 (Opn (binA .add x8 (.int .i64 1)) fun x304 =>
 L408_0 x0 x1 x7 x304 H K0 Kr))
 (K0  H)) : L408_0 x0 x1 x7 x8 H K0 Kr := step_of (x := (.seq (.reg (.one .done)) (.seq (.cond .lf .lf) (.seq (.block (.seq (.reg (.one (.one .done))) (.seq (.reg (.one (.one (.one (.one (.one (.one .done))))))) (.cond (.seq (.reg (.one (.one .done))) .lf) .lf)))) (.reg (.one (.one .done))))))) (back := fun t' H' => L408_0 (getF t' 0) (getF t' 1) (getF t' 7) (getF t' 8) H' K0 Kr) (by kernel_rfl) (by kernel_rfl) (HOk_by (l := []) (by kernel_rfl) (all_nil)) (fun t' _ h => ⟨[(0, getF t' 0), (1, getF t' 1), (7, getF t' 7), (8, getF t' 8)], by simp, h⟩) (fun d => Eq.mp (by kernel_rfl) (h d))
theorem V408 (h :
 Res (builtinA H .lenSl [a0]) fun x300 H _ =>
 L408_0 a0 a1 x300 (.int .i64 0) H (fun  H => ∀ d301 : Nat → AV, K (.int .i64 (-1)) H) (fun x302 H => ∀ d303 : Nat → AV, K x302 H)) : ∃ v H', K v H' ∧ E.Ans 408 [a0, a1] H v H' := ans_of (F := F408) (np := 2) (nt := 19) (rs := [.t 4]) (x := (.seq (.reg (.one .done)) (.seq (.seq (.reg (.one (.one (.one .done)))) (.block (.loop h408_0))) (.seq (.reg (.one .done)) .lf)))) (by kernel_rfl) (by kernel_rfl) rfl (by decide) (by kernel_rfl) (HOk_by (l := [(h408_0, F408.loop 0)]) (by kernel_rfl) (all_cons (P := fun p : LHand × LCode => LpOkV E _ p.2 p.1) o408_0 (all_nil))) (Eq.mp (by kernel_rfl) h)
end Go.AE.Fns
namespace Go.AE.Fns
open Go Go.AE Env
set_option maxRecDepth 100000
end Go.AE.Fns
