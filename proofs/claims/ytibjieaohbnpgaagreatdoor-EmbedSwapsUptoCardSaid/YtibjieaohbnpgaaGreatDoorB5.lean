/- What functions do, as formulas. -/
import Derived.Test.YtibjieaohbnpgaaGreatDoorB4
import Derived.Test.YtibjieaohbnpgaaGreatDoorA7
import Derived.KernelRfl
set_option linter.all false
set_option linter.unusedSimpArgs false
set_option linter.unusedVariables false
set_option linter.unnecessarySimpa false
set_option linter.deprecated false
variable {a0 a1 a2 a3 a4 a5 a6 a7 a8 : Go.AE.AV} {H : Go.AE.AHeap} {K : Go.AE.AV → Go.AE.AHeap → Prop}
namespace Go.AE.Fns
open Go Go.AE Env
set_option maxRecDepth 100000
end Go.AE.Fns
namespace Go.AE.Fns
open Go Go.AE Env
set_option maxRecDepth 100000
end Go.AE.Fns
namespace Go.AE.Fns
open Go Go.AE Env
set_option maxRecDepth 100000
end Go.AE.Fns
namespace Go.AE.Fns
open Go Go.AE Env
set_option maxRecDepth 100000
end Go.AE.Fns
namespace Go.AE.Fns
open Go Go.AE Env
set_option maxRecDepth 100000
theorem V236 (h :
 Res (newVarA H a0 0) fun x300 H _ =>
 Res (newVarA H a1 0) fun x301 H _ =>
 Opn (addA 0 x300) fun x302 =>
 Res (loadA H 1 false x302) fun x303 H _ =>
 J1 (fun x304 H => ∀ d305 : Nat → AV, Two x303 (.bool true) x304 fun x306 =>
 Pick x306 (Opn (addA 0 x300) fun x307 =>
 Res (loadA H 1 false x307) fun x308 H _ =>
 Opn (addA 0 x301) fun x309 =>
 Res (loadA H 1 false x309) fun x310 H _ =>
 Opn (eqV false .b x308 x310) fun x311 =>
 J1 (fun x312 H => ∀ d313 : Nat → AV, Two x311 x312 (.bool false) fun x314 =>
 K x314 H) fun j315 => Gd x311 true (Opn (addA 1 x300) fun x316 =>
 Res (loadA H 1 false x316) fun x317 H _ =>
 Opn (addA 1 x301) fun x318 =>
 Res (loadA H 1 false x318) fun x319 H _ =>
 Opn (binA .eql x317 x319) fun x320 =>
 j315 x320 H) (j315 undefA H))
 (Opn (addA 16 x301) fun x321 =>
 Res (loadA H 1 false x321) fun x322 H k323 =>
 Opn (addA 17 x301) fun x324 =>
 Res (loadA H 1 false x324) fun x325 H k326 =>
 Opn (addA 1 x301) fun x327 =>
 Res (loadA H 1 false x327) fun x328 H k329 =>
 Opn (addA 16 x300) fun x330 =>
 Res (storeA H 1 x330 x322) fun _ H k331 =>
 Opn (addA 17 x300) fun x332 =>
 Res (storeA H 1 x332 x325) fun _ H k333 =>
 Opn (addA 1 x300) fun x334 =>
 Res (storeA H 1 x334 x328) fun _ H k335 =>
 drawOk (drawn F236 0) [.p, k323, .p, k326, .p, k329, .p, k331, .p, k333, .p, k335] = true ∧
 Res (loadA H 18 true x300) fun x336 H _ =>
 Res (loadA H 18 true x301) fun x337 H _ =>
 Opn (eqV false (.st [(0, 1, false, .b), (1, 1, false, .i), (2, 1, false, .s), (3, 11, true, (.st [(0, 1, false, .i), (1, 1, false, .s), (2, 1, false, .i), (3, 8, true, (.st [(0, 1, false, .i), (1, 1, false, .i), (2, 1, false, .i), (3, 1, false, .i), (4, 1, false, .i), (5, 1, false, .i), (6, 1, false, .i), (7, 1, false, .i)]))])), (14, 1, false, .i), (15, 1, false, .b), (16, 1, false, .s), (17, 1, false, .b)]) x336 x337) fun x338 =>
 K x338 H)) fun j339 => Gd x303 false (Opn (addA 0 x301) fun x340 =>
 Res (loadA H 1 false x340) fun x341 H _ =>
 j339 x341 H) (j339 undefA H)) : ∃ v H', K v H' ∧ E.Ans 236 [a0, a1] H v H' := ans_of (F := F236) (np := 2) (nt := 35) (rs := [.t 4]) (x := (.seq (.reg (.one (.one (.one .done)))) (.seq (.seq (.reg (.one (.one (.one (.grp 2 7 false [9] (.one (.one .done)) (.one .done)))))) (.cond (.seq (.reg (.one (.one (.one (.one (.one (.one (.grp 5 16 true [21] (.one (.one (.one (.one (.one .done))))) (.one (.one .done)))))))))) .lf) .lf)) (.seq (.reg .done) (.seq (.reg (.one (.one (.one (.one .done))))) .lf))))) (by kernel_rfl) (by kernel_rfl) rfl (by decide) (by kernel_rfl) (HOk_by (l := []) (by kernel_rfl) (all_nil)) (Eq.mp (by kernel_rfl) h)
end Go.AE.Fns
namespace Go.AE.Fns
open Go Go.AE Env
set_option maxRecDepth 100000
end Go.AE.Fns
namespace Go.AE.Fns
open Go Go.AE Env
set_option maxRecDepth 100000
theorem V386 (h :
 Res (newVarA H a2 0) fun x300 H _ =>
 Res (newVarA H a3 0) fun x301 H _ =>
 E.C 381 [] H fun x302 H _ =>
 Opn (unA .not x302) fun x303 =>
 Pick x303 (K (.bool false) H)
 (Res (loadA H 18 true x300) fun x304 H k305 =>
 Res (loadA H 18 true x301) fun x306 H k307 =>
 E.C 387 [a0, x304, a1, x306, (.bool false)] H fun x308 H k309 =>
 Res (loadA H 18 true x301) fun x310 H k311 =>
 Res (loadA H 18 true x300) fun x312 H k313 =>
 E.C 387 [a1, x310, a0, x312, (.bool false)] H fun x314 H k315 =>
 Opn (eqV true .b x308 x314) fun x316 =>
 Jk (fun x317 H k318 =>
 Jk (fun x319 H k320 =>
 Jk (fun x321 H k322 =>
 Jk (fun x323 H k324 =>
 Jk (fun x325 H k326 =>
 Two x316 (.bool true) x325 fun x327 =>
 Jk (fun x328 H k329 =>
 Jk (fun x330 H k331 =>
 Jk (fun x332 H k333 =>
 Jk (fun x334 H k335 =>
 Jk (fun x336 H k337 =>
 Jk (fun x338 H k339 =>
 Jk (fun x340 H k341 =>
 Jk (fun x342 H k343 =>
 Jk (fun x344 H k345 =>
 Jk (fun x346 H k347 =>
 Jk (fun x348 H k349 =>
 Jk (fun x350 H k351 =>
 Jk (fun x352 H k353 =>
 Two x327 (.bool true) x352 fun x354 =>
 drawOk (drawn F386 0) [.p, k305, .p, k307, k309, .p, k311, .p, k313, k315, .p, .p, k318, k320, k322, k324, k326, .p, .p, k329, k331, k333, k335, k337, k339, k341, k343, k345, k347, k349, k351, k353, .p] = true ∧
 Pick x354 (K (.bool false) H)
 (Res (loadA H 18 true x300) fun x355 H _ =>
 Res (loadA H 18 true x301) fun x356 H _ =>
 E.C 388 [(.int .u8 3), (.int .u8 1), a4, x355, x356] H fun x357 H _ =>
 Opn (exV 0 x357) fun x358 =>
 Opn (exV 1 x357) fun x359 =>
 Res (loadA H 18 true x300) fun x360 H _ =>
 Res (loadA H 18 true x301) fun x361 H _ =>
 E.C 388 [(.int .u8 0), (.int .u8 0), a4, x360, x361] H fun x362 H _ =>
 Opn (exV 0 x362) fun x363 =>
 Opn (exV 1 x362) fun x364 =>
 Res (loadA H 18 true x300) fun x365 H _ =>
 Res (loadA H 18 true x300) fun x366 H _ =>
 E.C 388 [(.int .u8 1), (.int .u8 0), a4, x365, x366] H fun x367 H _ =>
 Opn (exV 0 x367) fun x368 =>
 Opn (exV 1 x367) fun x369 =>
 J1 (fun x370 H => ∀ d371 : Nat → AV, Two x358 x370 (.bool false) fun x372 =>
 J1 (fun x373 H => ∀ d374 : Nat → AV, Two x372 x373 (.bool false) fun x375 =>
 J1 (fun x376 H => ∀ d377 : Nat → AV, Two x375 x376 (.bool false) fun x378 =>
 J1 (fun x379 H => ∀ d380 : Nat → AV, Two x378 x379 (.bool false) fun x381 =>
 J1 (fun x382 H => ∀ d383 : Nat → AV, Two x381 x382 (.bool false) fun x384 =>
 K x384 H) fun j385 => Gd x381 true (Opn (binA .eql x369 (.int .i64 0)) fun x386 =>
 j385 x386 H) (j385 undefA H)) fun j387 => Gd x378 true (j387 x368 H) (j387 undefA H)) fun j388 => Gd x375 true (Opn (binA .eql x364 (.int .i64 0)) fun x389 =>
 j388 x389 H) (j388 undefA H)) fun j390 => Gd x372 true (j390 x363 H) (j390 undefA H)) fun j391 => Gd x358 true (Opn (binA .eql x359 (.int .i64 0)) fun x392 =>
 j391 x392 H) (j391 undefA H))) fun j393 => Gd x327 false (Two x338 x350 (.bool false) fun x => j393 x H .p) (j393 undefA H .p)) fun j394 => Gd x338 true (Opn (unA .not x348) fun x => j394 x H .p) (j394 undefA H .p)) fun j395 => Gd x338 true (E.C 387 [x340, x342, x344, x346, (.bool false)] H j395) (j395 undefA H .p)) fun j396 => Gd x338 true (Res (loadA H 18 true x301) j396) (j396 undefA H .p)) fun j397 => Gd x338 true (j397 a1 H .p) (j397 undefA H .p)) fun j398 => Gd x338 true (Res (loadA H 18 true x300) j398) (j398 undefA H .p)) fun j399 => Gd x338 true (j399 a0 H .p) (j399 undefA H .p)) fun j400 => Gd x327 false (j400 x336 H .p) (j400 undefA H .p)) fun j401 => Gd x327 false (E.C 387 [x328, x330, x332, x334, (.bool true)] H j401) (j401 undefA H .p)) fun j402 => Gd x327 false (Res (loadA H 18 true x301) j402) (j402 undefA H .p)) fun j403 => Gd x327 false (j403 a1 H .p) (j403 undefA H .p)) fun j404 => Gd x327 false (Res (loadA H 18 true x300) j404) (j404 undefA H .p)) fun j405 => Gd x327 false (j405 a0 H .p) (j405 undefA H .p)) fun j406 => Gd x316 false (E.C 387 [x317, x319, x321, x323, (.bool false)] H j406) (j406 undefA H .p)) fun j407 => Gd x316 false (Res (loadA H 18 true x300) j407) (j407 undefA H .p)) fun j408 => Gd x316 false (j408 a0 H .p) (j408 undefA H .p)) fun j409 => Gd x316 false (Res (loadA H 18 true x300) j409) (j409 undefA H .p)) fun j410 => Gd x316 false (j410 a0 H .p) (j410 undefA H .p))) : ∃ v H', K v H' ∧ E.Ans 386 [a0, a1, a2, a3, a4] H v H' := ans_of (F := F386) (np := 5) (nt := 92) (rs := [.t 10]) (x := (.seq (.reg (.one (.one (.one .done)))) (.seq (.seq (.reg (.one (.one .done))) (.cond (.seq (.reg (.one .done)) .lf) .lf)) (.seq (.seq (.reg .done) (.cond (.seq (.reg (.one .done)) .lf) .lf)) (.seq (.reg (.one (.one (.one (.one (.one (.one (.one (.one (.one .done)))))))))) (.seq (.reg (.one (.one (.one (.one (.one (.one (.one (.one (.one .done)))))))))) (.seq (.reg (.one (.one (.one (.one (.one (.one (.one (.one (.one .done)))))))))) (.seq (.reg (.one (.one (.grp 2 74 true [76] (.one (.one .done)) (.one (.one (.grp 1 78 true [79] (.one .done) (.one (.one (.grp 2 81 true [83] (.one (.one .done)) (.one (.one (.grp 1 85 true [86] (.one .done) (.one (.one (.grp 2 88 true [90] (.one (.one .done)) (.one (.one .done)))))))))))))))))) .lf)))))))) (by kernel_rfl) (by kernel_rfl) rfl (by decide) (by kernel_rfl) (HOk_by (l := []) (by kernel_rfl) (all_nil)) (Eq.mp (by kernel_rfl) h)
theorem V387 (h :
 Res (newVarA H a1 0) fun x300 H _ =>
 Res (newVarA H a3 0) fun x301 H _ =>
 Opn (binA .eql a0 a2) fun x302 =>
 J1 (fun x303 H => ∀ d304 : Nat → AV, Two x302 x303 (.bool false) fun x305 =>
 Pick x305 (K (.bool false) H)
 (J1 (fun x306 H => ∀ d307 : Nat → AV, Two a4 x306 (.bool false) fun x308 =>
 J1 (fun x309 H => ∀ d310 : Nat → AV, Two x308 x309 (.bool false) fun x311 =>
 Pick x311 (K (.bool false) H)
 (K (.bool true) H)) fun j312 => Gd x308 true (Opn (binA .eql a2 (.int .u8 0)) fun x313 =>
 j312 x313 H) (j312 undefA H)) fun j314 => Gd a4 true (Opn (binA .eql a0 (.int .u8 1)) fun x315 =>
 j314 x315 H) (j314 undefA H))) fun j316 => Gd x302 true (Opn (binA .eql a0 (.int .u8 0)) fun x317 =>
 J1 (fun x318 H => ∀ d319 : Nat → AV, Two x317 (.bool true) x318 fun x320 =>
 j316 x320 H) fun j321 => Gd x317 false (Res (loadA H 18 true x300) fun x322 H _ =>
 Res (loadA H 18 true x301) fun x323 H _ =>
 E.C 236 [x322, x323] H fun x324 H _ =>
 j321 x324 H) (j321 undefA H)) (j316 undefA H)) : ∃ v H', K v H' ∧ E.Ans 387 [a0, a1, a2, a3, a4] H v H' := ans_of (F := F387) (np := 5) (nt := 34) (rs := [.t 10]) (x := (.seq (.reg (.one (.one (.one .done)))) (.seq (.block (.seq (.reg (.one (.one (.one (.one (.grp 7 15 true [22] (.one (.one (.one (.grp 3 18 false [21] (.one (.one (.one .done))) (.one .done))))) (.one (.one .done)))))))) (.cond (.seq (.reg (.one .done)) .lf) (.seq (.reg (.one (.one (.grp 2 26 true [28] (.one (.one .done)) (.one (.one (.grp 2 30 true [32] (.one (.one .done)) (.one (.one .done))))))))) (.cond (.seq (.reg (.one .done)) .lf) .lf))))) (.seq (.reg (.one .done)) .lf)))) (by kernel_rfl) (by kernel_rfl) rfl (by decide) (by kernel_rfl) (HOk_by (l := []) (by kernel_rfl) (all_nil)) (Eq.mp (by kernel_rfl) h)
theorem V388 (h :
 Res (newVarA H a3 0) fun x300 H _ =>
 Res (newVarA H a4 0) fun x301 H _ =>
 J1 (fun x302 H => ∀ d303 : Nat → AV,
 Opn (binA .eql x302 (.int .u8 1)) fun x304 =>
 Pick x304 (Res (loadA H 18 true x300) fun x305 H _ =>
 Res (loadA H 18 true x301) fun x306 H _ =>
 E.C 236 [x305, x306] H fun x307 H _ =>
 K (.tuple [x307, (.int .i64 0)]) H)
 (Opn (binA .eql x302 (.int .u8 2)) fun x308 =>
 Pick x308 (Res (loadA H 18 true x300) fun x309 H _ =>
 E.C 239 [a2, x309] H fun x310 H _ =>
 Opn (exV 0 x310) fun x311 =>
 Opn (exV 1 x310) fun x312 =>
 Res (fAlloc [.bool false, .int .i64 0, .str [], .str []] 0 H) fun x313 H _ =>
 Res (storeA H 4 x313 x311) fun _ H _ =>
 Res (loadA H 18 true x301) fun x314 H _ =>
 E.C 239 [a2, x314] H fun x315 H _ =>
 Opn (exV 0 x315) fun x316 =>
 Opn (exV 1 x315) fun x317 =>
 Res (fAlloc [.bool false, .int .i64 0, .str [], .str []] 0 H) fun x318 H _ =>
 Res (storeA H 4 x318 x316) fun _ H _ =>
 Opn (binA .neq x312 (.int .i64 0)) fun x319 =>
 Pick x319 (K (.tuple [(.bool false), x312]) H)
 (Opn (binA .neq x317 (.int .i64 0)) fun x320 =>
 Pick x320 (K (.tuple [(.bool false), x317]) H)
 (Opn (addA 0 x313) fun x321 =>
 Res (loadA H 1 false x321) fun x322 H _ =>
 Opn (unA .not x322) fun x323 =>
 J1 (fun x324 H => ∀ d325 : Nat → AV, Two x323 x324 (.bool false) fun x326 =>
 J1 (fun x327 H => ∀ d328 : Nat → AV, Two x326 x327 (.bool false) fun x329 =>
 J1 (fun x330 H => ∀ d331 : Nat → AV, Two x329 x330 (.bool false) fun x332 =>
 K (.tuple [x332, (.int .i64 0)]) H) fun j333 => Gd x329 true (Opn (addA 2 x300) fun x334 =>
 Res (loadA H 1 false x334) fun x335 H _ =>
 Opn (binA .eql x335 (.str [104, 116, 116, 112, 115])) fun x336 =>
 J1 (fun x337 H => ∀ d338 : Nat → AV, Two x336 (.bool true) x337 fun x339 =>
 j333 x339 H) fun j340 => Gd x336 false (Opn (addA 2 x301) fun x341 =>
 Res (loadA H 1 false x341) fun x342 H _ =>
 Opn (binA .neq x342 (.str [104, 116, 116, 112, 115])) fun x343 =>
 j340 x343 H) (j340 undefA H)) (j333 undefA H)) fun j344 => Gd x326 true (Opn (addA 3 x313) fun x345 =>
 Res (loadA H 1 false x345) fun x346 H _ =>
 Opn (addA 3 x318) fun x347 =>
 Res (loadA H 1 false x347) fun x348 H _ =>
 Opn (binA .eql x346 x348) fun x349 =>
 j344 x349 H) (j344 undefA H)) fun j350 => Gd x323 true (Opn (addA 0 x318) fun x351 =>
 Res (loadA H 1 false x351) fun x352 H _ =>
 Opn (unA .not x352) fun x353 =>
 j350 x353 H) (j350 undefA H))))
 (K (.tuple [(.bool true), (.int .i64 0)]) H))) fun j354 =>
 Opn (binA .eql a0 (.int .u8 0)) fun x355 =>
 J1 (fun x356 H => ∀ d357 : Nat → AV, Two x355 x356 (.bool false) fun x358 =>
 Pick x358 (j354 (.int .u8 1) H)
 (j354 a0 H)) fun j359 => Gd x355 true (Opn (binA .eql a1 (.int .u8 1)) fun x360 =>
 j359 x360 H) (j359 undefA H)) : ∃ v H', K v H' ∧ E.Ans 388 [a0, a1, a2, a3, a4] H v H' := ans_of (F := F388) (np := 5) (nt := 75) (rs := [.t 10, .t 11]) (x := (.seq (.reg (.one (.one (.one (.one .done))))) (.cut [0] (.seq (.reg (.one (.one (.one (.grp 2 18 true [20] (.one (.one .done)) (.one .done)))))) (.cond (.reg (.one .done)) .lf)) (.seq (.seq (.reg (.one .done)) (.block (.seq (.reg (.one (.one .done))) (.cond (.seq (.reg (.one (.one (.one (.one (.one .done)))))) .lf) (.seq (.reg (.one (.one .done))) (.cond (.seq (.reg (.one (.one (.one (.one (.one (.one (.one (.one (.one .done)))))))))) (.seq (.reg (.one (.one (.one (.one (.one (.one (.one (.one (.one .done)))))))))) (.seq (.block (.seq (.reg (.one (.one (.one .done)))) (.cond (.seq (.reg (.one (.one (.one .done)))) .lf) (.seq (.reg (.one (.one (.one .done)))) (.cond (.seq (.reg (.one (.one (.one .done)))) .lf) .lf))))) (.seq (.reg (.one (.one (.one (.one (.grp 3 53 true [56] (.one (.one (.one .done))) (.one (.one (.grp 5 58 true [63] (.one (.one (.one (.one (.one .done))))) (.one (.one (.grp 8 65 true [73] (.one (.one (.one (.one (.grp 3 69 false [72] (.one (.one (.one .done))) (.one .done)))))) (.one (.one (.one .done))))))))))))))) .lf)))) .lf)))))) (.seq (.reg (.one (.one .done))) .lf))))) (by kernel_rfl) (by kernel_rfl) rfl (by decide) (by kernel_rfl) (HOk_by (l := []) (by kernel_rfl) (all_nil)) (Eq.mp (by kernel_rfl) h)
end Go.AE.Fns
namespace Go.AE.Fns
open Go Go.AE Env
set_option maxRecDepth 100000
end Go.AE.Fns
namespace Go.AE.Fns
open Go Go.AE Env
set_option maxRecDepth 100000
end Go.AE.Fns
