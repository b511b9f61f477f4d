/- What functions do, as formulas. -/
import Derived.Test.YtibjieaohbnpgaaGreatDoorB4
import Derived.Test.YtibjieaohbnpgaaGreatDoorA7
import Derived.KernelRfl
set_option linter.all false
set_option linter.unusedSimpArgs false
set_option linter.unusedVariables false
set_option linter.unnecessarySimpa false
set_option linter.deprecated false
variable {a0 a1 a2 a3 a4 a5 a6 a7 a8 : Go.AE.AV} {H : Go.AE.AHeap} {K : Go.AE.AV → Go.AE.AHeap → Prop}
namespace Go.AE.Fns
open Go Go.AE Env
set_option maxRecDepth 100000
theorem V16 (h :
 Res (fNilChk a0 H) fun x300 H k301 =>
 Opn (addA 1 x300) fun x302 =>
 Res (loadA H 1 false x302) fun x303 H k304 =>
 Res (builtinA H .sliceData [x303]) fun x305 H k306 =>
 Res (fNilChk a0 H) fun x307 H k308 =>
 Opn (addA 1 x307) fun x309 =>
 Res (loadA H 1 false x309) fun x310 H k311 =>
 Res (builtinA H .lenSl [x310]) fun x312 H k313 =>
 Res (builtinA H .string [x305, x312]) fun x314 H k315 =>
 drawOk (drawn F16 0) [.p, k301, .p, k304, k306, .p, k308, .p, k311, k313, k315, .p] = true ∧
 K x314 H) : ∃ v H', K v H' ∧ E.Ans 16 [a0] H v H' := ans_of (F := F16) (np := 1) (nt := 14) (rs := [.t 2]) (x := (.seq (.reg (.one .done)) (.seq (.reg .done) .lf))) (by kernel_rfl) (by kernel_rfl) rfl (by decide) (by kernel_rfl) (HOk_by (l := []) (by kernel_rfl) (all_nil)) (Eq.mp (by kernel_rfl) h)
theorem V17 (h :
 E.C 19 [a0] H fun x300 H _ =>
 Res (fNilChk a0 H) fun x301 H _ =>
 Opn (addA 1 x301) fun x302 =>
 Res (loadA H 1 false x302) fun x303 H _ =>
 Opn (litV [.int .u8 0] 1 1 [(0, 1, a1)]) fun x304 =>
 Res (builtinA H (.append 1 1 1 [.int .u8 0]) [x303, x304]) fun x305 H _ =>
 Res (fNilChk a0 H) fun x306 H _ =>
 Opn (addA 1 x306) fun x307 =>
 Res (storeA H 1 x307 x305) fun _ H _ =>
 K (.nilIface) H) : ∃ v H', K v H' ∧ E.Ans 17 [a0, a1] H v H' := ans_of (F := F17) (np := 2) (nt := 17) (rs := [.t 4]) (x := (.seq (.reg (.one .done)) (.seq (.reg (.one (.one .done))) (.seq (.reg (.one (.one (.one (.one (.one (.one (.one (.one (.one (.one (.one .done)))))))))))) (.seq (.reg (.one .done)) .lf))))) (by kernel_rfl) (by kernel_rfl) rfl (by decide) (by kernel_rfl) (HOk_by (l := []) (by kernel_rfl) (all_nil)) (Eq.mp (by kernel_rfl) h)
theorem V40 (h :
 E.C 45 [a0] H fun x300 H _ =>
 Res (builtinA H .lenSl [x300]) fun x301 H _ =>
 Opn (binA .sub x301 (.int .i64 1)) fun x302 =>
 Opn (idxAddrA 1 x300 x302) fun x303 =>
 Res (loadA H 1 false x303) fun x304 H _ =>
 E.C 44 [x304] H fun x305 H _ =>
 Opn (exV 0 x305) fun x306 =>
 Opn (exV 1 x305) fun x307 =>
 J1 (fun x308 H => ∀ d309 : Nat → AV, Two x307 (.bool true) x308 fun x310 =>
 K x310 H) fun j311 => Gd x307 false (Opn (binA .neq x304 (.str [])) fun x312 =>
 J1 (fun x313 H => ∀ d314 : Nat → AV, Two x312 x313 (.bool false) fun x315 =>
 j311 x315 H) fun j316 => Gd x312 true (Opn (litV [.nilFunc] 1 1 [(0, 1, (.func 43 [] []))]) fun x317 =>
 E.C 41 [x304, x317] H fun x318 H _ =>
 j316 x318 H) (j316 undefA H)) (j311 undefA H)) : ∃ v H', K v H' ∧ E.Ans 40 [a0] H v H' := ans_of (F := F40) (np := 1) (nt := 30) (rs := [.t 2]) (x := (.seq (.reg (.one .done)) (.seq (.reg (.one (.one (.one .done)))) (.seq (.reg (.one (.one (.one (.one (.one (.one (.one .done)))))))) (.seq (.reg (.one (.one (.one (.one (.one (.one (.one .done)))))))) (.seq (.reg (.one (.one (.grp 7 21 false [28] (.one (.one (.one (.grp 3 24 true [27] (.one (.one (.one .done))) (.one .done))))) (.one (.one .done)))))) .lf)))))) (by kernel_rfl) (by kernel_rfl) rfl (by decide) (by kernel_rfl) (HOk_by (l := []) (by kernel_rfl) (all_nil)) (Eq.mp (by kernel_rfl) h)
theorem V44 (h :
 Opn (binA .neq a0 (.str [])) fun x300 =>
 J1 (fun x301 H => ∀ d302 : Nat → AV, Two x300 x301 (.bool false) fun x303 =>
 J3 (fun x304 x305 x306 H => ∀ d307 : Nat → AV,
 Opn (unA .not x306) fun x308 =>
 J1 (fun x309 H => ∀ d310 : Nat → AV, Two x308 (.bool true) x309 fun x311 =>
 Pick x311 (K (.tuple [(.int .u64 0), x306]) H)
 (E.C 260 [x304, x305, (.int .i64 64)] H fun x312 H _ =>
 Opn (exV 0 x312) fun x313 =>
 Opn (exV 1 x312) fun x314 =>
 Opn (eqV true (.ifc true [(6, .i)]) x314 (.nilIface)) fun x315 =>
 Pick x315 (K (.tuple [(.int .u64 9223372036854775808), (.bool true)]) H)
 (K (.tuple [x313, (.bool true)]) H))) fun j316 => Gd x308 false (Opn (binA .eql x304 (.str [])) fun x317 =>
 j316 x317 H) (j316 undefA H)) fun j318 =>
 Res (builtinA H .lenStr [a0]) fun x319 H _ =>
 Opn (binA .gtr x319 (.int .i64 1)) fun x320 =>
 J1 (fun x321 H => ∀ d322 : Nat → AV, Two x320 x321 (.bool false) fun x323 =>
 J1 (fun x324 H => ∀ d325 : Nat → AV, Two x323 x324 (.bool false) fun x326 =>
 Pick x326 (Res (fSlStr a0 (some (.int .i64 2)) none H) fun x327 H k328 =>
 drawOk (drawn F44 0) [.p, k328, .p, .p] = true ∧
 Opn (litV [.nilFunc] 2 1 [(0, 1, (.func 43 [] [])), (1, 1, (.func 215 [] []))]) fun x329 =>
 E.C 41 [x327, x329] H fun x330 H _ =>
 j318 x327 (.int .i64 16) x330 H)
 (Res (builtinA H .lenStr [a0]) fun x331 H _ =>
 Opn (binA .gtr x331 (.int .i64 1)) fun x332 =>
 J1 (fun x333 H => ∀ d334 : Nat → AV, Two x332 x333 (.bool false) fun x335 =>
 Pick x335 (Res (fSlStr a0 (some (.int .i64 1)) none H) fun x336 H k337 =>
 drawOk (drawn F44 1) [.p, k337, .p, .p] = true ∧
 Opn (litV [.nilFunc] 1 1 [(0, 1, (.func 216 [] []))]) fun x338 =>
 E.C 41 [x336, x338] H fun x339 H _ =>
 j318 x336 (.int .i64 8) x339 H)
 (j318 a0 (.int .i64 10) x303 H)) fun j340 => Gd x332 true (Res (fIdxStr a0 (.int .i64 0) H) fun x341 H _ =>
 Opn (binA .eql x341 (.int .u8 48)) fun x342 =>
 j340 x342 H) (j340 undefA H))) fun j343 => Gd x323 true (Res (fIdxStr a0 (.int .i64 1) H) fun x344 H _ =>
 Opn (binA .or x344 (.int .u8 32)) fun x345 =>
 Opn (binA .eql x345 (.int .u8 120)) fun x346 =>
 j343 x346 H) (j343 undefA H)) fun j347 => Gd x320 true (Res (fIdxStr a0 (.int .i64 0) H) fun x348 H _ =>
 Opn (binA .eql x348 (.int .u8 48)) fun x349 =>
 j347 x349 H) (j347 undefA H)) fun j350 => Gd x300 true (Opn (litV [.nilFunc] 1 1 [(0, 1, (.func 43 [] []))]) fun x351 =>
 E.C 41 [a0, x351] H fun x352 H _ =>
 j350 x352 H) (j350 undefA H)) : ∃ v H', K v H' ∧ E.Ans 44 [a0] H v H' := ans_of (F := F44) (np := 1) (nt := 65) (rs := [.t 2, .t 3]) (x := (.seq (.reg (.one (.one .done))) (.seq (.reg (.one .done)) (.seq (.reg (.one (.one (.one (.grp 3 10 true [13] (.one (.one (.one .done))) (.one (.one .done))))))) (.cut [0, 4, 5] (.block (.seq (.reg (.one (.one (.one (.one (.grp 3 19 true [22] (.one (.one (.one .done))) (.one (.one (.grp 4 24 true [28] (.one (.one (.one (.one .done)))) (.one (.one .done))))))))))) (.cond (.seq (.reg .done) (.reg (.one (.one (.one (.one .done)))))) (.seq (.reg (.one (.one (.one (.one (.grp 3 39 true [42] (.one (.one (.one .done))) (.one (.one .done)))))))) (.cond (.seq (.reg .done) (.reg (.one (.one (.one (.one .done)))))) .lf))))) (.seq (.seq (.reg (.one (.one (.one (.grp 2 51 false [53] (.one (.one .done)) (.one .done)))))) (.cond (.seq (.reg (.one (.one (.one .done)))) .lf) .lf)) (.seq (.reg (.one (.one (.one (.one (.one (.one (.one (.one .done))))))))) (.seq (.seq (.reg (.one (.one .done))) (.cond (.reg (.one .done)) .lf)) (.seq (.reg (.one (.one (.one .done)))) .lf))))))))) (by kernel_rfl) (by kernel_rfl) rfl (by decide) (by kernel_rfl) (HOk_by (l := []) (by kernel_rfl) (all_nil)) (Eq.mp (by kernel_rfl) h)
theorem V45 (h :
 E.C 197 [a0, (.str [46])] H fun x300 H _ =>
 Res (builtinA H .lenSl [x300]) fun x301 H _ =>
 Opn (binA .gtr x301 (.int .i64 1)) fun x302 =>
 J1 (fun x303 H => ∀ d304 : Nat → AV, Two x302 x303 (.bool false) fun x305 =>
 Pick x305 (Opn (binA .sub x301 (.int .i64 1)) fun x306 =>
 Opn (sliceA 1 x300 none (some x306) none) fun x307 =>
 K x307 H)
 (K x300 H)) fun j308 => Gd x302 true (Opn (binA .sub x301 (.int .i64 1)) fun x309 =>
 Opn (idxAddrA 1 x300 x309) fun x310 =>
 Res (loadA H 1 false x310) fun x311 H _ =>
 Opn (binA .eql x311 (.str [])) fun x312 =>
 j308 x312 H) (j308 undefA H)) : ∃ v H', K v H' ∧ E.Ans 45 [a0] H v H' := ans_of (F := F45) (np := 1) (nt := 24) (rs := [.t 2]) (x := (.seq (.reg (.one .done)) (.seq (.reg (.one (.one (.one .done)))) (.seq (.seq (.reg (.one (.one (.one .done)))) (.seq (.reg (.one (.one (.one (.grp 6 11 true [17] (.one (.one (.one (.one (.one (.one .done)))))) (.one .done)))))) (.cond (.seq (.reg (.one (.one (.one (.one (.one .done)))))) .lf) .lf))) (.seq (.reg (.one (.one .done))) .lf))))) (by kernel_rfl) (by kernel_rfl) rfl (by decide) (by kernel_rfl) (HOk_by (l := []) (by kernel_rfl) (all_nil)) (Eq.mp (by kernel_rfl) h)
theorem V48 (h :
 Res (newVarA H a0 0) fun x300 H _ =>
 J1 (fun x301 H => ∀ d302 : Nat → AV,
 Opn (unA .not x301) fun x303 =>
 Pick x303 (K (.int .i64 18) H)
 (K (.int .i64 0) H)) fun j304 =>
 Opn (addA 0 x300) fun x305 =>
 Res (loadA H 1 false x305) fun x306 H _ =>
 Opn (binA .eql x306 (.int .u8 1)) fun x307 =>
 Pick x307 (Res (loadA H 11 true x300) fun x308 H _ =>
 Opn (addA 0 x300) fun x309 =>
 Res (loadA H 1 false x309) fun x310 H _ =>
 Opn (addA 1 x300) fun x311 =>
 Res (loadA H 1 false x311) fun x312 H _ =>
 Opn (bldV [.int .u8 0, .str [], .int .u32 0, .int .u16 0, .int .u16 0, .int .u16 0, .int .u16 0, .int .u16 0, .int .u16 0, .int .u16 0, .int .u16 0] [(0, 1, x310), (1, 1, x312)]) fun x313 =>
 Opn (eqV false (.st [(0, 1, false, .i), (1, 1, false, .s), (2, 1, false, .i), (3, 8, true, (.st [(0, 1, false, .i), (1, 1, false, .i), (2, 1, false, .i), (3, 1, false, .i), (4, 1, false, .i), (5, 1, false, .i), (6, 1, false, .i), (7, 1, false, .i)]))]) x308 x313) fun x314 =>
 J1 (fun x315 H => ∀ d316 : Nat → AV, Two x314 x315 (.bool false) fun x317 =>
 J1 (fun x318 H => ∀ d319 : Nat → AV, Two x317 x318 (.bool false) fun x320 =>
 J1 (fun x321 H => ∀ d322 : Nat → AV, Two x320 x321 (.bool false) fun x323 =>
 J1 (fun x324 H => ∀ d325 : Nat → AV, Two x323 x324 (.bool false) fun x326 =>
 j304 x326 H) fun j327 => Gd x323 true (Opn (addA 1 x300) fun x328 =>
 Res (loadA H 1 false x328) fun x329 H _ =>
 E.C 40 [x329] H fun x330 H _ =>
 Opn (unA .not x330) fun x331 =>
 j327 x331 H) (j327 undefA H)) fun j332 => Gd x320 true (Opn (addA 1 x300) fun x333 =>
 Res (loadA H 1 false x333) fun x334 H _ =>
 E.C 190 [x334, (.func 49 [] [])] H fun x335 H _ =>
 Opn (binA .lss x335 (.int .i64 0)) fun x336 =>
 j332 x336 H) (j332 undefA H)) fun j337 => Gd x317 true (Opn (addA 1 x300) fun x338 =>
 Res (loadA H 1 false x338) fun x339 H _ =>
 E.C 52 [x339, (.bool true)] H fun x340 H _ =>
 Opn (unA .not x340) fun x341 =>
 j337 x341 H) (j337 undefA H)) fun j342 => Gd x314 true (Opn (addA 1 x300) fun x343 =>
 Res (loadA H 1 false x343) fun x344 H _ =>
 Opn (binA .neq x344 (.str [])) fun x345 =>
 j342 x345 H) (j342 undefA H))
 (Opn (binA .eql x306 (.int .u8 4)) fun x346 =>
 Pick x346 (Opn (addA 1 x300) fun x347 =>
 Res (loadA H 1 false x347) fun x348 H _ =>
 E.C 80 [x348, (.int .u8 1)] H fun x349 H _ =>
 Opn (exV 0 x349) fun x350 =>
 Opn (exV 1 x349) fun x351 =>
 Res (loadA H 11 true x300) fun x352 H _ =>
 Opn (addA 0 x300) fun x353 =>
 Res (loadA H 1 false x353) fun x354 H _ =>
 Opn (addA 1 x300) fun x355 =>
 Res (loadA H 1 false x355) fun x356 H _ =>
 Opn (bldV [.int .u8 0, .str [], .int .u32 0, .int .u16 0, .int .u16 0, .int .u16 0, .int .u16 0, .int .u16 0, .int .u16 0, .int .u16 0, .int .u16 0] [(0, 1, x354), (1, 1, x356)]) fun x357 =>
 Opn (eqV false (.st [(0, 1, false, .i), (1, 1, false, .s), (2, 1, false, .i), (3, 8, true, (.st [(0, 1, false, .i), (1, 1, false, .i), (2, 1, false, .i), (3, 1, false, .i), (4, 1, false, .i), (5, 1, false, .i), (6, 1, false, .i), (7, 1, false, .i)]))]) x352 x357) fun x358 =>
 J1 (fun x359 H => ∀ d360 : Nat → AV, Two x358 x359 (.bool false) fun x361 =>
 J1 (fun x362 H => ∀ d363 : Nat → AV, Two x361 x362 (.bool false) fun x364 =>
 J1 (fun x365 H => ∀ d366 : Nat → AV, Two x364 x365 (.bool false) fun x367 =>
 j304 x367 H) fun j368 => Gd x364 true (Opn (addA 1 x300) fun x369 =>
 Res (loadA H 1 false x369) fun x370 H _ =>
 Opn (binA .eql x350 x370) fun x371 =>
 j368 x371 H) (j368 undefA H)) fun j372 => Gd x361 true (Opn (addA 1 x300) fun x373 =>
 Res (loadA H 1 false x373) fun x374 H _ =>
 E.C 52 [x374, (.bool false)] H fun x375 H _ =>
 Opn (unA .not x375) fun x376 =>
 j372 x376 H) (j372 undefA H)) fun j377 => Gd x358 true (Opn (addA 1 x300) fun x378 =>
 Res (loadA H 1 false x378) fun x379 H _ =>
 Opn (binA .neq x379 (.str [])) fun x380 =>
 j377 x380 H) (j377 undefA H))
 (Opn (binA .eql x306 (.int .u8 2)) fun x381 =>
 Pick x381 (Res (loadA H 11 true x300) fun x382 H _ =>
 Opn (addA 0 x300) fun x383 =>
 Res (loadA H 1 false x383) fun x384 H _ =>
 Opn (addA 2 x300) fun x385 =>
 Res (loadA H 1 false x385) fun x386 H _ =>
 Opn (bldV [.int .u8 0, .str [], .int .u32 0, .int .u16 0, .int .u16 0, .int .u16 0, .int .u16 0, .int .u16 0, .int .u16 0, .int .u16 0, .int .u16 0] [(0, 1, x384), (2, 1, x386)]) fun x387 =>
 Opn (eqV false (.st [(0, 1, false, .i), (1, 1, false, .s), (2, 1, false, .i), (3, 8, true, (.st [(0, 1, false, .i), (1, 1, false, .i), (2, 1, false, .i), (3, 1, false, .i), (4, 1, false, .i), (5, 1, false, .i), (6, 1, false, .i), (7, 1, false, .i)]))]) x382 x387) fun x388 =>
 j304 x388 H)
 (Opn (binA .eql x306 (.int .u8 3)) fun x389 =>
 Pick x389 (Res (loadA H 11 true x300) fun x390 H _ =>
 Opn (addA 0 x300) fun x391 =>
 Res (loadA H 1 false x391) fun x392 H _ =>
 Opn (addA 3 x300) fun x393 =>
 Res (loadA H 8 true x393) fun x394 H _ =>
 Opn (bldV [.int .u8 0, .str [], .int .u32 0, .int .u16 0, .int .u16 0, .int .u16 0, .int .u16 0, .int .u16 0, .int .u16 0, .int .u16 0, .int .u16 0] [(0, 1, x392), (3, 8, x394)]) fun x395 =>
 Opn (eqV false (.st [(0, 1, false, .i), (1, 1, false, .s), (2, 1, false, .i), (3, 8, true, (.st [(0, 1, false, .i), (1, 1, false, .i), (2, 1, false, .i), (3, 1, false, .i), (4, 1, false, .i), (5, 1, false, .i), (6, 1, false, .i), (7, 1, false, .i)]))]) x390 x395) fun x396 =>
 j304 x396 H)
 (Opn (binA .eql x306 (.int .u8 5)) fun x397 =>
 Pick x397 (Res (loadA H 11 true x300) fun x398 H _ =>
 Opn (addA 0 x300) fun x399 =>
 Res (loadA H 1 false x399) fun x400 H _ =>
 Opn (bldV [.int .u8 0, .str [], .int .u32 0, .int .u16 0, .int .u16 0, .int .u16 0, .int .u16 0, .int .u16 0, .int .u16 0, .int .u16 0, .int .u16 0] [(0, 1, x400)]) fun x401 =>
 Opn (eqV false (.st [(0, 1, false, .i), (1, 1, false, .s), (2, 1, false, .i), (3, 8, true, (.st [(0, 1, false, .i), (1, 1, false, .i), (2, 1, false, .i), (3, 1, false, .i), (4, 1, false, .i), (5, 1, false, .i), (6, 1, false, .i), (7, 1, false, .i)]))]) x398 x401) fun x402 =>
 j304 x402 H)
 (j304 (.bool false) H)))))) : ∃ v H', K v H' ∧ E.Ans 48 [a0] H v H' := ans_of (F := F48) (np := 1) (nt := 101) (rs := [.t 2]) (x := (.seq (.reg (.one (.one .done))) (.seq (.reg (.one .done)) (.cut [3] (.seq (.reg (.one (.one .done))) (.block (.seq (.reg (.one (.one .done))) (.cond (.seq (.reg (.one .done)) (.reg (.one (.one (.one (.one (.one (.one (.one (.one (.grp 3 18 true [21] (.one (.one (.one .done))) (.one (.one (.grp 4 23 true [27] (.one (.one (.one (.one .done)))) (.one (.one (.grp 5 29 true [34] (.one (.one (.one (.one (.one .done))))) (.one (.one (.grp 4 36 true [40] (.one (.one (.one (.one .done)))) (.one (.one .done)))))))))))))))))))))) (.seq (.reg (.one (.one .done))) (.cond (.seq (.reg (.one (.one (.one (.one (.one (.one (.one (.one .done))))))))) (.reg (.one (.one (.one (.one (.one (.one (.one (.one (.grp 3 57 true [60] (.one (.one (.one .done))) (.one (.one (.grp 4 62 true [66] (.one (.one (.one (.one .done)))) (.one (.one (.grp 4 68 true [72] (.one (.one (.one (.one .done)))) (.one (.one .done))))))))))))))))))) (.seq (.reg (.one (.one .done))) (.cond (.reg (.one (.one (.one (.one (.one (.one (.one (.one .done))))))))) (.seq (.reg (.one (.one .done))) (.cond (.reg (.one (.one (.one (.one (.one (.one (.one (.one .done))))))))) (.seq (.reg (.one (.one .done))) (.cond (.reg (.one (.one (.one (.one (.one (.one .done))))))) .lf)))))))))))) (.seq (.seq (.reg (.one (.one .done))) (.cond (.seq (.reg (.one .done)) .lf) .lf)) (.seq (.reg (.one .done)) .lf)))))) (by kernel_rfl) (by kernel_rfl) rfl (by decide) (by kernel_rfl) (HOk_by (l := []) (by kernel_rfl) (all_nil)) (Eq.mp (by kernel_rfl) h)
end Go.AE.Fns
namespace Go.AE.Fns
open Go Go.AE Env
set_option maxRecDepth 100000
def L52_0 (x1 x10 : AV) (H : AHeap) (K0 : AHeap → Prop) (Kr : AV → AHeap → Prop) : Prop := LoopV E (F52.loop 0) [(1, x1), (10, x10)] 19 H (xq [(0, fun t H => K0  H)] (fun t H => Kr (getF t 4) H))
noncomputable def h52_0 : LHand := fun t H Q => L52_0 (getF t 1) (getF t 10) H ( fun  H => ∀ d : Nat → AV, Q (.exit 0) (mkO 522320 [] d t 0 1) H) ( fun y4 H => ∀ d : Nat → AV, Q .ret (mkO 522320 [(4, y4)] d t 0 1) H)
theorem o52_0 : LpOkV E 19 (F52.loop 0) h52_0 := fun t _ H Q ht hn h => hand_ok (m := 522320) ht hn (by kernel_rfl) h (by simp) (all_cons (fun t' _ h => ⟨[], by simp, h⟩) (all_nil)) (fun t' _ h => ⟨[(4, getF t' 4)], by simp, h⟩)
theorem S52_0 {x1 x10 : AV} {H : AHeap} {K0 : AHeap → Prop} {Kr : AV → AHeap → Prop} (h : ∀ d : Nat → AV,
 Res (fNextStr x10 H) fun x300 H _ =>
 Opn (exV 0 x300) fun x301 =>
 Pick x301 (Opn (exV 2 x300) fun x302 =>
 J1 (fun x303 H => ∀ d304 : Nat → AV, Two x1 x303 (.bool false) fun x305 =>
 Pick x305 (Kr (.bool true) H)
 (L52_0 x1 x10 H K0 Kr)) fun j306 => Gd x1 true (E.C 53 [x302] H fun x307 H _ =>
 j306 x307 H) (j306 undefA H))
 (K0  H)) : L52_0 x1 x10 H K0 Kr := step_of (x := (.seq (.reg (.one (.one .done))) (.seq (.cond .lf .lf) (.block (.seq (.reg (.one (.one .done))) (.seq (.reg (.one (.one (.grp 2 15 true [17] (.one (.one .done)) (.one .done))))) (.cond (.seq (.reg (.one .done)) .lf) .lf))))))) (back := fun t' H' => L52_0 (getF t' 1) (getF t' 10) H' K0 Kr) (by kernel_rfl) (by kernel_rfl) (HOk_by (l := []) (by kernel_rfl) (all_nil)) (fun t' _ h => ⟨[(1, getF t' 1), (10, getF t' 10)], by simp, h⟩) (fun d => Eq.mp (by kernel_rfl) (h d))
theorem V52 (h :
 E.C 180 [a0, (.str [0, 9, 10, 13, 32, 35, 47, 58, 60, 62, 63, 64, 91, 92, 93, 94, 124])] H fun x300 H _ =>
 Pick x300 (K (.bool true) H)
 (Res (fRangeStr a0 H) fun x301 H _ =>
 L52_0 a1 x301 H (fun  H => ∀ d302 : Nat → AV, K (.bool false) H) (fun x303 H => ∀ d304 : Nat → AV, K x303 H))) : ∃ v H', K v H' ∧ E.Ans 52 [a0, a1] H v H' := ans_of (F := F52) (np := 2) (nt := 19) (rs := [.t 4]) (x := (.seq (.reg (.one .done)) (.seq (.seq (.reg (.one (.one .done))) (.cond (.seq (.reg (.one .done)) .lf) .lf)) (.seq (.seq (.reg (.one (.one .done))) (.block (.loop h52_0))) (.seq (.reg (.one .done)) .lf))))) (by kernel_rfl) (by kernel_rfl) rfl (by decide) (by kernel_rfl) (HOk_by (l := [(h52_0, F52.loop 0)]) (by kernel_rfl) (all_cons (P := fun p : LHand × LCode => LpOkV E _ p.2 p.1) o52_0 (all_nil))) (Eq.mp (by kernel_rfl) h)
theorem V70 (h :
 Res (newVarA H a0 0) fun x300 H _ =>
 Res (loadA H 18 true x300) fun x301 H _ =>
 Opn (addA 1 x300) fun x302 =>
 Res (loadA H 1 false x302) fun x303 H _ =>
 Opn (bldV [.bool false, .int .i64 0, .str [], .int .u8 0, .str [], .int .u32 0, .int .u16 0, .int .u16 0, .int .u16 0, .int .u16 0, .int .u16 0, .int .u16 0, .int .u16 0, .int .u16 0, .int .i64 0, .bool false, .str [], .bool false] [(0, 1, (.bool true)), (1, 1, x303)]) fun x304 =>
 Opn (eqV false (.st [(0, 1, false, .b), (1, 1, false, .i), (2, 1, false, .s), (3, 11, true, (.st [(0, 1, false, .i), (1, 1, false, .s), (2, 1, false, .i), (3, 8, true, (.st [(0, 1, false, .i), (1, 1, false, .i), (2, 1, false, .i), (3, 1, false, .i), (4, 1, false, .i), (5, 1, false, .i), (6, 1, false, .i), (7, 1, false, .i)]))])), (14, 1, false, .i), (15, 1, false, .b), (16, 1, false, .s), (17, 1, false, .b)]) x301 x304) fun x305 =>
 J1 (fun x306 H => ∀ d307 : Nat → AV,
 Opn (unA .not x306) fun x308 =>
 Pick x308 (K (.int .i64 18) H)
 (K (.int .i64 0) H)) fun j309 =>
 Opn (addA 0 x300) fun x310 =>
 Res (loadA H 1 false x310) fun x311 H _ =>
 Opn (unA .not x311) fun x312 =>
 Pick x312 (Opn (addA 2 x300) fun x313 =>
 Res (loadA H 1 false x313) fun x314 H _ =>
 E.C 116 [x314] H fun x315 H _ =>
 Opn (exV 0 x315) fun x316 =>
 Opn (exV 1 x315) fun x317 =>
 Opn (litV [.int .u8 0] 3 1 [(0, 1, (.int .u8 1)), (1, 1, (.int .u8 2)), (2, 1, (.int .u8 3))]) fun x318 =>
 Opn (addA 1 x300) fun x319 =>
 Res (loadA H 1 false x319) fun x320 H _ =>
 Opn (binA .eql x320 (.int .i64 0)) fun x321 =>
 J1 (fun x322 H => ∀ d323 : Nat → AV, Two x321 x322 (.bool false) fun x324 =>
 J1 (fun x325 H => ∀ d326 : Nat → AV, Two x324 x325 (.bool false) fun x327 =>
 J1 (fun x328 H => ∀ d329 : Nat → AV, Two x327 x328 (.bool false) fun x330 =>
 J1 (fun x331 H => ∀ d332 : Nat → AV,
 Opn (addA 17 x300) fun x333 =>
 Res (loadA H 1 false x333) fun x334 H _ =>
 Pick x334 (J1 (fun x335 H => ∀ d336 : Nat → AV, Two x331 x335 (.bool false) fun x337 =>
 J1 (fun x338 H => ∀ d339 : Nat → AV, Two x337 x338 (.bool false) fun x340 =>
 j309 x340 H) fun j341 => Gd x337 true (Opn (addA 3 x300) fun x342 =>
 Opn (addA 1 x342) fun x343 =>
 Res (loadA H 1 false x343) fun x344 H _ =>
 Opn (addA 16 x300) fun x345 =>
 Res (loadA H 1 false x345) fun x346 H _ =>
 E.C 241 [x344, x346] H fun x347 H _ =>
 j341 x347 H) (j341 undefA H)) fun j348 => Gd x331 true (Opn (addA 3 x300) fun x349 =>
 Opn (addA 0 x349) fun x350 =>
 Res (loadA H 1 false x350) fun x351 H _ =>
 Opn (binA .eql x351 (.int .u8 1)) fun x352 =>
 j348 x352 H) (j348 undefA H))
 (J1 (fun x353 H => ∀ d354 : Nat → AV, Two x331 x353 (.bool false) fun x355 =>
 j309 x355 H) fun j356 => Gd x331 true (Opn (addA 16 x300) fun x357 =>
 Res (loadA H 1 false x357) fun x358 H _ =>
 Opn (binA .eql x358 (.str [])) fun x359 =>
 j356 x359 H) (j356 undefA H))) fun j360 =>
 Opn (addA 15 x300) fun x361 =>
 Res (loadA H 1 false x361) fun x362 H _ =>
 Pick x362 (J1 (fun x363 H => ∀ d364 : Nat → AV, Two x330 x363 (.bool false) fun x365 =>
 J1 (fun x366 H => ∀ d367 : Nat → AV, Two x365 x366 (.bool false) fun x368 =>
 J1 (fun x369 H => ∀ d370 : Nat → AV, Two x368 x369 (.bool false) fun x371 =>
 j360 x371 H) fun j372 => Gd x368 true (Opn (addA 14 x300) fun x373 =>
 Res (loadA H 1 false x373) fun x374 H _ =>
 Opn (binA .neq x374 x316) fun x375 =>
 j372 x375 H) (j372 undefA H)) fun j376 => Gd x365 true (Opn (addA 14 x300) fun x377 =>
 Res (loadA H 1 false x377) fun x378 H _ =>
 Opn (binA .lss x378 (.int .i64 65536)) fun x379 =>
 j376 x379 H) (j376 undefA H)) fun j380 => Gd x330 true (Opn (addA 14 x300) fun x381 =>
 Res (loadA H 1 false x381) fun x382 H _ =>
 Opn (binA .geq x382 (.int .i64 0)) fun x383 =>
 j380 x383 H) (j380 undefA H))
 (J1 (fun x384 H => ∀ d385 : Nat → AV, Two x330 x384 (.bool false) fun x386 =>
 j360 x386 H) fun j387 => Gd x330 true (Opn (addA 14 x300) fun x388 =>
 Res (loadA H 1 false x388) fun x389 H _ =>
 Opn (binA .eql x389 (.int .i64 0)) fun x390 =>
 j387 x390 H) (j387 undefA H))) fun j391 => Gd x327 true (Opn (addA 3 x300) fun x392 =>
 Opn (addA 0 x392) fun x393 =>
 Res (loadA H 1 false x393) fun x394 H _ =>
 E.C 160 [x318, x394] H fun x395 H _ =>
 j391 x395 H) (j391 undefA H)) fun j396 => Gd x324 true (Opn (addA 3 x300) fun x397 =>
 Res (loadA H 11 true x397) fun x398 H _ =>
 E.C 48 [x398] H fun x399 H _ =>
 Opn (binA .eql x399 (.int .i64 0)) fun x400 =>
 j396 x400 H) (j396 undefA H)) fun j401 => Gd x321 true (Opn (addA 2 x300) fun x402 =>
 Res (loadA H 1 false x402) fun x403 H _ =>
 E.C 78 [x403] H fun x404 H _ =>
 j401 x404 H) (j401 undefA H))
 (j309 x305 H)) : ∃ v H', K v H' ∧ E.Ans 70 [a0] H v H' := ans_of (F := F70) (np := 1) (nt := 93) (rs := [.t 2]) (x := (.seq (.reg (.one (.one .done))) (.seq (.reg (.one (.one (.one (.one (.one (.one .done))))))) (.cut [3] (.seq (.reg (.one (.one (.one .done)))) (.cond (.seq (.reg (.one (.one (.one (.one (.one (.one (.one (.one .done))))))))) (.seq (.reg (.one (.one .done))) (.seq (.reg (.one (.one (.one (.one (.grp 3 25 true [28] (.one (.one (.one .done))) (.one (.one (.grp 4 30 true [34] (.one (.one (.one (.one .done)))) (.one (.one (.grp 5 36 true [41] (.one (.one (.one (.one (.one .done))))) (.one (.one .done)))))))))))))) (.cut [3] (.seq (.reg (.one (.one .done))) (.cond (.reg (.one (.one (.grp 3 46 true [49] (.one (.one (.one .done))) (.one (.one (.grp 3 51 true [54] (.one (.one (.one .done))) (.one (.one (.grp 4 56 true [60] (.one (.one (.one (.one .done)))) (.one (.one .done)))))))))))) (.reg (.one (.one (.grp 3 63 true [66] (.one (.one (.one .done))) (.one (.one .done)))))))) (.seq (.reg (.one (.one .done))) (.cond (.reg (.one (.one (.grp 4 71 true [75] (.one (.one (.one (.one .done)))) (.one (.one (.grp 6 77 true [83] (.one (.one (.one (.one (.one (.one .done)))))) (.one (.one .done))))))))) (.reg (.one (.one (.grp 3 86 true [89] (.one (.one (.one .done))) (.one (.one .done)))))))))))) .lf)) (.seq (.seq (.reg (.one (.one .done))) (.cond (.seq (.reg (.one .done)) .lf) .lf)) (.seq (.reg (.one .done)) .lf)))))) (by kernel_rfl) (by kernel_rfl) rfl (by decide) (by kernel_rfl) (HOk_by (l := []) (by kernel_rfl) (all_nil)) (Eq.mp (by kernel_rfl) h)
theorem V72 (h :
 E.C 75 [a0, a1] H fun x300 H _ =>
 Opn (binA .neq x300 (.int .i64 0)) fun x301 =>
 Pick x301 (K (.tuple [(.str []), (.bool false), x300]) H)
 (E.C 197 [a1, (.str [46])] H fun x302 H _ =>
 E.C 76 [a0, x302] H fun x303 H _ =>
 Opn (binA .add x303 (.int .i64 1)) fun x304 =>
 Res (builtinA H .lenSl [x302]) fun x305 H _ =>
 Opn (binA .gtr x304 x305) fun x306 =>
 Pick x306 (K (.tuple [(.str []), (.bool false), (.int .i64 0)]) H)
 (Res (builtinA H .lenSl [x302]) fun x307 H _ =>
 Opn (binA .sub x307 x304) fun x308 =>
 Opn (sliceA 1 x302 (some x308) none none) fun x309 =>
 E.C 192 [x309, (.str [46])] H fun x310 H _ =>
 K (.tuple [x310, (.bool true), (.int .i64 0)]) H))) : ∃ v H', K v H' ∧ E.Ans 72 [a0, a1] H v H' := ans_of (F := F72) (np := 2) (nt := 33) (rs := [.t 4, .t 5, .t 6]) (x := (.seq (.reg (.one (.one (.one .done)))) (.seq (.seq (.reg (.one (.one (.one (.one .done))))) (.seq (.reg (.one (.one .done))) (.cond (.seq (.reg (.one (.one (.one (.one .done))))) .lf) .lf))) (.seq (.reg (.one (.one (.one .done)))) (.seq (.reg (.one (.one (.one (.one (.one .done)))))) (.seq (.seq (.reg (.one (.one (.one (.one .done))))) (.cond (.seq (.reg (.one (.one (.one .done)))) .lf) .lf)) (.seq (.reg (.one (.one (.one (.one (.one (.one (.one (.one (.one (.one .done))))))))))) .lf))))))) (by kernel_rfl) (by kernel_rfl) rfl (by decide) (by kernel_rfl) (HOk_by (l := []) (by kernel_rfl) (all_nil)) (Eq.mp (by kernel_rfl) h)
def L80_0 (x0 x1 x6 x16 x17 : AV) (H : AHeap) (K0 : AHeap → Prop) : Prop := LoopV E (F80.loop 0) [(0, x0), (1, x1), (6, x6), (16, x16), (17, x17)] 38 H (xq [(0, fun t H => K0  H)] (fun _ _ => False))
noncomputable def h80_0 : LHand := fun t H Q => L80_0 (getF t 0) (getF t 1) (getF t 6) (getF t 16) (getF t 17) H ( fun  H => ∀ d : Nat → AV, Q (.exit 0) (mkO 137438822784 [] d t 0 1) H)
theorem o80_0 : LpOkV E 38 (F80.loop 0) h80_0 := fun t _ H Q ht hn h => hand_ok (m := 137438822784) ht hn (by kernel_rfl) h (by simp) (all_cons (fun t' _ h => ⟨[], by simp, h⟩) (all_nil)) (fun _ _ h => h.elim)
theorem S80_0 {x0 x1 x6 x16 x17 : AV} {H : AHeap} {K0 : AHeap → Prop} (h : ∀ d : Nat → AV,
 Opn (binA .lss x17 x16) fun x300 =>
 Pick x300 (Res (fIdxStr x0 x17 H) fun x301 H _ =>
 E.C 81 [x1, x301] H fun x302 H _ =>
 Pick x302 (Opn (binA .shr x301 (.int .u64 4)) fun x303 =>
 Res (fIdxStr (.str [48, 49, 50, 51, 52, 53, 54, 55, 56, 57, 65, 66, 67, 68, 69, 70]) x303 H) fun x304 H k305 =>
 Opn (binA .and x301 (.int .u8 15)) fun x306 =>
 Res (fIdxStr (.str [48, 49, 50, 51, 52, 53, 54, 55, 56, 57, 65, 66, 67, 68, 69, 70]) x306 H) fun x307 H k308 =>
 Opn (litV [.int .u8 0] 3 1 [(0, 1, (.int .u8 37)), (1, 1, x304), (2, 1, x307)]) fun x309 =>
 E.C 227 [x6, x309] H fun x310 H k311 =>
 drawOk (drawn F80 0) [.p, .p, k305, .p, .p, k308, .p, k311] = true ∧
 Opn (binA .add x17 (.int .i64 1)) fun x312 =>
 L80_0 x0 x1 x6 x16 x312 H K0)
 (E.C 17 [x6, x301] H fun x313 H _ =>
 Opn (binA .add x17 (.int .i64 1)) fun x314 =>
 L80_0 x0 x1 x6 x16 x314 H K0))
 (K0  H)) : L80_0 x0 x1 x6 x16 x17 H K0 := step_of (x := (.seq (.reg (.one .done)) (.seq (.cond .lf .lf) (.seq (.block (.seq (.reg (.one (.one .done))) (.seq (.reg (.one (.one (.one (.one .done))))) (.seq (.reg (.one (.one (.one .done)))) (.cond (.reg .done) (.reg (.one (.one .done)))))))) (.reg (.one (.one .done))))))) (back := fun t' H' => L80_0 (getF t' 0) (getF t' 1) (getF t' 6) (getF t' 16) (getF t' 17) H' K0) (by kernel_rfl) (by kernel_rfl) (HOk_by (l := []) (by kernel_rfl) (all_nil)) (fun t' _ h => ⟨[(0, getF t' 0), (1, getF t' 1), (6, getF t' 6), (16, getF t' 16), (17, getF t' 17)], by simp, h⟩) (fun d => Eq.mp (by kernel_rfl) (h d))
theorem V80 (h :
 Opn (binA .eql a1 (.int .u8 0)) fun x300 =>
 J1 (fun x301 H => ∀ d302 : Nat → AV, Two x300 (.bool true) x301 fun x303 =>
 Pick x303 (K (.tuple [(.str []), (.int .i64 5)]) H)
 (Res (fAlloc [.nilptr, .nilsl] 2 H) fun x304 H _ =>
 Res (builtinA H .lenStr [a0]) fun x305 H _ =>
 L80_0 a0 a1 x304 x305 (.int .i64 0) H (fun  H => ∀ d306 : Nat → AV, E.C 16 [x304] H fun x307 H _ =>
 K (.tuple [x307, (.int .i64 0)]) H))) fun j308 => Gd x300 false (Opn (binA .geq a1 (.int .u8 9)) fun x309 =>
 j308 x309 H) (j308 undefA H)) : ∃ v H', K v H' ∧ E.Ans 80 [a0, a1] H v H' := ans_of (F := F80) (np := 2) (nt := 38) (rs := [.t 4, .t 5]) (x := (.seq (.reg (.one (.one .done))) (.seq (.seq (.reg (.one (.one (.one (.grp 2 11 false [13] (.one (.one .done)) (.one .done)))))) (.cond (.seq (.reg (.one (.one .done))) .lf) .lf)) (.seq (.reg (.one .done)) (.seq (.seq (.reg (.one (.one (.one .done)))) (.block (.loop h80_0))) (.seq (.reg (.one (.one (.one .done)))) .lf)))))) (by kernel_rfl) (by kernel_rfl) rfl (by decide) (by kernel_rfl) (HOk_by (l := [(h80_0, F80.loop 0)]) (by kernel_rfl) (all_cons (P := fun p : LHand × LCode => LpOkV E _ p.2 p.1) o80_0 (all_nil))) (Eq.mp (by kernel_rfl) h)
theorem V81 (h :
 Opn (binA .lss a1 (.int .u8 32)) fun x300 =>
 J1 (fun x301 H => ∀ d302 : Nat → AV, Two x300 (.bool true) x301 fun x303 =>
 J1 (fun x304 H => ∀ d305 : Nat → AV, Two x303 (.bool true) x304 fun x306 =>
 J1 (fun x307 H => ∀ d308 : Nat → AV, Two x306 (.bool true) x307 fun x309 =>
 J1 (fun x310 H => ∀ d311 : Nat → AV, Two x309 (.bool true) x310 fun x312 =>
 J1 (fun x313 H => ∀ d314 : Nat → AV, Two x312 (.bool true) x313 fun x315 =>
 Opn (binA .eql a0 (.int .u8 1)) fun x316 =>
 Pick x316 (K x303 H)
 (Opn (binA .eql a0 (.int .u8 2)) fun x317 =>
 Pick x317 (J1 (fun x318 H => ∀ d319 : Nat → AV, Two x303 (.bool true) x318 fun x320 =>
 K x320 H) fun j321 => Gd x303 false (Opn (litV [.int .u8 0] 5 1 [(0, 1, (.int .u8 32)), (1, 1, (.int .u8 34)), (2, 1, (.int .u8 60)), (3, 1, (.int .u8 62)), (4, 1, (.int .u8 96))]) fun x322 =>
 E.C 83 [a1, x322] H fun x323 H _ =>
 j321 x323 H) (j321 undefA H))
 (Opn (binA .eql a0 (.int .u8 3)) fun x324 =>
 Pick x324 (K x306 H)
 (Opn (binA .eql a0 (.int .u8 4)) fun x325 =>
 Pick x325 (J1 (fun x326 H => ∀ d327 : Nat → AV, Two x306 (.bool true) x326 fun x328 =>
 K x328 H) fun j329 => Gd x306 false (Opn (binA .eql a1 (.int .u8 39)) fun x330 =>
 j329 x330 H) (j329 undefA H))
 (Opn (binA .eql a0 (.int .u8 5)) fun x331 =>
 Pick x331 (K x309 H)
 (Opn (binA .eql a0 (.int .u8 6)) fun x332 =>
 Pick x332 (K x312 H)
 (Opn (binA .eql a0 (.int .u8 7)) fun x333 =>
 Pick x333 (K x315 H)
 (Opn (binA .eql a0 (.int .u8 8)) fun x334 =>
 Pick x334 (J1 (fun x335 H => ∀ d336 : Nat → AV, Two x315 (.bool true) x335 fun x337 =>
 K x337 H) fun j338 => Gd x315 false (Opn (litV [.int .u8 0] 5 1 [(0, 1, (.int .u8 33)), (1, 1, (.int .u8 39)), (2, 1, (.int .u8 40)), (3, 1, (.int .u8 41)), (4, 1, (.int .u8 126))]) fun x339 =>
 E.C 83 [a1, x339] H fun x340 H _ =>
 j338 x340 H) (j338 undefA H))
 (K (.bool false) H))))))))) fun j341 => Gd x312 false (Opn (litV [.int .u8 0] 5 1 [(0, 1, (.int .u8 36)), (1, 1, (.int .u8 37)), (2, 1, (.int .u8 38)), (3, 1, (.int .u8 43)), (4, 1, (.int .u8 44))]) fun x342 =>
 E.C 83 [a1, x342] H fun x343 H _ =>
 j341 x343 H) (j341 undefA H)) fun j344 => Gd x309 false (Opn (litV [.int .u8 0] 9 1 [(0, 1, (.int .u8 47)), (1, 1, (.int .u8 58)), (2, 1, (.int .u8 59)), (3, 1, (.int .u8 61)), (4, 1, (.int .u8 64)), (5, 1, (.int .u8 91)), (6, 1, (.int .u8 92)), (7, 1, (.int .u8 93)), (8, 1, (.int .u8 124))]) fun x345 =>
 E.C 83 [a1, x345] H fun x346 H _ =>
 j344 x346 H) (j344 undefA H)) fun j347 => Gd x306 false (Opn (litV [.int .u8 0] 5 1 [(0, 1, (.int .u8 63)), (1, 1, (.int .u8 94)), (2, 1, (.int .u8 96)), (3, 1, (.int .u8 123)), (4, 1, (.int .u8 125))]) fun x348 =>
 E.C 83 [a1, x348] H fun x349 H _ =>
 j347 x349 H) (j347 undefA H)) fun j350 => Gd x303 false (Opn (litV [.int .u8 0] 5 1 [(0, 1, (.int .u8 32)), (1, 1, (.int .u8 34)), (2, 1, (.int .u8 35)), (3, 1, (.int .u8 60)), (4, 1, (.int .u8 62))]) fun x351 =>
 E.C 83 [a1, x351] H fun x352 H _ =>
 j350 x352 H) (j350 undefA H)) fun j353 => Gd x300 false (Opn (binA .gtr a1 (.int .u8 126)) fun x354 =>
 j353 x354 H) (j353 undefA H)) : ∃ v H', K v H' ∧ E.Ans 81 [a0, a1] H v H' := ans_of (F := F81) (np := 2) (nt := 79) (rs := [.t 4]) (x := (.seq (.reg (.one .done)) (.seq (.reg (.one (.one (.one (.grp 2 12 false [14] (.one (.one .done)) (.one (.one .done))))))) (.seq (.reg (.one (.one (.grp 3 17 false [20] (.one (.one (.one .done))) (.one (.one .done)))))) (.seq (.reg (.one (.one (.grp 3 23 false [26] (.one (.one (.one .done))) (.one (.one .done)))))) (.seq (.reg (.one (.one (.grp 3 29 false [32] (.one (.one (.one .done))) (.one (.one .done)))))) (.seq (.reg (.one (.one (.grp 3 35 false [38] (.one (.one (.one .done))) (.one (.one .done)))))) (.seq (.seq (.reg (.one .done)) (.block (.seq (.reg (.one (.one .done))) (.cond (.seq (.reg (.one (.one .done))) .lf) (.seq (.reg (.one (.one .done))) (.cond (.seq (.reg (.one (.one (.grp 3 47 false [50] (.one (.one (.one .done))) (.one (.one .done)))))) .lf) (.seq (.reg (.one (.one .done))) (.cond (.seq (.reg (.one (.one .done))) .lf) (.seq (.reg (.one (.one .done))) (.cond (.seq (.reg (.one (.one (.grp 2 58 false [60] (.one (.one .done)) (.one (.one .done)))))) .lf) (.seq (.reg (.one (.one .done))) (.cond (.seq (.reg (.one (.one .done))) .lf) (.seq (.reg (.one (.one .done))) (.cond (.seq (.reg (.one (.one .done))) .lf) (.seq (.reg (.one (.one .done))) (.cond (.seq (.reg (.one (.one .done))) .lf) (.seq (.reg (.one (.one .done))) (.cond (.seq (.reg (.one (.one (.grp 3 74 false [77] (.one (.one (.one .done))) (.one (.one .done)))))) .lf) .lf)))))))))))))))))) (.seq (.reg (.one .done)) .lf))))))))) (by kernel_rfl) (by kernel_rfl) rfl (by decide) (by kernel_rfl) (HOk_by (l := []) (by kernel_rfl) (all_nil)) (Eq.mp (by kernel_rfl) h)
def L83_0 (x0 x7 x8 x9 : AV) (H : AHeap) (K0 : AHeap → Prop) (Kr : AV → AHeap → Prop) : Prop := LoopV E (F83.loop 0) [(0, x0), (7, x7), (8, x8), (9, x9)] 17 H (xq [(0, fun t H => K0  H)] (fun t H => Kr (getF t 4) H))
noncomputable def h83_0 : LHand := fun t H Q => L83_0 (getF t 0) (getF t 7) (getF t 8) (getF t 9) H ( fun  H => ∀ d : Nat → AV, Q (.exit 0) (mkO 130640 [] d t 0 1) H) ( fun y4 H => ∀ d : Nat → AV, Q .ret (mkO 130640 [(4, y4)] d t 0 1) H)
theorem o83_0 : LpOkV E 17 (F83.loop 0) h83_0 := fun t _ H Q ht hn h => hand_ok (m := 130640) ht hn (by kernel_rfl) h (by simp) (all_cons (fun t' _ h => ⟨[], by simp, h⟩) (all_nil)) (fun t' _ h => ⟨[(4, getF t' 4)], by simp, h⟩)
theorem S83_0 {x0 x7 x8 x9 : AV} {H : AHeap} {K0 : AHeap → Prop} {Kr : AV → AHeap → Prop} (h : ∀ d : Nat → AV,
 Opn (binA .lss x9 x8) fun x300 =>
 Pick x300 (Opn (idxAddrA 1 x7 x9) fun x301 =>
 Res (loadA H 1 false x301) fun x302 H _ =>
 Opn (binA .eql x302 x0) fun x303 =>
 Pick x303 (Kr (.bool true) H)
 (Opn (binA .add x9 (.int .i64 1)) fun x304 =>
 L83_0 x0 x7 x8 x304 H K0 Kr))
 (K0  H)) : L83_0 x0 x7 x8 x9 H K0 Kr := step_of (x := (.seq (.reg (.one .done)) (.seq (.cond .lf .lf) (.seq (.block (.seq (.reg (.one (.one (.one .done)))) (.seq (.reg (.one (.one (.one .done)))) (.cond (.seq (.reg (.one .done)) .lf) .lf)))) (.reg (.one (.one .done))))))) (back := fun t' H' => L83_0 (getF t' 0) (getF t' 7) (getF t' 8) (getF t' 9) H' K0 Kr) (by kernel_rfl) (by kernel_rfl) (HOk_by (l := []) (by kernel_rfl) (all_nil)) (fun t' _ h => ⟨[(0, getF t' 0), (7, getF t' 7), (8, getF t' 8), (9, getF t' 9)], by simp, h⟩) (fun d => Eq.mp (by kernel_rfl) (h d))
theorem V83 (h :
 Res (builtinA H .lenSl [a1]) fun x300 H _ =>
 L83_0 a0 a1 x300 (.int .i64 0) H (fun  H => ∀ d301 : Nat → AV, K (.bool false) H) (fun x302 H => ∀ d303 : Nat → AV, K x302 H)) : ∃ v H', K v H' ∧ E.Ans 83 [a0, a1] H v H' := ans_of (F := F83) (np := 2) (nt := 17) (rs := [.t 4]) (x := (.seq (.reg (.one .done)) (.seq (.seq (.reg (.one (.one (.one .done)))) (.block (.loop h83_0))) (.seq (.reg (.one .done)) .lf)))) (by kernel_rfl) (by kernel_rfl) rfl (by decide) (by kernel_rfl) (HOk_by (l := [(h83_0, F83.loop 0)]) (by kernel_rfl) (all_cons (P := fun p : LHand × LCode => LpOkV E _ p.2 p.1) o83_0 (all_nil))) (Eq.mp (by kernel_rfl) h)
end Go.AE.Fns
namespace Go.AE.Fns
open Go Go.AE Env
set_option maxRecDepth 100000
theorem V116 (h :
 Res (fMkMap H) fun x300 H _ =>
 Res (fMapUpd .s x300 (.str [102, 116, 112]) (.int .i64 21) H) fun _ H _ =>
 Res (fMapUpd .s x300 (.str [102, 105, 108, 101]) (.int .i64 0) H) fun _ H _ =>
 Res (fMapUpd .s x300 (.str [104, 116, 116, 112]) (.int .i64 80) H) fun _ H _ =>
 Res (fMapUpd .s x300 (.str [104, 116, 116, 112, 115]) (.int .i64 443) H) fun _ H _ =>
 Res (fMapUpd .s x300 (.str [119, 115]) (.int .i64 80) H) fun _ H _ =>
 Res (fMapUpd .s x300 (.str [119, 115, 115]) (.int .i64 443) H) fun _ H _ =>
 Res (fLookup .s (.int .i64 0) true x300 a0 H) fun x301 H _ =>
 Opn (exV 0 x301) fun x302 =>
 Opn (exV 1 x301) fun x303 =>
 K (.tuple [x302, x303]) H) : ∃ v H', K v H' ∧ E.Ans 116 [a0] H v H' := ans_of (F := F116) (np := 1) (nt := 15) (rs := [.t 2, .t 3]) (x := (.seq (.reg (.one (.one .done))) (.seq (.reg (.one (.one (.one (.one (.one (.one (.one (.one (.one (.one (.one (.one (.one (.one (.one .done)))))))))))))))) (.seq (.reg (.one (.one (.one (.one .done))))) .lf)))) (by kernel_rfl) (by kernel_rfl) rfl (by decide) (by kernel_rfl) (HOk_by (l := []) (by kernel_rfl) (all_nil)) (Eq.mp (by kernel_rfl) h)
end Go.AE.Fns
namespace Go.AE.Fns
open Go Go.AE Env
set_option maxRecDepth 100000
theorem V180 (h :
 E.C 188 [a0, a1] H fun x300 H _ =>
 Opn (binA .geq x300 (.int .i64 0)) fun x301 =>
 K x301 H) : ∃ v H', K v H' ∧ E.Ans 180 [a0, a1] H v H' := ans_of (F := F180) (np := 2) (nt := 9) (rs := [.t 4]) (x := (.seq (.reg (.one .done)) (.seq (.reg (.one (.one (.one (.one (.one .done)))))) .lf))) (by kernel_rfl) (by kernel_rfl) rfl (by decide) (by kernel_rfl) (HOk_by (l := []) (by kernel_rfl) (all_nil)) (Eq.mp (by kernel_rfl) h)
def L188_0 (x0 x6 x8 : AV) (H : AHeap) (K0 : AHeap → Prop) (Kr : AV → AHeap → Prop) : Prop := LoopV E (F188.loop 0) [(0, x0), (6, x6), (8, x8)] 55 H (xq [(0, fun t H => K0  H)] (fun t H => Kr (getF t 4) H))
noncomputable def h188_0 : LHand := fun t H Q => L188_0 (getF t 0) (getF t 6) (getF t 8) H ( fun  H => ∀ d : Nat → AV, Q (.exit 0) (mkO 17583596110096 [] d t 0 1) H) ( fun y4 H => ∀ d : Nat → AV, Q .ret (mkO 17583596110096 [(4, y4)] d t 0 1) H)
theorem o188_0 : LpOkV E 55 (F188.loop 0) h188_0 := fun t _ H Q ht hn h => hand_ok (m := 17583596110096) ht hn (by kernel_rfl) h (by simp) (all_cons (fun t' _ h => ⟨[], by simp, h⟩) (all_nil)) (fun t' _ h => ⟨[(4, getF t' 4)], by simp, h⟩)
def L188_1 (x1 x45 : AV) (H : AHeap) (K2 : AHeap → Prop) (Kr : AV → AHeap → Prop) : Prop := LoopV E (F188.loop 1) [(1, x1), (45, x45)] 55 H (xq [(2, fun t H => K2  H)] (fun t H => Kr (getF t 4) H))
noncomputable def h188_1 : LHand := fun t H Q => L188_1 (getF t 1) (getF t 45) H ( fun  H => ∀ d : Nat → AV, Q (.exit 2) (mkO 35958428274787856 [] d t 0 1) H) ( fun y4 H => ∀ d : Nat → AV, Q .ret (mkO 35958428274787856 [(4, y4)] d t 0 1) H)
theorem o188_1 : LpOkV E 55 (F188.loop 1) h188_1 := fun t _ H Q ht hn h => hand_ok (m := 35958428274787856) ht hn (by kernel_rfl) h (by simp) (all_cons (fun t' _ h => ⟨[], by simp, h⟩) (all_nil)) (fun t' _ h => ⟨[(4, getF t' 4)], by simp, h⟩)
theorem S188_0 {x0 x6 x8 : AV} {H : AHeap} {K0 : AHeap → Prop} {Kr : AV → AHeap → Prop} (h : ∀ d : Nat → AV,
 Res (builtinA H .lenStr [x0]) fun x300 H _ =>
 Opn (binA .lss x8 x300) fun x301 =>
 Pick x301 (Res (fIdxStr x0 x8 H) fun x302 H _ =>
 E.C 228 [x6, x302] H fun x303 H _ =>
 Pick x303 (Kr x8 H)
 (Opn (binA .add x8 (.int .i64 1)) fun x304 =>
 L188_0 x0 x6 x304 H K0 Kr))
 (K0  H)) : L188_0 x0 x6 x8 H K0 Kr := step_of (x := (.seq (.seq (.reg (.one (.one (.one (.one .done))))) (.cond .lf .lf)) (.seq (.block (.seq (.reg (.one (.one (.one (.one .done))))) (.cond (.seq (.reg (.one (.one .done))) .lf) .lf))) (.reg (.one (.one (.one .done))))))) (back := fun t' H' => L188_0 (getF t' 0) (getF t' 6) (getF t' 8) H' K0 Kr) (by kernel_rfl) (by kernel_rfl) (HOk_by (l := []) (by kernel_rfl) (all_nil)) (fun t' _ h => ⟨[(0, getF t' 0), (6, getF t' 6), (8, getF t' 8)], by simp, h⟩) (fun d => Eq.mp (by kernel_rfl) (h d))
theorem S188_1 {x1 x45 : AV} {H : AHeap} {K2 : AHeap → Prop} {Kr : AV → AHeap → Prop} (h : ∀ d : Nat → AV,
 Res (fNextStr x45 H) fun x300 H _ =>
 Opn (exV 0 x300) fun x301 =>
 Pick x301 (Opn (exV 1 x300) fun x302 =>
 Opn (exV 2 x300) fun x303 =>
 E.C 191 [x1, x303] H fun x304 H _ =>
 Opn (binA .geq x304 (.int .i64 0)) fun x305 =>
 Pick x305 (Kr x302 H)
 (L188_1 x1 x45 H K2 Kr))
 (K2  H)) : L188_1 x1 x45 H K2 Kr := step_of (x := (.seq (.reg (.one (.one .done))) (.seq (.cond .lf .lf) (.block (.seq (.reg (.one (.one (.one (.one .done))))) (.seq (.reg (.one (.one (.one (.one .done))))) (.cond (.seq (.reg (.one (.one .done))) .lf) .lf))))))) (back := fun t' H' => L188_1 (getF t' 1) (getF t' 45) H' K2 Kr) (by kernel_rfl) (by kernel_rfl) (HOk_by (l := []) (by kernel_rfl) (all_nil)) (fun t' _ h => ⟨[(1, getF t' 1), (45, getF t' 45)], by simp, h⟩) (fun d => Eq.mp (by kernel_rfl) (h d))
theorem V188 (h :
 Opn (binA .eql a1 (.str [])) fun x300 =>
 Pick x300 (K (.int .i64 (-1)) H)
 (Res (builtinA H .lenStr [a1]) fun x301 H _ =>
 Opn (binA .eql x301 (.int .i64 1)) fun x302 =>
 Pick x302 (Res (fIdxStr a1 (.int .i64 0) H) fun x303 H _ =>
 Res (convA H (.int .i32) x303) fun x304 H _ =>
 Opn (binA .geq x304 (.int .i32 128)) fun x305 =>
 Pick x305 (E.C 191 [a0, (.int .i32 65533)] H fun x306 H _ =>
 K x306 H)
 (E.C 191 [a0, x304] H fun x307 H _ =>
 K x307 H))
 (J0 (fun  H => ∀ d308 : Nat → AV,
 Res (fRangeStr a0 H) fun x309 H _ =>
 L188_1 a1 x309 H (fun  H => ∀ d310 : Nat → AV, K (.int .i64 (-1)) H) (fun x311 H => ∀ d312 : Nat → AV, K x311 H)) fun j313 =>
 Res (builtinA H .lenStr [a0]) fun x314 H _ =>
 E.C 204 [x314] H fun x315 H _ =>
 Pick x315 (E.C 264 [a1] H fun x316 H _ =>
 Opn (exV 0 x316) fun x317 =>
 Opn (exV 1 x316) fun x318 =>
 Res (fAlloc [.bool false, .bool false, .bool false, .bool false, .bool false, .bool false, .bool false, .bool false, .bool false, .bool false, .bool false, .bool false, .bool false, .bool false, .bool false, .bool false, .bool false, .bool false, .bool false, .bool false, .bool false, .bool false, .bool false, .bool false, .bool false, .bool false, .bool false, .bool false, .bool false, .bool false, .bool false, .bool false, .bool false, .bool false, .bool false, .bool false, .bool false, .bool false, .bool false, .bool false, .bool false, .bool false, .bool false, .bool false, .bool false, .bool false, .bool false, .bool false, .bool false, .bool false, .bool false, .bool false, .bool false, .bool false, .bool false, .bool false, .bool false, .bool false, .bool false, .bool false, .bool false, .bool false, .bool false, .bool false, .bool false, .bool false, .bool false, .bool false, .bool false, .bool false, .bool false, .bool false, .bool false, .bool false, .bool false, .bool false, .bool false, .bool false, .bool false, .bool false, .bool false, .bool false, .bool false, .bool false, .bool false, .bool false, .bool false, .bool false, .bool false, .bool false, .bool false, .bool false, .bool false, .bool false, .bool false, .bool false, .bool false, .bool false, .bool false, .bool false, .bool false, .bool false, .bool false, .bool false, .bool false, .bool false, .bool false, .bool false, .bool false, .bool false, .bool false, .bool false, .bool false, .bool false, .bool false, .bool false, .bool false, .bool false, .bool false, .bool false, .bool false, .bool false, .bool false, .bool false, .bool false, .bool false, .bool false, .bool false, .bool false, .bool false, .bool false, .bool false, .bool false, .bool false, .bool false, .bool false, .bool false, .bool false, .bool false, .bool false, .bool false, .bool false, .bool false, .bool false, .bool false, .bool false, .bool false, .bool false, .bool false, .bool false, .bool false, .bool false, .bool false, .bool false, .bool false, .bool false, .bool false, .bool false, .bool false, .bool false, .bool false, .bool false, .bool false, .bool false, .bool false, .bool false, .bool false, .bool false, .bool false, .bool false, .bool false, .bool false, .bool false, .bool false, .bool false, .bool false, .bool false, .bool false, .bool false, .bool false, .bool false, .bool false, .bool false, .bool false, .bool false, .bool false, .bool false, .bool false, .bool false, .bool false, .bool false, .bool false, .bool false, .bool false, .bool false, .bool false, .bool false, .bool false, .bool false, .bool false, .bool false, .bool false, .bool false, .bool false, .bool false, .bool false, .bool false, .bool false, .bool false, .bool false, .bool false, .bool false, .bool false, .bool false, .bool false, .bool false, .bool false, .bool false, .bool false, .bool false, .bool false, .bool false, .bool false, .bool false, .bool false, .bool false, .bool false, .bool false, .bool false, .bool false, .bool false, .bool false, .bool false, .bool false, .bool false, .bool false, .bool false, .bool false, .bool false, .bool false, .bool false, .bool false, .bool false, .bool false, .bool false, .bool false, .bool false, .bool false, .bool false, .bool false, .bool false, .bool false, .bool false, .bool false, .bool false, .bool false] 0 H) fun x319 H _ =>
 Res (storeA H 256 x319 x317) fun _ H _ =>
 Pick x318 (L188_0 a0 x319 (.int .i64 0) H (fun  H => ∀ d320 : Nat → AV, K (.int .i64 (-1)) H) (fun x321 H => ∀ d322 : Nat → AV, K x321 H))
 (j313  H))
 (j313  H)))) : ∃ v H', K v H' ∧ E.Ans 188 [a0, a1] H v H' := ans_of (F := F188) (np := 2) (nt := 55) (rs := [.t 4]) (x := (.seq (.reg (.one .done)) (.seq (.seq (.reg (.one (.one .done))) (.cond (.seq (.reg (.one .done)) .lf) .lf)) (.seq (.seq (.reg (.one (.one (.one .done)))) (.cond (.seq (.reg (.one (.one (.one (.one .done))))) (.seq (.seq (.reg (.one (.one .done))) (.cond (.reg (.one .done)) .lf)) (.seq (.reg (.one (.one (.one (.one .done))))) .lf))) .lf)) (.cut [] (.seq (.reg (.one (.one (.one .done)))) (.cond (.seq (.reg (.one (.one (.one (.one (.one (.one (.one (.one .done))))))))) (.seq (.reg (.one .done)) (.cond (.seq (.seq (.reg (.one .done)) (.block (.loop h188_0))) (.seq (.reg (.one .done)) .lf)) .lf))) .lf)) (.seq (.seq (.reg (.one (.one .done))) (.block (.loop h188_1))) (.seq (.reg (.one .done)) .lf))))))) (by kernel_rfl) (by kernel_rfl) rfl (by decide) (by kernel_rfl) (HOk_by (l := [(h188_0, F188.loop 0), (h188_1, F188.loop 1)]) (by kernel_rfl) (all_cons (P := fun p : LHand × LCode => LpOkV E _ p.2 p.1) o188_0 (all_cons (P := fun p : LHand × LCode => LpOkV E _ p.2 p.1) o188_1 (all_nil)))) (Eq.mp (by kernel_rfl) h)
theorem V190 (h :
 E.C 202 [a0, a1, (.bool true)] H fun x300 H _ =>
 K x300 H) : ∃ v H', K v H' ∧ E.Ans 190 [a0, a1] H v H' := ans_of (F := F190) (np := 2) (nt := 8) (rs := [.t 4]) (x := (.seq (.reg (.one .done)) (.seq (.reg (.one (.one (.one (.one .done))))) .lf))) (by kernel_rfl) (by kernel_rfl) rfl (by decide) (by kernel_rfl) (HOk_by (l := []) (by kernel_rfl) (all_nil)) (Eq.mp (by kernel_rfl) h)
def L202_0 (x1 x2 x10 : AV) (H : AHeap) (K0 : AHeap → Prop) (Kr : AV → AHeap → Prop) : Prop := LoopV E (F202.loop 0) [(1, x1), (2, x2), (10, x10)] 21 H (xq [(0, fun t H => K0  H)] (fun t H => Kr (getF t 6) H))
noncomputable def h202_0 : LHand := fun t H Q => L202_0 (getF t 1) (getF t 2) (getF t 10) H ( fun  H => ∀ d : Nat → AV, Q (.exit 0) (mkO 2095552 [] d t 0 1) H) ( fun y6 H => ∀ d : Nat → AV, Q .ret (mkO 2095552 [(6, y6)] d t 0 1) H)
theorem o202_0 : LpOkV E 21 (F202.loop 0) h202_0 := fun t _ H Q ht hn h => hand_ok (m := 2095552) ht hn (by kernel_rfl) h (by simp) (all_cons (fun t' _ h => ⟨[], by simp, h⟩) (all_nil)) (fun t' _ h => ⟨[(6, getF t' 6)], by simp, h⟩)
theorem S202_0 {x1 x2 x10 : AV} {H : AHeap} {K0 : AHeap → Prop} {Kr : AV → AHeap → Prop} (h : ∀ d : Nat → AV,
 Res (fNextStr x10 H) fun x300 H _ =>
 Opn (exV 0 x300) fun x301 =>
 Pick x301 (Opn (exV 1 x300) fun x302 =>
 Opn (exV 2 x300) fun x303 =>
 CV E x1 [x303] H fun x304 H _ =>
 Opn (eqV false .b x304 x2) fun x305 =>
 Pick x305 (Kr x302 H)
 (L202_0 x1 x2 x10 H K0 Kr))
 (K0  H)) : L202_0 x1 x2 x10 H K0 Kr := step_of (x := (.seq (.reg (.one (.one .done))) (.seq (.cond .lf .lf) (.block (.seq (.reg (.one (.one (.one (.one .done))))) (.seq (.reg (.one (.one (.one (.one (.one .done)))))) (.cond (.seq (.reg (.one (.one .done))) .lf) .lf))))))) (back := fun t' H' => L202_0 (getF t' 1) (getF t' 2) (getF t' 10) H' K0 Kr) (by kernel_rfl) (by kernel_rfl) (HOk_by (l := []) (by kernel_rfl) (all_nil)) (fun t' _ h => ⟨[(1, getF t' 1), (2, getF t' 2), (10, getF t' 10)], by simp, h⟩) (fun d => Eq.mp (by kernel_rfl) (h d))
theorem V202 (h :
 Res (fRangeStr a0 H) fun x300 H _ =>
 L202_0 a1 a2 x300 H (fun  H => ∀ d301 : Nat → AV, K (.int .i64 (-1)) H) (fun x302 H => ∀ d303 : Nat → AV, K x302 H)) : ∃ v H', K v H' ∧ E.Ans 202 [a0, a1, a2] H v H' := ans_of (F := F202) (np := 3) (nt := 21) (rs := [.t 6]) (x := (.seq (.reg (.one .done)) (.seq (.seq (.reg (.one (.one .done))) (.block (.loop h202_0))) (.seq (.reg (.one .done)) .lf)))) (by kernel_rfl) (by kernel_rfl) rfl (by decide) (by kernel_rfl) (HOk_by (l := [(h202_0, F202.loop 0)]) (by kernel_rfl) (all_cons (P := fun p : LHand × LCode => LpOkV E _ p.2 p.1) o202_0 (all_nil))) (Eq.mp (by kernel_rfl) h)
end Go.AE.Fns
namespace Go.AE.Fns
open Go Go.AE Env
set_option maxRecDepth 100000
theorem V227 (h :
 E.C 19 [a0] H fun x300 H _ =>
 Res (fNilChk a0 H) fun x301 H _ =>
 Opn (addA 1 x301) fun x302 =>
 Res (loadA H 1 false x302) fun x303 H _ =>
 Res (builtinA H (.append 1 1 1 [.int .u8 0]) [x303, a1]) fun x304 H _ =>
 Res (fNilChk a0 H) fun x305 H _ =>
 Opn (addA 1 x305) fun x306 =>
 Res (storeA H 1 x306 x304) fun _ H _ =>
 Res (builtinA H .lenSl [a1]) fun x307 H _ =>
 K (.tuple [x307, (.nilIface)]) H) : ∃ v H', K v H' ∧ E.Ans 227 [a0, a1] H v H' := ans_of (F := F227) (np := 2) (nt := 19) (rs := [.t 4, .t 5]) (x := (.seq (.reg (.one (.one .done))) (.seq (.reg (.one (.one .done))) (.seq (.reg (.one (.one (.one (.one (.one (.one (.one (.one (.one (.one .done))))))))))) (.seq (.reg (.one (.one (.one (.one .done))))) .lf))))) (by kernel_rfl) (by kernel_rfl) rfl (by decide) (by kernel_rfl) (HOk_by (l := []) (by kernel_rfl) (all_nil)) (Eq.mp (by kernel_rfl) h)
theorem V228 (h :
 Res (fNilChk a0 H) fun x300 H _ =>
 Res (fIdxArrAddr 256 1 x300 a1 H) fun x301 H _ =>
 Res (loadA H 1 false x301) fun x302 H _ =>
 K x302 H) : ∃ v H', K v H' ∧ E.Ans 228 [a0, a1] H v H' := ans_of (F := F228) (np := 2) (nt := 10) (rs := [.t 4]) (x := (.seq (.reg (.one .done)) (.seq (.reg (.one (.one (.one (.one (.one (.one .done))))))) .lf))) (by kernel_rfl) (by kernel_rfl) rfl (by decide) (by kernel_rfl) (HOk_by (l := []) (by kernel_rfl) (all_nil)) (Eq.mp (by kernel_rfl) h)
theorem V235 (h :
 Res (newVarA H a1 0) fun x300 H _ =>
 Res (fAlloc [.bool false, .int .i64 0, .str [], .int .u8 0, .str [], .int .u32 0, .int .u16 0, .int .u16 0, .int .u16 0, .int .u16 0, .int .u16 0, .int .u16 0, .int .u16 0, .int .u16 0, .int .i64 0, .bool false, .str [], .bool false] 0 H) fun x301 H _ =>
 Res (loadA H 18 true x300) fun x302 H _ =>
 E.C 70 [x302] H fun x303 H _ =>
 Opn (binA .neq x303 (.int .i64 0)) fun x304 =>
 Pick x304 (Opn (bldV [.bool false, .int .i64 0, .str [], .int .u8 0, .str [], .int .u32 0, .int .u16 0, .int .u16 0, .int .u16 0, .int .u16 0, .int .u16 0, .int .u16 0, .int .u16 0, .int .u16 0, .int .i64 0, .bool false, .str [], .bool false] []) fun x305 =>
 Res (storeA H 18 x301 x305) fun _ H _ =>
 Res (loadA H 18 true x301) fun x306 _ _ => K (.tuple [x306, x303]) H)
 (Res (builtinA H .lenSl [a0]) fun x307 H _ =>
 Opn (binA .gtr x307 (.int .i64 256)) fun x308 =>
 Pick x308 (Opn (bldV [.bool false, .int .i64 0, .str [], .int .u8 0, .str [], .int .u32 0, .int .u16 0, .int .u16 0, .int .u16 0, .int .u16 0, .int .u16 0, .int .u16 0, .int .u16 0, .int .u16 0, .int .i64 0, .bool false, .str [], .bool false] []) fun x309 =>
 Res (storeA H 18 x301 x309) fun _ H _ =>
 Res (loadA H 18 true x301) fun x310 _ _ => K (.tuple [x310, (.int .i64 3)]) H)
 (Opn (addA 3 x300) fun x311 =>
 Opn (addA 1 x311) fun x312 =>
 Res (loadA H 1 false x312) fun x313 H _ =>
 Opn (addA 0 x300) fun x314 =>
 Res (loadA H 1 false x314) fun x315 H _ =>
 Opn (unA .not x315) fun x316 =>
 J1 (fun x317 H => ∀ d318 : Nat → AV, Two x316 x317 (.bool false) fun x319 =>
 J1 (fun x320 H => ∀ d321 : Nat → AV, Two x319 x320 (.bool false) fun x322 =>
 J1 (fun x323 H => ∀ d324 : Nat → AV,
 Opn (unA .not x323) fun x325 =>
 Pick x325 (Opn (bldV [.bool false, .int .i64 0, .str [], .int .u8 0, .str [], .int .u32 0, .int .u16 0, .int .u16 0, .int .u16 0, .int .u16 0, .int .u16 0, .int .u16 0, .int .u16 0, .int .u16 0, .int .i64 0, .bool false, .str [], .bool false] []) fun x326 =>
 Res (storeA H 18 x301 x326) fun _ H _ =>
 Res (loadA H 18 true x301) fun x327 _ _ => K (.tuple [x327, (.int .i64 21)]) H)
 (Opn (addA 16 x300) fun x328 =>
 Res (storeA H 1 x328 a2) fun _ H _ =>
 Opn (addA 17 x300) fun x329 =>
 Res (storeA H 1 x329 (.bool true)) fun _ H _ =>
 Res (loadA H 18 true x300) fun x330 H _ =>
 Res (storeA H 18 x301 x330) fun _ H _ =>
 Res (loadA H 18 true x301) fun x331 _ _ => K (.tuple [x331, (.int .i64 0)]) H)) fun j332 =>
 J1 (fun x333 H => ∀ d334 : Nat → AV, Two x322 x333 (.bool false) fun x335 =>
 Pick x335 (E.C 73 [a0, x313] H fun x336 H _ =>
 Opn (exV 0 x336) fun x337 =>
 Opn (exV 1 x336) fun x338 =>
 E.C 73 [a0, a2] H fun x339 H _ =>
 Opn (exV 0 x339) fun x340 =>
 Opn (exV 1 x339) fun x341 =>
 Opn (binA .neq a2 x337) fun x342 =>
 J1 (fun x343 H => ∀ d344 : Nat → AV, Two x342 x343 (.bool false) fun x345 =>
 j332 x345 H) fun j346 => Gd x342 true (Opn (binA .neq a2 x340) fun x347 =>
 j346 x347 H) (j346 undefA H))
 (j332 x322 H)) fun j348 => Gd x322 true (Opn (binA .neq a2 x313) fun x349 =>
 j348 x349 H) (j348 undefA H)) fun j350 => Gd x319 true (E.C 241 [x313, a2] H fun x351 H _ =>
 j350 x351 H) (j350 undefA H)) fun j352 => Gd x316 true (Opn (addA 3 x300) fun x353 =>
 Opn (addA 0 x353) fun x354 =>
 Res (loadA H 1 false x354) fun x355 H _ =>
 Opn (binA .eql x355 (.int .u8 1)) fun x356 =>
 j352 x356 H) (j352 undefA H)))) : ∃ v H', K v H' ∧ E.Ans 235 [a0, a1, a2] H v H' := ans_of (F := F235) (np := 3) (nt := 75) (rs := [.cell 6 18 true, .t 7]) (x := (.seq (.reg (.one (.one (.one .done)))) (.seq (.seq (.reg (.one (.one (.one .done)))) (.seq (.reg (.one (.one .done))) (.cond (.seq (.reg (.one (.one (.one (.one .done))))) .lf) .lf))) (.seq (.seq (.reg (.one (.one (.one .done)))) (.cond (.seq (.reg (.one (.one (.one .done)))) .lf) .lf)) (.seq (.reg (.one (.one (.one (.one .done))))) (.seq (.reg (.one (.one (.one (.one (.grp 4 31 true [35] (.one (.one (.one (.one .done)))) (.one (.one (.grp 3 37 true [40] (.one (.one (.one .done))) (.one (.one .done))))))))))) (.cut [10] (.seq (.reg (.one (.one (.grp 3 43 true [46] (.one (.one (.one .done))) (.one .done))))) (.cond (.seq (.reg (.one (.one (.one (.one (.one (.one (.one (.one .done))))))))) (.seq (.reg (.one (.one (.one (.one (.one (.one (.one (.one .done))))))))) (.reg (.one (.one (.one (.one (.grp 3 63 true [66] (.one (.one (.one .done))) (.one (.one .done)))))))))) .lf)) (.seq (.seq (.reg (.one (.one .done))) (.cond (.seq (.reg (.one (.one (.one .done)))) .lf) .lf)) (.seq (.reg (.one (.one (.one (.one (.one .done)))))) (.seq (.reg (.one (.one (.one .done)))) .lf)))))))))) (by kernel_rfl) (by kernel_rfl) rfl (by decide) (by kernel_rfl) (HOk_by (l := []) (by kernel_rfl) (all_nil)) (Eq.mp (by kernel_rfl) h)
theorem V236 (h :
 Res (newVarA H a0 0) fun x300 H _ =>
 Res (newVarA H a1 0) fun x301 H _ =>
 Opn (addA 0 x300) fun x302 =>
 Res (loadA H 1 false x302) fun x303 H _ =>
 J1 (fun x304 H => ∀ d305 : Nat → AV, Two x303 (.bool true) x304 fun x306 =>
 Pick x306 (Opn (addA 0 x300) fun x307 =>
 Res (loadA H 1 false x307) fun x308 H _ =>
 Opn (addA 0 x301) fun x309 =>
 Res (loadA H 1 false x309) fun x310 H _ =>
 Opn (eqV false .b x308 x310) fun x311 =>
 J1 (fun x312 H => ∀ d313 : Nat → AV, Two x311 x312 (.bool false) fun x314 =>
 K x314 H) fun j315 => Gd x311 true (Opn (addA 1 x300) fun x316 =>
 Res (loadA H 1 false x316) fun x317 H _ =>
 Opn (addA 1 x301) fun x318 =>
 Res (loadA H 1 false x318) fun x319 H _ =>
 Opn (binA .eql x317 x319) fun x320 =>
 j315 x320 H) (j315 undefA H))
 (Opn (addA 16 x301) fun x321 =>
 Res (loadA H 1 false x321) fun x322 H k323 =>
 Opn (addA 17 x301) fun x324 =>
 Res (loadA H 1 false x324) fun x325 H k326 =>
 Opn (addA 1 x301) fun x327 =>
 Res (loadA H 1 false x327) fun x328 H k329 =>
 Opn (addA 16 x300) fun x330 =>
 Res (storeA H 1 x330 x322) fun _ H k331 =>
 Opn (addA 17 x300) fun x332 =>
 Res (storeA H 1 x332 x325) fun _ H k333 =>
 Opn (addA 1 x300) fun x334 =>
 Res (storeA H 1 x334 x328) fun _ H k335 =>
 drawOk (drawn F236 0) [.p, k323, .p, k326, .p, k329, .p, k331, .p, k333, .p, k335] = true ∧
 Res (loadA H 18 true x300) fun x336 H _ =>
 Res (loadA H 18 true x301) fun x337 H _ =>
 Opn (eqV false (.st [(0, 1, false, .b), (1, 1, false, .i), (2, 1, false, .s), (3, 11, true, (.st [(0, 1, false, .i), (1, 1, false, .s), (2, 1, false, .i), (3, 8, true, (.st [(0, 1, false, .i), (1, 1, false, .i), (2, 1, false, .i), (3, 1, false, .i), (4, 1, false, .i), (5, 1, false, .i), (6, 1, false, .i), (7, 1, false, .i)]))])), (14, 1, false, .i), (15, 1, false, .b), (16, 1, false, .s), (17, 1, false, .b)]) x336 x337) fun x338 =>
 K x338 H)) fun j339 => Gd x303 false (Opn (addA 0 x301) fun x340 =>
 Res (loadA H 1 false x340) fun x341 H _ =>
 j339 x341 H) (j339 undefA H)) : ∃ v H', K v H' ∧ E.Ans 236 [a0, a1] H v H' := ans_of (F := F236) (np := 2) (nt := 35) (rs := [.t 4]) (x := (.seq (.reg (.one (.one (.one .done)))) (.seq (.seq (.reg (.one (.one (.one (.grp 2 7 false [9] (.one (.one .done)) (.one .done)))))) (.cond (.seq (.reg (.one (.one (.one (.one (.one (.one (.grp 5 16 true [21] (.one (.one (.one (.one (.one .done))))) (.one (.one .done)))))))))) .lf) .lf)) (.seq (.reg .done) (.seq (.reg (.one (.one (.one (.one .done))))) .lf))))) (by kernel_rfl) (by kernel_rfl) rfl (by decide) (by kernel_rfl) (HOk_by (l := []) (by kernel_rfl) (all_nil)) (Eq.mp (by kernel_rfl) h)
theorem V237 (h :
 Res (newVarA H a0 0) fun x300 H _ =>
 Res (newVarA H a1 0) fun x301 H _ =>
 Opn (addA 0 x300) fun x302 =>
 Res (loadA H 1 false x302) fun x303 H _ =>
 J1 (fun x304 H => ∀ d305 : Nat → AV, Two x303 (.bool true) x304 fun x306 =>
 Pick x306 (Res (loadA H 18 true x300) fun x307 H _ =>
 Res (loadA H 18 true x301) fun x308 H _ =>
 E.C 236 [x307, x308] H fun x309 H _ =>
 K x309 H)
 (Opn (addA 17 x300) fun x310 =>
 Res (loadA H 1 false x310) fun x311 H _ =>
 J1 (fun x312 H => ∀ d313 : Nat → AV, Two x311 x312 (.bool false) fun x314 =>
 Pick x314 (Opn (addA 2 x300) fun x315 =>
 Res (loadA H 1 false x315) fun x316 H _ =>
 Opn (addA 2 x301) fun x317 =>
 Res (loadA H 1 false x317) fun x318 H _ =>
 Opn (binA .eql x316 x318) fun x319 =>
 J1 (fun x320 H => ∀ d321 : Nat → AV, Two x319 x320 (.bool false) fun x322 =>
 K x322 H) fun j323 => Gd x319 true (Opn (addA 16 x300) fun x324 =>
 Res (loadA H 1 false x324) fun x325 H _ =>
 Opn (addA 16 x301) fun x326 =>
 Res (loadA H 1 false x326) fun x327 H _ =>
 Opn (binA .eql x325 x327) fun x328 =>
 j323 x328 H) (j323 undefA H))
 (Opn (addA 17 x300) fun x329 =>
 Res (loadA H 1 false x329) fun x330 H _ =>
 Opn (addA 17 x301) fun x331 =>
 Res (loadA H 1 false x331) fun x332 H _ =>
 Opn (eqV false .b x330 x332) fun x333 =>
 J1 (fun x334 H => ∀ d335 : Nat → AV, Two x333 x334 (.bool false) fun x336 =>
 K x336 H) fun j337 => Gd x333 true (Res (loadA H 18 true x300) fun x338 H _ =>
 Res (loadA H 18 true x301) fun x339 H _ =>
 E.C 236 [x338, x339] H fun x340 H _ =>
 j337 x340 H) (j337 undefA H))) fun j341 => Gd x311 true (Opn (addA 17 x301) fun x342 =>
 Res (loadA H 1 false x342) fun x343 H _ =>
 j341 x343 H) (j341 undefA H))) fun j344 => Gd x303 false (Opn (addA 0 x301) fun x345 =>
 Res (loadA H 1 false x345) fun x346 H _ =>
 j344 x346 H) (j344 undefA H)) : ∃ v H', K v H' ∧ E.Ans 237 [a0, a1] H v H' := ans_of (F := F237) (np := 2) (nt := 44) (rs := [.t 4]) (x := (.seq (.reg (.one (.one (.one .done)))) (.seq (.block (.seq (.reg (.one (.one (.one (.grp 2 8 false [10] (.one (.one .done)) (.one (.one .done))))))) (.cond (.seq (.reg (.one (.one (.one (.one .done))))) .lf) (.seq (.reg (.one (.one (.one (.grp 2 18 true [20] (.one (.one .done)) (.one (.one .done))))))) (.cond (.seq (.reg (.one (.one (.one (.one (.one (.one (.grp 5 27 true [32] (.one (.one (.one (.one (.one .done))))) (.one (.one .done)))))))))) .lf) .lf))))) (.seq (.reg (.one (.one (.one (.one (.one (.one (.grp 3 39 true [42] (.one (.one (.one .done))) (.one (.one .done)))))))))) .lf)))) (by kernel_rfl) (by kernel_rfl) rfl (by decide) (by kernel_rfl) (HOk_by (l := []) (by kernel_rfl) (all_nil)) (Eq.mp (by kernel_rfl) h)
def L245_0 (x1 x8 x9 x10 x11 x12 x13 x99 x100 x101 : AV) (H : AHeap) (K3 : AV → AV → AHeap → Prop) (Kr : AV → AV → AHeap → Prop) : Prop := LoopV E (F245.loop 0) [(1, x1), (8, x8), (9, x9), (10, x10), (11, x11), (12, x12), (13, x13), (99, x99), (100, x100), (101, x101)] 172 H (xq [(3, fun t H => K3 (getF t 12) (getF t 13) H)] (fun t H => Kr (getF t 6) (getF t 7) H))
noncomputable def h245_0 : LHand := fun t H Q => L245_0 (getF t 1) (getF t 8) (getF t 9) (getF t 10) (getF t 11) (getF t 12) (getF t 13) (getF t 99) (getF t 100) (getF t 101) H ( fun y12 y13 H => ∀ d : Nat → AV, Q (.exit 3) (mkO 23384026197294446688723656123004069511501514518720 [(12, y12), (13, y13)] d t 0 1) H) ( fun y6 y7 H => ∀ d : Nat → AV, Q .ret (mkO 23384026197294446688723656123004069511501514518720 [(6, y6), (7, y7)] d t 0 1) H)
theorem o245_0 : LpOkV E 172 (F245.loop 0) h245_0 := fun t _ H Q ht hn h => hand_ok (m := 23384026197294446688723656123004069511501514518720) ht hn (by kernel_rfl) h (by simp) (all_cons (fun t' _ h => ⟨[(12, getF t' 12), (13, getF t' 13)], by simp, h⟩) (all_nil)) (fun t' _ h => ⟨[(6, getF t' 6), (7, getF t' 7)], by simp, h⟩)
theorem S245_0 {x1 x8 x9 x10 x11 x12 x13 x99 x100 x101 : AV} {H : AHeap} {K3 : AV → AV → AHeap → Prop} {Kr : AV → AV → AHeap → Prop} (h : ∀ d : Nat → AV,
 Opn (binA .lss x101 x100) fun x300 =>
 Pick x300 (Opn (idxAddrA 1 x99 x101) fun x301 =>
 Res (loadA H 1 false x301) fun x302 H _ =>
 J2 (fun x303 x304 H => ∀ d305 : Nat → AV,
 Res (convA H (.int .u8) x1) fun x306 H _ =>
 Opn (binA .geq x304 x306) fun x307 =>
 Pick x307 (Kr (.int .u64 0) (.iface 6 (.int .i64 2)) H)
 (Opn (binA .geq x13 x10) fun x308 =>
 Pick x308 (Kr x11 (.iface 6 (.int .i64 1)) H)
 (Res (convA H (.int .u64) x1) fun x309 H _ =>
 Opn (binA .mul x13 x309) fun x310 =>
 Res (convA H (.int .u64) x304) fun x311 H _ =>
 Opn (binA .add x310 x311) fun x312 =>
 Opn (binA .lss x312 x310) fun x313 =>
 J1 (fun x314 H => ∀ d315 : Nat → AV, Two x313 (.bool true) x314 fun x316 =>
 Pick x316 (Kr x11 (.iface 6 (.int .i64 1)) H)
 (Opn (binA .add x101 (.int .i64 1)) fun x317 =>
 L245_0 x1 x8 x9 x10 x11 x303 x312 x99 x100 x317 H K3 Kr)) fun j318 => Gd x313 false (Opn (binA .gtr x312 x11) fun x319 =>
 j318 x319 H) (j318 undefA H)))) fun j320 =>
 Opn (binA .eql x302 (.int .u8 95)) fun x321 =>
 J1 (fun x322 H => ∀ d323 : Nat → AV, Two x321 x322 (.bool false) fun x324 =>
 Pick x324 (Opn (binA .add x101 (.int .i64 1)) fun x325 =>
 L245_0 x1 x8 x9 x10 x11 (.bool true) x13 x99 x100 x325 H K3 Kr)
 (Opn (binA .leq (.int .u8 48) x302) fun x326 =>
 J1 (fun x327 H => ∀ d328 : Nat → AV, Two x326 x327 (.bool false) fun x329 =>
 Pick x329 (Opn (binA .sub x302 (.int .u8 48)) fun x330 =>
 j320 x12 x330 H)
 (E.C 251 [x302] H fun x331 H _ =>
 Opn (binA .leq (.int .u8 97) x331) fun x332 =>
 J1 (fun x333 H => ∀ d334 : Nat → AV, Two x332 x333 (.bool false) fun x335 =>
 Pick x335 (E.C 251 [x302] H fun x336 H _ =>
 Opn (binA .sub x336 (.int .u8 97)) fun x337 =>
 Opn (binA .add x337 (.int .u8 10)) fun x338 =>
 j320 x12 x338 H)
 (Kr (.int .u64 0) (.iface 6 (.int .i64 2)) H)) fun j339 => Gd x332 true (E.C 251 [x302] H fun x340 H _ =>
 Opn (binA .leq x340 (.int .u8 122)) fun x341 =>
 j339 x341 H) (j339 undefA H))) fun j342 => Gd x326 true (Opn (binA .leq x302 (.int .u8 57)) fun x343 =>
 j342 x343 H) (j342 undefA H))) fun j344 => Gd x321 true (j344 x8 H) (j344 undefA H))
 (K3 x12 x13 H)) : L245_0 x1 x8 x9 x10 x11 x12 x13 x99 x100 x101 H K3 Kr := step_of (x := (.seq (.reg (.one .done)) (.seq (.cond .lf .lf) (.seq (.block (.seq (.reg (.one (.one (.one .done)))) (.seq (.reg (.one .done)) (.cut [12, 16] (.block (.seq (.reg (.one (.one (.one (.grp 1 109 true [110] (.one .done) (.one (.one .done))))))) (.cond (.seq (.reg (.one .done)) .lf) (.seq (.reg (.one (.one (.one (.grp 2 115 true [117] (.one (.one .done)) (.one (.one .done))))))) (.cond (.reg (.one (.one (.one .done)))) (.seq (.reg (.one (.one (.one (.one (.grp 3 125 true [128] (.one (.one (.one .done))) (.one (.one .done)))))))) (.cond (.reg (.one (.one (.one (.one (.one .done)))))) (.seq (.reg (.one (.one (.one .done)))) .lf)))))))) (.seq (.seq (.reg (.one (.one (.one (.one .done))))) (.cond (.seq (.reg (.one (.one (.one .done)))) .lf) .lf)) (.seq (.seq (.reg (.one (.one (.one .done)))) (.cond (.seq (.reg (.one (.one (.one (.one .done))))) .lf) .lf)) (.seq (.reg (.one (.one (.one (.one (.one .done)))))) (.seq (.reg (.one (.one (.one (.one (.one .done)))))) (.seq (.seq (.reg (.one (.one (.one (.one (.grp 3 155 false [158] (.one (.one (.one .done))) (.one .done))))))) (.cond (.seq (.reg (.one (.one (.one (.one .done))))) .lf) .lf)) (.reg (.one (.one .done)))))))))))) (.reg (.one (.one .done))))))) (back := fun t' H' => L245_0 (getF t' 1) (getF t' 8) (getF t' 9) (getF t' 10) (getF t' 11) (getF t' 12) (getF t' 13) (getF t' 99) (getF t' 100) (getF t' 101) H' K3 Kr) (by kernel_rfl) (by kernel_rfl) (HOk_by (l := []) (by kernel_rfl) (all_nil)) (fun t' _ h => ⟨[(1, getF t' 1), (8, getF t' 8), (9, getF t' 9), (10, getF t' 10), (11, getF t' 11), (12, getF t' 12), (13, getF t' 13), (99, getF t' 99), (100, getF t' 100), (101, getF t' 101)], by simp, h⟩) (fun d => Eq.mp (by kernel_rfl) (h d))
theorem V245 (h :
 Opn (binA .eql a0 (.str [])) fun x300 =>
 Pick x300 (K (.tuple [(.int .u64 0), (.iface 6 (.int .i64 2))]) H)
 (Opn (binA .eql a1 (.int .i64 0)) fun x301 =>
 J2 (fun x302 x303 H => ∀ d304 : Nat → AV,
 J1 (fun x305 H => ∀ d306 : Nat → AV,
 J1 (fun x307 H => ∀ d308 : Nat → AV,
 Res (convA H (.int .u64) x305) fun x309 H _ =>
 Opn (binA .shl (.int .u64 1) x309) fun x310 =>
 Opn (binA .sub x310 (.int .u64 1)) fun x311 =>
 Res (convA H (.toBytes 1) x302) fun x312 H _ =>
 Res (builtinA H .lenSl [x312]) fun x313 H _ =>
 L245_0 x303 x301 a0 x307 x311 (.bool false) (.int .u64 0) x312 x313 (.int .i64 0) H (fun x314 x315 H => ∀ d316 : Nat → AV, J1 (fun x317 H => ∀ d318 : Nat → AV, Two x314 x317 (.bool false) fun x319 =>
 Pick x319 (K (.tuple [(.int .u64 0), (.iface 6 (.int .i64 2))]) H)
 (K (.tuple [x315, (.nilIface)]) H)) fun j320 => Gd x314 true (E.C 297 [a0] H fun x321 H _ =>
 Opn (unA .not x321) fun x322 =>
 j320 x322 H) (j320 undefA H)) (fun x323 x324 H => ∀ d325 : Nat → AV, K (.tuple [x323, x324]) H)) fun j326 =>
 Opn (binA .eql x303 (.int .i64 10)) fun x327 =>
 Pick x327 (j326 (.int .u64 1844674407370955162) H)
 (Opn (binA .eql x303 (.int .i64 16)) fun x328 =>
 Pick x328 (j326 (.int .u64 1152921504606846976) H)
 (Res (convA H (.int .u64) x303) fun x329 H _ =>
 Opn (binA .quo (.int .u64 18446744073709551615) x329) fun x330 =>
 Opn (binA .add x330 (.int .u64 1)) fun x331 =>
 j326 x331 H))) fun j332 =>
 Opn (binA .eql a2 (.int .i64 0)) fun x333 =>
 Pick x333 (j332 (.int .i64 64) H)
 (Opn (binA .lss a2 (.int .i64 0)) fun x334 =>
 J1 (fun x335 H => ∀ d336 : Nat → AV, Two x334 (.bool true) x335 fun x337 =>
 Pick x337 (K (.tuple [(.int .u64 0), (.iface 6 (.int .i64 4))]) H)
 (j332 a2 H)) fun j338 => Gd x334 false (Opn (binA .gtr a2 (.int .i64 64)) fun x339 =>
 j338 x339 H) (j338 undefA H))) fun j340 =>
 Opn (binA .leq (.int .i64 2) a1) fun x341 =>
 J1 (fun x342 H => ∀ d343 : Nat → AV, Two x341 x342 (.bool false) fun x344 =>
 Pick x344 (j340 a0 a1 H)
 (Opn (binA .eql a1 (.int .i64 0)) fun x345 =>
 Pick x345 (Res (fIdxStr a0 (.int .i64 0) H) fun x346 H _ =>
 Opn (binA .eql x346 (.int .u8 48)) fun x347 =>
 Pick x347 (Res (builtinA H .lenStr [a0]) fun x348 H _ =>
 Opn (binA .geq x348 (.int .i64 3)) fun x349 =>
 J1 (fun x350 H => ∀ d351 : Nat → AV, Two x349 x350 (.bool false) fun x352 =>
 Pick x352 (Res (fSlStr a0 (some (.int .i64 2)) none H) fun x353 H _ =>
 j340 x353 (.int .i64 2) H)
 (Res (builtinA H .lenStr [a0]) fun x354 H _ =>
 Opn (binA .geq x354 (.int .i64 3)) fun x355 =>
 J1 (fun x356 H => ∀ d357 : Nat → AV, Two x355 x356 (.bool false) fun x358 =>
 Pick x358 (Res (fSlStr a0 (some (.int .i64 2)) none H) fun x359 H _ =>
 j340 x359 (.int .i64 8) H)
 (Res (builtinA H .lenStr [a0]) fun x360 H _ =>
 Opn (binA .geq x360 (.int .i64 3)) fun x361 =>
 J1 (fun x362 H => ∀ d363 : Nat → AV, Two x361 x362 (.bool false) fun x364 =>
 Pick x364 (Res (fSlStr a0 (some (.int .i64 2)) none H) fun x365 H _ =>
 j340 x365 (.int .i64 16) H)
 (Res (fSlStr a0 (some (.int .i64 1)) none H) fun x366 H _ =>
 j340 x366 (.int .i64 8) H)) fun j367 => Gd x361 true (Res (fIdxStr a0 (.int .i64 1) H) fun x368 H _ =>
 E.C 251 [x368] H fun x369 H _ =>
 Opn (binA .eql x369 (.int .u8 120)) fun x370 =>
 j367 x370 H) (j367 undefA H))) fun j371 => Gd x355 true (Res (fIdxStr a0 (.int .i64 1) H) fun x372 H _ =>
 E.C 251 [x372] H fun x373 H _ =>
 Opn (binA .eql x373 (.int .u8 111)) fun x374 =>
 j371 x374 H) (j371 undefA H))) fun j375 => Gd x349 true (Res (fIdxStr a0 (.int .i64 1) H) fun x376 H _ =>
 E.C 251 [x376] H fun x377 H _ =>
 Opn (binA .eql x377 (.int .u8 98)) fun x378 =>
 j375 x378 H) (j375 undefA H))
 (j340 a0 (.int .i64 10) H))
 (K (.tuple [(.int .u64 0), (.iface 6 (.int .i64 3))]) H))) fun j379 => Gd x341 true (Opn (binA .leq a1 (.int .i64 36)) fun x380 =>
 j379 x380 H) (j379 undefA H))) : ∃ v H', K v H' ∧ E.Ans 245 [a0, a1, a2] H v H' := ans_of (F := F245) (np := 3) (nt := 172) (rs := [.t 6, .t 7]) (x := (.seq (.reg (.one (.one .done))) (.seq (.seq (.reg (.one (.one .done))) (.cond (.seq (.reg (.one (.one (.one .done)))) .lf) .lf)) (.seq (.reg (.one (.one (.one .done)))) (.seq (.reg (.one (.one .done))) (.cut [0, 1] (.block (.seq (.reg (.one (.one (.one (.grp 2 28 true [30] (.one (.one .done)) (.one (.one .done))))))) (.cond .lf (.seq (.reg (.one (.one (.one .done)))) (.cond (.seq (.reg (.one .done)) (.seq (.reg (.one (.one (.one .done)))) (.cond (.block (.seq (.reg (.one (.one (.one (.one (.grp 4 44 true [48] (.one (.one (.one (.one .done)))) (.one (.one .done)))))))) (.cond (.seq (.reg (.one .done)) (.reg (.one (.one (.one .done))))) (.seq (.reg (.one (.one (.one (.one (.grp 4 56 true [60] (.one (.one (.one (.one .done)))) (.one (.one .done)))))))) (.cond (.seq (.reg (.one .done)) (.reg (.one (.one (.one .done))))) (.seq (.reg (.one (.one (.one (.one (.grp 4 68 true [72] (.one (.one (.one (.one .done)))) (.one (.one .done)))))))) (.cond (.seq (.reg (.one .done)) (.reg (.one (.one (.one .done))))) (.seq (.reg (.one .done)) (.reg (.one (.one (.one .done)))))))))))) .lf))) (.seq (.reg (.one (.one (.one .done)))) .lf)))))) (.cut [2] (.seq (.reg (.one (.one .done))) (.cond (.reg (.one .done)) (.seq (.reg (.one (.one (.one (.grp 2 80 false [82] (.one (.one .done)) (.one .done)))))) (.cond (.seq (.reg (.one (.one (.one .done)))) .lf) .lf)))) (.seq (.reg (.one .done)) (.cut [10] (.seq (.reg (.one .done)) (.block (.seq (.reg (.one (.one .done))) (.cond (.reg (.one .done)) (.seq (.reg (.one (.one .done))) (.cond (.reg (.one .done)) (.reg (.one (.one (.one (.one (.one .done)))))))))))) (.seq (.reg (.one (.one (.one (.one (.one .done)))))) (.seq (.reg (.one .done)) (.seq (.reg (.one .done)) (.seq (.seq (.reg (.one (.one (.one (.one .done))))) (.block (.loop h245_0))) (.seq (.seq (.reg (.one (.one (.grp 3 165 true [168] (.one (.one (.one .done))) (.one .done))))) (.cond (.seq (.reg (.one (.one (.one .done)))) .lf) .lf)) (.seq (.reg (.one (.one (.one .done)))) .lf))))))))))))))) (by kernel_rfl) (by kernel_rfl) rfl (by decide) (by kernel_rfl) (HOk_by (l := [(h245_0, F245.loop 0)]) (by kernel_rfl) (all_cons (P := fun p : LHand × LCode => LpOkV E _ p.2 p.1) o245_0 (all_nil))) (Eq.mp (by kernel_rfl) h)
theorem V260 (h :
 E.C 245 [a0, a1, a2] H fun x300 H _ =>
 Opn (exV 0 x300) fun x301 =>
 Opn (exV 1 x300) fun x302 =>
 Opn (eqV true (.ifc true [(6, .i)]) x302 (.nilIface)) fun x303 =>
 Pick x303 (E.C 263 [(.str [80, 97, 114, 115, 101, 85, 105, 110, 116]), a0, a1, a2, x302] H fun x304 H _ =>
 K (.tuple [x301, x304]) H)
 (K (.tuple [x301, (.nilIface)]) H)) : ∃ v H', K v H' ∧ E.Ans 260 [a0, a1, a2] H v H' := ans_of (F := F260) (np := 3) (nt := 26) (rs := [.t 6, .t 7]) (x := (.seq (.reg (.one (.one .done))) (.seq (.reg (.one (.one (.one (.one (.one (.one (.one (.one (.one .done)))))))))) (.seq (.seq (.reg (.one (.one .done))) (.cond (.seq (.reg (.one (.one (.one (.one (.one (.one (.one (.one .done))))))))) .lf) .lf)) (.seq (.reg (.one (.one (.one .done)))) .lf))))) (by kernel_rfl) (by kernel_rfl) rfl (by decide) (by kernel_rfl) (HOk_by (l := []) (by kernel_rfl) (all_nil)) (Eq.mp (by kernel_rfl) h)
end Go.AE.Fns
namespace Go.AE.Fns
open Go Go.AE Env
set_option maxRecDepth 100000
end Go.AE.Fns
namespace Go.AE.Fns
open Go Go.AE Env
set_option maxRecDepth 100000
theorem V379 (h :
 Res (newVarA H a2 0) fun x300 H _ =>
 E.C 47 [] H fun x301 H _ =>
 Opn (unA .not x301) fun x302 =>
 Pick x302 (K (.bool false) H)
 (E.C 73 [a0, a1] H fun x303 H _ =>
 Opn (exV 0 x303) fun x304 =>
 Opn (exV 1 x303) fun x305 =>
 E.C 72 [a0, a1] H fun x306 H _ =>
 Opn (exV 0 x306) fun x307 =>
 Opn (exV 1 x306) fun x308 =>
 Opn (exV 2 x306) fun x309 =>
 Opn (binA .neq x305 (.int .i64 0)) fun x310 =>
 J1 (fun x311 H => ∀ d312 : Nat → AV, Two x310 (.bool true) x311 fun x313 =>
 Pick x313 (Opn (binA .eql x305 x309) fun x314 =>
 J1 (fun x315 H => ∀ d316 : Nat → AV, Two x314 x315 (.bool false) fun x317 =>
 J1 (fun x318 H => ∀ d319 : Nat → AV, Two x317 x318 (.bool false) fun x320 =>
 J1 (fun x321 H => ∀ d322 : Nat → AV, Two x320 x321 (.bool false) fun x323 =>
 K x323 H) fun j324 => Gd x320 true (Opn (unA .not x308) fun x325 =>
 j324 x325 H) (j324 undefA H)) fun j326 => Gd x317 true (Opn (binA .eql x307 (.str [])) fun x327 =>
 j326 x327 H) (j326 undefA H)) fun j328 => Gd x314 true (Opn (binA .eql x304 (.str [])) fun x329 =>
 j328 x329 H) (j328 undefA H))
 (Res (builtinA H .lenStr [x304]) fun x330 H _ =>
 Res (builtinA H .lenStr [a1]) fun x331 H _ =>
 Opn (binA .gtr x330 x331) fun x332 =>
 J1 (fun x333 H => ∀ d334 : Nat → AV, Two x332 (.bool true) x333 fun x335 =>
 Pick x335 (K (.bool false) H)
 (J1 (fun x336 H => ∀ d337 : Nat → AV, Two x308 x336 (.bool false) fun x338 =>
 Pick x338 (K (.bool false) H)
 (Res (loadA H 18 true x300) fun x339 H _ =>
 E.C 235 [a0, x339, a1] H fun x340 H _ =>
 Opn (exV 0 x340) fun x341 =>
 Opn (exV 1 x340) fun x342 =>
 Res (fAlloc [.bool false, .int .i64 0, .str [], .int .u8 0, .str [], .int .u32 0, .int .u16 0, .int .u16 0, .int .u16 0, .int .u16 0, .int .u16 0, .int .u16 0, .int .u16 0, .int .u16 0, .int .i64 0, .bool false, .str [], .bool false] 0 H) fun x343 H _ =>
 Res (storeA H 18 x343 x341) fun _ H _ =>
 Opn (binA .neq x342 (.int .i64 0)) fun x344 =>
 Pick x344 (Res (loadA H 18 true x343) fun x345 H _ =>
 Opn (bldV [.bool false, .int .i64 0, .str [], .int .u8 0, .str [], .int .u32 0, .int .u16 0, .int .u16 0, .int .u16 0, .int .u16 0, .int .u16 0, .int .u16 0, .int .u16 0, .int .u16 0, .int .i64 0, .bool false, .str [], .bool false] []) fun x346 =>
 Opn (eqV false (.st [(0, 1, false, .b), (1, 1, false, .i), (2, 1, false, .s), (3, 11, true, (.st [(0, 1, false, .i), (1, 1, false, .s), (2, 1, false, .i), (3, 8, true, (.st [(0, 1, false, .i), (1, 1, false, .i), (2, 1, false, .i), (3, 1, false, .i), (4, 1, false, .i), (5, 1, false, .i), (6, 1, false, .i), (7, 1, false, .i)]))])), (14, 1, false, .i), (15, 1, false, .b), (16, 1, false, .s), (17, 1, false, .b)]) x345 x346) fun x347 =>
 K x347 H)
 (Opn (addA 16 x343) fun x348 =>
 Res (loadA H 1 false x348) fun x349 H _ =>
 Opn (binA .eql x349 a1) fun x350 =>
 J1 (fun x351 H => ∀ d352 : Nat → AV, Two x350 x351 (.bool false) fun x353 =>
 J1 (fun x354 H => ∀ d355 : Nat → AV, Two x353 x354 (.bool false) fun x356 =>
 J1 (fun x357 H => ∀ d358 : Nat → AV, Two x356 x357 (.bool false) fun x359 =>
 J1 (fun x360 H => ∀ d361 : Nat → AV, Two x359 x360 (.bool false) fun x362 =>
 J1 (fun x363 H => ∀ d364 : Nat → AV, Two x362 x363 (.bool false) fun x365 =>
 K x365 H) fun j366 => Gd x362 true (Res (loadA H 18 true x343) fun x367 H _ =>
 Opn (addA 2 x300) fun x368 =>
 Res (loadA H 1 false x368) fun x369 H _ =>
 Opn (addA 3 x300) fun x370 =>
 Res (loadA H 11 true x370) fun x371 H _ =>
 Opn (addA 14 x300) fun x372 =>
 Res (loadA H 1 false x372) fun x373 H _ =>
 Opn (addA 15 x300) fun x374 =>
 Res (loadA H 1 false x374) fun x375 H _ =>
 Opn (bldV [.bool false, .int .i64 0, .str [], .int .u8 0, .str [], .int .u32 0, .int .u16 0, .int .u16 0, .int .u16 0, .int .u16 0, .int .u16 0, .int .u16 0, .int .u16 0, .int .u16 0, .int .i64 0, .bool false, .str [], .bool false] [(2, 1, x369), (3, 11, x371), (14, 1, x373), (15, 1, x375)]) fun x376 =>
 E.C 237 [x367, x376] H fun x377 H _ =>
 Opn (unA .not x377) fun x378 =>
 j366 x378 H) (j366 undefA H)) fun j379 => Gd x359 true (Res (loadA H 18 true x300) fun x380 H _ =>
 Res (loadA H 18 true x343) fun x381 H _ =>
 E.C 236 [x380, x381] H fun x382 H _ =>
 j379 x382 H) (j379 undefA H)) fun j383 => Gd x356 true (Opn (addA 3 x300) fun x384 =>
 Opn (addA 1 x384) fun x385 =>
 Res (loadA H 1 false x385) fun x386 H _ =>
 Opn (binA .eql a1 x386) fun x387 =>
 J1 (fun x388 H => ∀ d389 : Nat → AV, Two x387 (.bool true) x388 fun x390 =>
 j383 x390 H) fun j391 => Gd x387 false (Opn (binA .neq a1 x304) fun x392 =>
 j391 x392 H) (j391 undefA H)) (j383 undefA H)) fun j393 => Gd x353 true (Res (loadA H 18 true x343) fun x394 H _ =>
 E.C 70 [x394] H fun x395 H _ =>
 Opn (binA .eql x395 (.int .i64 0)) fun x396 =>
 j393 x396 H) (j393 undefA H)) fun j397 => Gd x350 true (Opn (addA 17 x343) fun x398 =>
 Res (loadA H 1 false x398) fun x399 H _ =>
 j397 x399 H) (j397 undefA H)))) fun j400 => Gd x308 true (Res (builtinA H .lenStr [x307]) fun x401 H _ =>
 Res (builtinA H .lenStr [x304]) fun x402 H _ =>
 Opn (binA .lss x401 x402) fun x403 =>
 J1 (fun x404 H => ∀ d405 : Nat → AV, Two x403 (.bool true) x404 fun x406 =>
 J1 (fun x407 H => ∀ d408 : Nat → AV, Two x406 (.bool true) x407 fun x409 =>
 j400 x409 H) fun j410 => Gd x406 false (Res (builtinA H .lenStr [a1]) fun x411 H _ =>
 Res (builtinA H .lenStr [x307]) fun x412 H _ =>
 Opn (binA .sub x411 x412) fun x413 =>
 Res (fSlStr a1 (some x413) none H) fun x414 H _ =>
 Opn (binA .neq x414 x307) fun x415 =>
 j410 x415 H) (j410 undefA H)) fun j416 => Gd x403 false (Res (builtinA H .lenStr [x307]) fun x417 H _ =>
 Res (builtinA H .lenStr [a1]) fun x418 H _ =>
 Opn (binA .gtr x417 x418) fun x419 =>
 j416 x419 H) (j416 undefA H)) (j400 undefA H))) fun j420 => Gd x332 false (Res (builtinA H .lenStr [a1]) fun x421 H _ =>
 Res (builtinA H .lenStr [x304]) fun x422 H _ =>
 Opn (binA .sub x421 x422) fun x423 =>
 Res (fSlStr a1 (some x423) none H) fun x424 H _ =>
 Opn (binA .neq x424 x304) fun x425 =>
 j420 x425 H) (j420 undefA H))) fun j426 => Gd x310 false (Opn (binA .neq x309 (.int .i64 0)) fun x427 =>
 j426 x427 H) (j426 undefA H))) : ∃ v H', K v H' ∧ E.Ans 379 [a0, a1, a2] H v H' := ans_of (F := F379) (np := 3) (nt := 148) (rs := [.t 6]) (x := (.seq (.reg (.one (.one .done))) (.seq (.seq (.reg (.one (.one .done))) (.cond (.seq (.reg (.one .done)) .lf) .lf)) (.seq (.reg (.one (.one (.one (.one (.one (.one (.one (.one .done))))))))) (.seq (.reg (.one (.one (.one (.one (.one (.one (.one (.one (.one (.one .done))))))))))) (.seq (.seq (.reg (.one (.one (.one (.grp 2 31 false [33] (.one (.one .done)) (.one .done)))))) (.cond (.seq (.reg (.one (.one (.one (.one (.grp 2 38 true [40] (.one (.one .done)) (.one (.one (.grp 2 42 true [44] (.one (.one .done)) (.one (.one (.grp 2 46 true [48] (.one (.one .done)) (.one (.one .done)))))))))))))) .lf) .lf)) (.seq (.seq (.reg (.one (.one (.one (.one (.one (.one (.grp 9 55 false [64] (.one (.one (.one (.one (.one (.one (.one (.one (.one .done))))))))) (.one .done))))))))) (.cond (.seq (.reg (.one .done)) .lf) .lf)) (.seq (.seq (.reg (.one (.one (.grp 23 67 true [90] (.one (.one (.one (.one (.one (.one (.grp 5 73 false [78] (.one (.one (.one (.one (.one .done))))) (.one (.one (.grp 9 80 false [89] (.one (.one (.one (.one (.one (.one (.one (.one (.one .done))))))))) (.one .done))))))))))) (.one .done))))) (.cond (.seq (.reg (.one .done)) .lf) .lf)) (.seq (.reg (.one (.one (.one (.one (.one (.one (.one (.one (.one (.one .done))))))))))) (.seq (.seq (.reg (.one (.one .done))) (.cond (.seq (.reg (.one (.one (.one (.one .done))))) .lf) .lf)) (.seq (.reg (.one (.one (.one (.one (.one (.grp 2 108 true [110] (.one (.one .done)) (.one (.one (.grp 3 112 true [115] (.one (.one (.one .done))) (.one (.one (.grp 10 117 true [127] (.one (.one (.one (.one (.one (.one (.grp 3 123 false [126] (.one (.one (.one .done))) (.one .done)))))))) (.one (.one (.grp 3 129 true [132] (.one (.one (.one .done))) (.one (.one (.grp 12 134 true [146] (.one (.one (.one (.one (.one (.one (.one (.one (.one (.one (.one (.one .done)))))))))))) (.one (.one .done))))))))))))))))))))) .lf))))))))))) (by kernel_rfl) (by kernel_rfl) rfl (by decide) (by kernel_rfl) (HOk_by (l := []) (by kernel_rfl) (all_nil)) (Eq.mp (by kernel_rfl) h)
end Go.AE.Fns
namespace Go.AE.Fns
open Go Go.AE Env
set_option maxRecDepth 100000
end Go.AE.Fns
namespace Go.AE.Fns
open Go Go.AE Env
set_option maxRecDepth 100000
end Go.AE.Fns
