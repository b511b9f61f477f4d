/- What the functions of origins answer, and the law over the evaluator. -/
import Derived.Test.YtnblehjhpjfilaaGreatDoorC1
set_option linter.all false
set_option linter.unusedSimpArgs false
set_option linter.unusedVariables false
set_option linter.unnecessarySimpa false
set_option linter.deprecated false
namespace Go.AE.Fns
open Go Go.AE Env
set_option maxRecDepth 100000

theorem get_app {H X : AHeap} {q : Nat} {k : ABlk} (h : H[q]? = some k) : (H ++ X)[q]? = some k := by
  rw [List.getElem?_append_left (lt_of_at h)]; exact h

section
variable (lb name : List (List UInt8)) (e1 e2 : Bool)

theorem fits_loop (q : Nat) (hle : lb.length ≤ name.length) (hn : name.length ≤ 2 ^ 31) (H : AHeap) (hq : H[q]? = some (.cells [.lst (txts name) name.length 1 e2] 0 1 0)) (Q : AExit → Tmps → AHeap → Prop) : ∀ (k i : Nat) (T : Tmps), i + k = lb.length →
    T.length = 41 → gt T 1 = .ptr q 0 1 → gt T 4 = i64 ((name.length - lb.length : Nat) : Int) → gt T 16 = .lst (txts lb) lb.length 1 e1 → gt T 17 = i64 lb.length → gt T 18 = i64 i →
    (fitL (i == 0) (lb.drop i) (name.drop (name.length - lb.length + i)) = true → ∀ T' : Tmps, T'.length = 41 → Q (.exit 0) T' H) →
    (fitL (i == 0) (lb.drop i) (name.drop (name.length - lb.length + i)) = false → ∀ T' : Tmps, gt T' 3 = .bool false → Q .ret T' H) → E.W (F77.loop 0) T H Q
  | 0, i, T, hik, hT, h1, h4, h16, h17, h18, hQt, hQf => by
    rw [show F77.loop 0 = .loop _ from rfl, W_loop]
    have d1 : ¬ ((i : Int) < (lb.length : Int)) := by omega
    simp only [↓W_seq, ↓W_block, ↓W_reg, ↓W_draw, ↓WO_step, ↓WO_nil, ↓Guard_none, ↓Guard_gt, Gd_undef, Gd_tt, Gd_tf, Gd_ft, Gd_ff, ↓w_mv, ↓w_pick, Two_true, Two_false, Bnd_eq, ↓w_bin, ↓w_un, un_not, ↓w_extract, ↓w_load, ↓w_store, ↓w_slSl, ↓x_slStr, ↓x_idxStr, ↓x_field, ↓x_alloc, ↓x_mkSlice, ↓x_nilChk, idx_str0, ↓w_idxAddr, ↓w_fieldAddr, ↓w_box, ↓w_build, ↓w_lit, ↓w_mkFunc, ↓w_mkIface, ↓w_eq, ↓w_conv, ↓W1_fn, ↓W1_val, CV_func, ↓W1_builtin, bi_lenStr, bi_lenSl, bi_append, len1i, len0i, len_str, len_nil, len_lst, len_sl, bin_gtr, bin_lss, bin_leq, bin_geq, bin_eql, bin_neq, bin_eqls, bin_neqs, bin_add, bin_sub, ↓W_cond, ↓W_ret, ↓W_skip, ↓W_exit, ↓ev_t, ↓ev_c, ↓ev_f, ↓evo_s, ↓evo_n, List.map_cons, List.map_nil, ↓gp_eq, ↓gp_ne, ↓gp_none, ↓len_put, ↓andThen_normal, ↓andThen_ret, ↓andThen_exit, Nat.reduceBEq, Nat.reduceLT, decide_true, decide_false, Res_some, Res_none, Res_pure, Res_pure_none, Pick_true, Pick_false, ↓Fin0, ↓Fin1, ↓Fin2, ↓Fin0n, ↓FinV1, ↓FinX1, ↓FinX2, ↓FinV2, reduceCtorEq, if_true, if_false, List.cons_append, List.nil_append, List.append_nil, Option.map_some, AExit.exit.injEq, Nat.reduceEqDiff, Bool.not_true, Bool.not_false, true_and, and_true, ne_eq, not_false_eq_true, not_true_eq_false, List.getElem?_cons_zero, List.getElem?_cons_succ, Int.reduceBEq, Int.reduceBNe, Int.reduceLT, Int.reduceLE, Int.reduceGT, Int.reduceGE, Int.reduceEq, Int.reduceAdd, Int.reduceSub, Int.reduceNeg, nil_ptr, add_ptr, eq_pn, eq_nn, eq_pp, Bool.false_eq_true, hT, h1, h4, h16, h17, h18, d1]
    refine hQt ?_ _ (by simp only [↓gp_eq, ↓gp_ne, ↓gp_none, ↓len_put, Nat.reduceBEq, Nat.reduceLT, decide_true, hT])
    rw [List.drop_eq_nil_of_le (by omega)]
    simp [fitL]
  | k + 1, i, T, hik, hT, h1, h4, h16, h17, h18, hQt, hQf => by
    rw [show F77.loop 0 = .loop _ from rfl, W_loop]
    have hi : i < lb.length := by omega
    have hd : name.length - lb.length + i < name.length := by omega
    rw [fitL_drop _ _ _ _ _ hi hd] at hQt hQf
    have d1 : ((i : Int) < (lb.length : Int)) := by omega
    have a1 : idxAddrA 1 (.lst (txts lb) lb.length 1 e1) (.int .i64 i) = some (.elt (txts lb) i) := idxA_lst hi
    have l1 : ∀ H, loadA H 1 false (.elt (txts lb) i) = some (.str lb[i], H, .p) := fun H => load_elt (txts_get lb i hi)
    have l2 : loadA H 1 false (.ptr q 0 1) = some (.lst (txts name) name.length 1 e2, H, .r q) := load_at hq (by decide) (by decide) (by simp) (by decide) rfl
    have w1 : IntKind.i64.wrap (((name.length - lb.length : Nat) : Int) + (i : Int)) = ((name.length - lb.length + i : Nat) : Int) := by rw [wrap64] <;> omega
    have a2 : idxAddrA 1 (.lst (txts name) name.length 1 e2) (.int .i64 ((name.length - lb.length + i : Nat) : Int)) = some (.elt (txts name) (name.length - lb.length + i)) := idxA_lst hd
    have l3 : ∀ H, loadA H 1 false (.elt (txts name) (name.length - lb.length + i)) = some (.str name[name.length - lb.length + i], H, .p) := fun H => load_elt (txts_get name _ hd)
    have w3 : IntKind.i64.wrap ((i : Int) + 1) = ((i + 1 : Nat) : Int) := by rw [wrap64] <;> omega
    have goOn : ∀ T' : Tmps, ((lb[i] == name[name.length - lb.length + i] || ((i == 0) && lb[i] == [42])) = true) → T'.length = 41 → gt T' 1 = .ptr q 0 1 → gt T' 4 = i64 ((name.length - lb.length : Nat) : Int) → gt T' 16 = .lst (txts lb) lb.length 1 e1 → gt T' 17 = i64 lb.length → gt T' 18 = i64 ((i + 1 : Nat) : Int) → E.W (F77.loop 0) T' H Q := by
      intro T' hc g0 g1 g2 g3 g4 g5
      rw [hc, Bool.true_and] at hQt hQf
      exact fits_loop q hle hn H hq Q k (i + 1) T' (by omega) g0 g1 g2 g3 g4 g5 hQt hQf
    by_cases c1 : lb[i] = name[name.length - lb.length + i]
    · have e3 : (lb[i] == name[name.length - lb.length + i]) = true := by simpa using c1
      simp only [↓W_seq, ↓W_block, ↓W_reg, ↓W_draw, ↓WO_step, ↓WO_nil, ↓Guard_none, ↓Guard_gt, Gd_undef, Gd_tt, Gd_tf, Gd_ft, Gd_ff, ↓w_mv, ↓w_pick, Two_true, Two_false, Bnd_eq, ↓w_bin, ↓w_un, un_not, ↓w_extract, ↓w_load, ↓w_store, ↓w_slSl, ↓x_slStr, ↓x_idxStr, ↓x_field, ↓x_alloc, ↓x_mkSlice, ↓x_nilChk, idx_str0, ↓w_idxAddr, ↓w_fieldAddr, ↓w_box, ↓w_build, ↓w_lit, ↓w_mkFunc, ↓w_mkIface, ↓w_eq, ↓w_conv, ↓W1_fn, ↓W1_val, CV_func, ↓W1_builtin, bi_lenStr, bi_lenSl, bi_append, len1i, len0i, len_str, len_nil, len_lst, len_sl, bin_gtr, bin_lss, bin_leq, bin_geq, bin_eql, bin_neq, bin_eqls, bin_neqs, bin_add, bin_sub, ↓W_cond, ↓W_ret, ↓W_skip, ↓W_exit, ↓ev_t, ↓ev_c, ↓ev_f, ↓evo_s, ↓evo_n, List.map_cons, List.map_nil, ↓gp_eq, ↓gp_ne, ↓gp_none, ↓len_put, ↓andThen_normal, ↓andThen_ret, ↓andThen_exit, Nat.reduceBEq, Nat.reduceLT, decide_true, decide_false, Res_some, Res_none, Res_pure, Res_pure_none, Pick_true, Pick_false, ↓Fin0, ↓Fin1, ↓Fin2, ↓Fin0n, ↓FinV1, ↓FinX1, ↓FinX2, ↓FinV2, reduceCtorEq, if_true, if_false, List.cons_append, List.nil_append, List.append_nil, Option.map_some, AExit.exit.injEq, Nat.reduceEqDiff, Bool.not_true, Bool.not_false, true_and, and_true, ne_eq, not_false_eq_true, not_true_eq_false, List.getElem?_cons_zero, List.getElem?_cons_succ, Int.reduceBEq, Int.reduceBNe, Int.reduceLT, Int.reduceLE, Int.reduceGT, Int.reduceGE, Int.reduceEq, Int.reduceAdd, Int.reduceSub, Int.reduceNeg, nil_ptr, add_ptr, eq_pn, eq_nn, eq_pp, Bool.false_eq_true, hT, h1, h4, h16, h17, h18, d1, a1, l1, l2, w1, a2, l3, e3, w3]
      exact goOn _ (by rw [e3]; rfl) (by simp only [↓gp_eq, ↓gp_ne, ↓gp_none, ↓len_put, Nat.reduceBEq, Nat.reduceLT, decide_true, hT]) (by simp only [↓gp_eq, ↓gp_ne, ↓gp_none, ↓len_put, Nat.reduceBEq, Nat.reduceLT, decide_true, hT, h1]) (by simp only [↓gp_eq, ↓gp_ne, ↓gp_none, ↓len_put, Nat.reduceBEq, Nat.reduceLT, decide_true, hT, h4]) (by simp only [↓gp_eq, ↓gp_ne, ↓gp_none, ↓len_put, Nat.reduceBEq, Nat.reduceLT, decide_true, hT, h16]) (by simp only [↓gp_eq, ↓gp_ne, ↓gp_none, ↓len_put, Nat.reduceBEq, Nat.reduceLT, decide_true, hT, h17]) (by simp only [↓gp_eq, ↓gp_ne, ↓gp_none, ↓len_put, Nat.reduceBEq, Nat.reduceLT, decide_true, hT])
    · have e3 : (lb[i] == name[name.length - lb.length + i]) = false := by simpa using c1
      by_cases c2 : i = 0
      · have e4 : ((i : Int) == 0) = true := by simpa using c2
        have e4' : (i == 0) = true := by simpa using c2
        by_cases c3 : lb[i] = [42]
        · have e5 : (lb[i] == [42]) = true := by simpa using c3
          simp only [↓W_seq, ↓W_block, ↓W_reg, ↓W_draw, ↓WO_step, ↓WO_nil, ↓Guard_none, ↓Guard_gt, Gd_undef, Gd_tt, Gd_tf, Gd_ft, Gd_ff, ↓w_mv, ↓w_pick, Two_true, Two_false, Bnd_eq, ↓w_bin, ↓w_un, un_not, ↓w_extract, ↓w_load, ↓w_store, ↓w_slSl, ↓x_slStr, ↓x_idxStr, ↓x_field, ↓x_alloc, ↓x_mkSlice, ↓x_nilChk, idx_str0, ↓w_idxAddr, ↓w_fieldAddr, ↓w_box, ↓w_build, ↓w_lit, ↓w_mkFunc, ↓w_mkIface, ↓w_eq, ↓w_conv, ↓W1_fn, ↓W1_val, CV_func, ↓W1_builtin, bi_lenStr, bi_lenSl, bi_append, len1i, len0i, len_str, len_nil, len_lst, len_sl, bin_gtr, bin_lss, bin_leq, bin_geq, bin_eql, bin_neq, bin_eqls, bin_neqs, bin_add, bin_sub, ↓W_cond, ↓W_ret, ↓W_skip, ↓W_exit, ↓ev_t, ↓ev_c, ↓ev_f, ↓evo_s, ↓evo_n, List.map_cons, List.map_nil, ↓gp_eq, ↓gp_ne, ↓gp_none, ↓len_put, ↓andThen_normal, ↓andThen_ret, ↓andThen_exit, Nat.reduceBEq, Nat.reduceLT, decide_true, decide_false, Res_some, Res_none, Res_pure, Res_pure_none, Pick_true, Pick_false, ↓Fin0, ↓Fin1, ↓Fin2, ↓Fin0n, ↓FinV1, ↓FinX1, ↓FinX2, ↓FinV2, reduceCtorEq, if_true, if_false, List.cons_append, List.nil_append, List.append_nil, Option.map_some, AExit.exit.injEq, Nat.reduceEqDiff, Bool.not_true, Bool.not_false, true_and, and_true, ne_eq, not_false_eq_true, not_true_eq_false, List.getElem?_cons_zero, List.getElem?_cons_succ, Int.reduceBEq, Int.reduceBNe, Int.reduceLT, Int.reduceLE, Int.reduceGT, Int.reduceGE, Int.reduceEq, Int.reduceAdd, Int.reduceSub, Int.reduceNeg, nil_ptr, add_ptr, eq_pn, eq_nn, eq_pp, Bool.false_eq_true, hT, h1, h4, h16, h17, h18, d1, a1, l1, l2, w1, a2, l3, e3, e4, e5, w3]
          exact goOn _ (by rw [e3, e4', e5]; rfl) (by simp only [↓gp_eq, ↓gp_ne, ↓gp_none, ↓len_put, Nat.reduceBEq, Nat.reduceLT, decide_true, hT]) (by simp only [↓gp_eq, ↓gp_ne, ↓gp_none, ↓len_put, Nat.reduceBEq, Nat.reduceLT, decide_true, hT, h1]) (by simp only [↓gp_eq, ↓gp_ne, ↓gp_none, ↓len_put, Nat.reduceBEq, Nat.reduceLT, decide_true, hT, h4]) (by simp only [↓gp_eq, ↓gp_ne, ↓gp_none, ↓len_put, Nat.reduceBEq, Nat.reduceLT, decide_true, hT, h16]) (by simp only [↓gp_eq, ↓gp_ne, ↓gp_none, ↓len_put, Nat.reduceBEq, Nat.reduceLT, decide_true, hT, h17]) (by simp only [↓gp_eq, ↓gp_ne, ↓gp_none, ↓len_put, Nat.reduceBEq, Nat.reduceLT, decide_true, hT])
        · have e5 : (lb[i] == [42]) = false := by simpa using c3
          simp only [↓W_seq, ↓W_block, ↓W_reg, ↓W_draw, ↓WO_step, ↓WO_nil, ↓Guard_none, ↓Guard_gt, Gd_undef, Gd_tt, Gd_tf, Gd_ft, Gd_ff, ↓w_mv, ↓w_pick, Two_true, Two_false, Bnd_eq, ↓w_bin, ↓w_un, un_not, ↓w_extract, ↓w_load, ↓w_store, ↓w_slSl, ↓x_slStr, ↓x_idxStr, ↓x_field, ↓x_alloc, ↓x_mkSlice, ↓x_nilChk, idx_str0, ↓w_idxAddr, ↓w_fieldAddr, ↓w_box, ↓w_build, ↓w_lit, ↓w_mkFunc, ↓w_mkIface, ↓w_eq, ↓w_conv, ↓W1_fn, ↓W1_val, CV_func, ↓W1_builtin, bi_lenStr, bi_lenSl, bi_append, len1i, len0i, len_str, len_nil, len_lst, len_sl, bin_gtr, bin_lss, bin_leq, bin_geq, bin_eql, bin_neq, bin_eqls, bin_neqs, bin_add, bin_sub, ↓W_cond, ↓W_ret, ↓W_skip, ↓W_exit, ↓ev_t, ↓ev_c, ↓ev_f, ↓evo_s, ↓evo_n, List.map_cons, List.map_nil, ↓gp_eq, ↓gp_ne, ↓gp_none, ↓len_put, ↓andThen_normal, ↓andThen_ret, ↓andThen_exit, Nat.reduceBEq, Nat.reduceLT, decide_true, decide_false, Res_some, Res_none, Res_pure, Res_pure_none, Pick_true, Pick_false, ↓Fin0, ↓Fin1, ↓Fin2, ↓Fin0n, ↓FinV1, ↓FinX1, ↓FinX2, ↓FinV2, reduceCtorEq, if_true, if_false, List.cons_append, List.nil_append, List.append_nil, Option.map_some, AExit.exit.injEq, Nat.reduceEqDiff, Bool.not_true, Bool.not_false, true_and, and_true, ne_eq, not_false_eq_true, not_true_eq_false, List.getElem?_cons_zero, List.getElem?_cons_succ, Int.reduceBEq, Int.reduceBNe, Int.reduceLT, Int.reduceLE, Int.reduceGT, Int.reduceGE, Int.reduceEq, Int.reduceAdd, Int.reduceSub, Int.reduceNeg, nil_ptr, add_ptr, eq_pn, eq_nn, eq_pp, Bool.false_eq_true, hT, h1, h4, h16, h17, h18, d1, a1, l1, l2, w1, a2, l3, e3, e4, e5]
          exact hQf (by rw [e3, e4', e5]; rfl) _ (by simp only [↓gp_eq, ↓gp_ne, ↓gp_none, ↓len_put, Nat.reduceBEq, Nat.reduceLT, decide_true, hT])
      · have e4 : ((i : Int) == 0) = false := by simpa using c2
        have e4' : (i == 0) = false := by simpa using c2
        simp only [↓W_seq, ↓W_block, ↓W_reg, ↓W_draw, ↓WO_step, ↓WO_nil, ↓Guard_none, ↓Guard_gt, Gd_undef, Gd_tt, Gd_tf, Gd_ft, Gd_ff, ↓w_mv, ↓w_pick, Two_true, Two_false, Bnd_eq, ↓w_bin, ↓w_un, un_not, ↓w_extract, ↓w_load, ↓w_store, ↓w_slSl, ↓x_slStr, ↓x_idxStr, ↓x_field, ↓x_alloc, ↓x_mkSlice, ↓x_nilChk, idx_str0, ↓w_idxAddr, ↓w_fieldAddr, ↓w_box, ↓w_build, ↓w_lit, ↓w_mkFunc, ↓w_mkIface, ↓w_eq, ↓w_conv, ↓W1_fn, ↓W1_val, CV_func, ↓W1_builtin, bi_lenStr, bi_lenSl, bi_append, len1i, len0i, len_str, len_nil, len_lst, len_sl, bin_gtr, bin_lss, bin_leq, bin_geq, bin_eql, bin_neq, bin_eqls, bin_neqs, bin_add, bin_sub, ↓W_cond, ↓W_ret, ↓W_skip, ↓W_exit, ↓ev_t, ↓ev_c, ↓ev_f, ↓evo_s, ↓evo_n, List.map_cons, List.map_nil, ↓gp_eq, ↓gp_ne, ↓gp_none, ↓len_put, ↓andThen_normal, ↓andThen_ret, ↓andThen_exit, Nat.reduceBEq, Nat.reduceLT, decide_true, decide_false, Res_some, Res_none, Res_pure, Res_pure_none, Pick_true, Pick_false, ↓Fin0, ↓Fin1, ↓Fin2, ↓Fin0n, ↓FinV1, ↓FinX1, ↓FinX2, ↓FinV2, reduceCtorEq, if_true, if_false, List.cons_append, List.nil_append, List.append_nil, Option.map_some, AExit.exit.injEq, Nat.reduceEqDiff, Bool.not_true, Bool.not_false, true_and, and_true, ne_eq, not_false_eq_true, not_true_eq_false, List.getElem?_cons_zero, List.getElem?_cons_succ, Int.reduceBEq, Int.reduceBNe, Int.reduceLT, Int.reduceLE, Int.reduceGT, Int.reduceGE, Int.reduceEq, Int.reduceAdd, Int.reduceSub, Int.reduceNeg, nil_ptr, add_ptr, eq_pn, eq_nn, eq_pp, Bool.false_eq_true, hT, h1, h4, h16, h17, h18, d1, a1, l1, l2, w1, a2, l3, e3, e4]
        exact hQf (by rw [e3, e4']; rfl) _ (by simp only [↓gp_eq, ↓gp_ne, ↓gp_none, ↓len_put, Nat.reduceBEq, Nat.reduceLT, decide_true, hT])

theorem fits_ans (q : Nat) (nb : Bool) (hn : name.length ≤ 2 ^ 31) (hlb : lb.length ≤ 2 ^ 31) (H : AHeap) (hq : H[q]? = some (.cells [.lst (txts name) name.length 1 e2] 0 1 0)) :
    E.Ans 77 [.agg [.lst (txts lb) lb.length 1 e1, .bool nb], .ptr q 0 1] H (.bool (fitsB lb name)) (H ++ [.cells [.lst (txts lb) lb.length 1 e1, .bool nb] 0 2 0]) := by
  refine Ans2 (F := F77) (by kernel_rfl) rfl (by decide) fun T hT h0 h1 => ?_
  have bx : newVarA H (.agg [.lst (txts lb) lb.length 1 e1, .bool nb]) 0 = some (.ptr H.length 0 2, H ++ [.cells [.lst (txts lb) lb.length 1 e1, .bool nb] 0 2 0], .a H.length) := rfl
  generalize hHb : H ++ [.cells [.lst (txts lb) lb.length 1 e1, .bool nb] 0 2 0] = Hb at bx
  have hqb : Hb[q]? = some (.cells [.lst (txts name) name.length 1 e2] 0 1 0) := by rw [← hHb]; exact get_app hq
  have hlast : Hb[H.length]? = some (.cells [.lst (txts lb) lb.length 1 e1, .bool nb] 0 2 0) := by rw [← hHb]; simp
  have l1 : loadA Hb 1 false (.ptr q 0 1) = some (.lst (txts name) name.length 1 e2, Hb, .r q) := load_at hqb (by decide) (by decide) (by simp) (by decide) rfl
  have l2 : loadA Hb 1 false (.ptr H.length 0 2) = some (.lst (txts lb) lb.length 1 e1, Hb, .r H.length) := load_at hlast (by decide) (by decide) (by simp) (by decide) rfl
  have w1 : IntKind.i64.wrap ((name.length : Int) - (lb.length : Int)) = (name.length : Int) - (lb.length : Int) := by rw [wrap64] <;> omega
  by_cases c : lb.length ≤ name.length
  · have d1 : ¬ ((name.length : Int) - (lb.length : Int) < 0) := by omega
    have e0 : (name.length : Int) - (lb.length : Int) = ((name.length - lb.length : Nat) : Int) := by omega
    have e3 : fitsB lb name = fitL true lb (name.drop (name.length - lb.length)) := by simp [fitsB, c]
    simp only [↓W_seq, ↓W_block, ↓W_reg, ↓W_draw, ↓WO_step, ↓WO_nil, ↓Guard_none, ↓Guard_gt, Gd_undef, Gd_tt, Gd_tf, Gd_ft, Gd_ff, ↓w_mv, ↓w_pick, Two_true, Two_false, Bnd_eq, ↓w_bin, ↓w_un, un_not, ↓w_extract, ↓w_load, ↓w_store, ↓w_slSl, ↓x_slStr, ↓x_idxStr, ↓x_field, ↓x_alloc, ↓x_mkSlice, ↓x_nilChk, idx_str0, ↓w_idxAddr, ↓w_fieldAddr, ↓w_box, ↓w_build, ↓w_lit, ↓w_mkFunc, ↓w_mkIface, ↓w_eq, ↓w_conv, ↓W1_fn, ↓W1_val, CV_func, ↓W1_builtin, bi_lenStr, bi_lenSl, bi_append, len1i, len0i, len_str, len_nil, len_lst, len_sl, bin_gtr, bin_lss, bin_leq, bin_geq, bin_eql, bin_neq, bin_eqls, bin_neqs, bin_add, bin_sub, ↓W_cond, ↓W_ret, ↓W_skip, ↓W_exit, ↓ev_t, ↓ev_c, ↓ev_f, ↓evo_s, ↓evo_n, List.map_cons, List.map_nil, ↓gp_eq, ↓gp_ne, ↓gp_none, ↓len_put, ↓andThen_normal, ↓andThen_ret, ↓andThen_exit, Nat.reduceBEq, Nat.reduceLT, decide_true, decide_false, Res_some, Res_none, Res_pure, Res_pure_none, Pick_true, Pick_false, ↓Fin0, ↓Fin1, ↓Fin2, ↓Fin0n, ↓FinV1, ↓FinX1, ↓FinX2, ↓FinV2, reduceCtorEq, if_true, if_false, List.cons_append, List.nil_append, List.append_nil, Option.map_some, AExit.exit.injEq, Nat.reduceEqDiff, Bool.not_true, Bool.not_false, true_and, and_true, ne_eq, not_false_eq_true, not_true_eq_false, List.getElem?_cons_zero, List.getElem?_cons_succ, Int.reduceBEq, Int.reduceBNe, Int.reduceLT, Int.reduceLE, Int.reduceGT, Int.reduceGE, Int.reduceEq, Int.reduceAdd, Int.reduceSub, Int.reduceNeg, nil_ptr, add_ptr, eq_pn, eq_nn, eq_pp, Bool.false_eq_true, Nat.zero_add, Nat.add_zero, hT, h0, h1, bx, l1, l2, w1, d1]
    refine fits_loop lb name e1 e2 q c hn Hb hqb _ lb.length 0 _ (by omega) (by simp only [↓gp_eq, ↓gp_ne, ↓gp_none, ↓len_put, Nat.reduceBEq, Nat.reduceLT, decide_true, hT]) (by simp only [↓gp_eq, ↓gp_ne, ↓gp_none, ↓len_put, Nat.reduceBEq, Nat.reduceLT, decide_true, hT, h1]) (by simp only [↓gp_eq, ↓gp_ne, ↓gp_none, ↓len_put, Nat.reduceBEq, Nat.reduceLT, decide_true, hT, e0]) (by simp only [↓gp_eq, ↓gp_ne, ↓gp_none, ↓len_put, Nat.reduceBEq, Nat.reduceLT, decide_true, hT]) (by simp only [↓gp_eq, ↓gp_ne, ↓gp_none, ↓len_put, Nat.reduceBEq, Nat.reduceLT, decide_true, hT]) (by simp only [↓gp_eq, ↓gp_ne, ↓gp_none, ↓len_put, Nat.reduceBEq, Nat.reduceLT, decide_true, hT]; rfl) (fun hf T' q1 => ?_) (fun hf T' q1 => ?_)
    · have hf' : fitL true lb (name.drop (name.length - lb.length)) = true := hf
      simp only [↓W_seq, ↓W_block, ↓W_reg, ↓W_draw, ↓WO_step, ↓WO_nil, ↓Guard_none, ↓Guard_gt, Gd_undef, Gd_tt, Gd_tf, Gd_ft, Gd_ff, ↓w_mv, ↓w_pick, Two_true, Two_false, Bnd_eq, ↓w_bin, ↓w_un, un_not, ↓w_extract, ↓w_load, ↓w_store, ↓w_slSl, ↓x_slStr, ↓x_idxStr, ↓x_field, ↓x_alloc, ↓x_mkSlice, ↓x_nilChk, idx_str0, ↓w_idxAddr, ↓w_fieldAddr, ↓w_box, ↓w_build, ↓w_lit, ↓w_mkFunc, ↓w_mkIface, ↓w_eq, ↓w_conv, ↓W1_fn, ↓W1_val, CV_func, ↓W1_builtin, bi_lenStr, bi_lenSl, bi_append, len1i, len0i, len_str, len_nil, len_lst, len_sl, bin_gtr, bin_lss, bin_leq, bin_geq, bin_eql, bin_neq, bin_eqls, bin_neqs, bin_add, bin_sub, ↓W_cond, ↓W_ret, ↓W_skip, ↓W_exit, ↓ev_t, ↓ev_c, ↓ev_f, ↓evo_s, ↓evo_n, List.map_cons, List.map_nil, ↓gp_eq, ↓gp_ne, ↓gp_none, ↓len_put, ↓andThen_normal, ↓andThen_ret, ↓andThen_exit, Nat.reduceBEq, Nat.reduceLT, decide_true, decide_false, Res_some, Res_none, Res_pure, Res_pure_none, Pick_true, Pick_false, ↓Fin0, ↓Fin1, ↓Fin2, ↓Fin0n, ↓FinV1, ↓FinX1, ↓FinX2, ↓FinV2, reduceCtorEq, if_true, if_false, List.cons_append, List.nil_append, List.append_nil, Option.map_some, AExit.exit.injEq, Nat.reduceEqDiff, Bool.not_true, Bool.not_false, true_and, and_true, ne_eq, not_false_eq_true, not_true_eq_false, List.getElem?_cons_zero, List.getElem?_cons_succ, Int.reduceBEq, Int.reduceBNe, Int.reduceLT, Int.reduceLE, Int.reduceGT, Int.reduceGE, Int.reduceEq, Int.reduceAdd, Int.reduceSub, Int.reduceNeg, nil_ptr, add_ptr, eq_pn, eq_nn, eq_pp, Bool.false_eq_true, q1]
      rw [e3, hf']
    · have hf' : fitL true lb (name.drop (name.length - lb.length)) = false := hf
      simp only [↓W_seq, ↓W_block, ↓W_reg, ↓W_draw, ↓WO_step, ↓WO_nil, ↓Guard_none, ↓Guard_gt, Gd_undef, Gd_tt, Gd_tf, Gd_ft, Gd_ff, ↓w_mv, ↓w_pick, Two_true, Two_false, Bnd_eq, ↓w_bin, ↓w_un, un_not, ↓w_extract, ↓w_load, ↓w_store, ↓w_slSl, ↓x_slStr, ↓x_idxStr, ↓x_field, ↓x_alloc, ↓x_mkSlice, ↓x_nilChk, idx_str0, ↓w_idxAddr, ↓w_fieldAddr, ↓w_box, ↓w_build, ↓w_lit, ↓w_mkFunc, ↓w_mkIface, ↓w_eq, ↓w_conv, ↓W1_fn, ↓W1_val, CV_func, ↓W1_builtin, bi_lenStr, bi_lenSl, bi_append, len1i, len0i, len_str, len_nil, len_lst, len_sl, bin_gtr, bin_lss, bin_leq, bin_geq, bin_eql, bin_neq, bin_eqls, bin_neqs, bin_add, bin_sub, ↓W_cond, ↓W_ret, ↓W_skip, ↓W_exit, ↓ev_t, ↓ev_c, ↓ev_f, ↓evo_s, ↓evo_n, List.map_cons, List.map_nil, ↓gp_eq, ↓gp_ne, ↓gp_none, ↓len_put, ↓andThen_normal, ↓andThen_ret, ↓andThen_exit, Nat.reduceBEq, Nat.reduceLT, decide_true, decide_false, Res_some, Res_none, Res_pure, Res_pure_none, Pick_true, Pick_false, ↓Fin0, ↓Fin1, ↓Fin2, ↓Fin0n, ↓FinV1, ↓FinX1, ↓FinX2, ↓FinV2, reduceCtorEq, if_true, if_false, List.cons_append, List.nil_append, List.append_nil, Option.map_some, AExit.exit.injEq, Nat.reduceEqDiff, Bool.not_true, Bool.not_false, true_and, and_true, ne_eq, not_false_eq_true, not_true_eq_false, List.getElem?_cons_zero, List.getElem?_cons_succ, Int.reduceBEq, Int.reduceBNe, Int.reduceLT, Int.reduceLE, Int.reduceGT, Int.reduceGE, Int.reduceEq, Int.reduceAdd, Int.reduceSub, Int.reduceNeg, nil_ptr, add_ptr, eq_pn, eq_nn, eq_pp, Bool.false_eq_true, q1]
      rw [e3, hf']
  · have d1 : ((name.length : Int) - (lb.length : Int) < 0) := by omega
    have e3 : fitsB lb name = false := by simp [fitsB, c]
    simp only [↓W_seq, ↓W_block, ↓W_reg, ↓W_draw, ↓WO_step, ↓WO_nil, ↓Guard_none, ↓Guard_gt, Gd_undef, Gd_tt, Gd_tf, Gd_ft, Gd_ff, ↓w_mv, ↓w_pick, Two_true, Two_false, Bnd_eq, ↓w_bin, ↓w_un, un_not, ↓w_extract, ↓w_load, ↓w_store, ↓w_slSl, ↓x_slStr, ↓x_idxStr, ↓x_field, ↓x_alloc, ↓x_mkSlice, ↓x_nilChk, idx_str0, ↓w_idxAddr, ↓w_fieldAddr, ↓w_box, ↓w_build, ↓w_lit, ↓w_mkFunc, ↓w_mkIface, ↓w_eq, ↓w_conv, ↓W1_fn, ↓W1_val, CV_func, ↓W1_builtin, bi_lenStr, bi_lenSl, bi_append, len1i, len0i, len_str, len_nil, len_lst, len_sl, bin_gtr, bin_lss, bin_leq, bin_geq, bin_eql, bin_neq, bin_eqls, bin_neqs, bin_add, bin_sub, ↓W_cond, ↓W_ret, ↓W_skip, ↓W_exit, ↓ev_t, ↓ev_c, ↓ev_f, ↓evo_s, ↓evo_n, List.map_cons, List.map_nil, ↓gp_eq, ↓gp_ne, ↓gp_none, ↓len_put, ↓andThen_normal, ↓andThen_ret, ↓andThen_exit, Nat.reduceBEq, Nat.reduceLT, decide_true, decide_false, Res_some, Res_none, Res_pure, Res_pure_none, Pick_true, Pick_false, ↓Fin0, ↓Fin1, ↓Fin2, ↓Fin0n, ↓FinV1, ↓FinX1, ↓FinX2, ↓FinV2, reduceCtorEq, if_true, if_false, List.cons_append, List.nil_append, List.append_nil, Option.map_some, AExit.exit.injEq, Nat.reduceEqDiff, Bool.not_true, Bool.not_false, true_and, and_true, ne_eq, not_false_eq_true, not_true_eq_false, List.getElem?_cons_zero, List.getElem?_cons_succ, Int.reduceBEq, Int.reduceBNe, Int.reduceLT, Int.reduceLE, Int.reduceGT, Int.reduceGE, Int.reduceEq, Int.reduceAdd, Int.reduceSub, Int.reduceNeg, nil_ptr, add_ptr, eq_pn, eq_nn, eq_pp, Bool.false_eq_true, Nat.zero_add, Nat.add_zero, hT, h0, h1, bx, l1, l2, w1, d1, e3]
end
end Go.AE.Fns
namespace Go.AE.Fns
open Go Go.AE Env
set_option maxRecDepth 100000

/-- a list of texts as a slice, in some heap -/
inductive IsSlH (H : AHeap) (l : List (List UInt8)) : AV → Prop where
  | lst (ex : Bool) : IsSlH H l (.lst (txts l) l.length 1 ex)
  | nil (h : l = []) : IsSlH H l .nilsl
  | sl {b o v g wv st : Nat} {cap : Option Nat} {cs : List AV} (hb : H[b]? = some (.cells cs g wv st)) (h1 : st < 2) (h2 : wv ≤ v) (h3 : v ≤ cs.length) (h4 : o + l.length ≤ v) (hg : ∀ i (h : i < l.length), cs[o + i]? = some (.str l[i])) : IsSlH H l (.sl b o l.length 1 v cap)

section
variable {H : AHeap} {l : List (List UInt8)} {r : AV}
theorem IsSlH.len (h : IsSlH H l r) (H' : AHeap) : lenA H' .lenSl r = some (.int .i64 l.length, H', .p) := by
  cases h with
  | lst => rfl
  | nil h => subst h; rfl
  | sl => rfl
theorem IsSlH.at (h : IsSlH H l r) (i : Nat) (hi : i < l.length) : ∃ a, idxAddrA 1 r (.int .i64 i) = some a ∧ ∃ kd, ∀ X, loadA (H ++ X) 1 false a = some (.str l[i], H ++ X, kd) := by
  cases h with
  | lst ex => exact ⟨_, idxA_lst hi, .p, fun X => load_elt (txts_get l i hi)⟩
  | nil h => subst h; simp at hi
  | @sl b o v g wv st cap cs hb h1 h2 h3 h4 hg => exact ⟨_, idxA_sl hi, .r b, fun X => load_at (get_app hb) h1 h2 h3 (by omega) (hg i hi)⟩
theorem IsSlH.app (h : IsSlH H l r) (X : AHeap) : IsSlH (H ++ X) l r := by
  cases h with
  | lst ex => exact .lst ex
  | nil h => exact .nil h
  | sl hb h1 h2 h3 h4 hg => exact .sl (get_app hb) h1 h2 h3 h4 hg
end

theorem cells_lst {cs : List AV} {n sz : Nat} {ex : Bool} : AV.cells (.lst cs n sz ex) = [.lst cs n sz ex] := Eq.trans rfl rfl
theorem cells_bool {b : Bool} : AV.cells (.bool b) = [.bool b] := Eq.trans rfl rfl
theorem cells_str {s : List UInt8} : AV.cells (.str s) = [.str s] := Eq.trans rfl rfl
theorem fill2 {T : Tmps} {z0 z1 : AV} {x y : Opd} (hx : (ev T x).cells = [ev T x]) (hy : (ev T y).cells = [ev T y]) : fillA T [z0, z1] [(0, 1, x), (1, 1, y)] = some [ev T x, ev T y] := by
  simp [fillA, hx, hy, putCells]
theorem bi_max {H : AHeap} {a b : Int} : builtinA H .max [.int .i64 a, .int .i64 b] = some (.int .i64 (max a b), H, .p) := by
  simp only [builtinA, foldA, maxA, pureV, Option.map_some]
  congr 3
  split <;> omega
theorem store_two {H : AHeap} {x y z0 z1 : AV} : storeA (H ++ [.cells [z0, z1] 0 2 0]) 2 (.ptr H.length 0 2) (.agg [x, y]) = some (undefA, H ++ [.cells [x, y] 0 2 0], .w H.length) := by
  simp [storeA, AV.cells, storeCellsA, putCells]
theorem load_two {H : AHeap} {p : Nat} {x y : AV} (hp : H[p]? = some (.cells [x, y] 0 2 0)) : loadA H 2 true (.ptr p 0 2) = some (.agg [x, y], H, .r p) := by
  simp [loadA, hp, part, readV]

theorem foldM_succ (name rules : List (List UInt8)) (i : Nat) (hi : i < rules.length) : foldM name (rules.take (i + 1)) = stepM name (foldM name (rules.take i)) rules[i] := by
  unfold foldM
  rw [List.take_add_one, List.getElem?_eq_getElem hi, List.foldl_append]
  rfl

theorem match_loop (name rules : List (List UInt8)) (e2 : Bool) (hn : name.length ≤ 2 ^ 31) (hrl : rules.length ≤ 2 ^ 31) (hr : ∀ r ∈ rules, r.length ≤ 2 ^ 29) (H : AHeap) (q : Nat) (hq : H[q]? = some (.cells [.lst (txts name) name.length 1 e2] 0 1 0)) (r : AV) (hsl : IsSlH H rules r)
    (Q : AExit → Tmps → AHeap → Prop) : ∀ (k i : Nat) (T : Tmps) (X : AHeap), i + k = rules.length →
    T.length = 59 → gt T 5 = i64 (foldM name (rules.take i)).1 → gt T 6 = .func 77 [] [.ptr q 0 1] → gt T 7 = i64 (foldM name (rules.take i)).2 → gt T 14 = r → gt T 15 = i64 rules.length → gt T 16 = i64 i →
    (∀ (T' : Tmps) (X' : AHeap), T'.length = 59 → gt T' 5 = i64 (foldM name rules).1 → gt T' 7 = i64 (foldM name rules).2 → Q (.exit 0) T' (H ++ X')) → E.W (F76.loop 0) T (H ++ X) Q
  | 0, i, T, X, hik, hT, h5, h6, h7, h14, h15, h16, hQ => by
    rw [show F76.loop 0 = .loop _ from rfl, W_loop]
    have d1 : ¬ ((i : Int) < (rules.length : Int)) := by omega
    rw [List.take_of_length_le (by omega)] at h5 h7
    simp only [↓W_seq, ↓W_block, ↓W_reg, ↓W_draw, ↓WO_step, ↓WO_nil, ↓Guard_none, ↓Guard_gt, Gd_undef, Gd_tt, Gd_tf, Gd_ft, Gd_ff, ↓w_mv, ↓w_pick, Two_true, Two_false, Bnd_eq, ↓w_bin, ↓w_un, un_not, ↓w_extract, ↓w_load, ↓w_store, ↓w_slSl, ↓x_slStr, ↓x_idxStr, ↓x_field, ↓x_alloc, ↓x_mkSlice, ↓x_nilChk, idx_str0, ↓w_idxAddr, ↓w_fieldAddr, ↓w_box, ↓w_build, ↓w_lit, ↓w_mkFunc, ↓w_mkIface, ↓w_eq, ↓w_conv, ↓W1_fn, ↓W1_val, CV_func, ↓W1_builtin, bi_lenStr, bi_lenSl, bi_append, len1i, len0i, len_str, len_nil, len_lst, len_sl, bin_gtr, bin_lss, bin_leq, bin_geq, bin_eql, bin_neq, bin_eqls, bin_neqs, bin_add, bin_sub, ↓W_cond, ↓W_ret, ↓W_skip, ↓W_exit, ↓ev_t, ↓ev_c, ↓ev_f, ↓evo_s, ↓evo_n, List.map_cons, List.map_nil, ↓gp_eq, ↓gp_ne, ↓gp_none, ↓len_put, ↓andThen_normal, ↓andThen_ret, ↓andThen_exit, Nat.reduceBEq, Nat.reduceLT, decide_true, decide_false, Res_some, Res_none, Res_pure, Res_pure_none, Pick_true, Pick_false, ↓Fin0, ↓Fin1, ↓Fin2, ↓Fin0n, ↓FinV1, ↓FinX1, ↓FinX2, ↓FinV2, reduceCtorEq, if_true, if_false, List.cons_append, List.nil_append, List.append_nil, Option.map_some, AExit.exit.injEq, Nat.reduceEqDiff, Bool.not_true, Bool.not_false, true_and, and_true, ne_eq, not_false_eq_true, not_true_eq_false, List.getElem?_cons_zero, List.getElem?_cons_succ, Int.reduceBEq, Int.reduceBNe, Int.reduceLT, Int.reduceLE, Int.reduceGT, Int.reduceGE, Int.reduceEq, Int.reduceAdd, Int.reduceSub, Int.reduceNeg, nil_ptr, add_ptr, eq_pn, eq_nn, eq_pp, Bool.false_eq_true, hT, h5, h6, h7, h14, h15, h16, d1]
    exact hQ _ X (by simp only [↓gp_eq, ↓gp_ne, ↓gp_none, ↓len_put, Nat.reduceBEq, Nat.reduceLT, decide_true, hT]) (by simp only [↓gp_eq, ↓gp_ne, ↓gp_none, ↓len_put, Nat.reduceBEq, Nat.reduceLT, decide_true, hT, h5]) (by simp only [↓gp_eq, ↓gp_ne, ↓gp_none, ↓len_put, Nat.reduceBEq, Nat.reduceLT, decide_true, hT, h7])
  | k + 1, i, T, X, hik, hT, h5, h6, h7, h14, h15, h16, hQ => by
    rw [show F76.loop 0 = .loop _ from rfl, W_loop]
    have hi : i < rules.length := by omega
    have d1 : ((i : Int) < (rules.length : Int)) := by omega
    have hstep := foldM_succ name rules i hi
    generalize hst : foldM name (rules.take i) = st at h5 h7 hstep
    obtain ⟨most, first⟩ := st
    obtain ⟨a, ha, kd, hld⟩ := hsl.at i hi
    have hld' := hld X
    have hri : (rules[i]).length ≤ 2 ^ 29 := hr _ (List.getElem_mem hi)
    have hcl : (cutPre [33] rules[i]).length ≤ 2 ^ 29 := by
      unfold cutPre; split
      · simp; omega
      · exact hri
    have hlb : (labels rules[i]).length ≤ 2 ^ 30 := by
      have := count_le 46 (cutPre [33] rules[i])
      rw [labels, splitB_len]; omega
    have cp := cutPrefix_c rules[i] [33]
    have sp := fun H K => split_c (cutPre [33] rules[i]) 46 hcl H K
    have hlbe : splitB 46 (cutPre [33] rules[i]) = labels rules[i] := rfl
    have hne : List.isPrefixOf [33] rules[i] = isNot rules[i] := rfl
    rw [hne] at cp
    rw [hlbe] at sp
    have al : fAlloc [.nilsl, .bool false] 0 (H ++ X) = some (.ptr (H ++ X).length 0 2, (H ++ X) ++ [.cells [.nilsl, .bool false] 0 2 0], .a (H ++ X).length) := alloc_eq (by simp)
    generalize hHX : H ++ X = HX at al hld'
    have st2 := store_two (H := HX) (x := .lst (txts (labels rules[i])) (labels rules[i]).length 1 true) (y := .bool (isNot rules[i])) (z0 := .nilsl) (z1 := .bool false)
    generalize hH2 : HX ++ [.cells [.lst (txts (labels rules[i])) (labels rules[i]).length 1 true, .bool (isNot rules[i])] 0 2 0] = H2 at st2
    have hp : H2[HX.length]? = some (.cells [.lst (txts (labels rules[i])) (labels rules[i]).length 1 true, .bool (isNot rules[i])] 0 2 0) := by rw [← hH2]; simp
    have hq2 : H2[q]? = some (.cells [.lst (txts name) name.length 1 e2] 0 1 0) := by rw [← hH2, ← hHX]; exact get_app (get_app hq)
    have ld2 := load_two hp
    have ft := fits_ans (labels rules[i]) name true e2 q (isNot rules[i]) hn (by omega) H2 hq2
    generalize hH3 : H2 ++ [.cells [.lst (txts (labels rules[i])) (labels rules[i]).length 1 true, .bool (isNot rules[i])] 0 2 0] = H3 at ft
    have fc : ∀ K, E.C 77 [.agg [.lst (txts (labels rules[i])) (labels rules[i]).length 1 true, .bool (isNot rules[i])], .ptr q 0 1] H2 K ↔ K (.bool (fitsB (labels rules[i]) name)) H3 (.c H2 H3) := fun K => C_shared (by
      have := (IsSl.lst (l := labels rules[i]) true).free
      simp only [AV.locFree] at this
      simp [locFreeL, AV.locFree]) ft
    have hp3 : H3[HX.length]? = some (.cells [.lst (txts (labels rules[i])) (labels rules[i]).length 1 true, .bool (isNot rules[i])] 0 2 0) := by rw [← hH3]; exact get_app hp
    have l0 : loadA H3 1 false (.ptr HX.length 0 2) = some (.lst (txts (labels rules[i])) (labels rules[i]).length 1 true, H3, .r HX.length) := load_at hp3 (by decide) (by decide) (by simp) (by decide) rfl
    have l1 : loadA H3 1 false (.ptr HX.length 1 2) = some (.bool (isNot rules[i]), H3, .r HX.length) := load_at hp3 (by decide) (by decide) (by simp) (by decide) rfl
    have hX3 : ∃ X3, H3 = H ++ X3 := ⟨X ++ _ ++ _, by rw [← hH3, ← hH2, ← hHX, List.append_assoc, List.append_assoc, List.append_assoc]⟩
    obtain ⟨X3, hX3⟩ := hX3
    have w1 : IntKind.i64.wrap (((labels rules[i]).length : Int) - 1) = ((labels rules[i]).length : Int) - 1 := by rw [wrap64] <;> omega
    have w3 : IntKind.i64.wrap ((i : Int) + 1) = ((i + 1 : Nat) : Int) := by rw [wrap64] <;> omega
    have goOn : ∀ (T' : Tmps) (m f : Int), stepM name (most, first) rules[i] = (m, f) → T'.length = 59 → gt T' 5 = i64 m → gt T' 6 = .func 77 [] [.ptr q 0 1] → gt T' 7 = i64 f → gt T' 14 = r → gt T' 15 = i64 rules.length → gt T' 16 = i64 ((i + 1 : Nat) : Int) → E.W (F76.loop 0) T' H3 Q := by
      intro T' m f hs g0 g1 g2 g3 g4 g5 g6
      rw [hs] at hstep
      rw [hX3]
      exact match_loop name rules e2 hn hrl hr H q hq r hsl Q k (i + 1) T' X3 (by omega) g0 (by rw [hstep]; exact g1) g2 (by rw [hstep]; exact g3) g4 g5 g6 hQ
    cases c1 : fitsB (labels rules[i]) name with
    | false =>
      have hs : stepM name (most, first) rules[i] = (most, first) := by simp [stepM, c1]
      simp only [↓W_seq, ↓W_block, ↓W_reg, ↓W_draw, ↓WO_step, ↓WO_nil, ↓Guard_none, ↓Guard_gt, Gd_undef, Gd_tt, Gd_tf, Gd_ft, Gd_ff, ↓w_mv, ↓w_pick, Two_true, Two_false, Bnd_eq, ↓w_bin, ↓w_un, un_not, ↓w_extract, ↓w_load, ↓w_store, ↓w_slSl, ↓x_slStr, ↓x_idxStr, ↓x_field, ↓x_alloc, ↓x_mkSlice, ↓x_nilChk, idx_str0, ↓w_idxAddr, ↓w_fieldAddr, ↓w_box, ↓w_build, ↓w_lit, ↓w_mkFunc, ↓w_mkIface, ↓w_eq, ↓w_conv, ↓W1_fn, ↓W1_val, CV_func, ↓W1_builtin, bi_lenStr, bi_lenSl, bi_append, len1i, len0i, len_str, len_nil, len_lst, len_sl, bin_gtr, bin_lss, bin_leq, bin_geq, bin_eql, bin_neq, bin_eqls, bin_neqs, bin_add, bin_sub, ↓W_cond, ↓W_ret, ↓W_skip, ↓W_exit, ↓ev_t, ↓ev_c, ↓ev_f, ↓evo_s, ↓evo_n, List.map_cons, List.map_nil, ↓gp_eq, ↓gp_ne, ↓gp_none, ↓len_put, ↓andThen_normal, ↓andThen_ret, ↓andThen_exit, Nat.reduceBEq, Nat.reduceLT, decide_true, decide_false, Res_some, Res_none, Res_pure, Res_pure_none, Pick_true, Pick_false, ↓Fin0, ↓Fin1, ↓Fin2, ↓Fin0n, ↓FinV1, ↓FinX1, ↓FinX2, ↓FinV2, reduceCtorEq, if_true, if_false, List.cons_append, List.nil_append, List.append_nil, Option.map_some, AExit.exit.injEq, Nat.reduceEqDiff, Bool.not_true, Bool.not_false, true_and, and_true, ne_eq, not_false_eq_true, not_true_eq_false, List.getElem?_cons_zero, List.getElem?_cons_succ, Int.reduceBEq, Int.reduceBNe, Int.reduceLT, Int.reduceLE, Int.reduceGT, Int.reduceGE, Int.reduceEq, Int.reduceAdd, Int.reduceSub, Int.reduceNeg, nil_ptr, add_ptr, eq_pn, eq_nn, eq_pp, Bool.false_eq_true, Nat.zero_add, Nat.add_zero, hT, h5, h6, h7, h14, h15, h16, d1, ha, hld', cp, sp, fill2, cells_lst, cells_bool, al, st2, ld2, fc, c1, w3]
      exact goOn _ most first hs (by simp only [↓gp_eq, ↓gp_ne, ↓gp_none, ↓len_put, Nat.reduceBEq, Nat.reduceLT, decide_true, hT]) (by simp only [↓gp_eq, ↓gp_ne, ↓gp_none, ↓len_put, Nat.reduceBEq, Nat.reduceLT, decide_true, hT, h5]) (by simp only [↓gp_eq, ↓gp_ne, ↓gp_none, ↓len_put, Nat.reduceBEq, Nat.reduceLT, decide_true, hT, h6]) (by simp only [↓gp_eq, ↓gp_ne, ↓gp_none, ↓len_put, Nat.reduceBEq, Nat.reduceLT, decide_true, hT, h7]) (by simp only [↓gp_eq, ↓gp_ne, ↓gp_none, ↓len_put, Nat.reduceBEq, Nat.reduceLT, decide_true, hT, h14]) (by simp only [↓gp_eq, ↓gp_ne, ↓gp_none, ↓len_put, Nat.reduceBEq, Nat.reduceLT, decide_true, hT, h15]) (by simp only [↓gp_eq, ↓gp_ne, ↓gp_none, ↓len_put, Nat.reduceBEq, Nat.reduceLT, decide_true, hT])
    | true =>
      cases c2 : isNot rules[i] with
      | false =>
        have hs : stepM name (most, first) rules[i] = (max most (labels rules[i]).length, first) := by simp [stepM, c1, c2]
        rw [c2] at cp st2 ld2 fc l1
        simp only [↓W_seq, ↓W_block, ↓W_reg, ↓W_draw, ↓WO_step, ↓WO_nil, ↓Guard_none, ↓Guard_gt, Gd_undef, Gd_tt, Gd_tf, Gd_ft, Gd_ff, ↓w_mv, ↓w_pick, Two_true, Two_false, Bnd_eq, ↓w_bin, ↓w_un, un_not, ↓w_extract, ↓w_load, ↓w_store, ↓w_slSl, ↓x_slStr, ↓x_idxStr, ↓x_field, ↓x_alloc, ↓x_mkSlice, ↓x_nilChk, idx_str0, ↓w_idxAddr, ↓w_fieldAddr, ↓w_box, ↓w_build, ↓w_lit, ↓w_mkFunc, ↓w_mkIface, ↓w_eq, ↓w_conv, ↓W1_fn, ↓W1_val, CV_func, ↓W1_builtin, bi_lenStr, bi_lenSl, bi_append, len1i, len0i, len_str, len_nil, len_lst, len_sl, bin_gtr, bin_lss, bin_leq, bin_geq, bin_eql, bin_neq, bin_eqls, bin_neqs, bin_add, bin_sub, ↓W_cond, ↓W_ret, ↓W_skip, ↓W_exit, ↓ev_t, ↓ev_c, ↓ev_f, ↓evo_s, ↓evo_n, List.map_cons, List.map_nil, ↓gp_eq, ↓gp_ne, ↓gp_none, ↓len_put, ↓andThen_normal, ↓andThen_ret, ↓andThen_exit, Nat.reduceBEq, Nat.reduceLT, decide_true, decide_false, Res_some, Res_none, Res_pure, Res_pure_none, Pick_true, Pick_false, ↓Fin0, ↓Fin1, ↓Fin2, ↓Fin0n, ↓FinV1, ↓FinX1, ↓FinX2, ↓FinV2, reduceCtorEq, if_true, if_false, List.cons_append, List.nil_append, List.append_nil, Option.map_some, AExit.exit.injEq, Nat.reduceEqDiff, Bool.not_true, Bool.not_false, true_and, and_true, ne_eq, not_false_eq_true, not_true_eq_false, List.getElem?_cons_zero, List.getElem?_cons_succ, Int.reduceBEq, Int.reduceBNe, Int.reduceLT, Int.reduceLE, Int.reduceGT, Int.reduceGE, Int.reduceEq, Int.reduceAdd, Int.reduceSub, Int.reduceNeg, nil_ptr, add_ptr, eq_pn, eq_nn, eq_pp, Bool.false_eq_true, Nat.zero_add, Nat.add_zero, hT, h5, h6, h7, h14, h15, h16, d1, ha, hld', cp, sp, fill2, cells_lst, cells_bool, al, st2, ld2, fc, c1, l0, l1, bi_max, w3]
        exact goOn _ _ _ hs (by simp only [↓gp_eq, ↓gp_ne, ↓gp_none, ↓len_put, Nat.reduceBEq, Nat.reduceLT, decide_true, hT]) (by simp only [↓gp_eq, ↓gp_ne, ↓gp_none, ↓len_put, Nat.reduceBEq, Nat.reduceLT, decide_true, hT]) (by simp only [↓gp_eq, ↓gp_ne, ↓gp_none, ↓len_put, Nat.reduceBEq, Nat.reduceLT, decide_true, hT, h6]) (by simp only [↓gp_eq, ↓gp_ne, ↓gp_none, ↓len_put, Nat.reduceBEq, Nat.reduceLT, decide_true, hT, h7]) (by simp only [↓gp_eq, ↓gp_ne, ↓gp_none, ↓len_put, Nat.reduceBEq, Nat.reduceLT, decide_true, hT, h14]) (by simp only [↓gp_eq, ↓gp_ne, ↓gp_none, ↓len_put, Nat.reduceBEq, Nat.reduceLT, decide_true, hT, h15]) (by simp only [↓gp_eq, ↓gp_ne, ↓gp_none, ↓len_put, Nat.reduceBEq, Nat.reduceLT, decide_true, hT])
      | true =>
        rw [c2] at cp st2 ld2 fc l1
        by_cases c3 : first < 0
        · have hs : stepM name (most, first) rules[i] = (most, ((labels rules[i]).length : Int) - 1) := by simp [stepM, c1, c2, c3]
          simp only [↓W_seq, ↓W_block, ↓W_reg, ↓W_draw, ↓WO_step, ↓WO_nil, ↓Guard_none, ↓Guard_gt, Gd_undef, Gd_tt, Gd_tf, Gd_ft, Gd_ff, ↓w_mv, ↓w_pick, Two_true, Two_false, Bnd_eq, ↓w_bin, ↓w_un, un_not, ↓w_extract, ↓w_load, ↓w_store, ↓w_slSl, ↓x_slStr, ↓x_idxStr, ↓x_field, ↓x_alloc, ↓x_mkSlice, ↓x_nilChk, idx_str0, ↓w_idxAddr, ↓w_fieldAddr, ↓w_box, ↓w_build, ↓w_lit, ↓w_mkFunc, ↓w_mkIface, ↓w_eq, ↓w_conv, ↓W1_fn, ↓W1_val, CV_func, ↓W1_builtin, bi_lenStr, bi_lenSl, bi_append, len1i, len0i, len_str, len_nil, len_lst, len_sl, bin_gtr, bin_lss, bin_leq, bin_geq, bin_eql, bin_neq, bin_eqls, bin_neqs, bin_add, bin_sub, ↓W_cond, ↓W_ret, ↓W_skip, ↓W_exit, ↓ev_t, ↓ev_c, ↓ev_f, ↓evo_s, ↓evo_n, List.map_cons, List.map_nil, ↓gp_eq, ↓gp_ne, ↓gp_none, ↓len_put, ↓andThen_normal, ↓andThen_ret, ↓andThen_exit, Nat.reduceBEq, Nat.reduceLT, decide_true, decide_false, Res_some, Res_none, Res_pure, Res_pure_none, Pick_true, Pick_false, ↓Fin0, ↓Fin1, ↓Fin2, ↓Fin0n, ↓FinV1, ↓FinX1, ↓FinX2, ↓FinV2, reduceCtorEq, if_true, if_false, List.cons_append, List.nil_append, List.append_nil, Option.map_some, AExit.exit.injEq, Nat.reduceEqDiff, Bool.not_true, Bool.not_false, true_and, and_true, ne_eq, not_false_eq_true, not_true_eq_false, List.getElem?_cons_zero, List.getElem?_cons_succ, Int.reduceBEq, Int.reduceBNe, Int.reduceLT, Int.reduceLE, Int.reduceGT, Int.reduceGE, Int.reduceEq, Int.reduceAdd, Int.reduceSub, Int.reduceNeg, nil_ptr, add_ptr, eq_pn, eq_nn, eq_pp, Bool.false_eq_true, Nat.zero_add, Nat.add_zero, hT, h5, h6, h7, h14, h15, h16, d1, ha, hld', cp, sp, fill2, cells_lst, cells_bool, al, st2, ld2, fc, c1, c3, l0, l1, w1, w3]
          exact goOn _ _ _ hs (by simp only [↓gp_eq, ↓gp_ne, ↓gp_none, ↓len_put, Nat.reduceBEq, Nat.reduceLT, decide_true, hT]) (by simp only [↓gp_eq, ↓gp_ne, ↓gp_none, ↓len_put, Nat.reduceBEq, Nat.reduceLT, decide_true, hT, h5]) (by simp only [↓gp_eq, ↓gp_ne, ↓gp_none, ↓len_put, Nat.reduceBEq, Nat.reduceLT, decide_true, hT, h6]) (by simp only [↓gp_eq, ↓gp_ne, ↓gp_none, ↓len_put, Nat.reduceBEq, Nat.reduceLT, decide_true, hT]) (by simp only [↓gp_eq, ↓gp_ne, ↓gp_none, ↓len_put, Nat.reduceBEq, Nat.reduceLT, decide_true, hT, h14]) (by simp only [↓gp_eq, ↓gp_ne, ↓gp_none, ↓len_put, Nat.reduceBEq, Nat.reduceLT, decide_true, hT, h15]) (by simp only [↓gp_eq, ↓gp_ne, ↓gp_none, ↓len_put, Nat.reduceBEq, Nat.reduceLT, decide_true, hT])
        · have hs : stepM name (most, first) rules[i] = (most, first) := by simp [stepM, c1, c2, c3]
          simp only [↓W_seq, ↓W_block, ↓W_reg, ↓W_draw, ↓WO_step, ↓WO_nil, ↓Guard_none, ↓Guard_gt, Gd_undef, Gd_tt, Gd_tf, Gd_ft, Gd_ff, ↓w_mv, ↓w_pick, Two_true, Two_false, Bnd_eq, ↓w_bin, ↓w_un, un_not, ↓w_extract, ↓w_load, ↓w_store, ↓w_slSl, ↓x_slStr, ↓x_idxStr, ↓x_field, ↓x_alloc, ↓x_mkSlice, ↓x_nilChk, idx_str0, ↓w_idxAddr, ↓w_fieldAddr, ↓w_box, ↓w_build, ↓w_lit, ↓w_mkFunc, ↓w_mkIface, ↓w_eq, ↓w_conv, ↓W1_fn, ↓W1_val, CV_func, ↓W1_builtin, bi_lenStr, bi_lenSl, bi_append, len1i, len0i, len_str, len_nil, len_lst, len_sl, bin_gtr, bin_lss, bin_leq, bin_geq, bin_eql, bin_neq, bin_eqls, bin_neqs, bin_add, bin_sub, ↓W_cond, ↓W_ret, ↓W_skip, ↓W_exit, ↓ev_t, ↓ev_c, ↓ev_f, ↓evo_s, ↓evo_n, List.map_cons, List.map_nil, ↓gp_eq, ↓gp_ne, ↓gp_none, ↓len_put, ↓andThen_normal, ↓andThen_ret, ↓andThen_exit, Nat.reduceBEq, Nat.reduceLT, decide_true, decide_false, Res_some, Res_none, Res_pure, Res_pure_none, Pick_true, Pick_false, ↓Fin0, ↓Fin1, ↓Fin2, ↓Fin0n, ↓FinV1, ↓FinX1, ↓FinX2, ↓FinV2, reduceCtorEq, if_true, if_false, List.cons_append, List.nil_append, List.append_nil, Option.map_some, AExit.exit.injEq, Nat.reduceEqDiff, Bool.not_true, Bool.not_false, true_and, and_true, ne_eq, not_false_eq_true, not_true_eq_false, List.getElem?_cons_zero, List.getElem?_cons_succ, Int.reduceBEq, Int.reduceBNe, Int.reduceLT, Int.reduceLE, Int.reduceGT, Int.reduceGE, Int.reduceEq, Int.reduceAdd, Int.reduceSub, Int.reduceNeg, nil_ptr, add_ptr, eq_pn, eq_nn, eq_pp, Bool.false_eq_true, Nat.zero_add, Nat.add_zero, hT, h5, h6, h7, h14, h15, h16, d1, ha, hld', cp, sp, fill2, cells_lst, cells_bool, al, st2, ld2, fc, c1, c3, l0, l1, w1, w3]
          exact goOn _ _ _ hs (by simp only [↓gp_eq, ↓gp_ne, ↓gp_none, ↓len_put, Nat.reduceBEq, Nat.reduceLT, decide_true, hT]) (by simp only [↓gp_eq, ↓gp_ne, ↓gp_none, ↓len_put, Nat.reduceBEq, Nat.reduceLT, decide_true, hT, h5]) (by simp only [↓gp_eq, ↓gp_ne, ↓gp_none, ↓len_put, Nat.reduceBEq, Nat.reduceLT, decide_true, hT, h6]) (by simp only [↓gp_eq, ↓gp_ne, ↓gp_none, ↓len_put, Nat.reduceBEq, Nat.reduceLT, decide_true, hT, h7]) (by simp only [↓gp_eq, ↓gp_ne, ↓gp_none, ↓len_put, Nat.reduceBEq, Nat.reduceLT, decide_true, hT, h14]) (by simp only [↓gp_eq, ↓gp_ne, ↓gp_none, ↓len_put, Nat.reduceBEq, Nat.reduceLT, decide_true, hT, h15]) (by simp only [↓gp_eq, ↓gp_ne, ↓gp_none, ↓len_put, Nat.reduceBEq, Nat.reduceLT, decide_true, hT])
end Go.AE.Fns
namespace Go.AE.Fns
open Go Go.AE Env
set_option maxRecDepth 100000

theorem foldM_bounds (name : List (List UInt8)) : ∀ (rules : List (List UInt8)) (st : Int × Int), 1 ≤ st.1 → -1 ≤ st.2 → 1 ≤ (rules.foldl (stepM name) st).1 ∧ -1 ≤ (rules.foldl (stepM name) st).2
  | [], st, h1, h2 => ⟨h1, h2⟩
  | r :: l, st, h1, h2 => by
    simp only [List.foldl_cons]
    apply foldM_bounds name l
    · unfold stepM; split
      · split
        · exact h1
        · split
          · have := Int.le_max_left st.1 ((labels r).length : Int); simp only; omega
          · exact h1
      · exact h1
    · unfold stepM; split
      · split
        · simp only; omega
        · split
          · exact h2
          · exact h2
      · exact h2

theorem match_ans (name rules : List (List UInt8)) (e2 : Bool) (hn : name.length ≤ 2 ^ 31) (hrl : rules.length ≤ 2 ^ 31) (hr : ∀ r ∈ rules, r.length ≤ 2 ^ 29) (H : AHeap) (r : AV) (hsl : IsSlH H rules r) :
    ∃ X, E.Ans 76 [r, .lst (txts name) name.length 1 e2] H (i64 (matchN rules name)) (H ++ X) := by
  refine AnsX2 (F := F76) (by kernel_rfl) rfl (by decide) fun T hT h0 h1 => ?_
  have bx : newVarA H (.lst (txts name) name.length 1 e2) 0 = some (.ptr H.length 0 1, H ++ [.cells [.lst (txts name) name.length 1 e2] 0 1 0], .a H.length) := rfl
  have hq : (H ++ [.cells [.lst (txts name) name.length 1 e2] 0 1 0])[H.length]? = some (.cells [.lst (txts name) name.length 1 e2] 0 1 0) := by simp
  have hsl' := hsl.app [.cells [.lst (txts name) name.length 1 e2] 0 1 0]
  have hl := hsl'.len
  generalize hHb : H ++ [.cells [.lst (txts name) name.length 1 e2] 0 1 0] = Hb at bx hq hsl'
  simp only [↓W_seq, ↓W_block, ↓W_reg, ↓W_draw, ↓WO_step, ↓WO_nil, ↓Guard_none, ↓Guard_gt, Gd_undef, Gd_tt, Gd_tf, Gd_ft, Gd_ff, ↓w_mv, ↓w_pick, Two_true, Two_false, Bnd_eq, ↓w_bin, ↓w_un, un_not, ↓w_extract, ↓w_load, ↓w_store, ↓w_slSl, ↓x_slStr, ↓x_idxStr, ↓x_field, ↓x_alloc, ↓x_mkSlice, ↓x_nilChk, idx_str0, ↓w_idxAddr, ↓w_fieldAddr, ↓w_box, ↓w_build, ↓w_lit, ↓w_mkFunc, ↓w_mkIface, ↓w_eq, ↓w_conv, ↓W1_fn, ↓W1_val, CV_func, ↓W1_builtin, bi_lenStr, bi_lenSl, bi_append, len1i, len0i, len_str, len_nil, len_lst, len_sl, bin_gtr, bin_lss, bin_leq, bin_geq, bin_eql, bin_neq, bin_eqls, bin_neqs, bin_add, bin_sub, ↓W_cond, ↓W_ret, ↓W_skip, ↓W_exit, ↓ev_t, ↓ev_c, ↓ev_f, ↓evo_s, ↓evo_n, List.map_cons, List.map_nil, ↓gp_eq, ↓gp_ne, ↓gp_none, ↓len_put, ↓andThen_normal, ↓andThen_ret, ↓andThen_exit, Nat.reduceBEq, Nat.reduceLT, decide_true, decide_false, Res_some, Res_none, Res_pure, Res_pure_none, Pick_true, Pick_false, ↓Fin0, ↓Fin1, ↓Fin2, ↓Fin0n, ↓FinV1, ↓FinX1, ↓FinX2, ↓FinV2, reduceCtorEq, if_true, if_false, List.cons_append, List.nil_append, List.append_nil, Option.map_some, AExit.exit.injEq, Nat.reduceEqDiff, Bool.not_true, Bool.not_false, true_and, and_true, ne_eq, not_false_eq_true, not_true_eq_false, List.getElem?_cons_zero, List.getElem?_cons_succ, Int.reduceBEq, Int.reduceBNe, Int.reduceLT, Int.reduceLE, Int.reduceGT, Int.reduceGE, Int.reduceEq, Int.reduceAdd, Int.reduceSub, Int.reduceNeg, nil_ptr, add_ptr, eq_pn, eq_nn, eq_pp, Bool.false_eq_true, hT, h0, h1, bx, hl]
  have := match_loop name rules e2 hn hrl hr Hb H.length hq r hsl'
  conv => enter [4]; rw [← List.append_nil Hb]
  refine this _ rules.length 0 _ [] (by omega) (by simp only [↓gp_eq, ↓gp_ne, ↓gp_none, ↓len_put, Nat.reduceBEq, Nat.reduceLT, decide_true, hT]) (by simp only [↓gp_eq, ↓gp_ne, ↓gp_none, ↓len_put, Nat.reduceBEq, Nat.reduceLT, decide_true, hT]; rfl) (by simp only [↓gp_eq, ↓gp_ne, ↓gp_none, ↓len_put, Nat.reduceBEq, Nat.reduceLT, decide_true, hT]) (by simp only [↓gp_eq, ↓gp_ne, ↓gp_none, ↓len_put, Nat.reduceBEq, Nat.reduceLT, decide_true, hT]; rfl) (by simp only [↓gp_eq, ↓gp_ne, ↓gp_none, ↓len_put, Nat.reduceBEq, Nat.reduceLT, decide_true, hT]) (by simp only [↓gp_eq, ↓gp_ne, ↓gp_none, ↓len_put, Nat.reduceBEq, Nat.reduceLT, decide_true, hT]) (by simp only [↓gp_eq, ↓gp_ne, ↓gp_none, ↓len_put, Nat.reduceBEq, Nat.reduceLT, decide_true, hT]; rfl) ?_
  intro T' X' q1 q2 q3
  have hX : ∃ X, Hb ++ X' = H ++ X := ⟨_, by rw [← hHb, List.append_assoc]⟩
  by_cases c : (foldM name rules).2 ≥ 0
  · have e : matchN rules name = (foldM name rules).2 := by simp [matchN, c]
    simp only [↓W_seq, ↓W_block, ↓W_reg, ↓W_draw, ↓WO_step, ↓WO_nil, ↓Guard_none, ↓Guard_gt, Gd_undef, Gd_tt, Gd_tf, Gd_ft, Gd_ff, ↓w_mv, ↓w_pick, Two_true, Two_false, Bnd_eq, ↓w_bin, ↓w_un, un_not, ↓w_extract, ↓w_load, ↓w_store, ↓w_slSl, ↓x_slStr, ↓x_idxStr, ↓x_field, ↓x_alloc, ↓x_mkSlice, ↓x_nilChk, idx_str0, ↓w_idxAddr, ↓w_fieldAddr, ↓w_box, ↓w_build, ↓w_lit, ↓w_mkFunc, ↓w_mkIface, ↓w_eq, ↓w_conv, ↓W1_fn, ↓W1_val, CV_func, ↓W1_builtin, bi_lenStr, bi_lenSl, bi_append, len1i, len0i, len_str, len_nil, len_lst, len_sl, bin_gtr, bin_lss, bin_leq, bin_geq, bin_eql, bin_neq, bin_eqls, bin_neqs, bin_add, bin_sub, ↓W_cond, ↓W_ret, ↓W_skip, ↓W_exit, ↓ev_t, ↓ev_c, ↓ev_f, ↓evo_s, ↓evo_n, List.map_cons, List.map_nil, ↓gp_eq, ↓gp_ne, ↓gp_none, ↓len_put, ↓andThen_normal, ↓andThen_ret, ↓andThen_exit, Nat.reduceBEq, Nat.reduceLT, decide_true, decide_false, Res_some, Res_none, Res_pure, Res_pure_none, Pick_true, Pick_false, ↓Fin0, ↓Fin1, ↓Fin2, ↓Fin0n, ↓FinV1, ↓FinX1, ↓FinX2, ↓FinV2, reduceCtorEq, if_true, if_false, List.cons_append, List.nil_append, List.append_nil, Option.map_some, AExit.exit.injEq, Nat.reduceEqDiff, Bool.not_true, Bool.not_false, true_and, and_true, ne_eq, not_false_eq_true, not_true_eq_false, List.getElem?_cons_zero, List.getElem?_cons_succ, Int.reduceBEq, Int.reduceBNe, Int.reduceLT, Int.reduceLE, Int.reduceGT, Int.reduceGE, Int.reduceEq, Int.reduceAdd, Int.reduceSub, Int.reduceNeg, nil_ptr, add_ptr, eq_pn, eq_nn, eq_pp, Bool.false_eq_true, q1, q2, q3, c, e, hX]
  · have e : matchN rules name = (foldM name rules).1 := by simp [matchN, c]
    simp only [↓W_seq, ↓W_block, ↓W_reg, ↓W_draw, ↓WO_step, ↓WO_nil, ↓Guard_none, ↓Guard_gt, Gd_undef, Gd_tt, Gd_tf, Gd_ft, Gd_ff, ↓w_mv, ↓w_pick, Two_true, Two_false, Bnd_eq, ↓w_bin, ↓w_un, un_not, ↓w_extract, ↓w_load, ↓w_store, ↓w_slSl, ↓x_slStr, ↓x_idxStr, ↓x_field, ↓x_alloc, ↓x_mkSlice, ↓x_nilChk, idx_str0, ↓w_idxAddr, ↓w_fieldAddr, ↓w_box, ↓w_build, ↓w_lit, ↓w_mkFunc, ↓w_mkIface, ↓w_eq, ↓w_conv, ↓W1_fn, ↓W1_val, CV_func, ↓W1_builtin, bi_lenStr, bi_lenSl, bi_append, len1i, len0i, len_str, len_nil, len_lst, len_sl, bin_gtr, bin_lss, bin_leq, bin_geq, bin_eql, bin_neq, bin_eqls, bin_neqs, bin_add, bin_sub, ↓W_cond, ↓W_ret, ↓W_skip, ↓W_exit, ↓ev_t, ↓ev_c, ↓ev_f, ↓evo_s, ↓evo_n, List.map_cons, List.map_nil, ↓gp_eq, ↓gp_ne, ↓gp_none, ↓len_put, ↓andThen_normal, ↓andThen_ret, ↓andThen_exit, Nat.reduceBEq, Nat.reduceLT, decide_true, decide_false, Res_some, Res_none, Res_pure, Res_pure_none, Pick_true, Pick_false, ↓Fin0, ↓Fin1, ↓Fin2, ↓Fin0n, ↓FinV1, ↓FinX1, ↓FinX2, ↓FinV2, reduceCtorEq, if_true, if_false, List.cons_append, List.nil_append, List.append_nil, Option.map_some, AExit.exit.injEq, Nat.reduceEqDiff, Bool.not_true, Bool.not_false, true_and, and_true, ne_eq, not_false_eq_true, not_true_eq_false, List.getElem?_cons_zero, List.getElem?_cons_succ, Int.reduceBEq, Int.reduceBNe, Int.reduceLT, Int.reduceLE, Int.reduceGT, Int.reduceGE, Int.reduceEq, Int.reduceAdd, Int.reduceSub, Int.reduceNeg, nil_ptr, add_ptr, eq_pn, eq_nn, eq_pp, Bool.false_eq_true, q1, q2, q3, c, e, hX]

/-- a call over a slice in some heap -/
theorem C_slice {f : Nat} {rules : List (List UInt8)} {r : AV} {as : List AV} {v : AV} (hfree : locFreeL as = true) (hk : E.keep f = false) (hv : ∀ Hc, freeze Hc 1000000000 v = some v)
    (h : ∀ H, IsSlH H rules r → ∃ X, E.Ans f (r :: as) H v (H ++ X)) {H : AHeap} (hsl : IsSlH H rules r) : ∃ X kd, ∀ K : AV → AHeap → Kd → Prop, E.C f (r :: as) H K ↔ K v (H ++ X) kd := by
  cases hsl with
  | lst ex =>
    obtain ⟨X, hX⟩ := h [] (.lst ex)
    refine ⟨[], .p, fun K => ?_⟩
    rw [List.append_nil]
    refine C_val hX ?_ hk (hv _)
    have := (IsSl.lst (l := rules) ex).free
    simp only [AV.locFree] at this
    simp [locFreeL, AV.locFree, this, hfree]
  | nil hn =>
    obtain ⟨X, hX⟩ := h [] (.nil hn)
    refine ⟨[], .p, fun K => ?_⟩
    rw [List.append_nil]
    exact C_val hX (by simp [locFreeL, AV.locFree, hfree]) hk (hv _)
  | @sl b o v g wv st cap cs hb h1 h2 h3 h4 hg =>
    obtain ⟨X, hX⟩ := h H (.sl (cap := cap) hb h1 h2 h3 h4 hg)
    exact ⟨X, _, fun K => C_shared (by simp [locFreeL, AV.locFree]) hX⟩

/-- the part of a name that is its suffix -/
def suffixN (rules : List (List UInt8)) (name : List UInt8) : List UInt8 := joinB [46] ((splitB 46 name).drop ((splitB 46 name).length - (matchN rules (splitB 46 name)).toNat))

/-- no more labels than there are -/
theorem fits_len {lb name : List (List UInt8)} (h : fitsB lb name = true) : lb.length ≤ name.length := by
  simp [fitsB] at h; exact h.1

theorem foldM_le (name : List (List UInt8)) (hn : 1 ≤ name.length) : ∀ (rules : List (List UInt8)) (st : Int × Int), st.1 ≤ name.length → st.2 ≤ name.length → (rules.foldl (stepM name) st).1 ≤ name.length ∧ (rules.foldl (stepM name) st).2 ≤ name.length
  | [], st, h1, h2 => ⟨h1, h2⟩
  | r :: l, st, h1, h2 => by
    simp only [List.foldl_cons]
    apply foldM_le name hn l
    · unfold stepM; split
      · rename_i hf
        have := fits_len hf
        split
        · exact h1
        · split
          · simp only; omega
          · exact h1
      · exact h1
    · unfold stepM; split
      · rename_i hf
        have := fits_len hf
        split
        · simp only; omega
        · split
          · exact h2
          · exact h2
      · exact h2

theorem matchN_bounds (rules name : List (List UInt8)) (hn : 1 ≤ name.length) : 0 ≤ matchN rules name ∧ matchN rules name ≤ name.length := by
  have h1 := foldM_bounds name rules (1, -1) (by simp) (by simp)
  have h2 := foldM_le name hn rules (1, -1) (by show (1 : Int) ≤ (name.length : Int); omega) (by show (-1 : Int) ≤ (name.length : Int); omega)
  unfold matchN foldM
  split
  · omega
  · omega

theorem sumLen_split (c : UInt8) : ∀ s, sumLen (splitB c s) ≤ s.length
  | [] => by simp [splitB, sumLen]
  | x :: l => by
    have ih := sumLen_split c l
    simp only [splitB]
    split
    · simp [sumLen] at ih ⊢; omega
    · split
      · simp [sumLen]
      · rename_i h t hl
        rw [hl] at ih
        simp [sumLen] at ih ⊢; omega

theorem suffix_ans (rules : List (List UInt8)) (name : List UInt8) (hrl : rules.length ≤ 2 ^ 31) (hr : ∀ r ∈ rules, r.length ≤ 2 ^ 29) (H : AHeap) (r : AV) (hsl : IsSlH H rules r) :
    ∃ X, E.Ans 73 [r, .str name] H (if askedN rules name = 0 then .tuple [.str (suffixN rules name), i64 0] else .tuple [.str [], i64 (askedN rules name)]) (H ++ X) := by
  have hask : ∀ H, IsSlH H rules r → ∃ X, E.Ans 75 (r :: [.str name]) H (i64 (askedN rules name)) (H ++ X) := by
    intro H hs
    refine ⟨[], ?_⟩
    rw [List.append_nil]
    have hl := hs.len
    refine Ans2 (F := F75) (by kernel_rfl) rfl (by decide) fun T hT h0 h1 => ?_
    unfold askedN
    by_cases c1 : rules.length > 256
    · have d1 : (rules.length : Int) > 256 := by omega
      simp only [↓W_seq, ↓W_block, ↓W_reg, ↓W_draw, ↓WO_step, ↓WO_nil, ↓Guard_none, ↓Guard_gt, Gd_undef, Gd_tt, Gd_tf, Gd_ft, Gd_ff, ↓w_mv, ↓w_pick, Two_true, Two_false, Bnd_eq, ↓w_bin, ↓w_un, un_not, ↓w_extract, ↓w_load, ↓w_store, ↓w_slSl, ↓x_slStr, ↓x_idxStr, ↓x_field, ↓x_alloc, ↓x_mkSlice, ↓x_nilChk, idx_str0, ↓w_idxAddr, ↓w_fieldAddr, ↓w_box, ↓w_build, ↓w_lit, ↓w_mkFunc, ↓w_mkIface, ↓w_eq, ↓w_conv, ↓W1_fn, ↓W1_val, CV_func, ↓W1_builtin, bi_lenStr, bi_lenSl, bi_append, len1i, len0i, len_str, len_nil, len_lst, len_sl, bin_gtr, bin_lss, bin_leq, bin_geq, bin_eql, bin_neq, bin_eqls, bin_neqs, bin_add, bin_sub, ↓W_cond, ↓W_ret, ↓W_skip, ↓W_exit, ↓ev_t, ↓ev_c, ↓ev_f, ↓evo_s, ↓evo_n, List.map_cons, List.map_nil, ↓gp_eq, ↓gp_ne, ↓gp_none, ↓len_put, ↓andThen_normal, ↓andThen_ret, ↓andThen_exit, Nat.reduceBEq, Nat.reduceLT, decide_true, decide_false, Res_some, Res_none, Res_pure, Res_pure_none, Pick_true, Pick_false, ↓Fin0, ↓Fin1, ↓Fin2, ↓Fin0n, ↓FinV1, ↓FinX1, ↓FinX2, ↓FinV2, reduceCtorEq, if_true, if_false, List.cons_append, List.nil_append, List.append_nil, Option.map_some, AExit.exit.injEq, Nat.reduceEqDiff, Bool.not_true, Bool.not_false, true_and, and_true, ne_eq, not_false_eq_true, not_true_eq_false, List.getElem?_cons_zero, List.getElem?_cons_succ, Int.reduceBEq, Int.reduceBNe, Int.reduceLT, Int.reduceLE, Int.reduceGT, Int.reduceGE, Int.reduceEq, Int.reduceAdd, Int.reduceSub, Int.reduceNeg, nil_ptr, add_ptr, eq_pn, eq_nn, eq_pp, Bool.false_eq_true, hT, h0, h1, hl, c1, d1]
    · have d1 : ¬ (rules.length : Int) > 256 := by omega
      by_cases c2 : name.length > 4096
      · have d2 : (name.length : Int) > 4096 := by omega
        simp only [↓W_seq, ↓W_block, ↓W_reg, ↓W_draw, ↓WO_step, ↓WO_nil, ↓Guard_none, ↓Guard_gt, Gd_undef, Gd_tt, Gd_tf, Gd_ft, Gd_ff, ↓w_mv, ↓w_pick, Two_true, Two_false, Bnd_eq, ↓w_bin, ↓w_un, un_not, ↓w_extract, ↓w_load, ↓w_store, ↓w_slSl, ↓x_slStr, ↓x_idxStr, ↓x_field, ↓x_alloc, ↓x_mkSlice, ↓x_nilChk, idx_str0, ↓w_idxAddr, ↓w_fieldAddr, ↓w_box, ↓w_build, ↓w_lit, ↓w_mkFunc, ↓w_mkIface, ↓w_eq, ↓w_conv, ↓W1_fn, ↓W1_val, CV_func, ↓W1_builtin, bi_lenStr, bi_lenSl, bi_append, len1i, len0i, len_str, len_nil, len_lst, len_sl, bin_gtr, bin_lss, bin_leq, bin_geq, bin_eql, bin_neq, bin_eqls, bin_neqs, bin_add, bin_sub, ↓W_cond, ↓W_ret, ↓W_skip, ↓W_exit, ↓ev_t, ↓ev_c, ↓ev_f, ↓evo_s, ↓evo_n, List.map_cons, List.map_nil, ↓gp_eq, ↓gp_ne, ↓gp_none, ↓len_put, ↓andThen_normal, ↓andThen_ret, ↓andThen_exit, Nat.reduceBEq, Nat.reduceLT, decide_true, decide_false, Res_some, Res_none, Res_pure, Res_pure_none, Pick_true, Pick_false, ↓Fin0, ↓Fin1, ↓Fin2, ↓Fin0n, ↓FinV1, ↓FinX1, ↓FinX2, ↓FinV2, reduceCtorEq, if_true, if_false, List.cons_append, List.nil_append, List.append_nil, Option.map_some, AExit.exit.injEq, Nat.reduceEqDiff, Bool.not_true, Bool.not_false, true_and, and_true, ne_eq, not_false_eq_true, not_true_eq_false, List.getElem?_cons_zero, List.getElem?_cons_succ, Int.reduceBEq, Int.reduceBNe, Int.reduceLT, Int.reduceLE, Int.reduceGT, Int.reduceGE, Int.reduceEq, Int.reduceAdd, Int.reduceSub, Int.reduceNeg, nil_ptr, add_ptr, eq_pn, eq_nn, eq_pp, Bool.false_eq_true, hT, h0, h1, hl, c1, d1, c2, d2]
      · have d2 : ¬ (name.length : Int) > 4096 := by omega
        simp only [↓W_seq, ↓W_block, ↓W_reg, ↓W_draw, ↓WO_step, ↓WO_nil, ↓Guard_none, ↓Guard_gt, Gd_undef, Gd_tt, Gd_tf, Gd_ft, Gd_ff, ↓w_mv, ↓w_pick, Two_true, Two_false, Bnd_eq, ↓w_bin, ↓w_un, un_not, ↓w_extract, ↓w_load, ↓w_store, ↓w_slSl, ↓x_slStr, ↓x_idxStr, ↓x_field, ↓x_alloc, ↓x_mkSlice, ↓x_nilChk, idx_str0, ↓w_idxAddr, ↓w_fieldAddr, ↓w_box, ↓w_build, ↓w_lit, ↓w_mkFunc, ↓w_mkIface, ↓w_eq, ↓w_conv, ↓W1_fn, ↓W1_val, CV_func, ↓W1_builtin, bi_lenStr, bi_lenSl, bi_append, len1i, len0i, len_str, len_nil, len_lst, len_sl, bin_gtr, bin_lss, bin_leq, bin_geq, bin_eql, bin_neq, bin_eqls, bin_neqs, bin_add, bin_sub, ↓W_cond, ↓W_ret, ↓W_skip, ↓W_exit, ↓ev_t, ↓ev_c, ↓ev_f, ↓evo_s, ↓evo_n, List.map_cons, List.map_nil, ↓gp_eq, ↓gp_ne, ↓gp_none, ↓len_put, ↓andThen_normal, ↓andThen_ret, ↓andThen_exit, Nat.reduceBEq, Nat.reduceLT, decide_true, decide_false, Res_some, Res_none, Res_pure, Res_pure_none, Pick_true, Pick_false, ↓Fin0, ↓Fin1, ↓Fin2, ↓Fin0n, ↓FinV1, ↓FinX1, ↓FinX2, ↓FinV2, reduceCtorEq, if_true, if_false, List.cons_append, List.nil_append, List.append_nil, Option.map_some, AExit.exit.injEq, Nat.reduceEqDiff, Bool.not_true, Bool.not_false, true_and, and_true, ne_eq, not_false_eq_true, not_true_eq_false, List.getElem?_cons_zero, List.getElem?_cons_succ, Int.reduceBEq, Int.reduceBNe, Int.reduceLT, Int.reduceLE, Int.reduceGT, Int.reduceGE, Int.reduceEq, Int.reduceAdd, Int.reduceSub, Int.reduceNeg, nil_ptr, add_ptr, eq_pn, eq_nn, eq_pp, Bool.false_eq_true, hT, h0, h1, hl, c1, d1, c2, d2]
  obtain ⟨X1, kd1, ck⟩ := C_slice rfl (by kernel_rfl) (fun _ => rfl) hask hsl
  refine AnsX2 (F := F73) (by kernel_rfl) rfl (by decide) fun T hT h0 h1 => ?_
  by_cases c : askedN rules name = 0
  · have hnl : name.length ≤ 4096 := by
      unfold askedN at c
      split at c
      · omega
      · split at c
        · omega
        · omega
    have e1 : (askedN rules name != 0) = false := by simp [c]
    have sp := fun H K => split_c name 46 (by omega) H K
    have hcnt := count_le 46 name
    have hsl_len := splitB_len 46 name
    generalize hlb : splitB 46 name = lb at sp hsl_len
    have hsl1 := hsl.app X1
    have hmt := C_slice (v := i64 (matchN rules lb)) (as := [.lst (txts lb) lb.length 1 true]) (f := 76) (rules := rules) (r := r) (by
      have := (IsSl.lst (l := lb) true).free
      simp only [AV.locFree] at this
      simp [locFreeL, AV.locFree, this]) (by kernel_rfl) (fun _ => rfl) (fun H hs => match_ans lb rules true (by omega) hrl hr H r hs) hsl1
    obtain ⟨X2, kd2, mt⟩ := hmt
    have hb := matchN_bounds rules lb (by omega)
    have w1 : IntKind.i64.wrap ((lb.length : Int) - matchN rules lb) = ((lb.length - (matchN rules lb).toNat : Nat) : Int) := by rw [wrap64] <;> omega
    have sl1 : sliceA 1 (.lst (txts lb) lb.length 1 true) (some (.int .i64 ((lb.length - (matchN rules lb).toNat : Nat) : Int))) none none = some (.lst (txts (lb.drop (lb.length - (matchN rules lb).toNat))) (lb.drop (lb.length - (matchN rules lb).toNat)).length 1 true) := by
      have := slice_lst (cs := txts lb) (ex := true) (k := .i64) (l := lb.length - (matchN rules lb).toNat) (n := lb.length) (by omega) (txts_len _)
      rw [this]
      simp [txts]
    have hsum : sumLen (lb.drop (lb.length - (matchN rules lb).toNat)) ≤ sumLen lb := by
      unfold sumLen
      have := congrArg (fun l => (l.map List.length).sum) (List.take_append_drop (lb.length - (matchN rules lb).toNat) lb)
      simp only [List.map_append, List.sum_append] at this
      omega
    have hsl2 : sumLen lb ≤ name.length := by rw [← hlb]; exact sumLen_split 46 name
    have jn := fun H K => join_c (lb.drop (lb.length - (matchN rules lb).toNat)) true 46 (by simp; omega) H K
    have hX : ∃ X, (H ++ X1) ++ X2 = H ++ X := ⟨_, List.append_assoc ..⟩
    have es : suffixN rules name = joinB [46] (lb.drop (lb.length - (matchN rules lb).toNat)) := by rw [suffixN, hlb]
    simp only [↓W_seq, ↓W_block, ↓W_reg, ↓W_draw, ↓WO_step, ↓WO_nil, ↓Guard_none, ↓Guard_gt, Gd_undef, Gd_tt, Gd_tf, Gd_ft, Gd_ff, ↓w_mv, ↓w_pick, Two_true, Two_false, Bnd_eq, ↓w_bin, ↓w_un, un_not, ↓w_extract, ↓w_load, ↓w_store, ↓w_slSl, ↓x_slStr, ↓x_idxStr, ↓x_field, ↓x_alloc, ↓x_mkSlice, ↓x_nilChk, idx_str0, ↓w_idxAddr, ↓w_fieldAddr, ↓w_box, ↓w_build, ↓w_lit, ↓w_mkFunc, ↓w_mkIface, ↓w_eq, ↓w_conv, ↓W1_fn, ↓W1_val, CV_func, ↓W1_builtin, bi_lenStr, bi_lenSl, bi_append, len1i, len0i, len_str, len_nil, len_lst, len_sl, bin_gtr, bin_lss, bin_leq, bin_geq, bin_eql, bin_neq, bin_eqls, bin_neqs, bin_add, bin_sub, ↓W_cond, ↓W_ret, ↓W_skip, ↓W_exit, ↓ev_t, ↓ev_c, ↓ev_f, ↓evo_s, ↓evo_n, List.map_cons, List.map_nil, ↓gp_eq, ↓gp_ne, ↓gp_none, ↓len_put, ↓andThen_normal, ↓andThen_ret, ↓andThen_exit, Nat.reduceBEq, Nat.reduceLT, decide_true, decide_false, Res_some, Res_none, Res_pure, Res_pure_none, Pick_true, Pick_false, ↓Fin0, ↓Fin1, ↓Fin2, ↓Fin0n, ↓FinV1, ↓FinX1, ↓FinX2, ↓FinV2, reduceCtorEq, if_true, if_false, List.cons_append, List.nil_append, List.append_nil, Option.map_some, AExit.exit.injEq, Nat.reduceEqDiff, Bool.not_true, Bool.not_false, true_and, and_true, ne_eq, not_false_eq_true, not_true_eq_false, List.getElem?_cons_zero, List.getElem?_cons_succ, Int.reduceBEq, Int.reduceBNe, Int.reduceLT, Int.reduceLE, Int.reduceGT, Int.reduceGE, Int.reduceEq, Int.reduceAdd, Int.reduceSub, Int.reduceNeg, nil_ptr, add_ptr, eq_pn, eq_nn, eq_pp, Bool.false_eq_true, hT, h0, h1, ck, e1, sp, mt, w1, sl1, jn, hX, c, es]
  · have e1 : (askedN rules name != 0) = true := by simp [c]
    have hX : ∃ X, H ++ X1 = H ++ X := ⟨_, rfl⟩
    simp only [↓W_seq, ↓W_block, ↓W_reg, ↓W_draw, ↓WO_step, ↓WO_nil, ↓Guard_none, ↓Guard_gt, Gd_undef, Gd_tt, Gd_tf, Gd_ft, Gd_ff, ↓w_mv, ↓w_pick, Two_true, Two_false, Bnd_eq, ↓w_bin, ↓w_un, un_not, ↓w_extract, ↓w_load, ↓w_store, ↓w_slSl, ↓x_slStr, ↓x_idxStr, ↓x_field, ↓x_alloc, ↓x_mkSlice, ↓x_nilChk, idx_str0, ↓w_idxAddr, ↓w_fieldAddr, ↓w_box, ↓w_build, ↓w_lit, ↓w_mkFunc, ↓w_mkIface, ↓w_eq, ↓w_conv, ↓W1_fn, ↓W1_val, CV_func, ↓W1_builtin, bi_lenStr, bi_lenSl, bi_append, len1i, len0i, len_str, len_nil, len_lst, len_sl, bin_gtr, bin_lss, bin_leq, bin_geq, bin_eql, bin_neq, bin_eqls, bin_neqs, bin_add, bin_sub, ↓W_cond, ↓W_ret, ↓W_skip, ↓W_exit, ↓ev_t, ↓ev_c, ↓ev_f, ↓evo_s, ↓evo_n, List.map_cons, List.map_nil, ↓gp_eq, ↓gp_ne, ↓gp_none, ↓len_put, ↓andThen_normal, ↓andThen_ret, ↓andThen_exit, Nat.reduceBEq, Nat.reduceLT, decide_true, decide_false, Res_some, Res_none, Res_pure, Res_pure_none, Pick_true, Pick_false, ↓Fin0, ↓Fin1, ↓Fin2, ↓Fin0n, ↓FinV1, ↓FinX1, ↓FinX2, ↓FinV2, reduceCtorEq, if_true, if_false, List.cons_append, List.nil_append, List.append_nil, Option.map_some, AExit.exit.injEq, Nat.reduceEqDiff, Bool.not_true, Bool.not_false, true_and, and_true, ne_eq, not_false_eq_true, not_true_eq_false, List.getElem?_cons_zero, List.getElem?_cons_succ, Int.reduceBEq, Int.reduceBNe, Int.reduceLT, Int.reduceLE, Int.reduceGT, Int.reduceGE, Int.reduceEq, Int.reduceAdd, Int.reduceSub, Int.reduceNeg, nil_ptr, add_ptr, eq_pn, eq_nn, eq_pp, Bool.false_eq_true, hT, h0, h1, ck, e1, c, hX]

theorem suffix_c (rules : List (List UInt8)) (name : List UInt8) (hrl : rules.length ≤ 2 ^ 31) (hr : ∀ r ∈ rules, r.length ≤ 2 ^ 29) {H : AHeap} {r : AV} (hsl : IsSlH H rules r) :
    ∃ X kd, ∀ K : AV → AHeap → Kd → Prop, E.C 73 [r, .str name] H K ↔ K (if askedN rules name = 0 then .tuple [.str (suffixN rules name), i64 0] else .tuple [.str [], i64 (askedN rules name)]) (H ++ X) kd :=
  C_slice rfl (by kernel_rfl) (fun _ => by split <;> rfl) (fun H hs => suffix_ans rules name hrl hr H r hs) hsl
end Go.AE.Fns
namespace Go.AE.Fns
open Go Go.AE

/-- a rule without a '!' is weighed by its labels alone -/
def plus (name : List (List UInt8)) (r : List UInt8) (st : Int × Int) : Int × Int := (if fitsB (labels r) name then max st.1 (labels r).length else st.1, st.2)
theorem step_plus {name : List (List UInt8)} {r : List UInt8} (h : isNot r = false) (st : Int × Int) : stepM name st r = plus name r st := by
  unfold stepM plus
  cases fitsB (labels r) name <;> simp [h]
theorem plus_comm (name : List (List UInt8)) (r r' : List UInt8) (st : Int × Int) : stepM name (plus name r st) r' = plus name r (stepM name st r') := by
  unfold stepM plus
  cases h1 : fitsB (labels r') name <;> cases h2 : fitsB (labels r) name <;> simp
  split
  · simp
  · split
    · simp; omega
    · simp
theorem fold_plus (name : List (List UInt8)) (r : List UInt8) : ∀ (rules : List (List UInt8)) (st : Int × Int), rules.foldl (stepM name) (plus name r st) = plus name r (rules.foldl (stepM name) st)
  | [], st => rfl
  | r' :: l, st => by
    simp only [List.foldl_cons]
    rw [plus_comm, fold_plus name r l]

theorem first_or_last (name rules : List (List UInt8)) (r : List UInt8) (h : isNot r = false) : matchN (r :: rules) name = matchN (rules ++ [r]) name := by
  have h1 : foldM name (r :: rules) = plus name r (foldM name rules) := by
    unfold foldM; rw [List.foldl_cons, step_plus h, fold_plus]
  have h2 : foldM name (rules ++ [r]) = plus name r (foldM name rules) := by
    unfold foldM; rw [List.foldl_append]; simp only [List.foldl_cons, List.foldl_nil]; rw [step_plus h]
  unfold matchN; rw [h1, h2]
theorem match_more (name rules : List (List UInt8)) (r : List UInt8) (h : isNot r = false) : matchN rules name ≤ matchN (r :: rules) name := by
  have h1 : foldM name (r :: rules) = plus name r (foldM name rules) := by
    unfold foldM; rw [List.foldl_cons, step_plus h, fold_plus]
  unfold matchN; rw [h1]
  unfold plus
  simp only
  split
  · omega
  · split <;> omega

theorem join_tail (sep a : List UInt8) : ∀ l, (joinB sep l).length ≤ (joinB sep (a :: l)).length
  | [] => by simp [joinB]
  | b :: l => by simp [joinB, joinR]; omega
theorem join_drop (sep : List UInt8) (l : List (List UInt8)) : ∀ (d j : Nat), (joinB sep (l.drop (j + d))).length ≤ (joinB sep (l.drop j)).length
  | 0, j => Nat.le_refl _
  | d + 1, j => by
    refine Nat.le_trans (join_drop sep l d (j + 1) |> fun h => by rw [show j + (d + 1) = j + 1 + d by omega]; exact h) ?_
    by_cases h : j < l.length
    · rw [List.drop_eq_getElem_cons h]; exact join_tail _ _ _
    · rw [List.drop_eq_nil_of_le (by omega), List.drop_eq_nil_of_le (by omega)]; exact Nat.le_refl _

theorem suffix_same (rules : List (List UInt8)) (name r : List UInt8) (h : isNot r = false) : suffixN (r :: rules) name = suffixN (rules ++ [r]) name := by
  unfold suffixN; rw [first_or_last _ _ _ h]
theorem suffix_more (rules : List (List UInt8)) (name r : List UInt8) (h : isNot r = false) : (suffixN rules name).length ≤ (suffixN (r :: rules) name).length := by
  unfold suffixN
  have hm := match_more (splitB 46 name) rules r h
  have hl : 1 ≤ (splitB 46 name).length := by rw [splitB_len]; omega
  have b1 := matchN_bounds rules (splitB 46 name) hl
  have b2 := matchN_bounds (r :: rules) (splitB 46 name) hl
  generalize hn : (splitB 46 name).length = n at *
  obtain ⟨d, hd⟩ : ∃ d, n - (matchN rules (splitB 46 name)).toNat = n - (matchN (r :: rules) (splitB 46 name)).toNat + d := ⟨(matchN (r :: rules) (splitB 46 name)).toNat - (matchN rules (splitB 46 name)).toNat, by omega⟩
  rw [hd]
  exact join_drop _ _ _ _
end Go.AE.Fns
namespace Go.AE.Fns
open Go Go.AE Env
set_option maxRecDepth 100000

theorem IsSl.toH {l : List (List UInt8)} {r : AV} (h : IsSl l r) (H : AHeap) : IsSlH H l r := by
  cases h with
  | lst ex => exact .lst ex
  | nil h => exact .nil h
theorem IsSl.cells {l : List (List UInt8)} {r : AV} (h : IsSl l r) (H : AHeap) : cellsIn H 1 r = some (l.length, txts l) := by
  cases h with
  | lst ex => simp [cellsIn, txts_len]
  | nil h => subst h; rfl

/-- texts behind one -/
theorem append_first {rules : List (List UInt8)} {r : AV} (hr : IsSl rules r) (more : List UInt8) (hl : rules.length ≤ 2 ^ 20) (H : AHeap) : ∃ r2 H2, appendA H 1 16 0 (.lst [.str more] 1 1 true) r = some (r2, H2, .l) ∧ IsSlH H2 (more :: rules) r2 := by
  have hc := hr.cells H
  by_cases h0 : rules = []
  · subst h0
    refine ⟨.lst [.str more] 1 1 true, H, by simp [appendA, hc], ?_⟩
    exact .lst (l := [more]) true
  · have hm : rules.length ≠ 0 := by simpa using h0
    have h2 : (1 + rules.length) * 16 ≤ 1099511627776 := by omega
    refine ⟨.sl H.length 0 (1 + rules.length) 1 (AV.str more :: txts rules).length none, H ++ [.cells (AV.str more :: txts rules) 0 (AV.str more :: txts rules).length 0], by simp [appendA, hc, h0, h2], ?_⟩
    rw [show 1 + rules.length = (more :: rules).length by simp; omega]
    refine .sl (wv := (AV.str more :: txts rules).length) (st := 0) (g := 0) (cs := AV.str more :: txts rules) (by simp) (by decide) (Nat.le_refl _) (Nat.le_refl _) (by simp [txts]) fun i hi => ?_
    rw [Nat.zero_add]
    exact txts_get (more :: rules) i hi

/-- a text behind texts -/
theorem append_last {rules : List (List UInt8)} {r : AV} (hr : IsSl rules r) (more : List UInt8) (hl : rules.length ≤ 2 ^ 20) (H : AHeap) : ∃ r1 H1 r2 H2, appendA H 1 16 0 (.lst [] 0 1 true) r = some (r1, H1, .l) ∧ appendA H1 1 16 0 r1 (.lst [.str more] 1 1 true) = some (r2, H2, .l) ∧ IsSlH H2 (rules ++ [more]) r2 := by
  have hc := hr.cells H
  by_cases h0 : rules = []
  · subst h0
    refine ⟨.lst [] 0 1 true, H, .sl H.length 0 1 1 1 none, H ++ [.cells [.str more] 0 1 0], by simp [appendA, hc], by simp [appendA, cellsIn], ?_⟩
    refine .sl (l := [more]) (wv := 1) (st := 0) (g := 0) (cs := [.str more]) (by simp) (by decide) (Nat.le_refl _) (by simp) (by simp) fun i hi => ?_
    simp at hi; subst hi; rfl
  · have hm : rules.length ≠ 0 := by simpa using h0
    have h2 : rules.length * 16 ≤ 1099511627776 := by omega
    have h3 : (rules.length + 1) * 16 ≤ 1099511627776 := by omega
    refine ⟨.sl H.length 0 rules.length 1 (txts rules).length none, H ++ [.cells (txts rules) 0 (txts rules).length 0], .sl H.length 0 (rules.length + 1) 1 (txts rules ++ [AV.str more]).length none, H ++ [.cells (txts rules ++ [.str more]) 0 (txts rules).length 0], by simp [appendA, hc, h0, h2, txts_len], ?_, ?_⟩
    · simp [appendA, cellsIn, txts_len, h3]
    · rw [show rules.length + 1 = (rules ++ [more]).length by simp]
      refine .sl (wv := (txts rules).length) (st := 0) (g := 0) (cs := txts rules ++ [.str more]) (by simp) (by decide) (by simp) (Nat.le_refl _) (by simp [txts]) fun i hi => ?_
      rw [Nat.zero_add]
      have := txts_get (rules ++ [more]) i hi
      simpa [txts] using this

theorem fill1 {T : Tmps} {z0 : AV} {x : Opd} (hx : (ev T x).cells = [ev T x]) : fillA T [z0] [(0, 1, x)] = some [ev T x] := by
  simp [fillA, hx, putCells]
theorem rep1 {z : AV} : repCells 1 [z] = [z] := Eq.trans rfl rfl
theorem rep0 {z : AV} : repCells 0 [z] = [] := Eq.trans rfl rfl
theorem fill0 {T : Tmps} {cs : List AV} : fillA T cs [] = some cs := Eq.trans rfl rfl

theorem asked_of {rules : List (List UInt8)} {name : List UInt8} (h : rules.length ≤ 256) : askedN rules name = if name.length > 4096 then 4 else 0 := by
  unfold askedN
  rw [if_neg (by omega)]

/-- its body: what is asked first, and the rest -/
def tail46 : LCode := match F46 with
  | .code _ _ _ (.seq _ (.seq _ (.seq _ b))) => b
  | _ => .skip
def head46 (k : LCode) : LCode := match F46 with
  | .code _ _ _ (.seq a (.seq b (.seq c _))) => .seq a (.seq b (.seq c k))
  | _ => .skip

/-- THE LAW, over AE: it answers true. -/
theorem originRules_ans {Hl : AHeap} (hlive : E.Ans 47 [] [] (.bool true) Hl) (rules : List (List UInt8)) (name more : List UInt8) {r : AV} (hr : IsSl rules r) (hrs : ∀ s ∈ rules, s.length ≤ 2 ^ 29) (hmore : more.length ≤ 2 ^ 29) (H : AHeap) : ∃ H', E.Ans 46 [r, .str name, .str more] H (.bool true) H' := by
  have hlv : ∀ (H : AHeap) (K : AV → AHeap → Kd → Prop), E.C 47 [] H K ↔ K (.bool true) H .p := fun H K => C_val hlive rfl (by kernel_rfl) rfl
  refine AnsV3 (F := F46) (by kernel_rfl) rfl (by decide) fun T hT h0 h1 h2 => ?_
  have hl := hr.len
  by_cases c0 : rules.length ≥ 256
  · have d0 : (rules.length : Int) ≥ 256 := by omega
    simp only [↓W_seq, ↓W_block, ↓W_reg, ↓W_draw, ↓WO_step, ↓WO_nil, ↓Guard_none, ↓Guard_gt, Gd_undef, Gd_tt, Gd_tf, Gd_ft, Gd_ff, ↓w_mv, ↓w_pick, Two_true, Two_false, Bnd_eq, ↓w_bin, ↓w_un, un_not, ↓w_extract, ↓w_load, ↓w_store, ↓w_slSl, ↓x_slStr, ↓x_idxStr, ↓x_field, ↓x_alloc, ↓x_mkSlice, ↓x_nilChk, idx_str0, ↓w_idxAddr, ↓w_fieldAddr, ↓w_box, ↓w_build, ↓w_lit, ↓w_mkFunc, ↓w_mkIface, ↓w_eq, ↓w_conv, ↓W1_fn, ↓W1_val, CV_func, ↓W1_builtin, bi_lenStr, bi_lenSl, bi_append, len1i, len0i, len_str, len_nil, len_lst, len_sl, bin_gtr, bin_lss, bin_leq, bin_geq, bin_eql, bin_neq, bin_eqls, bin_neqs, bin_add, bin_sub, ↓W_cond, ↓W_ret, ↓W_skip, ↓W_exit, ↓ev_t, ↓ev_c, ↓ev_f, ↓evo_s, ↓evo_n, List.map_cons, List.map_nil, ↓gp_eq, ↓gp_ne, ↓gp_none, ↓len_put, ↓andThen_normal, ↓andThen_ret, ↓andThen_exit, Nat.reduceBEq, Nat.reduceLT, decide_true, decide_false, Res_some, Res_none, Res_pure, Res_pure_none, Pick_true, Pick_false, ↓Fin0, ↓Fin1, ↓Fin2, ↓Fin0n, ↓FinV1, ↓FinX1, ↓FinX2, ↓FinV2, reduceCtorEq, if_true, if_false, List.cons_append, List.nil_append, List.append_nil, Option.map_some, AExit.exit.injEq, Nat.reduceEqDiff, Bool.not_true, Bool.not_false, true_and, and_true, ne_eq, not_false_eq_true, not_true_eq_false, List.getElem?_cons_zero, List.getElem?_cons_succ, Int.reduceBEq, Int.reduceBNe, Int.reduceLT, Int.reduceLE, Int.reduceGT, Int.reduceGE, Int.reduceEq, Int.reduceAdd, Int.reduceSub, Int.reduceNeg, nil_ptr, add_ptr, eq_pn, eq_nn, eq_pp, Bool.false_eq_true, hT, h0, h1, h2, hlv, hl, d0]
  · have d0 : ¬ (rules.length : Int) ≥ 256 := by omega
    have main : isNot more = false → ∀ (T : Tmps), T.length = 91 → gt T 0 = r → gt T 1 = .str name → gt T 2 = .str more → E.W tail46 T H (FinV [.t 6] (.bool true)) := by
      intro hnot T hT h0 h1 h2
      unfold tail46
      obtain ⟨X1, kd1, s1⟩ := suffix_c rules name (by omega) hrs (hr.toH H)
      have lf : ∀ H2, H2 = H ++ X1 → ∃ r2 H3, appendA H2 1 16 0 (.lst [.str more] 1 1 true) r = some (r2, H3, .l) ∧ IsSlH H3 (more :: rules) r2 := fun H2 _ => append_first hr more (by omega) H2
      obtain ⟨r2, H2, ap2, sl2⟩ := lf _ rfl
      obtain ⟨X2, kd2, s2⟩ := suffix_c (more :: rules) name (by simp; omega) (by intro s hs; rcases List.mem_cons.1 hs with rfl | hs; exact hmore; exact hrs s hs) sl2
      obtain ⟨r3, H3, r4, H4, ap3, ap4, sl4⟩ := append_last hr more (by omega) (H2 ++ X2)
      obtain ⟨X4, kd4, s4⟩ := suffix_c (rules ++ [more]) name (by simp; omega) (by intro s hs; rcases List.mem_append.1 hs with hs | hs; exact hrs s hs; simp at hs; subst hs; exact hmore) sl4
      have a1 := asked_of (name := name) (show rules.length ≤ 256 by omega)
      have a2 := asked_of (name := name) (show (more :: rules).length ≤ 256 by simp; omega)
      have a4 := asked_of (name := name) (show (rules ++ [more]).length ≤ 256 by simp; omega)
      have same := suffix_same rules name more hnot
      have longer := suffix_more rules name more hnot
      rw [a1] at s1
      rw [a2] at s2
      rw [a4, ← same] at s4
      by_cases c1 : name.length > 4096
      · have e4 : ((4 : Int) = 0) = False := by simp
        simp only [c1, if_true, e4, if_false] at s1 s2 s4
        simp only [F46, ↓W_seq, ↓W_block, ↓W_reg, ↓W_draw, ↓WO_step, ↓WO_nil, ↓Guard_none, ↓Guard_gt, Gd_undef, Gd_tt, Gd_tf, Gd_ft, Gd_ff, ↓w_mv, ↓w_pick, Two_true, Two_false, Bnd_eq, ↓w_bin, ↓w_un, un_not, ↓w_extract, ↓w_load, ↓w_store, ↓w_slSl, ↓x_slStr, ↓x_idxStr, ↓x_field, ↓x_alloc, ↓x_mkSlice, ↓x_nilChk, idx_str0, ↓w_idxAddr, ↓w_fieldAddr, ↓w_box, ↓w_build, ↓w_lit, ↓w_mkFunc, ↓w_mkIface, ↓w_eq, ↓w_conv, ↓W1_fn, ↓W1_val, CV_func, ↓W1_builtin, bi_lenStr, bi_lenSl, bi_append, len1i, len0i, len_str, len_nil, len_lst, len_sl, bin_gtr, bin_lss, bin_leq, bin_geq, bin_eql, bin_neq, bin_eqls, bin_neqs, bin_add, bin_sub, ↓W_cond, ↓W_ret, ↓W_skip, ↓W_exit, ↓ev_t, ↓ev_c, ↓ev_f, ↓evo_s, ↓evo_n, List.map_cons, List.map_nil, ↓gp_eq, ↓gp_ne, ↓gp_none, ↓len_put, ↓andThen_normal, ↓andThen_ret, ↓andThen_exit, Nat.reduceBEq, Nat.reduceLT, decide_true, decide_false, Res_some, Res_none, Res_pure, Res_pure_none, Pick_true, Pick_false, ↓Fin0, ↓Fin1, ↓Fin2, ↓Fin0n, ↓FinV1, ↓FinX1, ↓FinX2, ↓FinV2, reduceCtorEq, if_true, if_false, List.cons_append, List.nil_append, List.append_nil, Option.map_some, AExit.exit.injEq, Nat.reduceEqDiff, Bool.not_true, Bool.not_false, true_and, and_true, ne_eq, not_false_eq_true, not_true_eq_false, List.getElem?_cons_zero, List.getElem?_cons_succ, Int.reduceBEq, Int.reduceBNe, Int.reduceLT, Int.reduceLE, Int.reduceGT, Int.reduceGE, Int.reduceEq, Int.reduceAdd, Int.reduceSub, Int.reduceNeg, nil_ptr, add_ptr, eq_pn, eq_nn, eq_pp, Bool.false_eq_true, hT, h0, h1, h2, s1, fill1, fill0, rep0, rep1, cells_str, ap2, s2, ap3, ap4, s4]
      · simp only [c1, if_false, if_true] at s1 s2 s4
        have eb : (suffixN (more :: rules) name == suffixN (more :: rules) name) = true := by simp
        by_cases c2 : suffixN (more :: rules) name = suffixN rules name
        · have e2 : (suffixN (more :: rules) name == suffixN rules name) = true := by simpa using c2
          simp only [F46, ↓W_seq, ↓W_block, ↓W_reg, ↓W_draw, ↓WO_step, ↓WO_nil, ↓Guard_none, ↓Guard_gt, Gd_undef, Gd_tt, Gd_tf, Gd_ft, Gd_ff, ↓w_mv, ↓w_pick, Two_true, Two_false, Bnd_eq, ↓w_bin, ↓w_un, un_not, ↓w_extract, ↓w_load, ↓w_store, ↓w_slSl, ↓x_slStr, ↓x_idxStr, ↓x_field, ↓x_alloc, ↓x_mkSlice, ↓x_nilChk, idx_str0, ↓w_idxAddr, ↓w_fieldAddr, ↓w_box, ↓w_build, ↓w_lit, ↓w_mkFunc, ↓w_mkIface, ↓w_eq, ↓w_conv, ↓W1_fn, ↓W1_val, CV_func, ↓W1_builtin, bi_lenStr, bi_lenSl, bi_append, len1i, len0i, len_str, len_nil, len_lst, len_sl, bin_gtr, bin_lss, bin_leq, bin_geq, bin_eql, bin_neq, bin_eqls, bin_neqs, bin_add, bin_sub, ↓W_cond, ↓W_ret, ↓W_skip, ↓W_exit, ↓ev_t, ↓ev_c, ↓ev_f, ↓evo_s, ↓evo_n, List.map_cons, List.map_nil, ↓gp_eq, ↓gp_ne, ↓gp_none, ↓len_put, ↓andThen_normal, ↓andThen_ret, ↓andThen_exit, Nat.reduceBEq, Nat.reduceLT, decide_true, decide_false, Res_some, Res_none, Res_pure, Res_pure_none, Pick_true, Pick_false, ↓Fin0, ↓Fin1, ↓Fin2, ↓Fin0n, ↓FinV1, ↓FinX1, ↓FinX2, ↓FinV2, reduceCtorEq, if_true, if_false, List.cons_append, List.nil_append, List.append_nil, Option.map_some, AExit.exit.injEq, Nat.reduceEqDiff, Bool.not_true, Bool.not_false, true_and, and_true, ne_eq, not_false_eq_true, not_true_eq_false, List.getElem?_cons_zero, List.getElem?_cons_succ, Int.reduceBEq, Int.reduceBNe, Int.reduceLT, Int.reduceLE, Int.reduceGT, Int.reduceGE, Int.reduceEq, Int.reduceAdd, Int.reduceSub, Int.reduceNeg, nil_ptr, add_ptr, eq_pn, eq_nn, eq_pp, Bool.false_eq_true, hT, h0, h1, h2, s1, fill1, fill0, rep0, rep1, cells_str, ap2, s2, ap3, ap4, s4, eb, e2]
        · have e2 : (suffixN (more :: rules) name == suffixN rules name) = false := by simpa using c2
          have d2 : ((suffixN (more :: rules) name).length : Int) ≥ ((suffixN rules name).length : Int) := by omega
          simp only [F46, ↓W_seq, ↓W_block, ↓W_reg, ↓W_draw, ↓WO_step, ↓WO_nil, ↓Guard_none, ↓Guard_gt, Gd_undef, Gd_tt, Gd_tf, Gd_ft, Gd_ff, ↓w_mv, ↓w_pick, Two_true, Two_false, Bnd_eq, ↓w_bin, ↓w_un, un_not, ↓w_extract, ↓w_load, ↓w_store, ↓w_slSl, ↓x_slStr, ↓x_idxStr, ↓x_field, ↓x_alloc, ↓x_mkSlice, ↓x_nilChk, idx_str0, ↓w_idxAddr, ↓w_fieldAddr, ↓w_box, ↓w_build, ↓w_lit, ↓w_mkFunc, ↓w_mkIface, ↓w_eq, ↓w_conv, ↓W1_fn, ↓W1_val, CV_func, ↓W1_builtin, bi_lenStr, bi_lenSl, bi_append, len1i, len0i, len_str, len_nil, len_lst, len_sl, bin_gtr, bin_lss, bin_leq, bin_geq, bin_eql, bin_neq, bin_eqls, bin_neqs, bin_add, bin_sub, ↓W_cond, ↓W_ret, ↓W_skip, ↓W_exit, ↓ev_t, ↓ev_c, ↓ev_f, ↓evo_s, ↓evo_n, List.map_cons, List.map_nil, ↓gp_eq, ↓gp_ne, ↓gp_none, ↓len_put, ↓andThen_normal, ↓andThen_ret, ↓andThen_exit, Nat.reduceBEq, Nat.reduceLT, decide_true, decide_false, Res_some, Res_none, Res_pure, Res_pure_none, Pick_true, Pick_false, ↓Fin0, ↓Fin1, ↓Fin2, ↓Fin0n, ↓FinV1, ↓FinX1, ↓FinX2, ↓FinV2, reduceCtorEq, if_true, if_false, List.cons_append, List.nil_append, List.append_nil, Option.map_some, AExit.exit.injEq, Nat.reduceEqDiff, Bool.not_true, Bool.not_false, true_and, and_true, ne_eq, not_false_eq_true, not_true_eq_false, List.getElem?_cons_zero, List.getElem?_cons_succ, Int.reduceBEq, Int.reduceBNe, Int.reduceLT, Int.reduceLE, Int.reduceGT, Int.reduceGE, Int.reduceEq, Int.reduceAdd, Int.reduceSub, Int.reduceNeg, nil_ptr, add_ptr, eq_pn, eq_nn, eq_pp, Bool.false_eq_true, hT, h0, h1, h2, s1, fill1, fill0, rep0, rep1, cells_str, ap2, s2, ap3, ap4, s4, eb, e2, d2]
    show E.W (head46 tail46) T H _
    generalize tail46 = rest at main
    rcases more with _ | ⟨x, more'⟩
    · have d1 : ¬ ((0 : Int) > 0) := by omega
      simp only [head46, F46, ↓W_seq, ↓W_block, ↓W_reg, ↓W_draw, ↓WO_step, ↓WO_nil, ↓Guard_none, ↓Guard_gt, Gd_undef, Gd_tt, Gd_tf, Gd_ft, Gd_ff, ↓w_mv, ↓w_pick, Two_true, Two_false, Bnd_eq, ↓w_bin, ↓w_un, un_not, ↓w_extract, ↓w_load, ↓w_store, ↓w_slSl, ↓x_slStr, ↓x_idxStr, ↓x_field, ↓x_alloc, ↓x_mkSlice, ↓x_nilChk, idx_str0, ↓w_idxAddr, ↓w_fieldAddr, ↓w_box, ↓w_build, ↓w_lit, ↓w_mkFunc, ↓w_mkIface, ↓w_eq, ↓w_conv, ↓W1_fn, ↓W1_val, CV_func, ↓W1_builtin, bi_lenStr, bi_lenSl, bi_append, len1i, len0i, len_str, len_nil, len_lst, len_sl, bin_gtr, bin_lss, bin_leq, bin_geq, bin_eql, bin_neq, bin_eqls, bin_neqs, bin_add, bin_sub, ↓W_cond, ↓W_ret, ↓W_skip, ↓W_exit, ↓ev_t, ↓ev_c, ↓ev_f, ↓evo_s, ↓evo_n, List.map_cons, List.map_nil, ↓gp_eq, ↓gp_ne, ↓gp_none, ↓len_put, ↓andThen_normal, ↓andThen_ret, ↓andThen_exit, Nat.reduceBEq, Nat.reduceLT, decide_true, decide_false, Res_some, Res_none, Res_pure, Res_pure_none, Pick_true, Pick_false, ↓Fin0, ↓Fin1, ↓Fin2, ↓Fin0n, ↓FinV1, ↓FinX1, ↓FinX2, ↓FinV2, reduceCtorEq, if_true, if_false, List.cons_append, List.nil_append, List.append_nil, Option.map_some, AExit.exit.injEq, Nat.reduceEqDiff, Bool.not_true, Bool.not_false, true_and, and_true, ne_eq, not_false_eq_true, not_true_eq_false, List.getElem?_cons_zero, List.getElem?_cons_succ, Int.reduceBEq, Int.reduceBNe, Int.reduceLT, Int.reduceLE, Int.reduceGT, Int.reduceGE, Int.reduceEq, Int.reduceAdd, Int.reduceSub, Int.reduceNeg, nil_ptr, add_ptr, eq_pn, eq_nn, eq_pp, Bool.false_eq_true, hT, h0, h1, h2, hlv, hl, d0, d1]
      exact main rfl _ (by simp only [↓gp_eq, ↓gp_ne, ↓gp_none, ↓len_put, Nat.reduceBEq, Nat.reduceLT, decide_true, hT]) (by simp only [↓gp_eq, ↓gp_ne, ↓gp_none, ↓len_put, Nat.reduceBEq, Nat.reduceLT, decide_true, hT, h0]) (by simp only [↓gp_eq, ↓gp_ne, ↓gp_none, ↓len_put, Nat.reduceBEq, Nat.reduceLT, decide_true, hT, h1]) (by simp only [↓gp_eq, ↓gp_ne, ↓gp_none, ↓len_put, Nat.reduceBEq, Nat.reduceLT, decide_true, hT, h2])
    · have d1 : (((x :: more').length : Nat) : Int) > 0 := by simp only [List.length_cons]; omega
      by_cases c1 : x = 33
      · have e1 : (((x.toNat : Nat) : Int) == 33) = true := by subst c1; rfl
        simp only [head46, F46, ↓W_seq, ↓W_block, ↓W_reg, ↓W_draw, ↓WO_step, ↓WO_nil, ↓Guard_none, ↓Guard_gt, Gd_undef, Gd_tt, Gd_tf, Gd_ft, Gd_ff, ↓w_mv, ↓w_pick, Two_true, Two_false, Bnd_eq, ↓w_bin, ↓w_un, un_not, ↓w_extract, ↓w_load, ↓w_store, ↓w_slSl, ↓x_slStr, ↓x_idxStr, ↓x_field, ↓x_alloc, ↓x_mkSlice, ↓x_nilChk, idx_str0, ↓w_idxAddr, ↓w_fieldAddr, ↓w_box, ↓w_build, ↓w_lit, ↓w_mkFunc, ↓w_mkIface, ↓w_eq, ↓w_conv, ↓W1_fn, ↓W1_val, CV_func, ↓W1_builtin, bi_lenStr, bi_lenSl, bi_append, len1i, len0i, len_str, len_nil, len_lst, len_sl, bin_gtr, bin_lss, bin_leq, bin_geq, bin_eql, bin_neq, bin_eqls, bin_neqs, bin_add, bin_sub, ↓W_cond, ↓W_ret, ↓W_skip, ↓W_exit, ↓ev_t, ↓ev_c, ↓ev_f, ↓evo_s, ↓evo_n, List.map_cons, List.map_nil, ↓gp_eq, ↓gp_ne, ↓gp_none, ↓len_put, ↓andThen_normal, ↓andThen_ret, ↓andThen_exit, Nat.reduceBEq, Nat.reduceLT, decide_true, decide_false, Res_some, Res_none, Res_pure, Res_pure_none, Pick_true, Pick_false, ↓Fin0, ↓Fin1, ↓Fin2, ↓Fin0n, ↓FinV1, ↓FinX1, ↓FinX2, ↓FinV2, reduceCtorEq, if_true, if_false, List.cons_append, List.nil_append, List.append_nil, Option.map_some, AExit.exit.injEq, Nat.reduceEqDiff, Bool.not_true, Bool.not_false, true_and, and_true, ne_eq, not_false_eq_true, not_true_eq_false, List.getElem?_cons_zero, List.getElem?_cons_succ, Int.reduceBEq, Int.reduceBNe, Int.reduceLT, Int.reduceLE, Int.reduceGT, Int.reduceGE, Int.reduceEq, Int.reduceAdd, Int.reduceSub, Int.reduceNeg, nil_ptr, add_ptr, eq_pn, eq_nn, eq_pp, Bool.false_eq_true, hT, h0, h1, h2, hlv, hl, d0, d1, e1]
      · have e1 : (((x.toNat : Nat) : Int) == 33) = false := by
          rw [beq_eq_false_iff_ne]
          intro h
          exact c1 (UInt8.toNat_inj.1 (by show x.toNat = 33; omega))
        have hnot : isNot (x :: more') = false := by
          simp only [isNot, List.isPrefixOf, Bool.and_true, beq_eq_false_iff_ne]
          exact fun h => c1 h.symm
        simp only [head46, F46, ↓W_seq, ↓W_block, ↓W_reg, ↓W_draw, ↓WO_step, ↓WO_nil, ↓Guard_none, ↓Guard_gt, Gd_undef, Gd_tt, Gd_tf, Gd_ft, Gd_ff, ↓w_mv, ↓w_pick, Two_true, Two_false, Bnd_eq, ↓w_bin, ↓w_un, un_not, ↓w_extract, ↓w_load, ↓w_store, ↓w_slSl, ↓x_slStr, ↓x_idxStr, ↓x_field, ↓x_alloc, ↓x_mkSlice, ↓x_nilChk, idx_str0, ↓w_idxAddr, ↓w_fieldAddr, ↓w_box, ↓w_build, ↓w_lit, ↓w_mkFunc, ↓w_mkIface, ↓w_eq, ↓w_conv, ↓W1_fn, ↓W1_val, CV_func, ↓W1_builtin, bi_lenStr, bi_lenSl, bi_append, len1i, len0i, len_str, len_nil, len_lst, len_sl, bin_gtr, bin_lss, bin_leq, bin_geq, bin_eql, bin_neq, bin_eqls, bin_neqs, bin_add, bin_sub, ↓W_cond, ↓W_ret, ↓W_skip, ↓W_exit, ↓ev_t, ↓ev_c, ↓ev_f, ↓evo_s, ↓evo_n, List.map_cons, List.map_nil, ↓gp_eq, ↓gp_ne, ↓gp_none, ↓len_put, ↓andThen_normal, ↓andThen_ret, ↓andThen_exit, Nat.reduceBEq, Nat.reduceLT, decide_true, decide_false, Res_some, Res_none, Res_pure, Res_pure_none, Pick_true, Pick_false, ↓Fin0, ↓Fin1, ↓Fin2, ↓Fin0n, ↓FinV1, ↓FinX1, ↓FinX2, ↓FinV2, reduceCtorEq, if_true, if_false, List.cons_append, List.nil_append, List.append_nil, Option.map_some, AExit.exit.injEq, Nat.reduceEqDiff, Bool.not_true, Bool.not_false, true_and, and_true, ne_eq, not_false_eq_true, not_true_eq_false, List.getElem?_cons_zero, List.getElem?_cons_succ, Int.reduceBEq, Int.reduceBNe, Int.reduceLT, Int.reduceLE, Int.reduceGT, Int.reduceGE, Int.reduceEq, Int.reduceAdd, Int.reduceSub, Int.reduceNeg, nil_ptr, add_ptr, eq_pn, eq_nn, eq_pp, Bool.false_eq_true, hT, h0, h1, h2, hlv, hl, d0, d1, e1]
        exact main hnot _ (by simp only [↓gp_eq, ↓gp_ne, ↓gp_none, ↓len_put, Nat.reduceBEq, Nat.reduceLT, decide_true, hT]) (by simp only [↓gp_eq, ↓gp_ne, ↓gp_none, ↓len_put, Nat.reduceBEq, Nat.reduceLT, decide_true, hT, h0]) (by simp only [↓gp_eq, ↓gp_ne, ↓gp_none, ↓len_put, Nat.reduceBEq, Nat.reduceLT, decide_true, hT, h1]) (by simp only [↓gp_eq, ↓gp_ne, ↓gp_none, ↓len_put, Nat.reduceBEq, Nat.reduceLT, decide_true, hT, h2])
end Go.AE.Fns
