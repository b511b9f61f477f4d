/- What the functions of texts and of Builders answer. -/
import Derived.Test.YtnblehjhpjfilaaGreatDoorB4
import Derived.Test.YtnblehjhpjfilaaGreatDoorA5
import Derived.KernelRfl
set_option linter.all false
set_option linter.unusedSimpArgs false
set_option linter.unusedVariables false
set_option linter.unnecessarySimpa false
set_option linter.deprecated false
namespace Go.AE

/-- where a byte first stands -/
def idxB (c : UInt8) (s : List UInt8) : Int := match s.findIdx? (· == c) with | some i => (i : Int) | none => -1
def countB (c : UInt8) (s : List UInt8) : Nat := (s.filter (· == c)).length
def splitB (c : UInt8) : List UInt8 → List (List UInt8)
  | [] => [[]]
  | x :: l => if x == c then [] :: splitB c l else match splitB c l with
    | [] => [[x]]
    | h :: t => (x :: h) :: t

theorem splitB_ne (c : UInt8) : ∀ s, splitB c s ≠ []
  | [] => by simp [splitB]
  | x :: l => by
    simp only [splitB]
    split
    · simp
    · split <;> simp

theorem splitB_len (c : UInt8) : ∀ s, (splitB c s).length = countB c s + 1
  | [] => rfl
  | x :: l => by
    have ih := splitB_len c l
    simp only [splitB, countB]
    split
    · rename_i h; simp [List.filter_cons, h]; exact ih
    · rename_i h
      simp [List.filter_cons, h]
      cases hl : splitB c l with
      | nil => exact absurd hl (splitB_ne c l)
      | cons a t => simp; rw [hl] at ih; simpa [countB] using ih

theorem count_le (c : UInt8) (s : List UInt8) : countB c s ≤ s.length := List.length_filter_le _ _

theorem split_none (c : UInt8) : ∀ s, countB c s = 0 → splitB c s = [s]
  | [], _ => rfl
  | x :: l, h => by
    simp only [countB, List.filter_cons] at h
    split at h
    · simp at h
    · rename_i hx
      have ih := split_none c l h
      simp [splitB, hx, ih]

/-- where the byte stands: a piece, and what is behind -/
theorem split_some (c : UInt8) : ∀ s k, countB c s = k + 1 → ∃ i, s.findIdx? (· == c) = some i ∧ i < s.length ∧ splitB c s = s.take i :: splitB c (s.drop (i + 1)) ∧ countB c (s.drop (i + 1)) = k
  | [], k, h => by simp [countB] at h
  | x :: l, k, h => by
    by_cases hx : (x == c) = true
    · refine ⟨0, by simp [List.findIdx?_cons, hx], by simp, by simp [splitB, hx], ?_⟩
      simp only [countB, List.filter_cons, hx, if_true, List.length_cons] at h
      simpa [countB] using h
    · have h' : countB c l = k + 1 := by
        simp only [countB, List.filter_cons, if_neg hx] at h
        exact h
      obtain ⟨i, h1, h2, h3, h4⟩ := split_some c l k h'
      refine ⟨i + 1, ?_, by simpa using h2, ?_, by simpa using h4⟩
      · simp [List.findIdx?_cons, hx, h1]
      · simp [splitB, hx, h3]

theorem idxB_of {c : UInt8} {s : List UInt8} {i : Nat} (h : s.findIdx? (· == c) = some i) : idxB c s = i := by simp [idxB, h]

/-- pieces put together again -/
def joinR (sep : List UInt8) (l : List (List UInt8)) : List UInt8 := l.flatMap fun x => sep ++ x
def joinB (sep : List UInt8) : List (List UInt8) → List UInt8
  | [] => []
  | a :: l => a ++ joinR sep l
def sumLen (l : List (List UInt8)) : Nat := (l.map List.length).sum
theorem sumLen_take (l : List (List UInt8)) (i : Nat) (h : i < l.length) : sumLen (l.take (i + 1)) = sumLen (l.take i) + (l[i]).length := by
  unfold sumLen
  rw [List.take_add_one, List.getElem?_eq_getElem h, List.map_append, List.sum_append]
  simp
theorem sumLen_take_le (l : List (List UInt8)) (i : Nat) : sumLen (l.take i) ≤ sumLen l := by
  unfold sumLen
  have := congrArg (fun l => (l.map List.length).sum) (List.take_append_drop i l)
  simp only [List.map_append, List.sum_append] at this
  omega
theorem joinR_len (sep : List UInt8) : ∀ l, (joinR sep l).length = sumLen l + l.length * sep.length
  | [] => by simp [joinR, sumLen]
  | a :: l => by
    have ih := joinR_len sep l
    simp only [joinR, sumLen, List.flatMap_cons, List.length_append, List.map_cons, List.sum_cons, List.length_cons] at ih ⊢
    rw [ih, Nat.add_mul]; omega

end Go.AE
namespace Go.AE

/-- do a rule's labels fit the last ones of a name? -/
def fitL : Bool → List (List UInt8) → List (List UInt8) → Bool
  | _, [], _ => true
  | f, s :: l, t :: r => (s == t || (f && s == [42])) && fitL false l r
  | _, _ :: _, [] => false
def fitsB (lb name : List (List UInt8)) : Bool := decide (lb.length ≤ name.length) && fitL true lb (name.drop (name.length - lb.length))

def cutPre (p s : List UInt8) : List UInt8 := if p.isPrefixOf s then s.drop p.length else s

def labels (r : List UInt8) : List (List UInt8) := splitB 46 (cutPre [33] r)
def isNot (r : List UInt8) : Bool := List.isPrefixOf [33] r

/-- one rule more -/
def stepM (name : List (List UInt8)) (st : Int × Int) (r : List UInt8) : Int × Int :=
  if fitsB (labels r) name then
    if isNot r = true ∧ st.2 < 0 then (st.1, (labels r).length - 1)
    else if isNot r = false then (max st.1 (labels r).length, st.2)
    else st
  else st
def foldM (name : List (List UInt8)) (rules : List (List UInt8)) : Int × Int := rules.foldl (stepM name) (1, -1)
def matchN (rules name : List (List UInt8)) : Int := if (foldM name rules).2 ≥ 0 then (foldM name rules).2 else (foldM name rules).1

/-- how it goes on -/
theorem fitL_drop (f : Bool) (lb nm : List (List UInt8)) (i d : Nat) (hi : i < lb.length) (hd : d + i < nm.length) :
    fitL f (lb.drop i) (nm.drop (d + i)) = ((lb[i] == nm[d + i] || (f && lb[i] == [42])) && fitL false (lb.drop (i + 1)) (nm.drop (d + (i + 1)))) := by
  rw [List.drop_eq_getElem_cons hi, List.drop_eq_getElem_cons hd]
  simp only [fitL]
  rw [Nat.add_assoc]
end Go.AE
namespace Go.AE.Fns
open Go Go.AE Env
set_option maxRecDepth 100000

noncomputable def E : Env := envOf lpT keep onceN once

abbrev i64 (n : Int) : AV := .int .i64 n

/-- a list of texts -/
def txts (l : List (List UInt8)) : List AV := l.map .str
/-- as a slice -/
inductive IsSl (l : List (List UInt8)) : AV → Prop where
  | lst (ex : Bool) : IsSl l (.lst (txts l) l.length 1 ex)
  | nil (h : l = []) : IsSl l .nilsl

theorem IsSl.len {l : List (List UInt8)} {r : AV} (h : IsSl l r) (H : AHeap) : lenA H .lenSl r = some (.int .i64 l.length, H, .p) := by
  cases h with
  | lst => rfl
  | nil h => subst h; rfl

theorem IsSl.free {l : List (List UInt8)} {r : AV} (h : IsSl l r) : r.locFree = true := by
  cases h with
  | lst =>
    simp only [AV.locFree, txts]
    induction l with
    | nil => rfl
    | cons a l ih => simpa [locFreeL, AV.locFree] using ih
  | nil h => rfl

def askedN (rules : List (List UInt8)) (name : List UInt8) : Int := if rules.length > 256 then 3 else if name.length > 4096 then 4 else 0

theorem asked_ans {rules : List (List UInt8)} {r : AV} (hr : IsSl rules r) (name : List UInt8) (H : AHeap) : E.Ans 75 [r, .str name] H (i64 (askedN rules name)) H := by
  have hl := hr.len
  refine Ans2 (F := F75) (by kernel_rfl) rfl (by decide) fun T hT h0 h1 => ?_
  unfold askedN
  by_cases c1 : rules.length > 256
  · have d1 : (rules.length : Int) > 256 := by omega
    simp only [↓W_seq, ↓W_block, ↓W_reg, ↓W_draw, ↓WO_step, ↓WO_nil, ↓Guard_none, ↓Guard_gt, Gd_undef, Gd_tt, Gd_tf, Gd_ft, Gd_ff, ↓w_mv, ↓w_pick, Two_true, Two_false, Bnd_eq, ↓w_bin, ↓w_un, un_not, ↓w_extract, ↓w_load, ↓w_store, ↓w_slSl, ↓x_slStr, ↓x_idxStr, ↓x_field, ↓x_alloc, ↓x_mkSlice, ↓x_nilChk, idx_str0, ↓w_idxAddr, ↓w_fieldAddr, ↓w_box, ↓w_build, ↓w_lit, ↓w_mkFunc, ↓w_mkIface, ↓w_eq, ↓w_conv, ↓W1_fn, ↓W1_val, CV_func, ↓W1_builtin, bi_lenStr, bi_lenSl, bi_append, len1i, len0i, len_str, len_nil, len_lst, len_sl, bin_gtr, bin_lss, bin_leq, bin_geq, bin_eql, bin_neq, bin_eqls, bin_neqs, bin_add, bin_sub, ↓W_cond, ↓W_ret, ↓W_skip, ↓W_exit, ↓ev_t, ↓ev_c, ↓ev_f, ↓evo_s, ↓evo_n, List.map_cons, List.map_nil, ↓gp_eq, ↓gp_ne, ↓gp_none, ↓len_put, ↓andThen_normal, ↓andThen_ret, ↓andThen_exit, Nat.reduceBEq, Nat.reduceLT, decide_true, decide_false, Res_some, Res_none, Res_pure, Res_pure_none, Pick_true, Pick_false, ↓Fin0, ↓Fin1, ↓Fin2, ↓Fin0n, ↓FinV1, ↓FinX1, ↓FinX2, ↓FinV2, reduceCtorEq, if_true, if_false, List.cons_append, List.nil_append, List.append_nil, Option.map_some, AExit.exit.injEq, Nat.reduceEqDiff, Bool.not_true, Bool.not_false, true_and, and_true, ne_eq, not_false_eq_true, not_true_eq_false, List.getElem?_cons_zero, List.getElem?_cons_succ, Int.reduceBEq, Int.reduceBNe, Int.reduceLT, Int.reduceLE, Int.reduceGT, Int.reduceGE, Int.reduceEq, Int.reduceAdd, Int.reduceSub, Int.reduceNeg, nil_ptr, add_ptr, eq_pn, eq_nn, eq_pp, Bool.false_eq_true, hT, h0, h1, hl, c1, d1]
  · have d1 : ¬ (rules.length : Int) > 256 := by omega
    by_cases c2 : name.length > 4096
    · have d2 : (name.length : Int) > 4096 := by omega
      simp only [↓W_seq, ↓W_block, ↓W_reg, ↓W_draw, ↓WO_step, ↓WO_nil, ↓Guard_none, ↓Guard_gt, Gd_undef, Gd_tt, Gd_tf, Gd_ft, Gd_ff, ↓w_mv, ↓w_pick, Two_true, Two_false, Bnd_eq, ↓w_bin, ↓w_un, un_not, ↓w_extract, ↓w_load, ↓w_store, ↓w_slSl, ↓x_slStr, ↓x_idxStr, ↓x_field, ↓x_alloc, ↓x_mkSlice, ↓x_nilChk, idx_str0, ↓w_idxAddr, ↓w_fieldAddr, ↓w_box, ↓w_build, ↓w_lit, ↓w_mkFunc, ↓w_mkIface, ↓w_eq, ↓w_conv, ↓W1_fn, ↓W1_val, CV_func, ↓W1_builtin, bi_lenStr, bi_lenSl, bi_append, len1i, len0i, len_str, len_nil, len_lst, len_sl, bin_gtr, bin_lss, bin_leq, bin_geq, bin_eql, bin_neq, bin_eqls, bin_neqs, bin_add, bin_sub, ↓W_cond, ↓W_ret, ↓W_skip, ↓W_exit, ↓ev_t, ↓ev_c, ↓ev_f, ↓evo_s, ↓evo_n, List.map_cons, List.map_nil, ↓gp_eq, ↓gp_ne, ↓gp_none, ↓len_put, ↓andThen_normal, ↓andThen_ret, ↓andThen_exit, Nat.reduceBEq, Nat.reduceLT, decide_true, decide_false, Res_some, Res_none, Res_pure, Res_pure_none, Pick_true, Pick_false, ↓Fin0, ↓Fin1, ↓Fin2, ↓Fin0n, ↓FinV1, ↓FinX1, ↓FinX2, ↓FinV2, reduceCtorEq, if_true, if_false, List.cons_append, List.nil_append, List.append_nil, Option.map_some, AExit.exit.injEq, Nat.reduceEqDiff, Bool.not_true, Bool.not_false, true_and, and_true, ne_eq, not_false_eq_true, not_true_eq_false, List.getElem?_cons_zero, List.getElem?_cons_succ, Int.reduceBEq, Int.reduceBNe, Int.reduceLT, Int.reduceLE, Int.reduceGT, Int.reduceGE, Int.reduceEq, Int.reduceAdd, Int.reduceSub, Int.reduceNeg, nil_ptr, add_ptr, eq_pn, eq_nn, eq_pp, Bool.false_eq_true, hT, h0, h1, hl, c1, d1, c2, d2]
    · have d2 : ¬ (name.length : Int) > 4096 := by omega
      simp only [↓W_seq, ↓W_block, ↓W_reg, ↓W_draw, ↓WO_step, ↓WO_nil, ↓Guard_none, ↓Guard_gt, Gd_undef, Gd_tt, Gd_tf, Gd_ft, Gd_ff, ↓w_mv, ↓w_pick, Two_true, Two_false, Bnd_eq, ↓w_bin, ↓w_un, un_not, ↓w_extract, ↓w_load, ↓w_store, ↓w_slSl, ↓x_slStr, ↓x_idxStr, ↓x_field, ↓x_alloc, ↓x_mkSlice, ↓x_nilChk, idx_str0, ↓w_idxAddr, ↓w_fieldAddr, ↓w_box, ↓w_build, ↓w_lit, ↓w_mkFunc, ↓w_mkIface, ↓w_eq, ↓w_conv, ↓W1_fn, ↓W1_val, CV_func, ↓W1_builtin, bi_lenStr, bi_lenSl, bi_append, len1i, len0i, len_str, len_nil, len_lst, len_sl, bin_gtr, bin_lss, bin_leq, bin_geq, bin_eql, bin_neq, bin_eqls, bin_neqs, bin_add, bin_sub, ↓W_cond, ↓W_ret, ↓W_skip, ↓W_exit, ↓ev_t, ↓ev_c, ↓ev_f, ↓evo_s, ↓evo_n, List.map_cons, List.map_nil, ↓gp_eq, ↓gp_ne, ↓gp_none, ↓len_put, ↓andThen_normal, ↓andThen_ret, ↓andThen_exit, Nat.reduceBEq, Nat.reduceLT, decide_true, decide_false, Res_some, Res_none, Res_pure, Res_pure_none, Pick_true, Pick_false, ↓Fin0, ↓Fin1, ↓Fin2, ↓Fin0n, ↓FinV1, ↓FinX1, ↓FinX2, ↓FinV2, reduceCtorEq, if_true, if_false, List.cons_append, List.nil_append, List.append_nil, Option.map_some, AExit.exit.injEq, Nat.reduceEqDiff, Bool.not_true, Bool.not_false, true_and, and_true, ne_eq, not_false_eq_true, not_true_eq_false, List.getElem?_cons_zero, List.getElem?_cons_succ, Int.reduceBEq, Int.reduceBNe, Int.reduceLT, Int.reduceLE, Int.reduceGT, Int.reduceGE, Int.reduceEq, Int.reduceAdd, Int.reduceSub, Int.reduceNeg, nil_ptr, add_ptr, eq_pn, eq_nn, eq_pp, Bool.false_eq_true, hT, h0, h1, hl, c1, d1, c2, d2]

theorem txts_len (l : List (List UInt8)) : (txts l).length = l.length := by simp [txts]

theorem freezeL_txts (H : AHeap) : ∀ (l : List (List UInt8)) (k : Nat), l.length < k → freezeL H k (txts l) = some (txts l)
  | [], 0, h => by simp at h
  | [], k + 1, _ => rfl
  | a :: l, 0, h => by simp at h
  | a :: l, 1, h => by simp at h
  | a :: l, k + 2, h => by
    have ih := freezeL_txts H l (k + 1) (by simpa using h)
    simp only [txts, List.map_cons] at ih ⊢
    simp only [freezeL, freeze, ih]
end Go.AE.Fns
namespace Go.AE.Fns
open Go Go.AE Env
set_option maxRecDepth 100000

theorem hasPrefix_ans (s p : List UInt8) (H : AHeap) : E.Ans 151 [.str s, .str p] H (.bool (p.isPrefixOf s)) H := by
  refine Ans2 (F := F151) (by kernel_rfl) rfl (by decide) fun T hT h0 h1 => ?_
  by_cases c : p.length ≤ s.length
  · have d1 : (s.length : Int) ≥ p.length := by omega
    have e1 : ∀ H, fSlStr (.str s) none (some (.int .i64 p.length)) H = some (.str (s.take p.length), H, .p) := fun H => sl_to (by omega)
    have e2 : p.isPrefixOf s = (s.take p.length == p) := by
      rw [Bool.eq_iff_iff]
      simp only [List.isPrefixOf_iff_prefix, beq_iff_eq, List.prefix_iff_eq_take]
      exact eq_comm
    simp only [↓W_seq, ↓W_block, ↓W_reg, ↓W_draw, ↓WO_step, ↓WO_nil, ↓Guard_none, ↓Guard_gt, Gd_undef, Gd_tt, Gd_tf, Gd_ft, Gd_ff, ↓w_mv, ↓w_pick, Two_true, Two_false, Bnd_eq, ↓w_bin, ↓w_un, un_not, ↓w_extract, ↓w_load, ↓w_store, ↓w_slSl, ↓x_slStr, ↓x_idxStr, ↓x_field, ↓x_alloc, ↓x_mkSlice, ↓x_nilChk, idx_str0, ↓w_idxAddr, ↓w_fieldAddr, ↓w_box, ↓w_build, ↓w_lit, ↓w_mkFunc, ↓w_mkIface, ↓w_eq, ↓w_conv, ↓W1_fn, ↓W1_val, CV_func, ↓W1_builtin, bi_lenStr, bi_lenSl, bi_append, len1i, len0i, len_str, len_nil, len_lst, len_sl, bin_gtr, bin_lss, bin_leq, bin_geq, bin_eql, bin_neq, bin_eqls, bin_neqs, bin_add, bin_sub, ↓W_cond, ↓W_ret, ↓W_skip, ↓W_exit, ↓ev_t, ↓ev_c, ↓ev_f, ↓evo_s, ↓evo_n, List.map_cons, List.map_nil, ↓gp_eq, ↓gp_ne, ↓gp_none, ↓len_put, ↓andThen_normal, ↓andThen_ret, ↓andThen_exit, Nat.reduceBEq, Nat.reduceLT, decide_true, decide_false, Res_some, Res_none, Res_pure, Res_pure_none, Pick_true, Pick_false, ↓Fin0, ↓Fin1, ↓Fin2, ↓Fin0n, ↓FinV1, ↓FinX1, ↓FinX2, ↓FinV2, reduceCtorEq, if_true, if_false, List.cons_append, List.nil_append, List.append_nil, Option.map_some, AExit.exit.injEq, Nat.reduceEqDiff, Bool.not_true, Bool.not_false, true_and, and_true, ne_eq, not_false_eq_true, not_true_eq_false, List.getElem?_cons_zero, List.getElem?_cons_succ, Int.reduceBEq, Int.reduceBNe, Int.reduceLT, Int.reduceLE, Int.reduceGT, Int.reduceGE, Int.reduceEq, Int.reduceAdd, Int.reduceSub, Int.reduceNeg, nil_ptr, add_ptr, eq_pn, eq_nn, eq_pp, Bool.false_eq_true, hT, h0, h1, d1, e1, e2]
  · have d1 : ¬ (s.length : Int) ≥ p.length := by omega
    have e2 : p.isPrefixOf s = false := by
      rw [Bool.eq_false_iff]
      intro h
      rw [List.isPrefixOf_iff_prefix] at h
      exact c h.length_le
    simp only [↓W_seq, ↓W_block, ↓W_reg, ↓W_draw, ↓WO_step, ↓WO_nil, ↓Guard_none, ↓Guard_gt, Gd_undef, Gd_tt, Gd_tf, Gd_ft, Gd_ff, ↓w_mv, ↓w_pick, Two_true, Two_false, Bnd_eq, ↓w_bin, ↓w_un, un_not, ↓w_extract, ↓w_load, ↓w_store, ↓w_slSl, ↓x_slStr, ↓x_idxStr, ↓x_field, ↓x_alloc, ↓x_mkSlice, ↓x_nilChk, idx_str0, ↓w_idxAddr, ↓w_fieldAddr, ↓w_box, ↓w_build, ↓w_lit, ↓w_mkFunc, ↓w_mkIface, ↓w_eq, ↓w_conv, ↓W1_fn, ↓W1_val, CV_func, ↓W1_builtin, bi_lenStr, bi_lenSl, bi_append, len1i, len0i, len_str, len_nil, len_lst, len_sl, bin_gtr, bin_lss, bin_leq, bin_geq, bin_eql, bin_neq, bin_eqls, bin_neqs, bin_add, bin_sub, ↓W_cond, ↓W_ret, ↓W_skip, ↓W_exit, ↓ev_t, ↓ev_c, ↓ev_f, ↓evo_s, ↓evo_n, List.map_cons, List.map_nil, ↓gp_eq, ↓gp_ne, ↓gp_none, ↓len_put, ↓andThen_normal, ↓andThen_ret, ↓andThen_exit, Nat.reduceBEq, Nat.reduceLT, decide_true, decide_false, Res_some, Res_none, Res_pure, Res_pure_none, Pick_true, Pick_false, ↓Fin0, ↓Fin1, ↓Fin2, ↓Fin0n, ↓FinV1, ↓FinX1, ↓FinX2, ↓FinV2, reduceCtorEq, if_true, if_false, List.cons_append, List.nil_append, List.append_nil, Option.map_some, AExit.exit.injEq, Nat.reduceEqDiff, Bool.not_true, Bool.not_false, true_and, and_true, ne_eq, not_false_eq_true, not_true_eq_false, List.getElem?_cons_zero, List.getElem?_cons_succ, Int.reduceBEq, Int.reduceBNe, Int.reduceLT, Int.reduceLE, Int.reduceGT, Int.reduceGE, Int.reduceEq, Int.reduceAdd, Int.reduceSub, Int.reduceNeg, nil_ptr, add_ptr, eq_pn, eq_nn, eq_pp, Bool.false_eq_true, hT, h0, h1, d1, e2]

theorem hasPrefix_c (s p : List UInt8) (H : AHeap) (K : AV → AHeap → Kd → Prop) : E.C 151 [.str s, .str p] H K ↔ K (.bool (p.isPrefixOf s)) H .p :=
  C_val (hasPrefix_ans s p []) rfl (by kernel_rfl) rfl


theorem cutPrefix0_ans (s p : List UInt8) (H : AHeap) : E.Ans 149 [.str s, .str p] H (.tuple [.str (cutPre p s), .bool (p.isPrefixOf s)]) H := by
  refine Ans2 (F := F149) (by kernel_rfl) rfl (by decide) fun T hT h0 h1 => ?_
  have hp := hasPrefix_c s p
  cases c : p.isPrefixOf s
  · simp only [↓W_seq, ↓W_block, ↓W_reg, ↓W_draw, ↓WO_step, ↓WO_nil, ↓Guard_none, ↓Guard_gt, Gd_undef, Gd_tt, Gd_tf, Gd_ft, Gd_ff, ↓w_mv, ↓w_pick, Two_true, Two_false, Bnd_eq, ↓w_bin, ↓w_un, un_not, ↓w_extract, ↓w_load, ↓w_store, ↓w_slSl, ↓x_slStr, ↓x_idxStr, ↓x_field, ↓x_alloc, ↓x_mkSlice, ↓x_nilChk, idx_str0, ↓w_idxAddr, ↓w_fieldAddr, ↓w_box, ↓w_build, ↓w_lit, ↓w_mkFunc, ↓w_mkIface, ↓w_eq, ↓w_conv, ↓W1_fn, ↓W1_val, CV_func, ↓W1_builtin, bi_lenStr, bi_lenSl, bi_append, len1i, len0i, len_str, len_nil, len_lst, len_sl, bin_gtr, bin_lss, bin_leq, bin_geq, bin_eql, bin_neq, bin_eqls, bin_neqs, bin_add, bin_sub, ↓W_cond, ↓W_ret, ↓W_skip, ↓W_exit, ↓ev_t, ↓ev_c, ↓ev_f, ↓evo_s, ↓evo_n, List.map_cons, List.map_nil, ↓gp_eq, ↓gp_ne, ↓gp_none, ↓len_put, ↓andThen_normal, ↓andThen_ret, ↓andThen_exit, Nat.reduceBEq, Nat.reduceLT, decide_true, decide_false, Res_some, Res_none, Res_pure, Res_pure_none, Pick_true, Pick_false, ↓Fin0, ↓Fin1, ↓Fin2, ↓Fin0n, ↓FinV1, ↓FinX1, ↓FinX2, ↓FinV2, reduceCtorEq, if_true, if_false, List.cons_append, List.nil_append, List.append_nil, Option.map_some, AExit.exit.injEq, Nat.reduceEqDiff, Bool.not_true, Bool.not_false, true_and, and_true, ne_eq, not_false_eq_true, not_true_eq_false, List.getElem?_cons_zero, List.getElem?_cons_succ, Int.reduceBEq, Int.reduceBNe, Int.reduceLT, Int.reduceLE, Int.reduceGT, Int.reduceGE, Int.reduceEq, Int.reduceAdd, Int.reduceSub, Int.reduceNeg, nil_ptr, add_ptr, eq_pn, eq_nn, eq_pp, Bool.false_eq_true, hT, h0, h1, hp, c, cutPre, Bool.false_eq_true]
  · have hl : p.length ≤ s.length := (List.isPrefixOf_iff_prefix.1 c).length_le
    have e1 : ∀ H, fSlStr (.str s) (some (.int .i64 p.length)) none H = some (.str (s.drop p.length), H, .p) := fun H => sl_from (by omega)
    simp only [↓W_seq, ↓W_block, ↓W_reg, ↓W_draw, ↓WO_step, ↓WO_nil, ↓Guard_none, ↓Guard_gt, Gd_undef, Gd_tt, Gd_tf, Gd_ft, Gd_ff, ↓w_mv, ↓w_pick, Two_true, Two_false, Bnd_eq, ↓w_bin, ↓w_un, un_not, ↓w_extract, ↓w_load, ↓w_store, ↓w_slSl, ↓x_slStr, ↓x_idxStr, ↓x_field, ↓x_alloc, ↓x_mkSlice, ↓x_nilChk, idx_str0, ↓w_idxAddr, ↓w_fieldAddr, ↓w_box, ↓w_build, ↓w_lit, ↓w_mkFunc, ↓w_mkIface, ↓w_eq, ↓w_conv, ↓W1_fn, ↓W1_val, CV_func, ↓W1_builtin, bi_lenStr, bi_lenSl, bi_append, len1i, len0i, len_str, len_nil, len_lst, len_sl, bin_gtr, bin_lss, bin_leq, bin_geq, bin_eql, bin_neq, bin_eqls, bin_neqs, bin_add, bin_sub, ↓W_cond, ↓W_ret, ↓W_skip, ↓W_exit, ↓ev_t, ↓ev_c, ↓ev_f, ↓evo_s, ↓evo_n, List.map_cons, List.map_nil, ↓gp_eq, ↓gp_ne, ↓gp_none, ↓len_put, ↓andThen_normal, ↓andThen_ret, ↓andThen_exit, Nat.reduceBEq, Nat.reduceLT, decide_true, decide_false, Res_some, Res_none, Res_pure, Res_pure_none, Pick_true, Pick_false, ↓Fin0, ↓Fin1, ↓Fin2, ↓Fin0n, ↓FinV1, ↓FinX1, ↓FinX2, ↓FinV2, reduceCtorEq, if_true, if_false, List.cons_append, List.nil_append, List.append_nil, Option.map_some, AExit.exit.injEq, Nat.reduceEqDiff, Bool.not_true, Bool.not_false, true_and, and_true, ne_eq, not_false_eq_true, not_true_eq_false, List.getElem?_cons_zero, List.getElem?_cons_succ, Int.reduceBEq, Int.reduceBNe, Int.reduceLT, Int.reduceLE, Int.reduceGT, Int.reduceGE, Int.reduceEq, Int.reduceAdd, Int.reduceSub, Int.reduceNeg, nil_ptr, add_ptr, eq_pn, eq_nn, eq_pp, Bool.false_eq_true, hT, h0, h1, hp, c, cutPre, e1]

theorem cutPrefix0_c (s p : List UInt8) (H : AHeap) (K : AV → AHeap → Kd → Prop) : E.C 149 [.str s, .str p] H K ↔ K (.tuple [.str (cutPre p s), .bool (p.isPrefixOf s)]) H .p :=
  C_val (cutPrefix0_ans s p []) rfl (by kernel_rfl) rfl

theorem cutPrefix_ans (s p : List UInt8) (H : AHeap) : E.Ans 183 [.str s, .str p] H (.tuple [.str (cutPre p s), .bool (p.isPrefixOf s)]) H := by
  refine Ans2 (F := F183) (by kernel_rfl) rfl (by decide) fun T hT h0 h1 => ?_
  have hp := cutPrefix0_c s p
  simp only [↓W_seq, ↓W_block, ↓W_reg, ↓W_draw, ↓WO_step, ↓WO_nil, ↓Guard_none, ↓Guard_gt, Gd_undef, Gd_tt, Gd_tf, Gd_ft, Gd_ff, ↓w_mv, ↓w_pick, Two_true, Two_false, Bnd_eq, ↓w_bin, ↓w_un, un_not, ↓w_extract, ↓w_load, ↓w_store, ↓w_slSl, ↓x_slStr, ↓x_idxStr, ↓x_field, ↓x_alloc, ↓x_mkSlice, ↓x_nilChk, idx_str0, ↓w_idxAddr, ↓w_fieldAddr, ↓w_box, ↓w_build, ↓w_lit, ↓w_mkFunc, ↓w_mkIface, ↓w_eq, ↓w_conv, ↓W1_fn, ↓W1_val, CV_func, ↓W1_builtin, bi_lenStr, bi_lenSl, bi_append, len1i, len0i, len_str, len_nil, len_lst, len_sl, bin_gtr, bin_lss, bin_leq, bin_geq, bin_eql, bin_neq, bin_eqls, bin_neqs, bin_add, bin_sub, ↓W_cond, ↓W_ret, ↓W_skip, ↓W_exit, ↓ev_t, ↓ev_c, ↓ev_f, ↓evo_s, ↓evo_n, List.map_cons, List.map_nil, ↓gp_eq, ↓gp_ne, ↓gp_none, ↓len_put, ↓andThen_normal, ↓andThen_ret, ↓andThen_exit, Nat.reduceBEq, Nat.reduceLT, decide_true, decide_false, Res_some, Res_none, Res_pure, Res_pure_none, Pick_true, Pick_false, ↓Fin0, ↓Fin1, ↓Fin2, ↓Fin0n, ↓FinV1, ↓FinX1, ↓FinX2, ↓FinV2, reduceCtorEq, if_true, if_false, List.cons_append, List.nil_append, List.append_nil, Option.map_some, AExit.exit.injEq, Nat.reduceEqDiff, Bool.not_true, Bool.not_false, true_and, and_true, ne_eq, not_false_eq_true, not_true_eq_false, List.getElem?_cons_zero, List.getElem?_cons_succ, Int.reduceBEq, Int.reduceBNe, Int.reduceLT, Int.reduceLE, Int.reduceGT, Int.reduceGE, Int.reduceEq, Int.reduceAdd, Int.reduceSub, Int.reduceNeg, nil_ptr, add_ptr, eq_pn, eq_nn, eq_pp, Bool.false_eq_true, hT, h0, h1, hp]

theorem cutPrefix_c (s p : List UInt8) (H : AHeap) (K : AV → AHeap → Kd → Prop) : E.C 183 [.str s, .str p] H K ↔ K (.tuple [.str (cutPre p s), .bool (p.isPrefixOf s)]) H .p :=
  C_val (cutPrefix_ans s p []) rfl (by kernel_rfl) rfl

theorem u8_back (c : UInt8) : ((c.toNat : Int)).toNat.toUInt8 = c := by simp

theorem indexByte_c (s : List UInt8) (c : UInt8) (H : AHeap) (K : AV → AHeap → Kd → Prop) : E.C 141 [.str s, .int .u8 c.toNat] H K ↔ K (i64 (idxB c s)) H .p :=
  C_val (v := i64 (idxB c s)) (Hc := []) (Ans_ext (e := .indexByteString) (by kernel_rfl) (by simp [extA, idxB, i64]; rfl)) rfl (by kernel_rfl) rfl

theorem indexByte1_ans (s : List UInt8) (c : UInt8) (H : AHeap) : E.Ans 154 [.str s, .int .u8 c.toNat] H (i64 (idxB c s)) H := by
  refine Ans2 (F := F154) (by kernel_rfl) rfl (by decide) fun T hT h0 h1 => ?_
  have hp := indexByte_c s c
  simp only [↓W_seq, ↓W_block, ↓W_reg, ↓W_draw, ↓WO_step, ↓WO_nil, ↓Guard_none, ↓Guard_gt, Gd_undef, Gd_tt, Gd_tf, Gd_ft, Gd_ff, ↓w_mv, ↓w_pick, Two_true, Two_false, Bnd_eq, ↓w_bin, ↓w_un, un_not, ↓w_extract, ↓w_load, ↓w_store, ↓w_slSl, ↓x_slStr, ↓x_idxStr, ↓x_field, ↓x_alloc, ↓x_mkSlice, ↓x_nilChk, idx_str0, ↓w_idxAddr, ↓w_fieldAddr, ↓w_box, ↓w_build, ↓w_lit, ↓w_mkFunc, ↓w_mkIface, ↓w_eq, ↓w_conv, ↓W1_fn, ↓W1_val, CV_func, ↓W1_builtin, bi_lenStr, bi_lenSl, bi_append, len1i, len0i, len_str, len_nil, len_lst, len_sl, bin_gtr, bin_lss, bin_leq, bin_geq, bin_eql, bin_neq, bin_eqls, bin_neqs, bin_add, bin_sub, ↓W_cond, ↓W_ret, ↓W_skip, ↓W_exit, ↓ev_t, ↓ev_c, ↓ev_f, ↓evo_s, ↓evo_n, List.map_cons, List.map_nil, ↓gp_eq, ↓gp_ne, ↓gp_none, ↓len_put, ↓andThen_normal, ↓andThen_ret, ↓andThen_exit, Nat.reduceBEq, Nat.reduceLT, decide_true, decide_false, Res_some, Res_none, Res_pure, Res_pure_none, Pick_true, Pick_false, ↓Fin0, ↓Fin1, ↓Fin2, ↓Fin0n, ↓FinV1, ↓FinX1, ↓FinX2, ↓FinV2, reduceCtorEq, if_true, if_false, List.cons_append, List.nil_append, List.append_nil, Option.map_some, AExit.exit.injEq, Nat.reduceEqDiff, Bool.not_true, Bool.not_false, true_and, and_true, ne_eq, not_false_eq_true, not_true_eq_false, List.getElem?_cons_zero, List.getElem?_cons_succ, Int.reduceBEq, Int.reduceBNe, Int.reduceLT, Int.reduceLE, Int.reduceGT, Int.reduceGE, Int.reduceEq, Int.reduceAdd, Int.reduceSub, Int.reduceNeg, nil_ptr, add_ptr, eq_pn, eq_nn, eq_pp, Bool.false_eq_true, hT, h0, h1, hp]
theorem indexByte1_c (s : List UInt8) (c : UInt8) (H : AHeap) (K : AV → AHeap → Kd → Prop) : E.C 154 [.str s, .int .u8 c.toNat] H K ↔ K (i64 (idxB c s)) H .p :=
  C_val (indexByte1_ans s c []) rfl (by kernel_rfl) rfl

theorem idxB_one (c : UInt8) : idxB c [c] = 0 := by simp [idxB]

theorem index0_ans (s : List UInt8) (c : UInt8) (H : AHeap) : E.Ans 153 [.str s, .str [c]] H (i64 (idxB c s)) H := by
  refine Ans2 (F := F153) (by kernel_rfl) rfl (by decide) fun T hT h0 h1 => ?_
  have hp := indexByte1_c s c
  by_cases e : [c] = s
  · have e1 : ([c] == s) = true := by simpa using e
    subst e
    simp only [↓W_seq, ↓W_block, ↓W_reg, ↓W_draw, ↓WO_step, ↓WO_nil, ↓Guard_none, ↓Guard_gt, Gd_undef, Gd_tt, Gd_tf, Gd_ft, Gd_ff, ↓w_mv, ↓w_pick, Two_true, Two_false, Bnd_eq, ↓w_bin, ↓w_un, un_not, ↓w_extract, ↓w_load, ↓w_store, ↓w_slSl, ↓x_slStr, ↓x_idxStr, ↓x_field, ↓x_alloc, ↓x_mkSlice, ↓x_nilChk, idx_str0, ↓w_idxAddr, ↓w_fieldAddr, ↓w_box, ↓w_build, ↓w_lit, ↓w_mkFunc, ↓w_mkIface, ↓w_eq, ↓w_conv, ↓W1_fn, ↓W1_val, CV_func, ↓W1_builtin, bi_lenStr, bi_lenSl, bi_append, len1i, len0i, len_str, len_nil, len_lst, len_sl, bin_gtr, bin_lss, bin_leq, bin_geq, bin_eql, bin_neq, bin_eqls, bin_neqs, bin_add, bin_sub, ↓W_cond, ↓W_ret, ↓W_skip, ↓W_exit, ↓ev_t, ↓ev_c, ↓ev_f, ↓evo_s, ↓evo_n, List.map_cons, List.map_nil, ↓gp_eq, ↓gp_ne, ↓gp_none, ↓len_put, ↓andThen_normal, ↓andThen_ret, ↓andThen_exit, Nat.reduceBEq, Nat.reduceLT, decide_true, decide_false, Res_some, Res_none, Res_pure, Res_pure_none, Pick_true, Pick_false, ↓Fin0, ↓Fin1, ↓Fin2, ↓Fin0n, ↓FinV1, ↓FinX1, ↓FinX2, ↓FinV2, reduceCtorEq, if_true, if_false, List.cons_append, List.nil_append, List.append_nil, Option.map_some, AExit.exit.injEq, Nat.reduceEqDiff, Bool.not_true, Bool.not_false, true_and, and_true, ne_eq, not_false_eq_true, not_true_eq_false, List.getElem?_cons_zero, List.getElem?_cons_succ, Int.reduceBEq, Int.reduceBNe, Int.reduceLT, Int.reduceLE, Int.reduceGT, Int.reduceGE, Int.reduceEq, Int.reduceAdd, Int.reduceSub, Int.reduceNeg, nil_ptr, add_ptr, eq_pn, eq_nn, eq_pp, Bool.false_eq_true, hT, h0, h1, hp, e1, idxB_one]
  · have e1 : ([c] == s) = false := by simpa using e
    simp only [↓W_seq, ↓W_block, ↓W_reg, ↓W_draw, ↓WO_step, ↓WO_nil, ↓Guard_none, ↓Guard_gt, Gd_undef, Gd_tt, Gd_tf, Gd_ft, Gd_ff, ↓w_mv, ↓w_pick, Two_true, Two_false, Bnd_eq, ↓w_bin, ↓w_un, un_not, ↓w_extract, ↓w_load, ↓w_store, ↓w_slSl, ↓x_slStr, ↓x_idxStr, ↓x_field, ↓x_alloc, ↓x_mkSlice, ↓x_nilChk, idx_str0, ↓w_idxAddr, ↓w_fieldAddr, ↓w_box, ↓w_build, ↓w_lit, ↓w_mkFunc, ↓w_mkIface, ↓w_eq, ↓w_conv, ↓W1_fn, ↓W1_val, CV_func, ↓W1_builtin, bi_lenStr, bi_lenSl, bi_append, len1i, len0i, len_str, len_nil, len_lst, len_sl, bin_gtr, bin_lss, bin_leq, bin_geq, bin_eql, bin_neq, bin_eqls, bin_neqs, bin_add, bin_sub, ↓W_cond, ↓W_ret, ↓W_skip, ↓W_exit, ↓ev_t, ↓ev_c, ↓ev_f, ↓evo_s, ↓evo_n, List.map_cons, List.map_nil, ↓gp_eq, ↓gp_ne, ↓gp_none, ↓len_put, ↓andThen_normal, ↓andThen_ret, ↓andThen_exit, Nat.reduceBEq, Nat.reduceLT, decide_true, decide_false, Res_some, Res_none, Res_pure, Res_pure_none, Pick_true, Pick_false, ↓Fin0, ↓Fin1, ↓Fin2, ↓Fin0n, ↓FinV1, ↓FinX1, ↓FinX2, ↓FinV2, reduceCtorEq, if_true, if_false, List.cons_append, List.nil_append, List.append_nil, Option.map_some, AExit.exit.injEq, Nat.reduceEqDiff, Bool.not_true, Bool.not_false, true_and, and_true, ne_eq, not_false_eq_true, not_true_eq_false, List.getElem?_cons_zero, List.getElem?_cons_succ, Int.reduceBEq, Int.reduceBNe, Int.reduceLT, Int.reduceLE, Int.reduceGT, Int.reduceGE, Int.reduceEq, Int.reduceAdd, Int.reduceSub, Int.reduceNeg, nil_ptr, add_ptr, eq_pn, eq_nn, eq_pp, Bool.false_eq_true, hT, h0, h1, hp, e1]
end Go.AE.Fns
namespace Go.AE.Fns
open Go Go.AE Env
set_option maxRecDepth 100000

theorem index0_c (s : List UInt8) (c : UInt8) (H : AHeap) (K : AV → AHeap → Kd → Prop) : E.C 153 [.str s, .str [c]] H K ↔ K (i64 (idxB c s)) H .p :=
  C_val (index0_ans s c []) rfl (by kernel_rfl) rfl
theorem index_ans (s : List UInt8) (c : UInt8) (H : AHeap) : E.Ans 187 [.str s, .str [c]] H (i64 (idxB c s)) H := by
  refine Ans2 (F := F187) (by kernel_rfl) rfl (by decide) fun T hT h0 h1 => ?_
  have hp := index0_c s c
  simp only [↓W_seq, ↓W_block, ↓W_reg, ↓W_draw, ↓WO_step, ↓WO_nil, ↓Guard_none, ↓Guard_gt, Gd_undef, Gd_tt, Gd_tf, Gd_ft, Gd_ff, ↓w_mv, ↓w_pick, Two_true, Two_false, Bnd_eq, ↓w_bin, ↓w_un, un_not, ↓w_extract, ↓w_load, ↓w_store, ↓w_slSl, ↓x_slStr, ↓x_idxStr, ↓x_field, ↓x_alloc, ↓x_mkSlice, ↓x_nilChk, idx_str0, ↓w_idxAddr, ↓w_fieldAddr, ↓w_box, ↓w_build, ↓w_lit, ↓w_mkFunc, ↓w_mkIface, ↓w_eq, ↓w_conv, ↓W1_fn, ↓W1_val, CV_func, ↓W1_builtin, bi_lenStr, bi_lenSl, bi_append, len1i, len0i, len_str, len_nil, len_lst, len_sl, bin_gtr, bin_lss, bin_leq, bin_geq, bin_eql, bin_neq, bin_eqls, bin_neqs, bin_add, bin_sub, ↓W_cond, ↓W_ret, ↓W_skip, ↓W_exit, ↓ev_t, ↓ev_c, ↓ev_f, ↓evo_s, ↓evo_n, List.map_cons, List.map_nil, ↓gp_eq, ↓gp_ne, ↓gp_none, ↓len_put, ↓andThen_normal, ↓andThen_ret, ↓andThen_exit, Nat.reduceBEq, Nat.reduceLT, decide_true, decide_false, Res_some, Res_none, Res_pure, Res_pure_none, Pick_true, Pick_false, ↓Fin0, ↓Fin1, ↓Fin2, ↓Fin0n, ↓FinV1, ↓FinX1, ↓FinX2, ↓FinV2, reduceCtorEq, if_true, if_false, List.cons_append, List.nil_append, List.append_nil, Option.map_some, AExit.exit.injEq, Nat.reduceEqDiff, Bool.not_true, Bool.not_false, true_and, and_true, ne_eq, not_false_eq_true, not_true_eq_false, List.getElem?_cons_zero, List.getElem?_cons_succ, Int.reduceBEq, Int.reduceBNe, Int.reduceLT, Int.reduceLE, Int.reduceGT, Int.reduceGE, Int.reduceEq, Int.reduceAdd, Int.reduceSub, Int.reduceNeg, nil_ptr, add_ptr, eq_pn, eq_nn, eq_pp, Bool.false_eq_true, hT, h0, h1, hp]
theorem index_c (s : List UInt8) (c : UInt8) (H : AHeap) (K : AV → AHeap → Kd → Prop) : E.C 187 [.str s, .str [c]] H K ↔ K (i64 (idxB c s)) H .p :=
  C_val (index_ans s c []) rfl (by kernel_rfl) rfl

theorem countString_c (s : List UInt8) (c : UInt8) (H : AHeap) (K : AV → AHeap → Kd → Prop) : E.C 140 [.str s, .int .u8 c.toNat] H K ↔ K (i64 (countB c s)) H .p :=
  C_val (v := i64 (countB c s)) (Hc := []) (Ans_ext (e := .countString) (by kernel_rfl) (by simp [extA, countB, i64])) rfl (by kernel_rfl) rfl
theorem count_ans (s : List UInt8) (c : UInt8) (H : AHeap) : E.Ans 181 [.str s, .str [c]] H (i64 (countB c s)) H := by
  refine Ans2 (F := F181) (by kernel_rfl) rfl (by decide) fun T hT h0 h1 => ?_
  have hp := countString_c s c
  simp only [↓W_seq, ↓W_block, ↓W_reg, ↓W_draw, ↓WO_step, ↓WO_nil, ↓Guard_none, ↓Guard_gt, Gd_undef, Gd_tt, Gd_tf, Gd_ft, Gd_ff, ↓w_mv, ↓w_pick, Two_true, Two_false, Bnd_eq, ↓w_bin, ↓w_un, un_not, ↓w_extract, ↓w_load, ↓w_store, ↓w_slSl, ↓x_slStr, ↓x_idxStr, ↓x_field, ↓x_alloc, ↓x_mkSlice, ↓x_nilChk, idx_str0, ↓w_idxAddr, ↓w_fieldAddr, ↓w_box, ↓w_build, ↓w_lit, ↓w_mkFunc, ↓w_mkIface, ↓w_eq, ↓w_conv, ↓W1_fn, ↓W1_val, CV_func, ↓W1_builtin, bi_lenStr, bi_lenSl, bi_append, len1i, len0i, len_str, len_nil, len_lst, len_sl, bin_gtr, bin_lss, bin_leq, bin_geq, bin_eql, bin_neq, bin_eqls, bin_neqs, bin_add, bin_sub, ↓W_cond, ↓W_ret, ↓W_skip, ↓W_exit, ↓ev_t, ↓ev_c, ↓ev_f, ↓evo_s, ↓evo_n, List.map_cons, List.map_nil, ↓gp_eq, ↓gp_ne, ↓gp_none, ↓len_put, ↓andThen_normal, ↓andThen_ret, ↓andThen_exit, Nat.reduceBEq, Nat.reduceLT, decide_true, decide_false, Res_some, Res_none, Res_pure, Res_pure_none, Pick_true, Pick_false, ↓Fin0, ↓Fin1, ↓Fin2, ↓Fin0n, ↓FinV1, ↓FinX1, ↓FinX2, ↓FinV2, reduceCtorEq, if_true, if_false, List.cons_append, List.nil_append, List.append_nil, Option.map_some, AExit.exit.injEq, Nat.reduceEqDiff, Bool.not_true, Bool.not_false, true_and, and_true, ne_eq, not_false_eq_true, not_true_eq_false, List.getElem?_cons_zero, List.getElem?_cons_succ, Int.reduceBEq, Int.reduceBNe, Int.reduceLT, Int.reduceLE, Int.reduceGT, Int.reduceGE, Int.reduceEq, Int.reduceAdd, Int.reduceSub, Int.reduceNeg, nil_ptr, add_ptr, eq_pn, eq_nn, eq_pp, Bool.false_eq_true, hT, h0, h1, hp]
theorem count_c (s : List UInt8) (c : UInt8) (H : AHeap) (K : AV → AHeap → Kd → Prop) : E.C 181 [.str s, .str [c]] H K ↔ K (i64 (countB c s)) H .p :=
  C_val (count_ans s c []) rfl (by kernel_rfl) rfl

/-- the loop: the pieces so far, what is left -/
theorem genSplit_loop (c : UInt8) (n : Nat) (hn : n ≤ 2 ^ 30) (Q : AExit → Tmps → AHeap → Prop) : ∀ (k : Nat) (pieces : List (List UInt8)) (s : List UInt8) (T : Tmps) (cs : List AV),
    countB c s = k → pieces.length + k + 1 = n → cs.length = n → cs.take pieces.length = txts pieces → s.length ≤ 2 ^ 30 →
    T.length = 66 → gt T 0 = .str s → gt T 1 = .str [c] → gt T 2 = i64 0 → gt T 3 = i64 (n - 1 : Nat) → gt T 9 = .sl 0 0 n 1 n (some n) → gt T 10 = i64 pieces.length →
    (∀ (T' : Tmps) (cs' : List AV) (init : List (List UInt8)) (last : List UInt8), init ++ [last] = pieces ++ splitB c s → init.length + 1 = n → cs'.length = n → cs'.take init.length = txts init → T'.length = 66 → gt T' 0 = .str last → gt T' 9 = .sl 0 0 n 1 n (some n) → gt T' 10 = i64 init.length →
      Q (.exit 0) T' [.cells cs' 0 n 0]) →
    E.W (F201.loop 0) T [.cells cs 0 n 0] Q
  | 0, pieces, s, T, cs, hc, hpn, hcs, htk, hs, hT, h0, h1, h2, h3, h9, h10, hQ => by
    rw [show F201.loop 0 = .loop _ from rfl, W_loop]
    have d1 : ¬ ((pieces.length : Int) < ((n - 1 : Nat) : Int)) := by omega
    simp only [↓W_seq, ↓W_block, ↓W_reg, ↓W_draw, ↓WO_step, ↓WO_nil, ↓Guard_none, ↓Guard_gt, Gd_undef, Gd_tt, Gd_tf, Gd_ft, Gd_ff, ↓w_mv, ↓w_pick, Two_true, Two_false, Bnd_eq, ↓w_bin, ↓w_un, un_not, ↓w_extract, ↓w_load, ↓w_store, ↓w_slSl, ↓x_slStr, ↓x_idxStr, ↓x_field, ↓x_alloc, ↓x_mkSlice, ↓x_nilChk, idx_str0, ↓w_idxAddr, ↓w_fieldAddr, ↓w_box, ↓w_build, ↓w_lit, ↓w_mkFunc, ↓w_mkIface, ↓w_eq, ↓w_conv, ↓W1_fn, ↓W1_val, CV_func, ↓W1_builtin, bi_lenStr, bi_lenSl, bi_append, len1i, len0i, len_str, len_nil, len_lst, len_sl, bin_gtr, bin_lss, bin_leq, bin_geq, bin_eql, bin_neq, bin_eqls, bin_neqs, bin_add, bin_sub, ↓W_cond, ↓W_ret, ↓W_skip, ↓W_exit, ↓ev_t, ↓ev_c, ↓ev_f, ↓evo_s, ↓evo_n, List.map_cons, List.map_nil, ↓gp_eq, ↓gp_ne, ↓gp_none, ↓len_put, ↓andThen_normal, ↓andThen_ret, ↓andThen_exit, Nat.reduceBEq, Nat.reduceLT, decide_true, decide_false, Res_some, Res_none, Res_pure, Res_pure_none, Pick_true, Pick_false, ↓Fin0, ↓Fin1, ↓Fin2, ↓Fin0n, ↓FinV1, ↓FinX1, ↓FinX2, ↓FinV2, reduceCtorEq, if_true, if_false, List.cons_append, List.nil_append, List.append_nil, Option.map_some, AExit.exit.injEq, Nat.reduceEqDiff, Bool.not_true, Bool.not_false, true_and, and_true, ne_eq, not_false_eq_true, not_true_eq_false, List.getElem?_cons_zero, List.getElem?_cons_succ, Int.reduceBEq, Int.reduceBNe, Int.reduceLT, Int.reduceLE, Int.reduceGT, Int.reduceGE, Int.reduceEq, Int.reduceAdd, Int.reduceSub, Int.reduceNeg, nil_ptr, add_ptr, eq_pn, eq_nn, eq_pp, Bool.false_eq_true, hT, h0, h1, h2, h3, h9, h10, d1]
    refine hQ _ cs pieces s ?_ (by omega) hcs htk (by simp only [↓gp_eq, ↓gp_ne, ↓gp_none, ↓len_put, Nat.reduceBEq, Nat.reduceLT, decide_true, hT]) (by simp only [↓gp_eq, ↓gp_ne, ↓gp_none, ↓len_put, Nat.reduceBEq, Nat.reduceLT, decide_true, hT, h0]) (by simp only [↓gp_eq, ↓gp_ne, ↓gp_none, ↓len_put, Nat.reduceBEq, Nat.reduceLT, decide_true, hT, h9]) (by simp only [↓gp_eq, ↓gp_ne, ↓gp_none, ↓len_put, Nat.reduceBEq, Nat.reduceLT, decide_true, hT, h10])
    rw [split_none c s hc]
  | k + 1, pieces, s, T, cs, hc, hpn, hcs, htk, hs, hT, h0, h1, h2, h3, h9, h10, hQ => by
    obtain ⟨i, hi, hil, hsp, hk⟩ := split_some c s k hc
    rw [show F201.loop 0 = .loop _ from rfl, W_loop]
    have d1 : ((pieces.length : Int) < ((n - 1 : Nat) : Int)) := by omega
    have d2 : ¬ ((i : Int) < 0) := by omega
    have e1 : idxB c s = i := idxB_of hi
    have hp := index_c s c
    have w1 : IntKind.i64.wrap ((i : Int) + 0) = i := by rw [wrap64] <;> omega
    have w2 : IntKind.i64.wrap ((i : Int) + 1) = ((i + 1 : Nat) : Int) := by rw [wrap64] <;> omega
    have w3 : IntKind.i64.wrap ((pieces.length : Int) + 1) = ((pieces.length + 1 : Nat) : Int) := by rw [wrap64] <;> omega
    have s1 : ∀ H, fSlStr (.str s) none (some (.int .i64 i)) H = some (.str (s.take i), H, .p) := fun H => sl_to (by omega)
    have s2 : ∀ H, fSlStr (.str s) (some (.int .i64 ((i + 1 : Nat) : Int))) none H = some (.str (s.drop (i + 1)), H, .p) := fun H => sl_from (by omega)
    have a1 : idxAddrA 1 (.sl 0 0 n 1 n (some n)) (.int .i64 (pieces.length : Nat)) = some (.ptr 0 (0 + pieces.length) n) := idxA_sl (by omega)
    have st : storeA [.cells cs 0 n 0] 1 (.ptr 0 (0 + pieces.length) n) (.str (s.take i)) = some (undefA, [.cells (cs.set pieces.length (.str (s.take i))) 0 n 0], .w 0) := by
      rw [Nat.zero_add]
      exact store_one (H := [.cells cs 0 n 0]) (b := 0) rfl hcs.symm (by omega) rfl
    simp only [↓W_seq, ↓W_block, ↓W_reg, ↓W_draw, ↓WO_step, ↓WO_nil, ↓Guard_none, ↓Guard_gt, Gd_undef, Gd_tt, Gd_tf, Gd_ft, Gd_ff, ↓w_mv, ↓w_pick, Two_true, Two_false, Bnd_eq, ↓w_bin, ↓w_un, un_not, ↓w_extract, ↓w_load, ↓w_store, ↓w_slSl, ↓x_slStr, ↓x_idxStr, ↓x_field, ↓x_alloc, ↓x_mkSlice, ↓x_nilChk, idx_str0, ↓w_idxAddr, ↓w_fieldAddr, ↓w_box, ↓w_build, ↓w_lit, ↓w_mkFunc, ↓w_mkIface, ↓w_eq, ↓w_conv, ↓W1_fn, ↓W1_val, CV_func, ↓W1_builtin, bi_lenStr, bi_lenSl, bi_append, len1i, len0i, len_str, len_nil, len_lst, len_sl, bin_gtr, bin_lss, bin_leq, bin_geq, bin_eql, bin_neq, bin_eqls, bin_neqs, bin_add, bin_sub, ↓W_cond, ↓W_ret, ↓W_skip, ↓W_exit, ↓ev_t, ↓ev_c, ↓ev_f, ↓evo_s, ↓evo_n, List.map_cons, List.map_nil, ↓gp_eq, ↓gp_ne, ↓gp_none, ↓len_put, ↓andThen_normal, ↓andThen_ret, ↓andThen_exit, Nat.reduceBEq, Nat.reduceLT, decide_true, decide_false, Res_some, Res_none, Res_pure, Res_pure_none, Pick_true, Pick_false, ↓Fin0, ↓Fin1, ↓Fin2, ↓Fin0n, ↓FinV1, ↓FinX1, ↓FinX2, ↓FinV2, reduceCtorEq, if_true, if_false, List.cons_append, List.nil_append, List.append_nil, Option.map_some, AExit.exit.injEq, Nat.reduceEqDiff, Bool.not_true, Bool.not_false, true_and, and_true, ne_eq, not_false_eq_true, not_true_eq_false, List.getElem?_cons_zero, List.getElem?_cons_succ, Int.reduceBEq, Int.reduceBNe, Int.reduceLT, Int.reduceLE, Int.reduceGT, Int.reduceGE, Int.reduceEq, Int.reduceAdd, Int.reduceSub, Int.reduceNeg, nil_ptr, add_ptr, eq_pn, eq_nn, eq_pp, Bool.false_eq_true, hT, h0, h1, h2, h3, h9, h10, d1, hp, e1, d2, w1, w2, w3, s1, s2, a1, st]
    have hlen : (pieces ++ [s.take i]).length = pieces.length + 1 := by simp
    refine genSplit_loop c n hn Q k (pieces ++ [s.take i]) (s.drop (i + 1)) _ (cs.set pieces.length (.str (s.take i))) hk (by rw [hlen]; omega) (by simpa using hcs) ?_ (by simp; omega) (by simp only [↓gp_eq, ↓gp_ne, ↓gp_none, ↓len_put, Nat.reduceBEq, Nat.reduceLT, decide_true, hT]) (by simp only [↓gp_eq, ↓gp_ne, ↓gp_none, ↓len_put, Nat.reduceBEq, Nat.reduceLT, decide_true, hT]) (by simp only [↓gp_eq, ↓gp_ne, ↓gp_none, ↓len_put, Nat.reduceBEq, Nat.reduceLT, decide_true, hT, h1]) (by simp only [↓gp_eq, ↓gp_ne, ↓gp_none, ↓len_put, Nat.reduceBEq, Nat.reduceLT, decide_true, hT, h2]) (by simp only [↓gp_eq, ↓gp_ne, ↓gp_none, ↓len_put, Nat.reduceBEq, Nat.reduceLT, decide_true, hT, h3]) (by simp only [↓gp_eq, ↓gp_ne, ↓gp_none, ↓len_put, Nat.reduceBEq, Nat.reduceLT, decide_true, hT, h9])
      (by rw [hlen]; simp only [↓W_seq, ↓W_block, ↓W_reg, ↓W_draw, ↓WO_step, ↓WO_nil, ↓Guard_none, ↓Guard_gt, Gd_undef, Gd_tt, Gd_tf, Gd_ft, Gd_ff, ↓w_mv, ↓w_pick, Two_true, Two_false, Bnd_eq, ↓w_bin, ↓w_un, un_not, ↓w_extract, ↓w_load, ↓w_store, ↓w_slSl, ↓x_slStr, ↓x_idxStr, ↓x_field, ↓x_alloc, ↓x_mkSlice, ↓x_nilChk, idx_str0, ↓w_idxAddr, ↓w_fieldAddr, ↓w_box, ↓w_build, ↓w_lit, ↓w_mkFunc, ↓w_mkIface, ↓w_eq, ↓w_conv, ↓W1_fn, ↓W1_val, CV_func, ↓W1_builtin, bi_lenStr, bi_lenSl, bi_append, len1i, len0i, len_str, len_nil, len_lst, len_sl, bin_gtr, bin_lss, bin_leq, bin_geq, bin_eql, bin_neq, bin_eqls, bin_neqs, bin_add, bin_sub, ↓W_cond, ↓W_ret, ↓W_skip, ↓W_exit, ↓ev_t, ↓ev_c, ↓ev_f, ↓evo_s, ↓evo_n, List.map_cons, List.map_nil, ↓gp_eq, ↓gp_ne, ↓gp_none, ↓len_put, ↓andThen_normal, ↓andThen_ret, ↓andThen_exit, Nat.reduceBEq, Nat.reduceLT, decide_true, decide_false, Res_some, Res_none, Res_pure, Res_pure_none, Pick_true, Pick_false, ↓Fin0, ↓Fin1, ↓Fin2, ↓Fin0n, ↓FinV1, ↓FinX1, ↓FinX2, ↓FinV2, reduceCtorEq, if_true, if_false, List.cons_append, List.nil_append, List.append_nil, Option.map_some, AExit.exit.injEq, Nat.reduceEqDiff, Bool.not_true, Bool.not_false, true_and, and_true, ne_eq, not_false_eq_true, not_true_eq_false, List.getElem?_cons_zero, List.getElem?_cons_succ, Int.reduceBEq, Int.reduceBNe, Int.reduceLT, Int.reduceLE, Int.reduceGT, Int.reduceGE, Int.reduceEq, Int.reduceAdd, Int.reduceSub, Int.reduceNeg, nil_ptr, add_ptr, eq_pn, eq_nn, eq_pp, Bool.false_eq_true, hT]) fun T' cs' init last q1 q2 q3 q4 q5 q6 q7 q8 => hQ T' cs' init last (by rw [q1, hsp, List.append_assoc]; rfl) q2 q3 q4 q5 q6 q7 q8
    rw [hlen, List.take_add_one, List.take_set_of_le (Nat.le_refl _), htk]
    simp [txts, show pieces.length < cs.length by omega]

end Go.AE.Fns
namespace Go.AE.Fns
open Go Go.AE Env
set_option maxRecDepth 100000

theorem bi_min {H : AHeap} {a b : Int} : builtinA H .min [.int .i64 a, .int .i64 b] = some (.int .i64 (if b < a then b else a), H, .p) := by simp [builtinA, foldA, minA, pureV]

theorem genSplit_ans (s : List UInt8) (c : UInt8) (hs : s.length ≤ 2 ^ 29) (H : AHeap) (hH : H = []) :
    E.Ans 201 [.str s, .str [c], i64 0, i64 (-1)] H (.sl 0 0 (countB c s + 1) 1 (countB c s + 1) (some (countB c s + 1))) [.cells (txts (splitB c s)) 0 (countB c s + 1) 0] := by
  subst hH
  refine Ans4 (F := F201) (by kernel_rfl) rfl (by decide) fun T hT h0 h1 h2 h3 => ?_
  have hcl := count_le c s
  generalize hn : countB c s + 1 = n
  have hp := count_c s c
  have w1 : IntKind.i64.wrap ((countB c s : Int) + 1) = (n : Int) := by rw [wrap64] <;> omega
  have w2 : IntKind.i64.wrap ((s.length : Int) + 1) = ((s.length + 1 : Nat) : Int) := by rw [wrap64] <;> omega
  have w3 : IntKind.i64.wrap ((n : Int) - 1) = ((n - 1 : Nat) : Int) := by rw [wrap64] <;> omega
  have d1 : (([c] : List UInt8) == []) = false := rfl
  have d2 : ¬ (((s.length + 1 : Nat) : Int) < (n : Int)) := by omega
  have m1 : ∀ H : AHeap, fMkSlice [.str []] 1 16 0 (.int .i64 n) (.int .i64 n) H = some (.sl H.length 0 n 1 n (some n), H ++ [.cells (List.replicate n (.str [])) 0 n 0], .a H.length) := fun H => mkSl (by omega) (by omega)
  simp only [↓W_seq, ↓W_block, ↓W_reg, ↓W_draw, ↓WO_step, ↓WO_nil, ↓Guard_none, ↓Guard_gt, Gd_undef, Gd_tt, Gd_tf, Gd_ft, Gd_ff, ↓w_mv, ↓w_pick, Two_true, Two_false, Bnd_eq, ↓w_bin, ↓w_un, un_not, ↓w_extract, ↓w_load, ↓w_store, ↓w_slSl, ↓x_slStr, ↓x_idxStr, ↓x_field, ↓x_alloc, ↓x_mkSlice, ↓x_nilChk, idx_str0, ↓w_idxAddr, ↓w_fieldAddr, ↓w_box, ↓w_build, ↓w_lit, ↓w_mkFunc, ↓w_mkIface, ↓w_eq, ↓w_conv, ↓W1_fn, ↓W1_val, CV_func, ↓W1_builtin, bi_lenStr, bi_lenSl, bi_append, len1i, len0i, len_str, len_nil, len_lst, len_sl, bin_gtr, bin_lss, bin_leq, bin_geq, bin_eql, bin_neq, bin_eqls, bin_neqs, bin_add, bin_sub, ↓W_cond, ↓W_ret, ↓W_skip, ↓W_exit, ↓ev_t, ↓ev_c, ↓ev_f, ↓evo_s, ↓evo_n, List.map_cons, List.map_nil, ↓gp_eq, ↓gp_ne, ↓gp_none, ↓len_put, ↓andThen_normal, ↓andThen_ret, ↓andThen_exit, Nat.reduceBEq, Nat.reduceLT, decide_true, decide_false, Res_some, Res_none, Res_pure, Res_pure_none, Pick_true, Pick_false, ↓Fin0, ↓Fin1, ↓Fin2, ↓Fin0n, ↓FinV1, ↓FinX1, ↓FinX2, ↓FinV2, reduceCtorEq, if_true, if_false, List.cons_append, List.nil_append, List.append_nil, Option.map_some, AExit.exit.injEq, Nat.reduceEqDiff, Bool.not_true, Bool.not_false, true_and, and_true, ne_eq, not_false_eq_true, not_true_eq_false, List.getElem?_cons_zero, List.getElem?_cons_succ, Int.reduceBEq, Int.reduceBNe, Int.reduceLT, Int.reduceLE, Int.reduceGT, Int.reduceGE, Int.reduceEq, Int.reduceAdd, Int.reduceSub, Int.reduceNeg, nil_ptr, add_ptr, eq_pn, eq_nn, eq_pp, Bool.false_eq_true, hT, h0, h1, h2, h3, hp, w1, w2, w3, d1, bi_min, d2, m1, List.length_nil]
  refine genSplit_loop c n (by omega) _ (countB c s) [] s _ (List.replicate n (.str [])) rfl (by simp; omega) (by simp) (by simp [txts]) (by omega) (by simp only [↓gp_eq, ↓gp_ne, ↓gp_none, ↓len_put, Nat.reduceBEq, Nat.reduceLT, decide_true, hT]) (by simp only [↓gp_eq, ↓gp_ne, ↓gp_none, ↓len_put, Nat.reduceBEq, Nat.reduceLT, decide_true, hT, h0]) (by simp only [↓gp_eq, ↓gp_ne, ↓gp_none, ↓len_put, Nat.reduceBEq, Nat.reduceLT, decide_true, hT, h1]) (by simp only [↓gp_eq, ↓gp_ne, ↓gp_none, ↓len_put, Nat.reduceBEq, Nat.reduceLT, decide_true, hT, h2]) (by simp only [↓gp_eq, ↓gp_ne, ↓gp_none, ↓len_put, Nat.reduceBEq, Nat.reduceLT, decide_true, hT]) (by simp only [↓gp_eq, ↓gp_ne, ↓gp_none, ↓len_put, Nat.reduceBEq, Nat.reduceLT, decide_true, hT]) (by simp only [↓gp_eq, ↓gp_ne, ↓gp_none, ↓len_put, Nat.reduceBEq, Nat.reduceLT, decide_true, hT]; rfl) ?_
  intro T' cs' init last q1 q2 q3 q4 q5 q6 q7 q8
  have a1 : idxAddrA 1 (.sl 0 0 n 1 n (some n)) (.int .i64 (init.length : Nat)) = some (.ptr 0 (0 + init.length) n) := idxA_sl (by omega)
  have st : storeA [.cells cs' 0 n 0] 1 (.ptr 0 (0 + init.length) n) (.str last) = some (undefA, [.cells (cs'.set init.length (.str last)) 0 n 0], .w 0) := by
    rw [Nat.zero_add]
    exact store_one (H := [.cells cs' 0 n 0]) (b := 0) rfl q3.symm (by omega) rfl
  have w4 : IntKind.i64.wrap ((init.length : Int) + 1) = (n : Int) := by rw [wrap64] <;> omega
  have sl1 : sliceA 1 (.sl 0 0 n 1 n (some n)) none (some (.int .i64 n)) none = some (.sl 0 0 n 1 n (some n)) := slice_to (Nat.le_refl _)
  have hfin : cs'.set init.length (.str last) = txts (splitB c s) := by
    have e : splitB c s = init ++ [last] := by rw [q1]; rfl
    rw [e]
    refine List.ext_getElem? fun j => ?_
    rcases Nat.lt_trichotomy j init.length with h | h | h
    · rw [List.getElem?_set_ne (by omega)]
      have := congrArg (fun l => l[j]?) q4
      simp only [List.getElem?_take, h, if_true] at this
      rw [this]
      simp only [txts, List.map_append]
      rw [List.getElem?_append_left (by simpa using h)]
    · subst h
      have : init.length < cs'.length := by omega
      simp [txts, this]
    · have h1 : cs'.length ≤ j := by omega
      simp [txts, List.getElem?_set, List.getElem?_eq_none h1, show ¬ init.length = j by omega]
      omega
  simp only [↓W_seq, ↓W_block, ↓W_reg, ↓W_draw, ↓WO_step, ↓WO_nil, ↓Guard_none, ↓Guard_gt, Gd_undef, Gd_tt, Gd_tf, Gd_ft, Gd_ff, ↓w_mv, ↓w_pick, Two_true, Two_false, Bnd_eq, ↓w_bin, ↓w_un, un_not, ↓w_extract, ↓w_load, ↓w_store, ↓w_slSl, ↓x_slStr, ↓x_idxStr, ↓x_field, ↓x_alloc, ↓x_mkSlice, ↓x_nilChk, idx_str0, ↓w_idxAddr, ↓w_fieldAddr, ↓w_box, ↓w_build, ↓w_lit, ↓w_mkFunc, ↓w_mkIface, ↓w_eq, ↓w_conv, ↓W1_fn, ↓W1_val, CV_func, ↓W1_builtin, bi_lenStr, bi_lenSl, bi_append, len1i, len0i, len_str, len_nil, len_lst, len_sl, bin_gtr, bin_lss, bin_leq, bin_geq, bin_eql, bin_neq, bin_eqls, bin_neqs, bin_add, bin_sub, ↓W_cond, ↓W_ret, ↓W_skip, ↓W_exit, ↓ev_t, ↓ev_c, ↓ev_f, ↓evo_s, ↓evo_n, List.map_cons, List.map_nil, ↓gp_eq, ↓gp_ne, ↓gp_none, ↓len_put, ↓andThen_normal, ↓andThen_ret, ↓andThen_exit, Nat.reduceBEq, Nat.reduceLT, decide_true, decide_false, Res_some, Res_none, Res_pure, Res_pure_none, Pick_true, Pick_false, ↓Fin0, ↓Fin1, ↓Fin2, ↓Fin0n, ↓FinV1, ↓FinX1, ↓FinX2, ↓FinV2, reduceCtorEq, if_true, if_false, List.cons_append, List.nil_append, List.append_nil, Option.map_some, AExit.exit.injEq, Nat.reduceEqDiff, Bool.not_true, Bool.not_false, true_and, and_true, ne_eq, not_false_eq_true, not_true_eq_false, List.getElem?_cons_zero, List.getElem?_cons_succ, Int.reduceBEq, Int.reduceBNe, Int.reduceLT, Int.reduceLE, Int.reduceGT, Int.reduceGE, Int.reduceEq, Int.reduceAdd, Int.reduceSub, Int.reduceNeg, nil_ptr, add_ptr, eq_pn, eq_nn, eq_pp, Bool.false_eq_true, q5, q6, q7, q8, a1, st, w4, sl1, hfin]

/-- a text taken apart at a byte -/
theorem split_ans (s : List UInt8) (c : UInt8) (hs : s.length ≤ 2 ^ 29) : ∃ Hc, E.Ans 197 [.str s, .str [c]] [] (.lst (txts (splitB c s)) (splitB c s).length 1 true) Hc := by
  refine ⟨[], Ans2 (F := F197) (by kernel_rfl) rfl (by decide) fun T hT h0 h1 => ?_⟩
  have hg : ∀ (H : AHeap) (K : AV → AHeap → Kd → Prop), E.C 201 [.str s, .str [c], .int .i64 0, .int .i64 (-1)] H K ↔ K (.lst (txts (splitB c s)) (splitB c s).length 1 true) H .p := fun H K => by
    refine C_pure rfl (genSplit_ans s c hs [] rfl) (by kernel_rfl) ?_
    have hl : (splitB c s).length < 999999999 := by rw [splitB_len]; have := count_le c s; omega
    have hlen := splitB_len c s
    have hr : rowOf [.cells (txts (splitB c s)) 0 (countB c s + 1) 0] (.sl 0 0 (countB c s + 1) 1 (countB c s + 1) (some (countB c s + 1))) = some (txts (splitB c s)) := by
      simp [rowOf, txts_len, hlen]
      rw [List.take_of_length_le (by rw [txts_len]; omega)]
    rw [show (1000000000 : Nat) = 999999999 + 1 from rfl]
    simp only [freeze, hr, freezeL_txts _ _ _ hl]
    simp [hlen]
  simp only [↓W_seq, ↓W_block, ↓W_reg, ↓W_draw, ↓WO_step, ↓WO_nil, ↓Guard_none, ↓Guard_gt, Gd_undef, Gd_tt, Gd_tf, Gd_ft, Gd_ff, ↓w_mv, ↓w_pick, Two_true, Two_false, Bnd_eq, ↓w_bin, ↓w_un, un_not, ↓w_extract, ↓w_load, ↓w_store, ↓w_slSl, ↓x_slStr, ↓x_idxStr, ↓x_field, ↓x_alloc, ↓x_mkSlice, ↓x_nilChk, idx_str0, ↓w_idxAddr, ↓w_fieldAddr, ↓w_box, ↓w_build, ↓w_lit, ↓w_mkFunc, ↓w_mkIface, ↓w_eq, ↓w_conv, ↓W1_fn, ↓W1_val, CV_func, ↓W1_builtin, bi_lenStr, bi_lenSl, bi_append, len1i, len0i, len_str, len_nil, len_lst, len_sl, bin_gtr, bin_lss, bin_leq, bin_geq, bin_eql, bin_neq, bin_eqls, bin_neqs, bin_add, bin_sub, ↓W_cond, ↓W_ret, ↓W_skip, ↓W_exit, ↓ev_t, ↓ev_c, ↓ev_f, ↓evo_s, ↓evo_n, List.map_cons, List.map_nil, ↓gp_eq, ↓gp_ne, ↓gp_none, ↓len_put, ↓andThen_normal, ↓andThen_ret, ↓andThen_exit, Nat.reduceBEq, Nat.reduceLT, decide_true, decide_false, Res_some, Res_none, Res_pure, Res_pure_none, Pick_true, Pick_false, ↓Fin0, ↓Fin1, ↓Fin2, ↓Fin0n, ↓FinV1, ↓FinX1, ↓FinX2, ↓FinV2, reduceCtorEq, if_true, if_false, List.cons_append, List.nil_append, List.append_nil, Option.map_some, AExit.exit.injEq, Nat.reduceEqDiff, Bool.not_true, Bool.not_false, true_and, and_true, ne_eq, not_false_eq_true, not_true_eq_false, List.getElem?_cons_zero, List.getElem?_cons_succ, Int.reduceBEq, Int.reduceBNe, Int.reduceLT, Int.reduceLE, Int.reduceGT, Int.reduceGE, Int.reduceEq, Int.reduceAdd, Int.reduceSub, Int.reduceNeg, nil_ptr, add_ptr, eq_pn, eq_nn, eq_pp, Bool.false_eq_true, hT, h0, h1, hg]

theorem split_c (s : List UInt8) (c : UInt8) (hs : s.length ≤ 2 ^ 29) (H : AHeap) (K : AV → AHeap → Kd → Prop) : E.C 197 [.str s, .str [c]] H K ↔ K (.lst (txts (splitB c s)) (splitB c s).length 1 true) H .p := by
  obtain ⟨Hc, h⟩ := split_ans s c hs
  refine C_val h rfl (by kernel_rfl) ?_
  have hl : (splitB c s).length < 999999999 := by rw [splitB_len]; have := count_le c s; omega
  rw [show (1000000000 : Nat) = 999999999 + 1 from rfl]
  simp only [freeze, freezeL_txts _ _ _ hl, Option.map_some]
end Go.AE.Fns
namespace Go.AE.Fns
open Go Go.AE Env
set_option maxRecDepth 100000

/-- bytes as cells -/
def bytesV (s : List UInt8) : List AV := s.map fun b => .int .u8 b.toNat
theorem bytesV_len (s : List UInt8) : (bytesV s).length = s.length := by simp [bytesV]
theorem bytesOf (s : List UInt8) : bytesOfA (bytesV s) = some s := by
  induction s with
  | nil => rfl
  | cons a l ih =>
    simp only [bytesV, List.map_cons] at ih ⊢
    simp [bytesOfA, ih]

/-- a Builder's text in the making -/
inductive Buf (H : AHeap) (q : Nat) : AV → List UInt8 → Prop where
  | fresh {b N : Nat} (hq : b ≠ q) (hb : H[b]? = some (.cells (List.replicate N .bad) 1 N 0)) (hN : 0 < N) : Buf H q (.sl b 0 0 1 N none) []
  | row {b : Nat} {s : List UInt8} {wv : Nat} (hq : b ≠ q) (hb : H[b]? = some (.cells (bytesV s) 1 wv 0)) (hw : wv ≤ s.length) (hs : s ≠ []) : Buf H q (.sl b 0 s.length 1 s.length none) s

def Bld (H : AHeap) (q : Nat) (s : List UInt8) : Prop := ∃ buf, H[q]? = some (.cells [.ptr q 0 2, buf] 2 2 0) ∧ Buf H q buf s

theorem noEscape_c {q o v : Nat} (H : AHeap) (K : AV → AHeap → Kd → Prop) : E.C 139 [.ptr q o v] H K ↔ K (.ptr q o v) H (.c H H) :=
  C_shared rfl (Ans_ext (e := .same) (by kernel_rfl) rfl)

/-- the check that a Builder was not copied: it is the first use -/
theorem copyCheck_first {q : Nat} {H : AHeap} {buf : AV} (hb : H[q]? = some (.cells [.nilptr, buf] 2 2 0)) : E.Ans 19 [.ptr q 0 2] H (.tuple []) (H.set q (.cells [.ptr q 0 2, buf] 2 2 0)) := by
  refine Ans1 (F := F19) (by kernel_rfl) rfl (by decide) fun T hT h0 => ?_
  have l1 : loadA H 1 false (.ptr q 0 2) = some (.nilptr, H, .r q) := load_at hb (by decide) (by decide) (by simp) (by decide) rfl
  have hne := noEscape_c (q := q) (o := 0) (v := 2)
  have c1 : convA H .toUns (.ptr q 0 2) = some (.ptr q 0 2, H, .r q) := by simp [convA, hb, readV]
  have c2 : convA H (.ofUns 2) (.ptr q 0 2) = some (.ptr q 0 2, H, .r q) := by simp [convA, hb, readV]
  have st : storeA H 1 (.ptr q 0 2) (.ptr q 0 2) = some (undefA, H.set q (.cells [.ptr q 0 2, buf] 2 2 0), .w q) := store_one rfl rfl (by simp) hb
  simp only [↓W_seq, ↓W_block, ↓W_reg, ↓W_draw, ↓WO_step, ↓WO_nil, ↓Guard_none, ↓Guard_gt, Gd_undef, Gd_tt, Gd_tf, Gd_ft, Gd_ff, ↓w_mv, ↓w_pick, Two_true, Two_false, Bnd_eq, ↓w_bin, ↓w_un, un_not, ↓w_extract, ↓w_load, ↓w_store, ↓w_slSl, ↓x_slStr, ↓x_idxStr, ↓x_field, ↓x_alloc, ↓x_mkSlice, ↓x_nilChk, idx_str0, ↓w_idxAddr, ↓w_fieldAddr, ↓w_box, ↓w_build, ↓w_lit, ↓w_mkFunc, ↓w_mkIface, ↓w_eq, ↓w_conv, ↓W1_fn, ↓W1_val, CV_func, ↓W1_builtin, bi_lenStr, bi_lenSl, bi_append, len1i, len0i, len_str, len_nil, len_lst, len_sl, bin_gtr, bin_lss, bin_leq, bin_geq, bin_eql, bin_neq, bin_eqls, bin_neqs, bin_add, bin_sub, ↓W_cond, ↓W_ret, ↓W_skip, ↓W_exit, ↓ev_t, ↓ev_c, ↓ev_f, ↓evo_s, ↓evo_n, List.map_cons, List.map_nil, ↓gp_eq, ↓gp_ne, ↓gp_none, ↓len_put, ↓andThen_normal, ↓andThen_ret, ↓andThen_exit, Nat.reduceBEq, Nat.reduceLT, decide_true, decide_false, Res_some, Res_none, Res_pure, Res_pure_none, Pick_true, Pick_false, ↓Fin0, ↓Fin1, ↓Fin2, ↓Fin0n, ↓FinV1, ↓FinX1, ↓FinX2, ↓FinV2, reduceCtorEq, if_true, if_false, List.cons_append, List.nil_append, List.append_nil, Option.map_some, AExit.exit.injEq, Nat.reduceEqDiff, Bool.not_true, Bool.not_false, true_and, and_true, ne_eq, not_false_eq_true, not_true_eq_false, List.getElem?_cons_zero, List.getElem?_cons_succ, Int.reduceBEq, Int.reduceBNe, Int.reduceLT, Int.reduceLE, Int.reduceGT, Int.reduceGE, Int.reduceEq, Int.reduceAdd, Int.reduceSub, Int.reduceNeg, nil_ptr, add_ptr, eq_pn, eq_nn, eq_pp, Bool.false_eq_true, Nat.zero_add, Nat.add_zero, hT, h0, l1, hne, c1, c2, st]
/-- .. it is a later one -/
theorem copyCheck_later {q : Nat} {H : AHeap} {buf : AV} (hb : H[q]? = some (.cells [.ptr q 0 2, buf] 2 2 0)) : E.Ans 19 [.ptr q 0 2] H (.tuple []) H := by
  refine Ans1 (F := F19) (by kernel_rfl) rfl (by decide) fun T hT h0 => ?_
  have l1 : loadA H 1 false (.ptr q 0 2) = some (.ptr q 0 2, H, .r q) := load_at hb (by decide) (by decide) (by simp) (by decide) rfl
  simp only [↓W_seq, ↓W_block, ↓W_reg, ↓W_draw, ↓WO_step, ↓WO_nil, ↓Guard_none, ↓Guard_gt, Gd_undef, Gd_tt, Gd_tf, Gd_ft, Gd_ff, ↓w_mv, ↓w_pick, Two_true, Two_false, Bnd_eq, ↓w_bin, ↓w_un, un_not, ↓w_extract, ↓w_load, ↓w_store, ↓w_slSl, ↓x_slStr, ↓x_idxStr, ↓x_field, ↓x_alloc, ↓x_mkSlice, ↓x_nilChk, idx_str0, ↓w_idxAddr, ↓w_fieldAddr, ↓w_box, ↓w_build, ↓w_lit, ↓w_mkFunc, ↓w_mkIface, ↓w_eq, ↓w_conv, ↓W1_fn, ↓W1_val, CV_func, ↓W1_builtin, bi_lenStr, bi_lenSl, bi_append, len1i, len0i, len_str, len_nil, len_lst, len_sl, bin_gtr, bin_lss, bin_leq, bin_geq, bin_eql, bin_neq, bin_eqls, bin_neqs, bin_add, bin_sub, ↓W_cond, ↓W_ret, ↓W_skip, ↓W_exit, ↓ev_t, ↓ev_c, ↓ev_f, ↓evo_s, ↓evo_n, List.map_cons, List.map_nil, ↓gp_eq, ↓gp_ne, ↓gp_none, ↓len_put, ↓andThen_normal, ↓andThen_ret, ↓andThen_exit, Nat.reduceBEq, Nat.reduceLT, decide_true, decide_false, Res_some, Res_none, Res_pure, Res_pure_none, Pick_true, Pick_false, ↓Fin0, ↓Fin1, ↓Fin2, ↓Fin0n, ↓FinV1, ↓FinX1, ↓FinX2, ↓FinV2, reduceCtorEq, if_true, if_false, List.cons_append, List.nil_append, List.append_nil, Option.map_some, AExit.exit.injEq, Nat.reduceEqDiff, Bool.not_true, Bool.not_false, true_and, and_true, ne_eq, not_false_eq_true, not_true_eq_false, List.getElem?_cons_zero, List.getElem?_cons_succ, Int.reduceBEq, Int.reduceBNe, Int.reduceLT, Int.reduceLE, Int.reduceGT, Int.reduceGE, Int.reduceEq, Int.reduceAdd, Int.reduceSub, Int.reduceNeg, nil_ptr, add_ptr, eq_pn, eq_nn, eq_pp, Bool.false_eq_true, Nat.zero_add, Nat.add_zero, hT, h0, l1]

theorem copyCheck_c {q : Nat} {H : AHeap} {buf : AV} (hb : H[q]? = some (.cells [.ptr q 0 2, buf] 2 2 0)) (K : AV → AHeap → Kd → Prop) : E.C 19 [.ptr q 0 2] H K ↔ K (.tuple []) H (.c H H) :=
  C_shared rfl (copyCheck_later hb)

/-- bytes behind a Builder's text -/
theorem append_buf {H : AHeap} {q : Nat} {buf : AV} {s : List UInt8} (hB : Buf H q buf s) (hlt : q < H.length) (t : List UInt8) (hl : s.length + t.length ≤ 2 ^ 40) : ∃ buf' H', appendA H 1 1 1 buf (.str t) = some (buf', H', .l) ∧ Buf H' q buf' (s ++ t) ∧ H'[q]? = H[q]? ∧ H.length ≤ H'.length := by
  have hcell : cellsIn H 1 (.str t) = some (t.length, bytesV t) := rfl
  by_cases ht : t = []
  · subst ht
    refine ⟨buf, H, ?_, by simpa using hB, rfl, Nat.le_refl _⟩
    cases hB with
    | fresh hq hb hN => simp [appendA, hcell, hb]
    | row hq hb hw hs => simp [appendA, hcell, hb, bytesV_len, hw]
  · have hm : t.length ≠ 0 := by simpa using ht
    cases hB with
    | @fresh b N hq hb hN =>
      have hblt : b < H.length := by
        rcases Nat.lt_or_ge b H.length with h | h
        · exact h
        · simp [List.getElem?_eq_none h] at hb
      refine ⟨.sl H.length 0 (0 + t.length) 1 (bytesV t).length none, (H ++ [ABlk.cells (bytesV t) 1 (bytesV t).length 0]).set b (.cells (List.replicate N .bad) 1 N 2), ?_, ?_, ?_, by simp⟩
      · have h1 : ¬ (0 : Nat) = N := by omega
        have h2 : (0 + t.length) * 1 ≤ 2 ^ 40 ∧ 0 < 1 ∧ 0 < 1 := by simp at hl; omega
        have h3 : t.length ≤ 1099511627776 := by simp at hl; omega
        simp [appendA, hcell, hb, hm, h1, h3]
      · rw [Nat.zero_add, List.nil_append, bytesV_len]
        refine .row (by omega) ?_ (Nat.le_refl _) ht
        rw [List.getElem?_set_ne (by omega)]
        simp
      · rw [List.getElem?_set_ne hq, List.getElem?_append_left hlt]
    | @row b _ wv hq hb hw hs =>
      refine ⟨.sl b 0 (s.length + t.length) 1 (bytesV s ++ bytesV t).length none, H.set b (.cells (bytesV s ++ bytesV t) 1 wv 0), ?_, ?_, by rw [List.getElem?_set_ne hq], by simp⟩
      · have h3 : s.length + t.length ≤ 1099511627776 := by omega
        simp [appendA, hcell, hb, hm, bytesV_len, hw, h3]
      · have e : bytesV s ++ bytesV t = bytesV (s ++ t) := by simp [bytesV]
        have e2 : s.length + t.length = (s ++ t).length := by simp
        rw [e, bytesV_len, e2]
        have hblt : b < H.length := by
          rcases Nat.lt_or_ge b H.length with h | h
          · exact h
          · simp [List.getElem?_eq_none h] at hb
        exact .row (wv := wv) hq (by simp [hblt]) (by simp; omega) (by simp [hs])

theorem lt_of_at {H : AHeap} {q : Nat} {k : ABlk} (h : H[q]? = some k) : q < H.length := by
  rcases Nat.lt_or_ge q H.length with h1 | h1
  · exact h1
  · simp [List.getElem?_eq_none h1] at h

theorem Buf.one {H : AHeap} {q : Nat} {buf : AV} {s : List UInt8} (h : Buf H q buf s) : buf.cells = [buf] := by cases h <;> rfl
theorem Buf.put {H : AHeap} {q : Nat} {buf : AV} {s : List UInt8} {k : ABlk} (h : Buf H q buf s) : Buf (H.set q k) q buf s := by
  cases h with
  | fresh hq hbb hN => exact .fresh hq (by rw [List.getElem?_set_ne (fun e => hq e.symm)]; exact hbb) hN
  | row hq hbb hw hs => exact .row hq (by rw [List.getElem?_set_ne (fun e => hq e.symm)]; exact hbb) hw hs

theorem writeString_ans {q : Nat} {H : AHeap} {s : List UInt8} (hB : Bld H q s) (t : List UInt8) (hl : s.length + t.length ≤ 2 ^ 40) : ∃ H', E.Ans 18 [.ptr q 0 2, .str t] H (.tuple [i64 t.length, .nilIface]) H' ∧ Bld H' q (s ++ t) := by
  obtain ⟨buf, hb, hbuf⟩ := hB
  have hlt := lt_of_at hb
  obtain ⟨buf', H', ha, hbuf', hq', hle⟩ := append_buf hbuf hlt t hl
  have hb' : H'[q]? = some (.cells [.ptr q 0 2, buf] 2 2 0) := by rw [hq']; exact hb
  refine ⟨H'.set q (.cells [.ptr q 0 2, buf'] 2 2 0), ?_, buf', by simp [show q < H'.length by omega], ?_⟩
  · refine Ans2 (F := F18) (by kernel_rfl) rfl (by decide) fun T hT h0 h1 => ?_
    have l1 : loadA H 1 false (.ptr q 1 2) = some (buf, H, .r q) := load_at hb (by decide) (by decide) (by simp) (by decide) rfl
    have hc := copyCheck_c hb
    have hone : buf'.cells = [buf'] := hbuf'.one
    have st : storeA H' 1 (.ptr q 1 2) buf' = some (undefA, H'.set q (.cells [.ptr q 0 2, buf'] 2 2 0), .w q) := store_one hone rfl (by simp) hb'
    simp only [↓W_seq, ↓W_block, ↓W_reg, ↓W_draw, ↓WO_step, ↓WO_nil, ↓Guard_none, ↓Guard_gt, Gd_undef, Gd_tt, Gd_tf, Gd_ft, Gd_ff, ↓w_mv, ↓w_pick, Two_true, Two_false, Bnd_eq, ↓w_bin, ↓w_un, un_not, ↓w_extract, ↓w_load, ↓w_store, ↓w_slSl, ↓x_slStr, ↓x_idxStr, ↓x_field, ↓x_alloc, ↓x_mkSlice, ↓x_nilChk, idx_str0, ↓w_idxAddr, ↓w_fieldAddr, ↓w_box, ↓w_build, ↓w_lit, ↓w_mkFunc, ↓w_mkIface, ↓w_eq, ↓w_conv, ↓W1_fn, ↓W1_val, CV_func, ↓W1_builtin, bi_lenStr, bi_lenSl, bi_append, len1i, len0i, len_str, len_nil, len_lst, len_sl, bin_gtr, bin_lss, bin_leq, bin_geq, bin_eql, bin_neq, bin_eqls, bin_neqs, bin_add, bin_sub, ↓W_cond, ↓W_ret, ↓W_skip, ↓W_exit, ↓ev_t, ↓ev_c, ↓ev_f, ↓evo_s, ↓evo_n, List.map_cons, List.map_nil, ↓gp_eq, ↓gp_ne, ↓gp_none, ↓len_put, ↓andThen_normal, ↓andThen_ret, ↓andThen_exit, Nat.reduceBEq, Nat.reduceLT, decide_true, decide_false, Res_some, Res_none, Res_pure, Res_pure_none, Pick_true, Pick_false, ↓Fin0, ↓Fin1, ↓Fin2, ↓Fin0n, ↓FinV1, ↓FinX1, ↓FinX2, ↓FinV2, reduceCtorEq, if_true, if_false, List.cons_append, List.nil_append, List.append_nil, Option.map_some, AExit.exit.injEq, Nat.reduceEqDiff, Bool.not_true, Bool.not_false, true_and, and_true, ne_eq, not_false_eq_true, not_true_eq_false, List.getElem?_cons_zero, List.getElem?_cons_succ, Int.reduceBEq, Int.reduceBNe, Int.reduceLT, Int.reduceLE, Int.reduceGT, Int.reduceGE, Int.reduceEq, Int.reduceAdd, Int.reduceSub, Int.reduceNeg, nil_ptr, add_ptr, eq_pn, eq_nn, eq_pp, Bool.false_eq_true, Nat.zero_add, Nat.add_zero, hT, h0, h1, l1, hc, ha, st]
  · exact hbuf'.put
end Go.AE.Fns
namespace Go.AE.Fns
open Go Go.AE Env
set_option maxRecDepth 100000

theorem bi_cap {H : AHeap} : builtinA H .capSl [.nilsl] = some (.int .i64 0, H, .p) := Eq.trans rfl rfl
theorem bin_mul {k : IntKind} {a b : Int} : binA .mul (.int k a) (.int k b) = some (.int k (k.wrap (a * b))) := by simp [binA]
theorem bin_quo {k : IntKind} {a b : Int} (h : b ≠ 0) : binA .quo (.int k a) (.int k b) = some (.int k (k.wrap (a.tdiv b))) := by simp [binA, h]

theorem makeNoZero_c (n : Nat) (hn : 0 < n) (hl : n ≤ 2 ^ 40) (H : AHeap) (K : AV → AHeap → Kd → Prop) : E.C 143 [i64 n] H K ↔ K (.sl H.length 0 n 1 n none) (H ++ [.cells (List.replicate n .bad) 1 n 0]) (.a H.length) := by
  have ha : E.Ans 143 [i64 n] [] (.sl 0 0 n 1 n none) [.cells (List.replicate n .bad) 1 n 0] := by
    refine Ans_ext (e := .makeNoZero 1) (by kernel_rfl) ?_
    have : (0 : Int) ≤ n ∧ (n : Int) ≤ 2 ^ 40 := ⟨by omega, by omega⟩
    simp [extA, i64]
    omega
  have hf : freeze [.cells (List.replicate n .bad) 1 n 0] 1000000000 (.sl 0 0 n 1 n none) = none := by
    rw [show (1000000000 : Nat) = 999999999 + 1 from rfl]
    have hr : rowOf [.cells (List.replicate n .bad) 1 n 0] (.sl 0 0 n 1 n none) = some (List.replicate n .bad) := by simp [rowOf]
    simp only [freeze, hr]
    obtain ⟨m, rfl⟩ : ∃ m, n = m + 1 := ⟨n - 1, by omega⟩
    rw [show (999999999 : Nat) = 999999998 + 1 from rfl]
    simp [List.replicate_succ, freezeL, freeze]
  have hs : ∀ k m, shiftL k (List.replicate m .bad) = List.replicate m .bad := by
    intro k m
    induction m with
    | zero => rfl
    | succ m ih => simp [List.replicate_succ, shiftL, ih, AV.shift]
  rw [C_laid rfl ha (.inr hf)]
  simp [AV.shift, ABlk.shift, hs]

def hb0 : AHeap := [.cells [.ptr 0 0 2, .nilsl] 2 2 0]
def hb1 (n : Nat) : AHeap := [.cells [.ptr 0 0 2, .nilsl] 2 2 0, .cells (List.replicate n .bad) 1 n 0]
def hb2 (n : Nat) : AHeap := [.cells [.ptr 0 0 2, .sl 1 0 0 1 n none] 2 2 0, .cells (List.replicate n .bad) 1 n 0]

theorem grow0_ans (n : Nat) (hn : 0 < n) (hl : n ≤ 2 ^ 40) : E.Ans 20 [.ptr 0 0 2, i64 n] hb0 (.tuple []) (hb2 n) := by
  refine Ans2 (F := F20) (by kernel_rfl) rfl (by decide) fun T hT h0 h1 => ?_
  have l1 : loadA hb0 1 false (.ptr 0 1 2) = some (.nilsl, hb0, .r 0) := rfl
  have l2 : loadA (hb1 n) 1 false (.ptr 0 1 2) = some (.nilsl, hb1 n, .r 0) := rfl
  have mk := makeNoZero_c n hn hl hb0
  have e1 : hb0 ++ [.cells (List.replicate n .bad) 1 n 0] = hb1 n := rfl
  have e2 : List.length hb0 = 1 := rfl
  have w1 : IntKind.i64.wrap (2 * 0) = 0 := by rw [wrap64] <;> omega
  have w2 : IntKind.i64.wrap (0 + (n : Int)) = n := by rw [wrap64] <;> omega
  have s1 : sliceA 1 (.sl 1 0 n 1 n none) none (some (.int .i64 0)) none = some (.sl 1 0 0 1 n none) := slice_to (h := 0) (by omega)
  have cp : builtinA (hb1 n) (.copy 1) [.sl 1 0 0 1 n none, .nilsl] = some (.int .i64 0, hb1 n, .l) := by
    simp [builtinA, copyA, cellsIn, storeCellsA, hb1, putCells]
  have st : storeA (hb1 n) 1 (.ptr 0 1 2) (.sl 1 0 0 1 n none) = some (undefA, hb2 n, .w 0) := store_one (H := hb1 n) (cs := [.ptr 0 0 2, .nilsl]) (i := 1) (n := 2) rfl rfl (by decide) rfl
  rw [e1, e2] at mk
  simp only [↓W_seq, ↓W_block, ↓W_reg, ↓W_draw, ↓WO_step, ↓WO_nil, ↓Guard_none, ↓Guard_gt, Gd_undef, Gd_tt, Gd_tf, Gd_ft, Gd_ff, ↓w_mv, ↓w_pick, Two_true, Two_false, Bnd_eq, ↓w_bin, ↓w_un, un_not, ↓w_extract, ↓w_load, ↓w_store, ↓w_slSl, ↓x_slStr, ↓x_idxStr, ↓x_field, ↓x_alloc, ↓x_mkSlice, ↓x_nilChk, idx_str0, ↓w_idxAddr, ↓w_fieldAddr, ↓w_box, ↓w_build, ↓w_lit, ↓w_mkFunc, ↓w_mkIface, ↓w_eq, ↓w_conv, ↓W1_fn, ↓W1_val, CV_func, ↓W1_builtin, bi_lenStr, bi_lenSl, bi_append, len1i, len0i, len_str, len_nil, len_lst, len_sl, bin_gtr, bin_lss, bin_leq, bin_geq, bin_eql, bin_neq, bin_eqls, bin_neqs, bin_add, bin_sub, ↓W_cond, ↓W_ret, ↓W_skip, ↓W_exit, ↓ev_t, ↓ev_c, ↓ev_f, ↓evo_s, ↓evo_n, List.map_cons, List.map_nil, ↓gp_eq, ↓gp_ne, ↓gp_none, ↓len_put, ↓andThen_normal, ↓andThen_ret, ↓andThen_exit, Nat.reduceBEq, Nat.reduceLT, decide_true, decide_false, Res_some, Res_none, Res_pure, Res_pure_none, Pick_true, Pick_false, ↓Fin0, ↓Fin1, ↓Fin2, ↓Fin0n, ↓FinV1, ↓FinX1, ↓FinX2, ↓FinV2, reduceCtorEq, if_true, if_false, List.cons_append, List.nil_append, List.append_nil, Option.map_some, AExit.exit.injEq, Nat.reduceEqDiff, Bool.not_true, Bool.not_false, true_and, and_true, ne_eq, not_false_eq_true, not_true_eq_false, List.getElem?_cons_zero, List.getElem?_cons_succ, Int.reduceBEq, Int.reduceBNe, Int.reduceLT, Int.reduceLE, Int.reduceGT, Int.reduceGE, Int.reduceEq, Int.reduceAdd, Int.reduceSub, Int.reduceNeg, nil_ptr, add_ptr, eq_pn, eq_nn, eq_pp, Bool.false_eq_true, Nat.zero_add, Nat.add_zero, hT, h0, h1, l1, bi_cap, bin_mul, w1, w2, mk, l2, s1, cp, st]
  rfl

theorem grow_ans (n : Nat) (hn : 0 < n) (hl : n ≤ 2 ^ 40) : E.Ans 15 [.ptr 0 0 2, i64 n] [.cells [.nilptr, .nilsl] 2 2 0] (.tuple []) (hb2 n) := by
  refine Ans2 (F := F15) (by kernel_rfl) rfl (by decide) fun T hT h0 h1 => ?_
  have hc : ∀ K, E.C 19 [.ptr 0 0 2] [.cells [.nilptr, .nilsl] 2 2 0] K ↔ K (.tuple []) hb0 (.c [.cells [.nilptr, .nilsl] 2 2 0] hb0) := fun K => C_shared rfl (copyCheck_first (q := 0) (H := [.cells [.nilptr, .nilsl] 2 2 0]) rfl)
  have l1 : loadA hb0 1 false (.ptr 0 1 2) = some (.nilsl, hb0, .r 0) := rfl
  have d1 : ¬ ((n : Int) < 0) := by omega
  have d2 : (0 : Int) < n := by omega
  have w1 : IntKind.i64.wrap 0 = 0 := by rw [wrap64] <;> omega
  have hg : ∀ K, E.C 20 [.ptr 0 0 2, .int .i64 n] hb0 K ↔ K (.tuple []) (hb2 n) (.c hb0 (hb2 n)) := fun K => C_shared rfl (grow0_ans n hn hl)
  simp only [↓W_seq, ↓W_block, ↓W_reg, ↓W_draw, ↓WO_step, ↓WO_nil, ↓Guard_none, ↓Guard_gt, Gd_undef, Gd_tt, Gd_tf, Gd_ft, Gd_ff, ↓w_mv, ↓w_pick, Two_true, Two_false, Bnd_eq, ↓w_bin, ↓w_un, un_not, ↓w_extract, ↓w_load, ↓w_store, ↓w_slSl, ↓x_slStr, ↓x_idxStr, ↓x_field, ↓x_alloc, ↓x_mkSlice, ↓x_nilChk, idx_str0, ↓w_idxAddr, ↓w_fieldAddr, ↓w_box, ↓w_build, ↓w_lit, ↓w_mkFunc, ↓w_mkIface, ↓w_eq, ↓w_conv, ↓W1_fn, ↓W1_val, CV_func, ↓W1_builtin, bi_lenStr, bi_lenSl, bi_append, len1i, len0i, len_str, len_nil, len_lst, len_sl, bin_gtr, bin_lss, bin_leq, bin_geq, bin_eql, bin_neq, bin_eqls, bin_neqs, bin_add, bin_sub, ↓W_cond, ↓W_ret, ↓W_skip, ↓W_exit, ↓ev_t, ↓ev_c, ↓ev_f, ↓evo_s, ↓evo_n, List.map_cons, List.map_nil, ↓gp_eq, ↓gp_ne, ↓gp_none, ↓len_put, ↓andThen_normal, ↓andThen_ret, ↓andThen_exit, Nat.reduceBEq, Nat.reduceLT, decide_true, decide_false, Res_some, Res_none, Res_pure, Res_pure_none, Pick_true, Pick_false, ↓Fin0, ↓Fin1, ↓Fin2, ↓Fin0n, ↓FinV1, ↓FinX1, ↓FinX2, ↓FinV2, reduceCtorEq, if_true, if_false, List.cons_append, List.nil_append, List.append_nil, Option.map_some, AExit.exit.injEq, Nat.reduceEqDiff, Bool.not_true, Bool.not_false, true_and, and_true, ne_eq, not_false_eq_true, not_true_eq_false, List.getElem?_cons_zero, List.getElem?_cons_succ, Int.reduceBEq, Int.reduceBNe, Int.reduceLT, Int.reduceLE, Int.reduceGT, Int.reduceGE, Int.reduceEq, Int.reduceAdd, Int.reduceSub, Int.reduceNeg, nil_ptr, add_ptr, eq_pn, eq_nn, eq_pp, Bool.false_eq_true, Nat.zero_add, Nat.add_zero, hT, h0, h1, hc, d1, d2, l1, bi_cap, w1, hg]
  rfl

theorem string_ans {H : AHeap} {s : List UInt8} (hB : Bld H 0 s) (hs : s ≠ []) (hl : s.length ≤ 2 ^ 40) : ∃ H', E.Ans 16 [.ptr 0 0 2] H (.str s) H' := by
  obtain ⟨buf, hb, hbuf⟩ := hB
  cases hbuf with
  | fresh => exact absurd rfl hs
  | @row b _ wv hq hbb hw _ =>
    refine ⟨H.set b (.cells (bytesV s) 1 wv 1), Ans1 (F := F16) (by kernel_rfl) rfl (by decide) fun T hT h0 => ?_⟩
    have l1 : loadA H 1 false (.ptr 0 1 2) = some (.sl b 0 s.length 1 s.length none, H, .r 0) := load_at hb (by decide) (by decide) (by simp) (by decide) rfl
    have hpos : 0 < s.length := by cases s with | nil => exact absurd rfl hs | cons => simp
    have sd : builtinA H .sliceData [.sl b 0 s.length 1 s.length none] = some (.ptr b 0 s.length, H, .p) := by simp [builtinA, hpos, pureV]
    have ss : builtinA H .string [.ptr b 0 s.length, .int .i64 s.length] = some (.str s, H.set b (.cells (bytesV s) 1 wv 1), .l) := by
      have h1 : s.length ≠ 0 := by omega
      have h2 : (s.length : Int) ≤ 2 ^ 62 := by omega
      have h3 : (bytesV s).take s.length = bytesV s := List.take_of_length_le (by rw [bytesV_len]; omega)
      simp only [builtinA]
      rw [if_neg (by omega), if_pos (by omega)]
      simp [hbb, hw, bytesV_len, h3, bytesOf]
    simp only [↓W_seq, ↓W_block, ↓W_reg, ↓W_draw, ↓WO_step, ↓WO_nil, ↓Guard_none, ↓Guard_gt, Gd_undef, Gd_tt, Gd_tf, Gd_ft, Gd_ff, ↓w_mv, ↓w_pick, Two_true, Two_false, Bnd_eq, ↓w_bin, ↓w_un, un_not, ↓w_extract, ↓w_load, ↓w_store, ↓w_slSl, ↓x_slStr, ↓x_idxStr, ↓x_field, ↓x_alloc, ↓x_mkSlice, ↓x_nilChk, idx_str0, ↓w_idxAddr, ↓w_fieldAddr, ↓w_box, ↓w_build, ↓w_lit, ↓w_mkFunc, ↓w_mkIface, ↓w_eq, ↓w_conv, ↓W1_fn, ↓W1_val, CV_func, ↓W1_builtin, bi_lenStr, bi_lenSl, bi_append, len1i, len0i, len_str, len_nil, len_lst, len_sl, bin_gtr, bin_lss, bin_leq, bin_geq, bin_eql, bin_neq, bin_eqls, bin_neqs, bin_add, bin_sub, ↓W_cond, ↓W_ret, ↓W_skip, ↓W_exit, ↓ev_t, ↓ev_c, ↓ev_f, ↓evo_s, ↓evo_n, List.map_cons, List.map_nil, ↓gp_eq, ↓gp_ne, ↓gp_none, ↓len_put, ↓andThen_normal, ↓andThen_ret, ↓andThen_exit, Nat.reduceBEq, Nat.reduceLT, decide_true, decide_false, Res_some, Res_none, Res_pure, Res_pure_none, Pick_true, Pick_false, ↓Fin0, ↓Fin1, ↓Fin2, ↓Fin0n, ↓FinV1, ↓FinX1, ↓FinX2, ↓FinV2, reduceCtorEq, if_true, if_false, List.cons_append, List.nil_append, List.append_nil, Option.map_some, AExit.exit.injEq, Nat.reduceEqDiff, Bool.not_true, Bool.not_false, true_and, and_true, ne_eq, not_false_eq_true, not_true_eq_false, List.getElem?_cons_zero, List.getElem?_cons_succ, Int.reduceBEq, Int.reduceBNe, Int.reduceLT, Int.reduceLE, Int.reduceGT, Int.reduceGE, Int.reduceEq, Int.reduceAdd, Int.reduceSub, Int.reduceNeg, nil_ptr, add_ptr, eq_pn, eq_nn, eq_pp, Bool.false_eq_true, Nat.zero_add, Nat.add_zero, hT, h0, l1, sd, ss]
    rfl
end Go.AE.Fns
namespace Go.AE.Fns
open Go Go.AE Env
set_option maxRecDepth 100000

theorem txts_get (l : List (List UInt8)) (i : Nat) (h : i < l.length) : (txts l)[i]? = some (.str l[i]) := by simp [txts, h]

/-- the lengths are added up -/
theorem join_loop1 (l : List (List UInt8)) (ex : Bool) (c0 : Nat) (hc0 : c0 ≤ 2 ^ 31) (htot : sumLen l ≤ 2 ^ 31) (hlen : l.length ≤ 2 ^ 31) (a0 a1 : AV) (H : AHeap) (Q : AExit → Tmps → AHeap → Prop) : ∀ (k i : Nat) (T : Tmps), i + k = l.length →
    T.length = 75 → gt T 0 = a0 → gt T 1 = a1 → gt T 39 = .lst (txts l) l.length 1 ex → gt T 40 = i64 l.length → gt T 41 = i64 i → gt T 5 = i64 ((c0 + sumLen (l.take i) : Nat) : Int) →
    (∀ T' : Tmps, T'.length = 75 → gt T' 0 = a0 → gt T' 1 = a1 → gt T' 5 = i64 ((c0 + sumLen l : Nat) : Int) → Q (.exit 1) T' H) → E.W (F192.loop 0) T H Q
  | 0, i, T, hik, hT, h0, h1, h39, h40, h41, h5, hQ => by
    rw [show F192.loop 0 = .loop _ from rfl, W_loop]
    have d1 : ¬ ((i : Int) < (l.length : Int)) := by omega
    simp only [↓W_seq, ↓W_block, ↓W_reg, ↓W_draw, ↓WO_step, ↓WO_nil, ↓Guard_none, ↓Guard_gt, Gd_undef, Gd_tt, Gd_tf, Gd_ft, Gd_ff, ↓w_mv, ↓w_pick, Two_true, Two_false, Bnd_eq, ↓w_bin, ↓w_un, un_not, ↓w_extract, ↓w_load, ↓w_store, ↓w_slSl, ↓x_slStr, ↓x_idxStr, ↓x_field, ↓x_alloc, ↓x_mkSlice, ↓x_nilChk, idx_str0, ↓w_idxAddr, ↓w_fieldAddr, ↓w_box, ↓w_build, ↓w_lit, ↓w_mkFunc, ↓w_mkIface, ↓w_eq, ↓w_conv, ↓W1_fn, ↓W1_val, CV_func, ↓W1_builtin, bi_lenStr, bi_lenSl, bi_append, len1i, len0i, len_str, len_nil, len_lst, len_sl, bin_gtr, bin_lss, bin_leq, bin_geq, bin_eql, bin_neq, bin_eqls, bin_neqs, bin_add, bin_sub, ↓W_cond, ↓W_ret, ↓W_skip, ↓W_exit, ↓ev_t, ↓ev_c, ↓ev_f, ↓evo_s, ↓evo_n, List.map_cons, List.map_nil, ↓gp_eq, ↓gp_ne, ↓gp_none, ↓len_put, ↓andThen_normal, ↓andThen_ret, ↓andThen_exit, Nat.reduceBEq, Nat.reduceLT, decide_true, decide_false, Res_some, Res_none, Res_pure, Res_pure_none, Pick_true, Pick_false, ↓Fin0, ↓Fin1, ↓Fin2, ↓Fin0n, ↓FinV1, ↓FinX1, ↓FinX2, ↓FinV2, reduceCtorEq, if_true, if_false, List.cons_append, List.nil_append, List.append_nil, Option.map_some, AExit.exit.injEq, Nat.reduceEqDiff, Bool.not_true, Bool.not_false, true_and, and_true, ne_eq, not_false_eq_true, not_true_eq_false, List.getElem?_cons_zero, List.getElem?_cons_succ, Int.reduceBEq, Int.reduceBNe, Int.reduceLT, Int.reduceLE, Int.reduceGT, Int.reduceGE, Int.reduceEq, Int.reduceAdd, Int.reduceSub, Int.reduceNeg, nil_ptr, add_ptr, eq_pn, eq_nn, eq_pp, Bool.false_eq_true, hT, h0, h1, h39, h40, h41, d1]
    refine hQ _ (by simp only [↓gp_eq, ↓gp_ne, ↓gp_none, ↓len_put, Nat.reduceBEq, Nat.reduceLT, decide_true, hT]) (by simp only [↓gp_eq, ↓gp_ne, ↓gp_none, ↓len_put, Nat.reduceBEq, Nat.reduceLT, decide_true, hT, h0]) (by simp only [↓gp_eq, ↓gp_ne, ↓gp_none, ↓len_put, Nat.reduceBEq, Nat.reduceLT, decide_true, hT, h1]) ?_
    simp only [↓W_seq, ↓W_block, ↓W_reg, ↓W_draw, ↓WO_step, ↓WO_nil, ↓Guard_none, ↓Guard_gt, Gd_undef, Gd_tt, Gd_tf, Gd_ft, Gd_ff, ↓w_mv, ↓w_pick, Two_true, Two_false, Bnd_eq, ↓w_bin, ↓w_un, un_not, ↓w_extract, ↓w_load, ↓w_store, ↓w_slSl, ↓x_slStr, ↓x_idxStr, ↓x_field, ↓x_alloc, ↓x_mkSlice, ↓x_nilChk, idx_str0, ↓w_idxAddr, ↓w_fieldAddr, ↓w_box, ↓w_build, ↓w_lit, ↓w_mkFunc, ↓w_mkIface, ↓w_eq, ↓w_conv, ↓W1_fn, ↓W1_val, CV_func, ↓W1_builtin, bi_lenStr, bi_lenSl, bi_append, len1i, len0i, len_str, len_nil, len_lst, len_sl, bin_gtr, bin_lss, bin_leq, bin_geq, bin_eql, bin_neq, bin_eqls, bin_neqs, bin_add, bin_sub, ↓W_cond, ↓W_ret, ↓W_skip, ↓W_exit, ↓ev_t, ↓ev_c, ↓ev_f, ↓evo_s, ↓evo_n, List.map_cons, List.map_nil, ↓gp_eq, ↓gp_ne, ↓gp_none, ↓len_put, ↓andThen_normal, ↓andThen_ret, ↓andThen_exit, Nat.reduceBEq, Nat.reduceLT, decide_true, decide_false, Res_some, Res_none, Res_pure, Res_pure_none, Pick_true, Pick_false, ↓Fin0, ↓Fin1, ↓Fin2, ↓Fin0n, ↓FinV1, ↓FinX1, ↓FinX2, ↓FinV2, reduceCtorEq, if_true, if_false, List.cons_append, List.nil_append, List.append_nil, Option.map_some, AExit.exit.injEq, Nat.reduceEqDiff, Bool.not_true, Bool.not_false, true_and, and_true, ne_eq, not_false_eq_true, not_true_eq_false, List.getElem?_cons_zero, List.getElem?_cons_succ, Int.reduceBEq, Int.reduceBNe, Int.reduceLT, Int.reduceLE, Int.reduceGT, Int.reduceGE, Int.reduceEq, Int.reduceAdd, Int.reduceSub, Int.reduceNeg, nil_ptr, add_ptr, eq_pn, eq_nn, eq_pp, Bool.false_eq_true, hT, h5]
    rw [List.take_of_length_le (by omega)]
  | k + 1, i, T, hik, hT, h0, h1, h39, h40, h41, h5, hQ => by
    rw [show F192.loop 0 = .loop _ from rfl, W_loop]
    have hi : i < l.length := by omega
    have d1 : ((i : Int) < (l.length : Int)) := by omega
    have hs1 := sumLen_take l i hi
    have hs2 := sumLen_take_le l (i + 1)
    have a2 : idxAddrA 1 (.lst (txts l) l.length 1 ex) (.int .i64 i) = some (.elt (txts l) i) := idxA_lst hi
    have l1 : ∀ H, loadA H 1 false (.elt (txts l) i) = some (.str l[i], H, .p) := fun H => load_elt (txts_get l i hi)
    have w1 : IntKind.i64.wrap (9223372036854775807 - ((c0 + sumLen (l.take i) : Nat) : Int)) = 9223372036854775807 - ((c0 + sumLen (l.take i) : Nat) : Int) := by rw [wrap64] <;> omega
    have d2 : ¬ (((l[i]).length : Int) > 9223372036854775807 - ((c0 + sumLen (l.take i) : Nat) : Int)) := by omega
    have w2 : IntKind.i64.wrap (((c0 + sumLen (l.take i) : Nat) : Int) + ((l[i]).length : Int)) = ((c0 + sumLen (l.take (i + 1)) : Nat) : Int) := by rw [wrap64] <;> omega
    have w3 : IntKind.i64.wrap ((i : Int) + 1) = ((i + 1 : Nat) : Int) := by rw [wrap64] <;> omega
    simp only [↓W_seq, ↓W_block, ↓W_reg, ↓W_draw, ↓WO_step, ↓WO_nil, ↓Guard_none, ↓Guard_gt, Gd_undef, Gd_tt, Gd_tf, Gd_ft, Gd_ff, ↓w_mv, ↓w_pick, Two_true, Two_false, Bnd_eq, ↓w_bin, ↓w_un, un_not, ↓w_extract, ↓w_load, ↓w_store, ↓w_slSl, ↓x_slStr, ↓x_idxStr, ↓x_field, ↓x_alloc, ↓x_mkSlice, ↓x_nilChk, idx_str0, ↓w_idxAddr, ↓w_fieldAddr, ↓w_box, ↓w_build, ↓w_lit, ↓w_mkFunc, ↓w_mkIface, ↓w_eq, ↓w_conv, ↓W1_fn, ↓W1_val, CV_func, ↓W1_builtin, bi_lenStr, bi_lenSl, bi_append, len1i, len0i, len_str, len_nil, len_lst, len_sl, bin_gtr, bin_lss, bin_leq, bin_geq, bin_eql, bin_neq, bin_eqls, bin_neqs, bin_add, bin_sub, ↓W_cond, ↓W_ret, ↓W_skip, ↓W_exit, ↓ev_t, ↓ev_c, ↓ev_f, ↓evo_s, ↓evo_n, List.map_cons, List.map_nil, ↓gp_eq, ↓gp_ne, ↓gp_none, ↓len_put, ↓andThen_normal, ↓andThen_ret, ↓andThen_exit, Nat.reduceBEq, Nat.reduceLT, decide_true, decide_false, Res_some, Res_none, Res_pure, Res_pure_none, Pick_true, Pick_false, ↓Fin0, ↓Fin1, ↓Fin2, ↓Fin0n, ↓FinV1, ↓FinX1, ↓FinX2, ↓FinV2, reduceCtorEq, if_true, if_false, List.cons_append, List.nil_append, List.append_nil, Option.map_some, AExit.exit.injEq, Nat.reduceEqDiff, Bool.not_true, Bool.not_false, true_and, and_true, ne_eq, not_false_eq_true, not_true_eq_false, List.getElem?_cons_zero, List.getElem?_cons_succ, Int.reduceBEq, Int.reduceBNe, Int.reduceLT, Int.reduceLE, Int.reduceGT, Int.reduceGE, Int.reduceEq, Int.reduceAdd, Int.reduceSub, Int.reduceNeg, nil_ptr, add_ptr, eq_pn, eq_nn, eq_pp, Bool.false_eq_true, hT, h0, h1, h39, h40, h41, h5, d1, a2, l1, w1, d2, w2, w3]
    exact join_loop1 l ex c0 hc0 htot hlen a0 a1 H Q k (i + 1) _ (by omega) (by simp only [↓gp_eq, ↓gp_ne, ↓gp_none, ↓len_put, Nat.reduceBEq, Nat.reduceLT, decide_true, hT]) (by simp only [↓gp_eq, ↓gp_ne, ↓gp_none, ↓len_put, Nat.reduceBEq, Nat.reduceLT, decide_true, hT, h0]) (by simp only [↓gp_eq, ↓gp_ne, ↓gp_none, ↓len_put, Nat.reduceBEq, Nat.reduceLT, decide_true, hT, h1]) (by simp only [↓gp_eq, ↓gp_ne, ↓gp_none, ↓len_put, Nat.reduceBEq, Nat.reduceLT, decide_true, hT, h39]) (by simp only [↓gp_eq, ↓gp_ne, ↓gp_none, ↓len_put, Nat.reduceBEq, Nat.reduceLT, decide_true, hT, h40]) (by simp only [↓gp_eq, ↓gp_ne, ↓gp_none, ↓len_put, Nat.reduceBEq, Nat.reduceLT, decide_true, hT]) (by simp only [↓gp_eq, ↓gp_ne, ↓gp_none, ↓len_put, Nat.reduceBEq, Nat.reduceLT, decide_true, hT]) hQ

/-- the texts are written one behind the other -/
theorem join_loop2 (l : List (List UInt8)) (hlen : l.length ≤ 2 ^ 31) (ex : Bool) (c : UInt8) (a0 : AV) (Q : AExit → Tmps → AHeap → Prop) : ∀ (k i : Nat) (T : Tmps) (H : AHeap) (s : List UInt8), i + k = l.length → Bld H 0 s → s.length + sumLen (l.drop i) + k ≤ 2 ^ 33 →
    T.length = 75 → gt T 0 = a0 → gt T 1 = .str [c] → gt T 8 = .ptr 0 0 2 → gt T 63 = .lst (txts l) l.length 1 ex → gt T 64 = i64 l.length → gt T 65 = i64 i →
    (∀ (T' : Tmps) (H' : AHeap), T'.length = 75 → gt T' 8 = .ptr 0 0 2 → Bld H' 0 (s ++ joinR [c] (l.drop i)) → Q (.exit 3) T' H') → E.W (F192.loop 1) T H Q
  | 0, i, T, H, s, hik, hB, hb, hT, h0, h1, h8, h63, h64, h65, hQ => by
    rw [show F192.loop 1 = .loop _ from rfl, W_loop]
    have d1 : ¬ ((i : Int) < (l.length : Int)) := by omega
    simp only [↓W_seq, ↓W_block, ↓W_reg, ↓W_draw, ↓WO_step, ↓WO_nil, ↓Guard_none, ↓Guard_gt, Gd_undef, Gd_tt, Gd_tf, Gd_ft, Gd_ff, ↓w_mv, ↓w_pick, Two_true, Two_false, Bnd_eq, ↓w_bin, ↓w_un, un_not, ↓w_extract, ↓w_load, ↓w_store, ↓w_slSl, ↓x_slStr, ↓x_idxStr, ↓x_field, ↓x_alloc, ↓x_mkSlice, ↓x_nilChk, idx_str0, ↓w_idxAddr, ↓w_fieldAddr, ↓w_box, ↓w_build, ↓w_lit, ↓w_mkFunc, ↓w_mkIface, ↓w_eq, ↓w_conv, ↓W1_fn, ↓W1_val, CV_func, ↓W1_builtin, bi_lenStr, bi_lenSl, bi_append, len1i, len0i, len_str, len_nil, len_lst, len_sl, bin_gtr, bin_lss, bin_leq, bin_geq, bin_eql, bin_neq, bin_eqls, bin_neqs, bin_add, bin_sub, ↓W_cond, ↓W_ret, ↓W_skip, ↓W_exit, ↓ev_t, ↓ev_c, ↓ev_f, ↓evo_s, ↓evo_n, List.map_cons, List.map_nil, ↓gp_eq, ↓gp_ne, ↓gp_none, ↓len_put, ↓andThen_normal, ↓andThen_ret, ↓andThen_exit, Nat.reduceBEq, Nat.reduceLT, decide_true, decide_false, Res_some, Res_none, Res_pure, Res_pure_none, Pick_true, Pick_false, ↓Fin0, ↓Fin1, ↓Fin2, ↓Fin0n, ↓FinV1, ↓FinX1, ↓FinX2, ↓FinV2, reduceCtorEq, if_true, if_false, List.cons_append, List.nil_append, List.append_nil, Option.map_some, AExit.exit.injEq, Nat.reduceEqDiff, Bool.not_true, Bool.not_false, true_and, and_true, ne_eq, not_false_eq_true, not_true_eq_false, List.getElem?_cons_zero, List.getElem?_cons_succ, Int.reduceBEq, Int.reduceBNe, Int.reduceLT, Int.reduceLE, Int.reduceGT, Int.reduceGE, Int.reduceEq, Int.reduceAdd, Int.reduceSub, Int.reduceNeg, nil_ptr, add_ptr, eq_pn, eq_nn, eq_pp, Bool.false_eq_true, hT, h0, h1, h8, h63, h64, h65, d1]
    refine hQ _ H (by simp only [↓gp_eq, ↓gp_ne, ↓gp_none, ↓len_put, Nat.reduceBEq, Nat.reduceLT, decide_true, hT]) (by simp only [↓gp_eq, ↓gp_ne, ↓gp_none, ↓len_put, Nat.reduceBEq, Nat.reduceLT, decide_true, hT, h8]) ?_
    rw [List.drop_eq_nil_of_le (by omega)]
    simpa [joinR] using hB
  | k + 1, i, T, H, s, hik, hB, hb, hT, h0, h1, h8, h63, h64, h65, hQ => by
    rw [show F192.loop 1 = .loop _ from rfl, W_loop]
    have hi : i < l.length := by omega
    have d1 : ((i : Int) < (l.length : Int)) := by omega
    have hdrop : l.drop i = l[i] :: l.drop (i + 1) := List.drop_eq_getElem_cons hi
    have hsum : sumLen (l.drop i) = (l[i]).length + sumLen (l.drop (i + 1)) := by rw [hdrop]; simp only [sumLen, List.map_cons, List.sum_cons]
    have a2 : idxAddrA 1 (.lst (txts l) l.length 1 ex) (.int .i64 i) = some (.elt (txts l) i) := idxA_lst hi
    have l1 : ∀ H, loadA H 1 false (.elt (txts l) i) = some (.str l[i], H, .p) := fun H => load_elt (txts_get l i hi)
    obtain ⟨H1, g1, hB1⟩ := writeString_ans hB [c] (by simp; omega)
    obtain ⟨H2, g2, hB2⟩ := writeString_ans hB1 l[i] (by simp; omega)
    have k1 : ∀ K, E.C 18 [.ptr 0 0 2, .str [c]] H K ↔ K (.tuple [i64 ([c] : List UInt8).length, .nilIface]) H1 (.c H H1) := fun K => C_shared rfl g1
    have k2 : ∀ K, E.C 18 [.ptr 0 0 2, .str l[i]] H1 K ↔ K (.tuple [i64 (l[i]).length, .nilIface]) H2 (.c H1 H2) := fun K => C_shared rfl g2
    have w3 : IntKind.i64.wrap ((i : Int) + 1) = ((i + 1 : Nat) : Int) := by rw [wrap64] <;> omega
    simp only [↓W_seq, ↓W_block, ↓W_reg, ↓W_draw, ↓WO_step, ↓WO_nil, ↓Guard_none, ↓Guard_gt, Gd_undef, Gd_tt, Gd_tf, Gd_ft, Gd_ff, ↓w_mv, ↓w_pick, Two_true, Two_false, Bnd_eq, ↓w_bin, ↓w_un, un_not, ↓w_extract, ↓w_load, ↓w_store, ↓w_slSl, ↓x_slStr, ↓x_idxStr, ↓x_field, ↓x_alloc, ↓x_mkSlice, ↓x_nilChk, idx_str0, ↓w_idxAddr, ↓w_fieldAddr, ↓w_box, ↓w_build, ↓w_lit, ↓w_mkFunc, ↓w_mkIface, ↓w_eq, ↓w_conv, ↓W1_fn, ↓W1_val, CV_func, ↓W1_builtin, bi_lenStr, bi_lenSl, bi_append, len1i, len0i, len_str, len_nil, len_lst, len_sl, bin_gtr, bin_lss, bin_leq, bin_geq, bin_eql, bin_neq, bin_eqls, bin_neqs, bin_add, bin_sub, ↓W_cond, ↓W_ret, ↓W_skip, ↓W_exit, ↓ev_t, ↓ev_c, ↓ev_f, ↓evo_s, ↓evo_n, List.map_cons, List.map_nil, ↓gp_eq, ↓gp_ne, ↓gp_none, ↓len_put, ↓andThen_normal, ↓andThen_ret, ↓andThen_exit, Nat.reduceBEq, Nat.reduceLT, decide_true, decide_false, Res_some, Res_none, Res_pure, Res_pure_none, Pick_true, Pick_false, ↓Fin0, ↓Fin1, ↓Fin2, ↓Fin0n, ↓FinV1, ↓FinX1, ↓FinX2, ↓FinV2, reduceCtorEq, if_true, if_false, List.cons_append, List.nil_append, List.append_nil, Option.map_some, AExit.exit.injEq, Nat.reduceEqDiff, Bool.not_true, Bool.not_false, true_and, and_true, ne_eq, not_false_eq_true, not_true_eq_false, List.getElem?_cons_zero, List.getElem?_cons_succ, Int.reduceBEq, Int.reduceBNe, Int.reduceLT, Int.reduceLE, Int.reduceGT, Int.reduceGE, Int.reduceEq, Int.reduceAdd, Int.reduceSub, Int.reduceNeg, nil_ptr, add_ptr, eq_pn, eq_nn, eq_pp, Bool.false_eq_true, hT, h0, h1, h8, h63, h64, h65, d1, a2, l1, k1, k2, w3]
    refine join_loop2 l hlen ex c a0 Q k (i + 1) _ H2 (s ++ [c] ++ l[i]) (by omega) hB2 (by simp; omega) (by simp only [↓gp_eq, ↓gp_ne, ↓gp_none, ↓len_put, Nat.reduceBEq, Nat.reduceLT, decide_true, hT]) (by simp only [↓gp_eq, ↓gp_ne, ↓gp_none, ↓len_put, Nat.reduceBEq, Nat.reduceLT, decide_true, hT, h0]) (by simp only [↓gp_eq, ↓gp_ne, ↓gp_none, ↓len_put, Nat.reduceBEq, Nat.reduceLT, decide_true, hT, h1]) (by simp only [↓gp_eq, ↓gp_ne, ↓gp_none, ↓len_put, Nat.reduceBEq, Nat.reduceLT, decide_true, hT, h8]) (by simp only [↓gp_eq, ↓gp_ne, ↓gp_none, ↓len_put, Nat.reduceBEq, Nat.reduceLT, decide_true, hT, h63]) (by simp only [↓gp_eq, ↓gp_ne, ↓gp_none, ↓len_put, Nat.reduceBEq, Nat.reduceLT, decide_true, hT, h64]) (by simp only [↓gp_eq, ↓gp_ne, ↓gp_none, ↓len_put, Nat.reduceBEq, Nat.reduceLT, decide_true, hT])
      fun T' H' q1 q2 q3 => hQ T' H' q1 q2 ?_
    have e : joinR [c] (l.drop i) = [c] ++ l[i] ++ joinR [c] (l.drop (i + 1)) := by rw [hdrop]; simp only [joinR, List.flatMap_cons]
    rw [e]
    simpa only [List.append_assoc] using q3

theorem join_ans (l : List (List UInt8)) (ex : Bool) (c : UInt8) (hb : sumLen l + l.length ≤ 2 ^ 30) : ∃ Hc, E.Ans 192 [.lst (txts l) l.length 1 ex, .str [c]] [] (.str (joinB [c] l)) Hc := by
  have key : ∀ (l : List (List UInt8)) (n : Nat), l.length = n → 2 ≤ n → sumLen l + n ≤ 2 ^ 30 → ∃ Hc, E.Ans 192 [.lst (txts l) n 1 ex, .str [c]] [] (.str (joinB [c] l)) Hc := by
    intro l n hn h2 hb
    obtain ⟨a, l', rfl⟩ : ∃ a l', l = a :: l' := by cases l with | nil => simp at hn; omega | cons a l' => exact ⟨a, l', rfl⟩
    have hn' : l'.length = n - 1 := by simp at hn; omega
    have hsum : sumLen (a :: l') = a.length + sumLen l' := by simp [sumLen]
    generalize htot : 1 * (n - 1) + sumLen (a :: l') = tot
    have hB0 : Bld (hb2 tot) 0 [] := ⟨_, rfl, .fresh (N := tot) (by decide) rfl (by omega)⟩
    obtain ⟨H1, g1, hB1⟩ := writeString_ans hB0 a (by simp; omega)
    have hjr : (joinR [c] l').length = sumLen l' + l'.length * 1 := joinR_len [c] l'
    have hfin : ∀ H' s, Bld H' 0 s → s = [] ++ a ++ joinR [c] l' → ∃ H2, E.Ans 16 [.ptr 0 0 2] H' (.str (a ++ joinR [c] l')) H2 := by
      intro H' s hB hs
      have : s = a ++ joinR [c] l' := by simpa using hs
      subst this
      refine string_ans hB ?_ (by simp [hjr]; omega)
      intro h
      have := congrArg List.length h
      rw [List.length_append, hjr] at this
      simp only [List.length_nil] at this
      omega
    refine AnsV2 (F := F192) (by kernel_rfl) rfl (by decide) fun T hT h0 h1 => ?_
    have d0 : ((n : Int) == 0) = false := by simp; omega
    have d1 : ((n : Int) == 1) = false := by simp; omega
    have w1 : IntKind.i64.wrap ((n : Int) - 1) = ((n - 1 : Nat) : Int) := by rw [wrap64] <;> omega
    have hq : 1 < ((9223372036854775807 : Int).tdiv ((n - 1 : Nat) : Int)) := by
      rw [Int.tdiv_eq_ediv_of_nonneg (by omega)]
      have : (2 : Int) ≤ 9223372036854775807 / ((n - 1 : Nat) : Int) := by
        rw [Int.le_ediv_iff_mul_le (by omega)]; omega
      omega
    have hq2 : ((9223372036854775807 : Int).tdiv ((n - 1 : Nat) : Int)) ≤ 9223372036854775807 := by
      rw [Int.tdiv_eq_ediv_of_nonneg (by omega)]
      exact Int.ediv_le_self _ (by omega)
    have w2 : IntKind.i64.wrap ((9223372036854775807 : Int).tdiv ((n - 1 : Nat) : Int)) = ((9223372036854775807 : Int).tdiv ((n - 1 : Nat) : Int)) := by rw [wrap64]; omega
    have d2 : ¬ ((1 : Int) ≥ ((9223372036854775807 : Int).tdiv ((n - 1 : Nat) : Int))) := by omega
    have bq : binA .quo (.int .i64 9223372036854775807) (.int .i64 ((n - 1 : Nat) : Int)) = some (.int .i64 (IntKind.i64.wrap ((9223372036854775807 : Int).tdiv ((n - 1 : Nat) : Int)))) := bin_quo (by omega)
    have w3 : IntKind.i64.wrap (1 * ((n - 1 : Nat) : Int)) = ((n - 1 : Nat) : Int) := by rw [wrap64] <;> omega
    have w4 : IntKind.i64.wrap (0 + ((n - 1 : Nat) : Int)) = ((n - 1 : Nat) : Int) := by rw [wrap64] <;> omega
    simp only [↓W_seq, ↓W_block, ↓W_reg, ↓W_draw, ↓WO_step, ↓WO_nil, ↓Guard_none, ↓Guard_gt, Gd_undef, Gd_tt, Gd_tf, Gd_ft, Gd_ff, ↓w_mv, ↓w_pick, Two_true, Two_false, Bnd_eq, ↓w_bin, ↓w_un, un_not, ↓w_extract, ↓w_load, ↓w_store, ↓w_slSl, ↓x_slStr, ↓x_idxStr, ↓x_field, ↓x_alloc, ↓x_mkSlice, ↓x_nilChk, idx_str0, ↓w_idxAddr, ↓w_fieldAddr, ↓w_box, ↓w_build, ↓w_lit, ↓w_mkFunc, ↓w_mkIface, ↓w_eq, ↓w_conv, ↓W1_fn, ↓W1_val, CV_func, ↓W1_builtin, bi_lenStr, bi_lenSl, bi_append, len1i, len0i, len_str, len_nil, len_lst, len_sl, bin_gtr, bin_lss, bin_leq, bin_geq, bin_eql, bin_neq, bin_eqls, bin_neqs, bin_add, bin_sub, ↓W_cond, ↓W_ret, ↓W_skip, ↓W_exit, ↓ev_t, ↓ev_c, ↓ev_f, ↓evo_s, ↓evo_n, List.map_cons, List.map_nil, ↓gp_eq, ↓gp_ne, ↓gp_none, ↓len_put, ↓andThen_normal, ↓andThen_ret, ↓andThen_exit, Nat.reduceBEq, Nat.reduceLT, decide_true, decide_false, Res_some, Res_none, Res_pure, Res_pure_none, Pick_true, Pick_false, ↓Fin0, ↓Fin1, ↓Fin2, ↓Fin0n, ↓FinV1, ↓FinX1, ↓FinX2, ↓FinV2, reduceCtorEq, if_true, if_false, List.cons_append, List.nil_append, List.append_nil, Option.map_some, AExit.exit.injEq, Nat.reduceEqDiff, Bool.not_true, Bool.not_false, true_and, and_true, ne_eq, not_false_eq_true, not_true_eq_false, List.getElem?_cons_zero, List.getElem?_cons_succ, Int.reduceBEq, Int.reduceBNe, Int.reduceLT, Int.reduceLE, Int.reduceGT, Int.reduceGE, Int.reduceEq, Int.reduceAdd, Int.reduceSub, Int.reduceNeg, nil_ptr, add_ptr, eq_pn, eq_nn, eq_pp, Bool.false_eq_true, hT, h0, h1, d0, d1, w1, w2, bq, d2, bin_mul, w3, w4]
    subst hn
    refine join_loop1 (a :: l') ex (l'.length) (by omega) (by omega) (by omega) _ _ [] _ (a :: l').length 0 _ (by omega) (by simp only [↓gp_eq, ↓gp_ne, ↓gp_none, ↓len_put, Nat.reduceBEq, Nat.reduceLT, decide_true, hT]) rfl rfl (by simp only [↓gp_eq, ↓gp_ne, ↓gp_none, ↓len_put, Nat.reduceBEq, Nat.reduceLT, decide_true, hT, h0]) (by simp only [↓gp_eq, ↓gp_ne, ↓gp_none, ↓len_put, Nat.reduceBEq, Nat.reduceLT, decide_true, hT]) (by simp only [↓gp_eq, ↓gp_ne, ↓gp_none, ↓len_put, Nat.reduceBEq, Nat.reduceLT, decide_true, hT]; rfl) ?_ ?_
    · simp only [↓W_seq, ↓W_block, ↓W_reg, ↓W_draw, ↓WO_step, ↓WO_nil, ↓Guard_none, ↓Guard_gt, Gd_undef, Gd_tt, Gd_tf, Gd_ft, Gd_ff, ↓w_mv, ↓w_pick, Two_true, Two_false, Bnd_eq, ↓w_bin, ↓w_un, un_not, ↓w_extract, ↓w_load, ↓w_store, ↓w_slSl, ↓x_slStr, ↓x_idxStr, ↓x_field, ↓x_alloc, ↓x_mkSlice, ↓x_nilChk, idx_str0, ↓w_idxAddr, ↓w_fieldAddr, ↓w_box, ↓w_build, ↓w_lit, ↓w_mkFunc, ↓w_mkIface, ↓w_eq, ↓w_conv, ↓W1_fn, ↓W1_val, CV_func, ↓W1_builtin, bi_lenStr, bi_lenSl, bi_append, len1i, len0i, len_str, len_nil, len_lst, len_sl, bin_gtr, bin_lss, bin_leq, bin_geq, bin_eql, bin_neq, bin_eqls, bin_neqs, bin_add, bin_sub, ↓W_cond, ↓W_ret, ↓W_skip, ↓W_exit, ↓ev_t, ↓ev_c, ↓ev_f, ↓evo_s, ↓evo_n, List.map_cons, List.map_nil, ↓gp_eq, ↓gp_ne, ↓gp_none, ↓len_put, ↓andThen_normal, ↓andThen_ret, ↓andThen_exit, Nat.reduceBEq, Nat.reduceLT, decide_true, decide_false, Res_some, Res_none, Res_pure, Res_pure_none, Pick_true, Pick_false, ↓Fin0, ↓Fin1, ↓Fin2, ↓Fin0n, ↓FinV1, ↓FinX1, ↓FinX2, ↓FinV2, reduceCtorEq, if_true, if_false, List.cons_append, List.nil_append, List.append_nil, Option.map_some, AExit.exit.injEq, Nat.reduceEqDiff, Bool.not_true, Bool.not_false, true_and, and_true, ne_eq, not_false_eq_true, not_true_eq_false, List.getElem?_cons_zero, List.getElem?_cons_succ, Int.reduceBEq, Int.reduceBNe, Int.reduceLT, Int.reduceLE, Int.reduceGT, Int.reduceGE, Int.reduceEq, Int.reduceAdd, Int.reduceSub, Int.reduceNeg, nil_ptr, add_ptr, eq_pn, eq_nn, eq_pp, Bool.false_eq_true, hT]
      simp [sumLen]
    · intro T2 q1 q2 q3 q4
      have q2' : gt T2 0 = .lst (txts (a :: l')) (a :: l').length 1 ex := by rw [q2]; simp only [↓W_seq, ↓W_block, ↓W_reg, ↓W_draw, ↓WO_step, ↓WO_nil, ↓Guard_none, ↓Guard_gt, Gd_undef, Gd_tt, Gd_tf, Gd_ft, Gd_ff, ↓w_mv, ↓w_pick, Two_true, Two_false, Bnd_eq, ↓w_bin, ↓w_un, un_not, ↓w_extract, ↓w_load, ↓w_store, ↓w_slSl, ↓x_slStr, ↓x_idxStr, ↓x_field, ↓x_alloc, ↓x_mkSlice, ↓x_nilChk, idx_str0, ↓w_idxAddr, ↓w_fieldAddr, ↓w_box, ↓w_build, ↓w_lit, ↓w_mkFunc, ↓w_mkIface, ↓w_eq, ↓w_conv, ↓W1_fn, ↓W1_val, CV_func, ↓W1_builtin, bi_lenStr, bi_lenSl, bi_append, len1i, len0i, len_str, len_nil, len_lst, len_sl, bin_gtr, bin_lss, bin_leq, bin_geq, bin_eql, bin_neq, bin_eqls, bin_neqs, bin_add, bin_sub, ↓W_cond, ↓W_ret, ↓W_skip, ↓W_exit, ↓ev_t, ↓ev_c, ↓ev_f, ↓evo_s, ↓evo_n, List.map_cons, List.map_nil, ↓gp_eq, ↓gp_ne, ↓gp_none, ↓len_put, ↓andThen_normal, ↓andThen_ret, ↓andThen_exit, Nat.reduceBEq, Nat.reduceLT, decide_true, decide_false, Res_some, Res_none, Res_pure, Res_pure_none, Pick_true, Pick_false, ↓Fin0, ↓Fin1, ↓Fin2, ↓Fin0n, ↓FinV1, ↓FinX1, ↓FinX2, ↓FinV2, reduceCtorEq, if_true, if_false, List.cons_append, List.nil_append, List.append_nil, Option.map_some, AExit.exit.injEq, Nat.reduceEqDiff, Bool.not_true, Bool.not_false, true_and, and_true, ne_eq, not_false_eq_true, not_true_eq_false, List.getElem?_cons_zero, List.getElem?_cons_succ, Int.reduceBEq, Int.reduceBNe, Int.reduceLT, Int.reduceLE, Int.reduceGT, Int.reduceGE, Int.reduceEq, Int.reduceAdd, Int.reduceSub, Int.reduceNeg, nil_ptr, add_ptr, eq_pn, eq_nn, eq_pp, Bool.false_eq_true, hT, h0]
      have q3' : gt T2 1 = .str [c] := by rw [q3]; simp only [↓W_seq, ↓W_block, ↓W_reg, ↓W_draw, ↓WO_step, ↓WO_nil, ↓Guard_none, ↓Guard_gt, Gd_undef, Gd_tt, Gd_tf, Gd_ft, Gd_ff, ↓w_mv, ↓w_pick, Two_true, Two_false, Bnd_eq, ↓w_bin, ↓w_un, un_not, ↓w_extract, ↓w_load, ↓w_store, ↓w_slSl, ↓x_slStr, ↓x_idxStr, ↓x_field, ↓x_alloc, ↓x_mkSlice, ↓x_nilChk, idx_str0, ↓w_idxAddr, ↓w_fieldAddr, ↓w_box, ↓w_build, ↓w_lit, ↓w_mkFunc, ↓w_mkIface, ↓w_eq, ↓w_conv, ↓W1_fn, ↓W1_val, CV_func, ↓W1_builtin, bi_lenStr, bi_lenSl, bi_append, len1i, len0i, len_str, len_nil, len_lst, len_sl, bin_gtr, bin_lss, bin_leq, bin_geq, bin_eql, bin_neq, bin_eqls, bin_neqs, bin_add, bin_sub, ↓W_cond, ↓W_ret, ↓W_skip, ↓W_exit, ↓ev_t, ↓ev_c, ↓ev_f, ↓evo_s, ↓evo_n, List.map_cons, List.map_nil, ↓gp_eq, ↓gp_ne, ↓gp_none, ↓len_put, ↓andThen_normal, ↓andThen_ret, ↓andThen_exit, Nat.reduceBEq, Nat.reduceLT, decide_true, decide_false, Res_some, Res_none, Res_pure, Res_pure_none, Pick_true, Pick_false, ↓Fin0, ↓Fin1, ↓Fin2, ↓Fin0n, ↓FinV1, ↓FinX1, ↓FinX2, ↓FinV2, reduceCtorEq, if_true, if_false, List.cons_append, List.nil_append, List.append_nil, Option.map_some, AExit.exit.injEq, Nat.reduceEqDiff, Bool.not_true, Bool.not_false, true_and, and_true, ne_eq, not_false_eq_true, not_true_eq_false, List.getElem?_cons_zero, List.getElem?_cons_succ, Int.reduceBEq, Int.reduceBNe, Int.reduceLT, Int.reduceLE, Int.reduceGT, Int.reduceGE, Int.reduceEq, Int.reduceAdd, Int.reduceSub, Int.reduceNeg, nil_ptr, add_ptr, eq_pn, eq_nn, eq_pp, Bool.false_eq_true, hT, h1]
      have q4' : gt T2 5 = i64 (tot : Int) := by rw [q4, ← htot]; simp
      have hal : fAlloc [.nilptr, .nilsl] 2 [] = some (.ptr 0 0 2, [.cells [.nilptr, .nilsl] 2 2 0], .a 0) := by rw [alloc_eq (by simp)]; rfl
      have hg : ∀ K, E.C 15 [.ptr 0 0 2, .int .i64 tot] [.cells [.nilptr, .nilsl] 2 2 0] K ↔ K (.tuple []) (hb2 tot) (.c [.cells [.nilptr, .nilsl] 2 2 0] (hb2 tot)) := fun K => C_shared rfl (grow_ans tot (by omega) (by omega))
      have a2 : idxAddrA 1 (.lst (txts (a :: l')) (a :: l').length 1 ex) (.int .i64 0) = some (.elt (txts (a :: l')) 0) := idxA_lst (i := 0) (by simp)
      have l1 : ∀ H, loadA H 1 false (.elt (txts (a :: l')) 0) = some (.str a, H, .p) := fun H => load_elt rfl
      have k1 : ∀ K, E.C 18 [.ptr 0 0 2, .str a] (hb2 tot) K ↔ K (.tuple [i64 a.length, .nilIface]) H1 (.c (hb2 tot) H1) := fun K => C_shared rfl g1
      have sl1 : sliceA 1 (.lst (txts (a :: l')) (a :: l').length 1 ex) (some (.int .i64 1)) none none = some (.lst (txts l') l'.length 1 ex) := by
        have := slice_lst (cs := txts (a :: l')) (ex := ex) (k := .i64) (l := 1) (n := (a :: l').length) (by simp) (txts_len _)
        simpa [txts] using this
      simp only [↓W_seq, ↓W_block, ↓W_reg, ↓W_draw, ↓WO_step, ↓WO_nil, ↓Guard_none, ↓Guard_gt, Gd_undef, Gd_tt, Gd_tf, Gd_ft, Gd_ff, ↓w_mv, ↓w_pick, Two_true, Two_false, Bnd_eq, ↓w_bin, ↓w_un, un_not, ↓w_extract, ↓w_load, ↓w_store, ↓w_slSl, ↓x_slStr, ↓x_idxStr, ↓x_field, ↓x_alloc, ↓x_mkSlice, ↓x_nilChk, idx_str0, ↓w_idxAddr, ↓w_fieldAddr, ↓w_box, ↓w_build, ↓w_lit, ↓w_mkFunc, ↓w_mkIface, ↓w_eq, ↓w_conv, ↓W1_fn, ↓W1_val, CV_func, ↓W1_builtin, bi_lenStr, bi_lenSl, bi_append, len1i, len0i, len_str, len_nil, len_lst, len_sl, bin_gtr, bin_lss, bin_leq, bin_geq, bin_eql, bin_neq, bin_eqls, bin_neqs, bin_add, bin_sub, ↓W_cond, ↓W_ret, ↓W_skip, ↓W_exit, ↓ev_t, ↓ev_c, ↓ev_f, ↓evo_s, ↓evo_n, List.map_cons, List.map_nil, ↓gp_eq, ↓gp_ne, ↓gp_none, ↓len_put, ↓andThen_normal, ↓andThen_ret, ↓andThen_exit, Nat.reduceBEq, Nat.reduceLT, decide_true, decide_false, Res_some, Res_none, Res_pure, Res_pure_none, Pick_true, Pick_false, ↓Fin0, ↓Fin1, ↓Fin2, ↓Fin0n, ↓FinV1, ↓FinX1, ↓FinX2, ↓FinV2, reduceCtorEq, if_true, if_false, List.cons_append, List.nil_append, List.append_nil, Option.map_some, AExit.exit.injEq, Nat.reduceEqDiff, Bool.not_true, Bool.not_false, true_and, and_true, ne_eq, not_false_eq_true, not_true_eq_false, List.getElem?_cons_zero, List.getElem?_cons_succ, Int.reduceBEq, Int.reduceBNe, Int.reduceLT, Int.reduceLE, Int.reduceGT, Int.reduceGE, Int.reduceEq, Int.reduceAdd, Int.reduceSub, Int.reduceNeg, nil_ptr, add_ptr, eq_pn, eq_nn, eq_pp, Bool.false_eq_true, q1, q2', q3', q4', hal, hg, a2, l1, k1, sl1]
      refine join_loop2 l' (by omega) ex c _ _ l'.length 0 _ H1 ([] ++ a) (by omega) hB1 (by simp; omega) (by simp only [↓gp_eq, ↓gp_ne, ↓gp_none, ↓len_put, Nat.reduceBEq, Nat.reduceLT, decide_true, q1]) rfl (by simp only [↓gp_eq, ↓gp_ne, ↓gp_none, ↓len_put, Nat.reduceBEq, Nat.reduceLT, decide_true, q1, q3']) (by simp only [↓gp_eq, ↓gp_ne, ↓gp_none, ↓len_put, Nat.reduceBEq, Nat.reduceLT, decide_true, q1]) (by simp only [↓gp_eq, ↓gp_ne, ↓gp_none, ↓len_put, Nat.reduceBEq, Nat.reduceLT, decide_true, q1]) (by simp only [↓gp_eq, ↓gp_ne, ↓gp_none, ↓len_put, Nat.reduceBEq, Nat.reduceLT, decide_true, q1]) (by simp only [↓gp_eq, ↓gp_ne, ↓gp_none, ↓len_put, Nat.reduceBEq, Nat.reduceLT, decide_true, q1]; rfl) ?_
      intro T3 H3 r1 r2 r3
      obtain ⟨H4, g4⟩ := hfin H3 _ r3 (by simp)
      have k4 : ∀ K, E.C 16 [.ptr 0 0 2] H3 K ↔ K (.str (a ++ joinR [c] l')) H4 (.c H3 H4) := fun K => C_shared rfl g4
      simp only [↓W_seq, ↓W_block, ↓W_reg, ↓W_draw, ↓WO_step, ↓WO_nil, ↓Guard_none, ↓Guard_gt, Gd_undef, Gd_tt, Gd_tf, Gd_ft, Gd_ff, ↓w_mv, ↓w_pick, Two_true, Two_false, Bnd_eq, ↓w_bin, ↓w_un, un_not, ↓w_extract, ↓w_load, ↓w_store, ↓w_slSl, ↓x_slStr, ↓x_idxStr, ↓x_field, ↓x_alloc, ↓x_mkSlice, ↓x_nilChk, idx_str0, ↓w_idxAddr, ↓w_fieldAddr, ↓w_box, ↓w_build, ↓w_lit, ↓w_mkFunc, ↓w_mkIface, ↓w_eq, ↓w_conv, ↓W1_fn, ↓W1_val, CV_func, ↓W1_builtin, bi_lenStr, bi_lenSl, bi_append, len1i, len0i, len_str, len_nil, len_lst, len_sl, bin_gtr, bin_lss, bin_leq, bin_geq, bin_eql, bin_neq, bin_eqls, bin_neqs, bin_add, bin_sub, ↓W_cond, ↓W_ret, ↓W_skip, ↓W_exit, ↓ev_t, ↓ev_c, ↓ev_f, ↓evo_s, ↓evo_n, List.map_cons, List.map_nil, ↓gp_eq, ↓gp_ne, ↓gp_none, ↓len_put, ↓andThen_normal, ↓andThen_ret, ↓andThen_exit, Nat.reduceBEq, Nat.reduceLT, decide_true, decide_false, Res_some, Res_none, Res_pure, Res_pure_none, Pick_true, Pick_false, ↓Fin0, ↓Fin1, ↓Fin2, ↓Fin0n, ↓FinV1, ↓FinX1, ↓FinX2, ↓FinV2, reduceCtorEq, if_true, if_false, List.cons_append, List.nil_append, List.append_nil, Option.map_some, AExit.exit.injEq, Nat.reduceEqDiff, Bool.not_true, Bool.not_false, true_and, and_true, ne_eq, not_false_eq_true, not_true_eq_false, List.getElem?_cons_zero, List.getElem?_cons_succ, Int.reduceBEq, Int.reduceBNe, Int.reduceLT, Int.reduceLE, Int.reduceGT, Int.reduceGE, Int.reduceEq, Int.reduceAdd, Int.reduceSub, Int.reduceNeg, nil_ptr, add_ptr, eq_pn, eq_nn, eq_pp, Bool.false_eq_true, r1, r2, k4]
      rfl
  rcases l with _ | ⟨a, _ | ⟨b, l'⟩⟩
  · refine ⟨[], Ans2 (F := F192) (by kernel_rfl) rfl (by decide) fun T hT h0 h1 => ?_⟩
    have e0 : ((0 : Nat) : Int) = 0 := rfl
    simp only [↓W_seq, ↓W_block, ↓W_reg, ↓W_draw, ↓WO_step, ↓WO_nil, ↓Guard_none, ↓Guard_gt, Gd_undef, Gd_tt, Gd_tf, Gd_ft, Gd_ff, ↓w_mv, ↓w_pick, Two_true, Two_false, Bnd_eq, ↓w_bin, ↓w_un, un_not, ↓w_extract, ↓w_load, ↓w_store, ↓w_slSl, ↓x_slStr, ↓x_idxStr, ↓x_field, ↓x_alloc, ↓x_mkSlice, ↓x_nilChk, idx_str0, ↓w_idxAddr, ↓w_fieldAddr, ↓w_box, ↓w_build, ↓w_lit, ↓w_mkFunc, ↓w_mkIface, ↓w_eq, ↓w_conv, ↓W1_fn, ↓W1_val, CV_func, ↓W1_builtin, bi_lenStr, bi_lenSl, bi_append, len1i, len0i, len_str, len_nil, len_lst, len_sl, bin_gtr, bin_lss, bin_leq, bin_geq, bin_eql, bin_neq, bin_eqls, bin_neqs, bin_add, bin_sub, ↓W_cond, ↓W_ret, ↓W_skip, ↓W_exit, ↓ev_t, ↓ev_c, ↓ev_f, ↓evo_s, ↓evo_n, List.map_cons, List.map_nil, ↓gp_eq, ↓gp_ne, ↓gp_none, ↓len_put, ↓andThen_normal, ↓andThen_ret, ↓andThen_exit, Nat.reduceBEq, Nat.reduceLT, decide_true, decide_false, Res_some, Res_none, Res_pure, Res_pure_none, Pick_true, Pick_false, ↓Fin0, ↓Fin1, ↓Fin2, ↓Fin0n, ↓FinV1, ↓FinX1, ↓FinX2, ↓FinV2, reduceCtorEq, if_true, if_false, List.cons_append, List.nil_append, List.append_nil, Option.map_some, AExit.exit.injEq, Nat.reduceEqDiff, Bool.not_true, Bool.not_false, true_and, and_true, ne_eq, not_false_eq_true, not_true_eq_false, List.getElem?_cons_zero, List.getElem?_cons_succ, Int.reduceBEq, Int.reduceBNe, Int.reduceLT, Int.reduceLE, Int.reduceGT, Int.reduceGE, Int.reduceEq, Int.reduceAdd, Int.reduceSub, Int.reduceNeg, nil_ptr, add_ptr, eq_pn, eq_nn, eq_pp, Bool.false_eq_true, hT, h0, h1, List.length_nil, e0]
    rfl
  · refine ⟨[], Ans2 (F := F192) (by kernel_rfl) rfl (by decide) fun T hT h0 h1 => ?_⟩
    have a1 : idxAddrA 1 (.lst (txts [a]) 1 1 ex) (.int .i64 0) = some (.elt (txts [a]) 0) := idxA_lst (i := 0) (by decide)
    have l1 : ∀ H, loadA H 1 false (.elt (txts [a]) 0) = some (.str a, H, .p) := fun H => load_elt rfl
    have e1 : ((([a] : List (List UInt8)).length : Nat) : Int) = 1 := rfl
    have e2 : ([a] : List (List UInt8)).length = 1 := rfl
    rw [e2] at h0
    have e3 : ((1 : Nat) : Int) = 1 := rfl
    simp only [↓W_seq, ↓W_block, ↓W_reg, ↓W_draw, ↓WO_step, ↓WO_nil, ↓Guard_none, ↓Guard_gt, Gd_undef, Gd_tt, Gd_tf, Gd_ft, Gd_ff, ↓w_mv, ↓w_pick, Two_true, Two_false, Bnd_eq, ↓w_bin, ↓w_un, un_not, ↓w_extract, ↓w_load, ↓w_store, ↓w_slSl, ↓x_slStr, ↓x_idxStr, ↓x_field, ↓x_alloc, ↓x_mkSlice, ↓x_nilChk, idx_str0, ↓w_idxAddr, ↓w_fieldAddr, ↓w_box, ↓w_build, ↓w_lit, ↓w_mkFunc, ↓w_mkIface, ↓w_eq, ↓w_conv, ↓W1_fn, ↓W1_val, CV_func, ↓W1_builtin, bi_lenStr, bi_lenSl, bi_append, len1i, len0i, len_str, len_nil, len_lst, len_sl, bin_gtr, bin_lss, bin_leq, bin_geq, bin_eql, bin_neq, bin_eqls, bin_neqs, bin_add, bin_sub, ↓W_cond, ↓W_ret, ↓W_skip, ↓W_exit, ↓ev_t, ↓ev_c, ↓ev_f, ↓evo_s, ↓evo_n, List.map_cons, List.map_nil, ↓gp_eq, ↓gp_ne, ↓gp_none, ↓len_put, ↓andThen_normal, ↓andThen_ret, ↓andThen_exit, Nat.reduceBEq, Nat.reduceLT, decide_true, decide_false, Res_some, Res_none, Res_pure, Res_pure_none, Pick_true, Pick_false, ↓Fin0, ↓Fin1, ↓Fin2, ↓Fin0n, ↓FinV1, ↓FinX1, ↓FinX2, ↓FinV2, reduceCtorEq, if_true, if_false, List.cons_append, List.nil_append, List.append_nil, Option.map_some, AExit.exit.injEq, Nat.reduceEqDiff, Bool.not_true, Bool.not_false, true_and, and_true, ne_eq, not_false_eq_true, not_true_eq_false, List.getElem?_cons_zero, List.getElem?_cons_succ, Int.reduceBEq, Int.reduceBNe, Int.reduceLT, Int.reduceLE, Int.reduceGT, Int.reduceGE, Int.reduceEq, Int.reduceAdd, Int.reduceSub, Int.reduceNeg, nil_ptr, add_ptr, eq_pn, eq_nn, eq_pp, Bool.false_eq_true, hT, h0, h1, e3, a1, l1]
    simp [joinB, joinR]
  · exact key _ _ rfl (by simp) hb

theorem join_c (l : List (List UInt8)) (ex : Bool) (c : UInt8) (hb : sumLen l + l.length ≤ 2 ^ 30) (H : AHeap) (K : AV → AHeap → Kd → Prop) : E.C 192 [.lst (txts l) l.length 1 ex, .str [c]] H K ↔ K (.str (joinB [c] l)) H .p := by
  obtain ⟨Hc, h⟩ := join_ans l ex c hb
  refine C_val h ?_ (by kernel_rfl) rfl
  have := (IsSl.lst (l := l) ex).free
  simp only [AV.locFree] at this
  simp [locFreeL, this, AV.locFree]
end Go.AE.Fns
