/- What the functions of texts answer. -/
import Derived.Test.YtibjieaohbnpgaaGreatDoorB4
import Derived.Test.YtibjieaohbnpgaaGreatDoorA6
import Derived.KernelRfl
set_option linter.all false
set_option linter.unusedSimpArgs false
set_option linter.unusedVariables false
set_option linter.unnecessarySimpa false
set_option linter.deprecated false
open Go Go.AE Go.AE.Env Go.AE.Fns
attribute [local go_sem ↓] W_seq W_block W_reg W_draw WO_step WO_nil Guard_none Guard_gt w_mv w_pick w_bin w_un w_extract w_load w_store w_slSl x_slStr x_idxStr x_field x_alloc x_mkSlice x_nilChk w_idxAddr w_fieldAddr w_box w_build w_lit w_mkFunc w_mkIface w_eq w_conv W1_fn W1_val W1_builtin W_cond W_ret W_skip W_exit ev_t ev_c ev_f evo_s evo_n gp_eq gp_ne gp_none len_put andThen_normal andThen_ret andThen_exit Fin1 Fin2 Fin0n FinV1 FinX1 FinX2 FinV2 FinE1 x_idxArrAddr x_idxArr x_rangeStr x_nextStr x_lookup x_mapUpd x_mkMap x_slArr FinH1
attribute [local go_sem] Gd_undef Gd_tt Gd_tf Gd_ft Gd_ff Two_true Two_false Bnd_eq un_not idx_str0 CV_func bi_lenStr bi_lenSl bi_append len1i len0i len_str len_nil len_lst len_sl bin_gtr bin_lss bin_leq bin_geq bin_eql bin_neq bin_eqls bin_neqs bin_add bin_sub List.map_cons List.map_nil decide_true decide_false Res_some Res_none Res_pure Res_pure_none Pick_true Pick_false if_true if_false List.cons_append List.nil_append List.append_nil Option.map_some AExit.exit.injEq Bool.not_true Bool.not_false true_and and_true ne_eq not_false_eq_true not_true_eq_false List.getElem?_cons_zero List.getElem?_cons_succ nil_ptr add_ptr eq_pn eq_nn eq_pp Bool.false_eq_true Bool.true_and Bool.and_true Bool.false_and Bool.and_false Bool.true_or Bool.or_true Bool.false_or Bool.or_false range_str
namespace Go.AE
def idxB (c : UInt8) (s : List UInt8) : Int := match s.findIdx? (· == c) with | some i => (i : Int) | none => -1
def countB (c : UInt8) (s : List UInt8) : Nat := (s.filter (· == c)).length
def splitB (c : UInt8) : List UInt8 → List (List UInt8)
 | [] => [[]]
 | x :: l => if x == c then [] :: splitB c l else match splitB c l with
  | [] => [[x]]
  | h :: t => (x :: h) :: t
theorem splitB_ne (c : UInt8) : ∀ s, splitB c s ≠ []
 | [] => by simp [splitB]
 | x :: l => by
  simp only [splitB]
  split
  ·simp
  ·split <;> simp
theorem splitB_len (c : UInt8) : ∀ s, (splitB c s).length = countB c s + 1
 | [] => rfl
 | x :: l => by
  have ih := splitB_len c l
  simp only [splitB, countB]
  split
  ·rename_i h; simp [List.filter_cons, h]; exact ih
  ·rename_i h
   simp [List.filter_cons, h]
   cases hl : splitB c l with
   | nil => exact absurd hl (splitB_ne c l)
   | cons a t => simp; rw [hl] at ih; simpa [countB] using ih
theorem count_le (c : UInt8) (s : List UInt8) : countB c s ≤ s.length := List.length_filter_le _ _
theorem split_none (c : UInt8) : ∀ s, countB c s = 0 → splitB c s = [s]
 | [], _ => rfl
 | x :: l, h => by
  simp only [countB, List.filter_cons] at h
  split at h
  ·simp at h
  ·rename_i hx
   have ih := split_none c l h
   simp [splitB, hx, ih]
theorem split_some (c : UInt8) : ∀ s k, countB c s = k + 1 → ∃ i, s.findIdx? (· == c) = some i ∧ i < s.length ∧ splitB c s = s.take i :: splitB c (s.drop (i + 1)) ∧ countB c (s.drop (i + 1)) = k
 | [], k, h => by simp [countB] at h
 | x :: l, k, h => by
  by_cases hx : (x == c) = true
  ·refine ⟨0, by simp [List.findIdx?_cons, hx], by simp, by simp [splitB, hx], ?_⟩
   simp only [countB, List.filter_cons, hx, if_true, List.length_cons] at h
   simpa [countB] using h
  ·have h' : countB c l = k + 1 := by
    simp only [countB, List.filter_cons, if_neg hx] at h
    exact h
   obtain ⟨i, h1, h2, h3, h4⟩ := split_some c l k h'
   refine ⟨i + 1, ?_, by simpa using h2, ?_, by simpa using h4⟩
   ·simp [List.findIdx?_cons, hx, h1]
   ·simp [splitB, hx, h3]
theorem idxB_of {c : UInt8} {s : List UInt8} {i : Nat} (h : s.findIdx? (· == c) = some i) : idxB c s = i := by simp [idxB, h]
def joinR (sep : List UInt8) (l : List (List UInt8)) : List UInt8 := l.flatMap fun x => sep ++ x
def joinB (sep : List UInt8) : List (List UInt8) → List UInt8
 | [] => []
 | a :: l => a ++ joinR sep l
def sumLen (l : List (List UInt8)) : Nat := (l.map List.length).sum
theorem sumLen_take (l : List (List UInt8)) (i : Nat) (h : i < l.length) : sumLen (l.take (i + 1)) = sumLen (l.take i) + (l[i]).length := by
 unfold sumLen
 rw [List.take_add_one, List.getElem?_eq_getElem h, List.map_append, List.sum_append]
 simp
theorem sumLen_take_le (l : List (List UInt8)) (i : Nat) : sumLen (l.take i) ≤ sumLen l := by
 unfold sumLen
 have := congrArg (fun l => (l.map List.length).sum) (List.take_append_drop i l)
 simp only [List.map_append, List.sum_append] at this
 omega
theorem joinR_len (sep : List UInt8) : ∀ l, (joinR sep l).length = sumLen l + l.length * sep.length
 | [] => by simp [joinR, sumLen]
 | a :: l => by
  have ih := joinR_len sep l
  simp only [joinR, sumLen, List.flatMap_cons, List.length_append, List.map_cons, List.sum_cons, List.length_cons] at ih ⊢
  rw [ih, Nat.add_mul]; omega
end Go.AE
namespace Go.AE
def fitL : Bool → List (List UInt8) → List (List UInt8) → Bool
 | _, [], _ => true
 | f, s :: l, t :: r => (s == t || (f && s == [42])) && fitL false l r
 | _, _ :: _, [] => false
def fitsB (lb name : List (List UInt8)) : Bool := decide (lb.length ≤ name.length) && fitL true lb (name.drop (name.length - lb.length))
def cutPre (p s : List UInt8) : List UInt8 := if p.isPrefixOf s then s.drop p.length else s
def labels (r : List UInt8) : List (List UInt8) := splitB 46 (cutPre [33] r)
def isNot (r : List UInt8) : Bool := List.isPrefixOf [33] r
def stepM (name : List (List UInt8)) (st : Int × Int) (r : List UInt8) : Int × Int :=
 if fitsB (labels r) name then
  if isNot r = true ∧ st.2 < 0 then (st.1, (labels r).length - 1)
  else if isNot r = false then (max st.1 (labels r).length, st.2)
  else st
 else st
def foldM (name : List (List UInt8)) (rules : List (List UInt8)) : Int × Int := rules.foldl (stepM name) (1, -1)
def matchN (rules name : List (List UInt8)) : Int := if (foldM name rules).2 ≥ 0 then (foldM name rules).2 else (foldM name rules).1
theorem fitL_drop (f : Bool) (lb nm : List (List UInt8)) (i d : Nat) (hi : i < lb.length) (hd : d + i < nm.length) :
  fitL f (lb.drop i) (nm.drop (d + i)) = ((lb[i] == nm[d + i] || (f && lb[i] == [42])) && fitL false (lb.drop (i + 1)) (nm.drop (d + (i + 1)))) := by
 rw [List.drop_eq_getElem_cons hi, List.drop_eq_getElem_cons hd]
 simp only [fitL]
 rw [Nat.add_assoc]
end Go.AE
namespace Go.AE.Fns
open Go Go.AE Env
set_option maxRecDepth 100000
abbrev i64 (n : Int) : AV := .int .i64 n
def txts (l : List (List UInt8)) : List AV := l.map .str
inductive IsSl (l : List (List UInt8)) : AV → Prop where
 | lst (ex : Bool) : IsSl l (.lst (txts l) l.length 1 ex)
 | nil (h : l = []) : IsSl l .nilsl
theorem IsSl.len {l : List (List UInt8)} {r : AV} (h : IsSl l r) (H : AHeap) : lenA H .lenSl r = some (.int .i64 l.length, H, .p) := by
 cases h with
 | lst => rfl
 | nil h => subst h; rfl
theorem IsSl.free {l : List (List UInt8)} {r : AV} (h : IsSl l r) : r.locFree = true := by
 cases h with
 | lst =>
  simp only [AV.locFree, txts]
  induction l with
  | nil => rfl
  | cons a l ih => simpa [locFreeL, AV.locFree] using ih
 | nil h => rfl
def askedN (rules : List (List UInt8)) (name : List UInt8) : Int := if rules.length > 256 then 3 else if name.length > 4096 then 4 else 0
theorem asked_ans {rules : List (List UInt8)} {r : AV} (hr : IsSl rules r) (name : List UInt8) (H : AHeap) : E.Ans 75 [r, .str name] H (i64 (askedN rules name)) H := by
 have hl := hr.len
 refine Ans2 (F := F75) (by kernel_rfl) rfl (by decide) fun T hT h0 h1 => ?_
 unfold askedN
 by_cases c1 : rules.length > 256
 ·have d1 : (rules.length : Int) > 256 := by omega
  simp only [go_sem, Nat.reduceBEq, Nat.reduceLT, reduceCtorEq, Nat.reduceEqDiff, Int.reduceBEq, Int.reduceLT, hT, h0, h1, hl, c1, d1]
 ·have d1 : ¬ (rules.length : Int) > 256 := by omega
  by_cases c2 : name.length > 4096
  ·have d2 : (name.length : Int) > 4096 := by omega
   simp only [go_sem, Nat.reduceBEq, Nat.reduceLT, reduceCtorEq, Nat.reduceEqDiff, Int.reduceBEq, Int.reduceLT, hT, h0, h1, hl, c1, d1, c2, d2]
  ·have d2 : ¬ (name.length : Int) > 4096 := by omega
   simp only [go_sem, Nat.reduceBEq, Nat.reduceLT, reduceCtorEq, Nat.reduceEqDiff, Int.reduceBEq, Int.reduceLT, hT, h0, h1, hl, c1, d1, c2, d2]
theorem txts_len (l : List (List UInt8)) : (txts l).length = l.length := by simp [txts]
theorem freezeL_txts (H : AHeap) : ∀ (l : List (List UInt8)) (k : Nat), l.length < k → freezeL H k (txts l) = some (txts l)
 | [], 0, h => by simp at h
 | [], k + 1, _ => rfl
 | a :: l, 0, h => by simp at h
 | a :: l, 1, h => by simp at h
 | a :: l, k + 2, h => by
  have ih := freezeL_txts H l (k + 1) (by simpa using h)
  simp only [txts, List.map_cons] at ih ⊢
  simp only [freezeL, freeze, ih]
end Go.AE.Fns
namespace Go.AE.Fns
open Go Go.AE Env
set_option maxRecDepth 100000
theorem hasPrefix_ans (s p : List UInt8) (H : AHeap) : E.Ans 151 [.str s, .str p] H (.bool (p.isPrefixOf s)) H := by
 refine Ans2 (F := F151) (by kernel_rfl) rfl (by decide) fun T hT h0 h1 => ?_
 by_cases c : p.length ≤ s.length
 ·have d1 : (s.length : Int) ≥ p.length := by omega
  have e1 : ∀ H, fSlStr (.str s) none (some (.int .i64 p.length)) H = some (.str (s.take p.length), H, .p) := fun H => sl_to (by omega)
  have e2 : p.isPrefixOf s = (s.take p.length == p) := by
   rw [Bool.eq_iff_iff]
   simp only [List.isPrefixOf_iff_prefix, beq_iff_eq, List.prefix_iff_eq_take]
   exact eq_comm
  simp only [go_sem, Nat.reduceBEq, Nat.reduceLT, reduceCtorEq, Nat.reduceEqDiff, Int.reduceBEq, Int.reduceLT, hT, h0, h1, d1, e1, e2]
 ·have d1 : ¬ (s.length : Int) ≥ p.length := by omega
  have e2 : p.isPrefixOf s = false := by
   rw [Bool.eq_false_iff]
   intro h
   rw [List.isPrefixOf_iff_prefix] at h
   exact c h.length_le
  simp only [go_sem, Nat.reduceBEq, Nat.reduceLT, reduceCtorEq, Nat.reduceEqDiff, Int.reduceBEq, Int.reduceLT, hT, h0, h1, d1, e2]
theorem hasPrefix_c (s p : List UInt8) (H : AHeap) (K : AV → AHeap → Kd → Prop) : E.C 151 [.str s, .str p] H K ↔ K (.bool (p.isPrefixOf s)) H .p :=
 C_val (hasPrefix_ans s p []) rfl (by kernel_rfl) rfl
theorem cutPrefix0_ans (s p : List UInt8) (H : AHeap) : E.Ans 149 [.str s, .str p] H (.tuple [.str (cutPre p s), .bool (p.isPrefixOf s)]) H := by
 refine Ans2 (F := F149) (by kernel_rfl) rfl (by decide) fun T hT h0 h1 => ?_
 have hp := hasPrefix_c s p
 cases c : p.isPrefixOf s
 ·simp only [go_sem, Nat.reduceBEq, Nat.reduceLT, reduceCtorEq, Nat.reduceEqDiff, Int.reduceBEq, Int.reduceLT, hT, h0, h1, hp, c, cutPre, Bool.false_eq_true]
 ·have hl : p.length ≤ s.length := (List.isPrefixOf_iff_prefix.1 c).length_le
  have e1 : ∀ H, fSlStr (.str s) (some (.int .i64 p.length)) none H = some (.str (s.drop p.length), H, .p) := fun H => sl_from (by omega)
  simp only [go_sem, Nat.reduceBEq, Nat.reduceLT, reduceCtorEq, Nat.reduceEqDiff, Int.reduceBEq, Int.reduceLT, hT, h0, h1, hp, c, cutPre, e1]
theorem cutPrefix0_c (s p : List UInt8) (H : AHeap) (K : AV → AHeap → Kd → Prop) : E.C 149 [.str s, .str p] H K ↔ K (.tuple [.str (cutPre p s), .bool (p.isPrefixOf s)]) H .p :=
 C_val (cutPrefix0_ans s p []) rfl (by kernel_rfl) rfl
theorem cutPrefix_ans (s p : List UInt8) (H : AHeap) : E.Ans 183 [.str s, .str p] H (.tuple [.str (cutPre p s), .bool (p.isPrefixOf s)]) H := by
 refine Ans2 (F := F183) (by kernel_rfl) rfl (by decide) fun T hT h0 h1 => ?_
 have hp := cutPrefix0_c s p
 simp only [go_sem, Nat.reduceBEq, Nat.reduceLT, reduceCtorEq, Nat.reduceEqDiff, Int.reduceBEq, Int.reduceLT, hT, h0, h1, hp]
theorem cutPrefix_c (s p : List UInt8) (H : AHeap) (K : AV → AHeap → Kd → Prop) : E.C 183 [.str s, .str p] H K ↔ K (.tuple [.str (cutPre p s), .bool (p.isPrefixOf s)]) H .p :=
 C_val (cutPrefix_ans s p []) rfl (by kernel_rfl) rfl
theorem indexByte_c (s : List UInt8) (c : UInt8) (H : AHeap) (K : AV → AHeap → Kd → Prop) : E.C 141 [.str s, .int .u8 c.toNat] H K ↔ K (i64 (idxB c s)) H .p :=
 C_val (v := i64 (idxB c s)) (Hc := []) (Ans_ext (e := .indexByteString) (by kernel_rfl) (by simp [extA, idxB, i64]; rfl)) rfl (by kernel_rfl) rfl
theorem indexByte1_ans (s : List UInt8) (c : UInt8) (H : AHeap) : E.Ans 154 [.str s, .int .u8 c.toNat] H (i64 (idxB c s)) H := by
 refine Ans2 (F := F154) (by kernel_rfl) rfl (by decide) fun T hT h0 h1 => ?_
 have hp := indexByte_c s c
 simp only [go_sem, Nat.reduceBEq, Nat.reduceLT, reduceCtorEq, Nat.reduceEqDiff, Int.reduceBEq, Int.reduceLT, hT, h0, h1, hp]
theorem indexByte1_c (s : List UInt8) (c : UInt8) (H : AHeap) (K : AV → AHeap → Kd → Prop) : E.C 154 [.str s, .int .u8 c.toNat] H K ↔ K (i64 (idxB c s)) H .p :=
 C_val (indexByte1_ans s c []) rfl (by kernel_rfl) rfl
theorem idxB_one (c : UInt8) : idxB c [c] = 0 := by simp [idxB]
theorem index0_ans (s : List UInt8) (c : UInt8) (H : AHeap) : E.Ans 153 [.str s, .str [c]] H (i64 (idxB c s)) H := by
 refine Ans2 (F := F153) (by kernel_rfl) rfl (by decide) fun T hT h0 h1 => ?_
 have hp := indexByte1_c s c
 by_cases e : [c] = s
 ·have e1 : ([c] == s) = true := by simpa using e
  subst e
  simp only [go_sem, Nat.reduceBEq, Nat.reduceLT, reduceCtorEq, Nat.reduceEqDiff, Int.reduceBEq, Int.reduceLT, hT, h0, h1, hp, e1, idxB_one]
 ·have e1 : ([c] == s) = false := by simpa using e
  simp only [go_sem, Nat.reduceBEq, Nat.reduceLT, reduceCtorEq, Nat.reduceEqDiff, Int.reduceBEq, Int.reduceLT, hT, h0, h1, hp, e1]
end Go.AE.Fns
namespace Go.AE.Fns
open Go Go.AE Env
set_option maxRecDepth 100000
theorem index0_c (s : List UInt8) (c : UInt8) (H : AHeap) (K : AV → AHeap → Kd → Prop) : E.C 153 [.str s, .str [c]] H K ↔ K (i64 (idxB c s)) H .p :=
 C_val (index0_ans s c []) rfl (by kernel_rfl) rfl
theorem index_ans (s : List UInt8) (c : UInt8) (H : AHeap) : E.Ans 187 [.str s, .str [c]] H (i64 (idxB c s)) H := by
 refine Ans2 (F := F187) (by kernel_rfl) rfl (by decide) fun T hT h0 h1 => ?_
 have hp := index0_c s c
 simp only [go_sem, Nat.reduceBEq, Nat.reduceLT, reduceCtorEq, Nat.reduceEqDiff, Int.reduceBEq, Int.reduceLT, hT, h0, h1, hp]
theorem index_c (s : List UInt8) (c : UInt8) (H : AHeap) (K : AV → AHeap → Kd → Prop) : E.C 187 [.str s, .str [c]] H K ↔ K (i64 (idxB c s)) H .p :=
 C_val (index_ans s c []) rfl (by kernel_rfl) rfl
theorem countString_c (s : List UInt8) (c : UInt8) (H : AHeap) (K : AV → AHeap → Kd → Prop) : E.C 140 [.str s, .int .u8 c.toNat] H K ↔ K (i64 (countB c s)) H .p :=
 C_val (v := i64 (countB c s)) (Hc := []) (Ans_ext (e := .countString) (by kernel_rfl) (by simp [extA, countB, i64])) rfl (by kernel_rfl) rfl
theorem count_ans (s : List UInt8) (c : UInt8) (H : AHeap) : E.Ans 181 [.str s, .str [c]] H (i64 (countB c s)) H := by
 refine Ans2 (F := F181) (by kernel_rfl) rfl (by decide) fun T hT h0 h1 => ?_
 have hp := countString_c s c
 simp only [go_sem, Nat.reduceBEq, Nat.reduceLT, reduceCtorEq, Nat.reduceEqDiff, Int.reduceBEq, Int.reduceLT, hT, h0, h1, hp]
theorem count_c (s : List UInt8) (c : UInt8) (H : AHeap) (K : AV → AHeap → Kd → Prop) : E.C 181 [.str s, .str [c]] H K ↔ K (i64 (countB c s)) H .p :=
 C_val (count_ans s c []) rfl (by kernel_rfl) rfl
theorem genSplit_loop (c : UInt8) (n : Nat) (hn : n ≤ 2 ^ 30) (Q : AExit → Tmps → AHeap → Prop) : ∀ (k : Nat) (pieces : List (List UInt8)) (s : List UInt8) (T : Tmps) (cs : List AV),
    countB c s = k → pieces.length + k + 1 = n → cs.length = n → cs.take pieces.length = txts pieces → s.length ≤ 2 ^ 30 →
    T.length = 66 → gt T 0 = .str s → gt T 1 = .str [c] → gt T 2 = i64 0 → gt T 3 = i64 (n - 1 : Nat) → gt T 9 = .sl 0 0 n 1 n (some n) → gt T 10 = i64 pieces.length →
    (∀ (T' : Tmps) (cs' : List AV) (init : List (List UInt8)) (last : List UInt8), init ++ [last] = pieces ++ splitB c s → init.length + 1 = n → cs'.length = n → cs'.take init.length = txts init → T'.length = 66 → gt T' 0 = .str last → gt T' 9 = .sl 0 0 n 1 n (some n) → gt T' 10 = i64 init.length →
      Q (.exit 0) T' [.cells cs' 0 n 0]) →
    E.W (F201.loop 0) T [.cells cs 0 n 0] Q
  | 0, pieces, s, T, cs, hc, hpn, hcs, htk, hs, hT, h0, h1, h2, h3, h9, h10, hQ => by
    rw [show F201.loop 0 = .loop _ from rfl, W_loop]
    have d1 : ¬ ((pieces.length : Int) < ((n - 1 : Nat) : Int)) := by omega
    simp only [go_sem, Nat.reduceBEq, Nat.reduceLT, reduceCtorEq, Nat.reduceEqDiff, Int.reduceBEq, Int.reduceLT, hT, h0, h1, h2, h3, h9, h10, d1]
    refine hQ _ cs pieces s ?_ (by omega) hcs htk (by simp only [↓gp_eq, ↓gp_ne, ↓gp_none, ↓len_put, Nat.reduceBEq, Nat.reduceLT, decide_true, hT]) (by simp only [↓gp_eq, ↓gp_ne, ↓gp_none, ↓len_put, Nat.reduceBEq, Nat.reduceLT, decide_true, hT, h0]) (by simp only [↓gp_eq, ↓gp_ne, ↓gp_none, ↓len_put, Nat.reduceBEq, Nat.reduceLT, decide_true, hT, h9]) (by simp only [↓gp_eq, ↓gp_ne, ↓gp_none, ↓len_put, Nat.reduceBEq, Nat.reduceLT, decide_true, hT, h10])
    rw [split_none c s hc]
  | k + 1, pieces, s, T, cs, hc, hpn, hcs, htk, hs, hT, h0, h1, h2, h3, h9, h10, hQ => by
    obtain ⟨i, hi, hil, hsp, hk⟩ := split_some c s k hc
    rw [show F201.loop 0 = .loop _ from rfl, W_loop]
    have d1 : ((pieces.length : Int) < ((n - 1 : Nat) : Int)) := by omega
    have d2 : ¬ ((i : Int) < 0) := by omega
    have e1 : idxB c s = i := idxB_of hi
    have hp := index_c s c
    have w1 : IntKind.i64.wrap ((i : Int) + 0) = i := by rw [wrap64] <;> omega
    have w2 : IntKind.i64.wrap ((i : Int) + 1) = ((i + 1 : Nat) : Int) := by rw [wrap64] <;> omega
    have w3 : IntKind.i64.wrap ((pieces.length : Int) + 1) = ((pieces.length + 1 : Nat) : Int) := by rw [wrap64] <;> omega
    have s1 : ∀ H, fSlStr (.str s) none (some (.int .i64 i)) H = some (.str (s.take i), H, .p) := fun H => sl_to (by omega)
    have s2 : ∀ H, fSlStr (.str s) (some (.int .i64 ((i + 1 : Nat) : Int))) none H = some (.str (s.drop (i + 1)), H, .p) := fun H => sl_from (by omega)
    have a1 : idxAddrA 1 (.sl 0 0 n 1 n (some n)) (.int .i64 (pieces.length : Nat)) = some (.ptr 0 (0 + pieces.length) n) := idxA_sl (by omega)
    have st : storeA [.cells cs 0 n 0] 1 (.ptr 0 (0 + pieces.length) n) (.str (s.take i)) = some (undefA, [.cells (cs.set pieces.length (.str (s.take i))) 0 n 0], .w 0) := by
      rw [Nat.zero_add]
      exact store_one (H := [.cells cs 0 n 0]) (b := 0) rfl hcs.symm (by omega) rfl
    simp only [go_sem, Nat.reduceBEq, Nat.reduceLT, reduceCtorEq, Nat.reduceEqDiff, Int.reduceBEq, Int.reduceLT, hT, h0, h1, h2, h3, h9, h10, d1, hp, e1, d2, w1, w2, w3, s1, s2, a1, st]
    have hlen : (pieces ++ [s.take i]).length = pieces.length + 1 := by simp
    refine genSplit_loop c n hn Q k (pieces ++ [s.take i]) (s.drop (i + 1)) _ (cs.set pieces.length (.str (s.take i))) hk (by rw [hlen]; omega) (by simpa using hcs) ?_ (by simp; omega) (by simp only [↓gp_eq, ↓gp_ne, ↓gp_none, ↓len_put, Nat.reduceBEq, Nat.reduceLT, decide_true, hT]) (by simp only [↓gp_eq, ↓gp_ne, ↓gp_none, ↓len_put, Nat.reduceBEq, Nat.reduceLT, decide_true, hT]) (by simp only [↓gp_eq, ↓gp_ne, ↓gp_none, ↓len_put, Nat.reduceBEq, Nat.reduceLT, decide_true, hT, h1]) (by simp only [↓gp_eq, ↓gp_ne, ↓gp_none, ↓len_put, Nat.reduceBEq, Nat.reduceLT, decide_true, hT, h2]) (by simp only [↓gp_eq, ↓gp_ne, ↓gp_none, ↓len_put, Nat.reduceBEq, Nat.reduceLT, decide_true, hT, h3]) (by simp only [↓gp_eq, ↓gp_ne, ↓gp_none, ↓len_put, Nat.reduceBEq, Nat.reduceLT, decide_true, hT, h9])
      (by rw [hlen]; simp only [go_sem, Nat.reduceBEq, Nat.reduceLT, reduceCtorEq, Nat.reduceEqDiff, Int.reduceBEq, Int.reduceLT, hT]) fun T' cs' init last q1 q2 q3 q4 q5 q6 q7 q8 => hQ T' cs' init last (by rw [q1, hsp, List.append_assoc]; rfl) q2 q3 q4 q5 q6 q7 q8
    rw [hlen, List.take_add_one, List.take_set_of_le (Nat.le_refl _), htk]
    simp [txts, show pieces.length < cs.length by omega]
end Go.AE.Fns
namespace Go.AE.Fns
open Go Go.AE Env
set_option maxRecDepth 100000
theorem bi_min {H : AHeap} {a b : Int} : builtinA H .min [.int .i64 a, .int .i64 b] = some (.int .i64 (if b < a then b else a), H, .p) := by simp [builtinA, foldA, minA, pureV]
theorem genSplit_ans (s : List UInt8) (c : UInt8) (hs : s.length ≤ 2 ^ 29) (H : AHeap) (hH : H = []) :
  E.Ans 201 [.str s, .str [c], i64 0, i64 (-1)] H (.sl 0 0 (countB c s + 1) 1 (countB c s + 1) (some (countB c s + 1))) [.cells (txts (splitB c s)) 0 (countB c s + 1) 0] := by
 subst hH
 refine Ans4 (F := F201) (by kernel_rfl) rfl (by decide) fun T hT h0 h1 h2 h3 => ?_
 have hcl := count_le c s
 generalize hn : countB c s + 1 = n
 have hp := count_c s c
 have w1 : IntKind.i64.wrap ((countB c s : Int) + 1) = (n : Int) := by rw [wrap64] <;> omega
 have w2 : IntKind.i64.wrap ((s.length : Int) + 1) = ((s.length + 1 : Nat) : Int) := by rw [wrap64] <;> omega
 have w3 : IntKind.i64.wrap ((n : Int) - 1) = ((n - 1 : Nat) : Int) := by rw [wrap64] <;> omega
 have d1 : (([c] : List UInt8) == []) = false := rfl
 have d2 : ¬ (((s.length + 1 : Nat) : Int) < (n : Int)) := by omega
 have m1 : ∀ H : AHeap, fMkSlice [.str []] 1 16 0 (.int .i64 n) (.int .i64 n) H = some (.sl H.length 0 n 1 n (some n), H ++ [.cells (List.replicate n (.str [])) 0 n 0], .a H.length) := fun H => mkSl (by omega) (by omega)
 simp only [go_sem, Nat.reduceBEq, Nat.reduceLT, reduceCtorEq, Nat.reduceEqDiff, Int.reduceBEq, Int.reduceLT, hT, h0, h1, h2, h3, hp, w1, w2, w3, d1, bi_min, d2, m1, List.length_nil]
 refine genSplit_loop c n (by omega) _ (countB c s) [] s _ (List.replicate n (.str [])) rfl (by simp; omega) (by simp) (by simp [txts]) (by omega) (by simp only [↓gp_eq, ↓gp_ne, ↓gp_none, ↓len_put, Nat.reduceBEq, Nat.reduceLT, decide_true, hT]) (by simp only [↓gp_eq, ↓gp_ne, ↓gp_none, ↓len_put, Nat.reduceBEq, Nat.reduceLT, decide_true, hT, h0]) (by simp only [↓gp_eq, ↓gp_ne, ↓gp_none, ↓len_put, Nat.reduceBEq, Nat.reduceLT, decide_true, hT, h1]) (by simp only [↓gp_eq, ↓gp_ne, ↓gp_none, ↓len_put, Nat.reduceBEq, Nat.reduceLT, decide_true, hT, h2]) (by simp only [↓gp_eq, ↓gp_ne, ↓gp_none, ↓len_put, Nat.reduceBEq, Nat.reduceLT, decide_true, hT]) (by simp only [↓gp_eq, ↓gp_ne, ↓gp_none, ↓len_put, Nat.reduceBEq, Nat.reduceLT, decide_true, hT]) (by simp only [↓gp_eq, ↓gp_ne, ↓gp_none, ↓len_put, Nat.reduceBEq, Nat.reduceLT, decide_true, hT]; rfl) ?_
 intro T' cs' init last q1 q2 q3 q4 q5 q6 q7 q8
 have a1 : idxAddrA 1 (.sl 0 0 n 1 n (some n)) (.int .i64 (init.length : Nat)) = some (.ptr 0 (0 + init.length) n) := idxA_sl (by omega)
 have st : storeA [.cells cs' 0 n 0] 1 (.ptr 0 (0 + init.length) n) (.str last) = some (undefA, [.cells (cs'.set init.length (.str last)) 0 n 0], .w 0) := by
  rw [Nat.zero_add]
  exact store_one (H := [.cells cs' 0 n 0]) (b := 0) rfl q3.symm (by omega) rfl
 have w4 : IntKind.i64.wrap ((init.length : Int) + 1) = (n : Int) := by rw [wrap64] <;> omega
 have sl1 : sliceA 1 (.sl 0 0 n 1 n (some n)) none (some (.int .i64 n)) none = some (.sl 0 0 n 1 n (some n)) := slice_to (Nat.le_refl _)
 have hfin : cs'.set init.length (.str last) = txts (splitB c s) := by
  have e : splitB c s = init ++ [last] := by rw [q1]; rfl
  rw [e]
  refine List.ext_getElem? fun j => ?_
  rcases Nat.lt_trichotomy j init.length with h | h | h
  ·rw [List.getElem?_set_ne (by omega)]
   have := congrArg (fun l => l[j]?) q4
   simp only [List.getElem?_take, h, if_true] at this
   rw [this]
   simp only [txts, List.map_append]
   rw [List.getElem?_append_left (by simpa using h)]
  ·subst h
   have : init.length < cs'.length := by omega
   simp [txts, this]
  ·have h1 : cs'.length ≤ j := by omega
   simp [txts, List.getElem?_set, List.getElem?_eq_none h1, show ¬ init.length = j by omega]
   omega
 simp only [go_sem, Nat.reduceBEq, Nat.reduceLT, reduceCtorEq, Nat.reduceEqDiff, Int.reduceBEq, Int.reduceLT, q5, q6, q7, q8, a1, st, w4, sl1, hfin]
theorem split_ans (s : List UInt8) (c : UInt8) (hs : s.length ≤ 2 ^ 29) : ∃ Hc, E.Ans 197 [.str s, .str [c]] [] (.lst (txts (splitB c s)) (splitB c s).length 1 true) Hc := by
 refine ⟨[], Ans2 (F := F197) (by kernel_rfl) rfl (by decide) fun T hT h0 h1 => ?_⟩
 have hg : ∀ (H : AHeap) (K : AV → AHeap → Kd → Prop), E.C 201 [.str s, .str [c], .int .i64 0, .int .i64 (-1)] H K ↔ K (.lst (txts (splitB c s)) (splitB c s).length 1 true) H .p := fun H K => by
  refine C_pure rfl (genSplit_ans s c hs [] rfl) (by kernel_rfl) ?_
  have hl : (splitB c s).length < 999999999 := by rw [splitB_len]; have := count_le c s; omega
  have hlen := splitB_len c s
  have hr : rowOf [.cells (txts (splitB c s)) 0 (countB c s + 1) 0] (.sl 0 0 (countB c s + 1) 1 (countB c s + 1) (some (countB c s + 1))) = some (txts (splitB c s)) := by
   simp [rowOf, txts_len, hlen]
   rw [List.take_of_length_le (by rw [txts_len]; omega)]
  rw [show (1000000000 : Nat) = 999999999 + 1 from rfl]
  simp only [freeze, hr, freezeL_txts _ _ _ hl]
  simp [hlen]
 simp only [go_sem, Nat.reduceBEq, Nat.reduceLT, reduceCtorEq, Nat.reduceEqDiff, Int.reduceBEq, Int.reduceLT, hT, h0, h1, hg]
theorem split_c (s : List UInt8) (c : UInt8) (hs : s.length ≤ 2 ^ 29) (H : AHeap) (K : AV → AHeap → Kd → Prop) : E.C 197 [.str s, .str [c]] H K ↔ K (.lst (txts (splitB c s)) (splitB c s).length 1 true) H .p := by
 obtain ⟨Hc, h⟩ := split_ans s c hs
 refine C_val h rfl (by kernel_rfl) ?_
 have hl : (splitB c s).length < 999999999 := by rw [splitB_len]; have := count_le c s; omega
 rw [show (1000000000 : Nat) = 999999999 + 1 from rfl]
 simp only [freeze, freezeL_txts _ _ _ hl, Option.map_some]
end Go.AE.Fns
namespace Go.AE.Fns
open Go Go.AE Env
set_option maxRecDepth 100000
def bytesV (s : List UInt8) : List AV := s.map fun b => .int .u8 b.toNat
theorem bytesV_len (s : List UInt8) : (bytesV s).length = s.length := by simp [bytesV]
theorem bytesOf (s : List UInt8) : bytesOfA (bytesV s) = some s := by
 induction s with
 | nil => rfl
 | cons a l ih =>
  simp only [bytesV, List.map_cons] at ih ⊢
  simp [bytesOfA, ih]
inductive Buf (H : AHeap) (q : Nat) : AV → List UInt8 → Prop where
 | fresh {b N : Nat} (hq : b ≠ q) (hb : H[b]? = some (.cells (List.replicate N .bad) 1 N 0)) (hN : 0 < N) : Buf H q (.sl b 0 0 1 N none) []
 | row {b : Nat} {s : List UInt8} {wv : Nat} (hq : b ≠ q) (hb : H[b]? = some (.cells (bytesV s) 1 wv 0)) (hw : wv ≤ s.length) (hs : s ≠ []) : Buf H q (.sl b 0 s.length 1 s.length none) s
def Bld (H : AHeap) (q : Nat) (s : List UInt8) : Prop := ∃ buf, H[q]? = some (.cells [.ptr q 0 2, buf] 2 2 0) ∧ Buf H q buf s
theorem noEscape_c {q o v : Nat} (H : AHeap) (K : AV → AHeap → Kd → Prop) : E.C 139 [.ptr q o v] H K ↔ K (.ptr q o v) H (.c H H) :=
 C_shared rfl (Ans_ext (e := .same) (by kernel_rfl) rfl)
theorem copyCheck_first {q : Nat} {H : AHeap} {buf : AV} (hb : H[q]? = some (.cells [.nilptr, buf] 2 2 0)) : E.Ans 19 [.ptr q 0 2] H (.tuple []) (H.set q (.cells [.ptr q 0 2, buf] 2 2 0)) := by
 refine Ans1 (F := F19) (by kernel_rfl) rfl (by decide) fun T hT h0 => ?_
 have l1 : loadA H 1 false (.ptr q 0 2) = some (.nilptr, H, .r q) := load_at hb (by decide) (by decide) (by simp) (by decide) rfl
 have hne := noEscape_c (q := q) (o := 0) (v := 2)
 have c1 : convA H .toUns (.ptr q 0 2) = some (.ptr q 0 2, H, .r q) := by simp [convA, hb, readV]
 have c2 : convA H (.ofUns 2) (.ptr q 0 2) = some (.ptr q 0 2, H, .r q) := by simp [convA, hb, readV]
 have st : storeA H 1 (.ptr q 0 2) (.ptr q 0 2) = some (undefA, H.set q (.cells [.ptr q 0 2, buf] 2 2 0), .w q) := store_one rfl rfl (by simp) hb
 simp only [go_sem, Nat.reduceBEq, Nat.reduceLT, reduceCtorEq, Nat.reduceEqDiff, Int.reduceBEq, Int.reduceLT, Nat.zero_add, Nat.add_zero, hT, h0, l1, hne, c1, c2, st]
theorem copyCheck_later {q : Nat} {H : AHeap} {buf : AV} (hb : H[q]? = some (.cells [.ptr q 0 2, buf] 2 2 0)) : E.Ans 19 [.ptr q 0 2] H (.tuple []) H := by
 refine Ans1 (F := F19) (by kernel_rfl) rfl (by decide) fun T hT h0 => ?_
 have l1 : loadA H 1 false (.ptr q 0 2) = some (.ptr q 0 2, H, .r q) := load_at hb (by decide) (by decide) (by simp) (by decide) rfl
 simp only [go_sem, Nat.reduceBEq, Nat.reduceLT, reduceCtorEq, Nat.reduceEqDiff, Int.reduceBEq, Int.reduceLT, Nat.zero_add, Nat.add_zero, hT, h0, l1]
theorem copyCheck_c {q : Nat} {H : AHeap} {buf : AV} (hb : H[q]? = some (.cells [.ptr q 0 2, buf] 2 2 0)) (K : AV → AHeap → Kd → Prop) : E.C 19 [.ptr q 0 2] H K ↔ K (.tuple []) H (.c H H) :=
 C_shared rfl (copyCheck_later hb)
theorem append_buf {H : AHeap} {q : Nat} {buf : AV} {s : List UInt8} (hB : Buf H q buf s) (hlt : q < H.length) (t : List UInt8) (hl : s.length + t.length ≤ 2 ^ 40) : ∃ buf' H', appendA H 1 1 1 buf (.str t) = some (buf', H', .l) ∧ Buf H' q buf' (s ++ t) ∧ H'[q]? = H[q]? ∧ H.length ≤ H'.length := by
 have hcell : cellsIn H 1 (.str t) = some (t.length, bytesV t) := rfl
 by_cases ht : t = []
 ·subst ht
  refine ⟨buf, H, ?_, by simpa using hB, rfl, Nat.le_refl _⟩
  cases hB with
  | fresh hq hb hN => simp [appendA, hcell, hb]
  | row hq hb hw hs => simp [appendA, hcell, hb, bytesV_len, hw]
 ·have hm : t.length ≠ 0 := by simpa using ht
  cases hB with
  | @fresh b N hq hb hN =>
   have hblt : b < H.length := by
    rcases Nat.lt_or_ge b H.length with h | h
    ·exact h
    ·simp [List.getElem?_eq_none h] at hb
   refine ⟨.sl H.length 0 (0 + t.length) 1 (bytesV t).length none, (H ++ [ABlk.cells (bytesV t) 1 (bytesV t).length 0]).set b (.cells (List.replicate N .bad) 1 N 2), ?_, ?_, ?_, by simp⟩
   ·have h1 : ¬ (0 : Nat) = N := by omega
    have h2 : (0 + t.length) * 1 ≤ 2 ^ 40 ∧ 0 < 1 ∧ 0 < 1 := by simp at hl; omega
    have h3 : t.length ≤ 1099511627776 := by simp at hl; omega
    simp [appendA, hcell, hb, hm, h1, h3]
   ·rw [Nat.zero_add, List.nil_append, bytesV_len]
    refine .row (by omega) ?_ (Nat.le_refl _) ht
    rw [List.getElem?_set_ne (by omega)]
    simp
   ·rw [List.getElem?_set_ne hq, List.getElem?_append_left hlt]
  | @row b _ wv hq hb hw hs =>
   refine ⟨.sl b 0 (s.length + t.length) 1 (bytesV s ++ bytesV t).length none, H.set b (.cells (bytesV s ++ bytesV t) 1 wv 0), ?_, ?_, by rw [List.getElem?_set_ne hq], by simp⟩
   ·have h3 : s.length + t.length ≤ 1099511627776 := by omega
    simp [appendA, hcell, hb, hm, bytesV_len, hw, h3]
   ·have e : bytesV s ++ bytesV t = bytesV (s ++ t) := by simp [bytesV]
    have e2 : s.length + t.length = (s ++ t).length := by simp
    rw [e, bytesV_len, e2]
    have hblt : b < H.length := by
     rcases Nat.lt_or_ge b H.length with h | h
     ·exact h
     ·simp [List.getElem?_eq_none h] at hb
    exact .row (wv := wv) hq (by simp [hblt]) (by simp; omega) (by simp [hs])
theorem lt_of_at {H : AHeap} {q : Nat} {k : ABlk} (h : H[q]? = some k) : q < H.length := by
 rcases Nat.lt_or_ge q H.length with h1 | h1
 ·exact h1
 ·simp [List.getElem?_eq_none h1] at h
theorem Buf.one {H : AHeap} {q : Nat} {buf : AV} {s : List UInt8} (h : Buf H q buf s) : buf.cells = [buf] := by cases h <;> rfl
theorem Buf.put {H : AHeap} {q : Nat} {buf : AV} {s : List UInt8} {k : ABlk} (h : Buf H q buf s) : Buf (H.set q k) q buf s := by
  cases h with
  | fresh hq hbb hN => exact .fresh hq (by rw [List.getElem?_set_ne (fun e => hq e.symm)]; exact hbb) hN
  | row hq hbb hw hs => exact .row hq (by rw [List.getElem?_set_ne (fun e => hq e.symm)]; exact hbb) hw hs
theorem writeString_ans {q : Nat} {H : AHeap} {s : List UInt8} (hB : Bld H q s) (t : List UInt8) (hl : s.length + t.length ≤ 2 ^ 40) : ∃ H', E.Ans 18 [.ptr q 0 2, .str t] H (.tuple [i64 t.length, .nilIface]) H' ∧ Bld H' q (s ++ t) := by
 obtain ⟨buf, hb, hbuf⟩ := hB
 have hlt := lt_of_at hb
 obtain ⟨buf', H', ha, hbuf', hq', hle⟩ := append_buf hbuf hlt t hl
 have hb' : H'[q]? = some (.cells [.ptr q 0 2, buf] 2 2 0) := by rw [hq']; exact hb
 refine ⟨H'.set q (.cells [.ptr q 0 2, buf'] 2 2 0), ?_, buf', by simp [show q < H'.length by omega], ?_⟩
 ·refine Ans2 (F := F18) (by kernel_rfl) rfl (by decide) fun T hT h0 h1 => ?_
  have l1 : loadA H 1 false (.ptr q 1 2) = some (buf, H, .r q) := load_at hb (by decide) (by decide) (by simp) (by decide) rfl
  have hc := copyCheck_c hb
  have hone : buf'.cells = [buf'] := hbuf'.one
  have st : storeA H' 1 (.ptr q 1 2) buf' = some (undefA, H'.set q (.cells [.ptr q 0 2, buf'] 2 2 0), .w q) := store_one hone rfl (by simp) hb'
  simp only [go_sem, Nat.reduceBEq, Nat.reduceLT, reduceCtorEq, Nat.reduceEqDiff, Int.reduceBEq, Int.reduceLT, Nat.zero_add, Nat.add_zero, hT, h0, h1, l1, hc, ha, st]
 ·exact hbuf'.put
end Go.AE.Fns
namespace Go.AE.Fns
open Go Go.AE Env
set_option maxRecDepth 100000
theorem bi_cap {H : AHeap} : builtinA H .capSl [.nilsl] = some (.int .i64 0, H, .p) := Eq.trans rfl rfl
theorem bin_mul {k : IntKind} {a b : Int} : binA .mul (.int k a) (.int k b) = some (.int k (k.wrap (a * b))) := by simp [binA]
theorem bin_quo {k : IntKind} {a b : Int} (h : b ≠ 0) : binA .quo (.int k a) (.int k b) = some (.int k (k.wrap (a.tdiv b))) := by simp [binA, h]
theorem makeNoZero_c (n : Nat) (hn : 0 < n) (hl : n ≤ 2 ^ 40) (H : AHeap) (K : AV → AHeap → Kd → Prop) : E.C 143 [i64 n] H K ↔ K (.sl H.length 0 n 1 n none) (H ++ [.cells (List.replicate n .bad) 1 n 0]) (.a H.length) := by
 have ha : E.Ans 143 [i64 n] [] (.sl 0 0 n 1 n none) [.cells (List.replicate n .bad) 1 n 0] := by
  refine Ans_ext (e := .makeNoZero 1) (by kernel_rfl) ?_
  have : (0 : Int) ≤ n ∧ (n : Int) ≤ 2 ^ 40 := ⟨by omega, by omega⟩
  simp [extA, i64]
  omega
 have hf : freeze [.cells (List.replicate n .bad) 1 n 0] 1000000000 (.sl 0 0 n 1 n none) = none := by
  rw [show (1000000000 : Nat) = 999999999 + 1 from rfl]
  have hr : rowOf [.cells (List.replicate n .bad) 1 n 0] (.sl 0 0 n 1 n none) = some (List.replicate n .bad) := by simp [rowOf]
  simp only [freeze, hr]
  obtain ⟨m, rfl⟩ : ∃ m, n = m + 1 := ⟨n - 1, by omega⟩
  rw [show (999999999 : Nat) = 999999998 + 1 from rfl]
  simp [List.replicate_succ, freezeL, freeze]
 have hs : ∀ k m, shiftL k (List.replicate m .bad) = List.replicate m .bad := by
  intro k m
  induction m with
  | zero => rfl
  | succ m ih => simp [List.replicate_succ, shiftL, ih, AV.shift]
 rw [C_laid rfl ha (.inr hf)]
 simp [AV.shift, ABlk.shift, hs]
def hb0 : AHeap := [.cells [.ptr 0 0 2, .nilsl] 2 2 0]
def hb1 (n : Nat) : AHeap := [.cells [.ptr 0 0 2, .nilsl] 2 2 0, .cells (List.replicate n .bad) 1 n 0]
def hb2 (n : Nat) : AHeap := [.cells [.ptr 0 0 2, .sl 1 0 0 1 n none] 2 2 0, .cells (List.replicate n .bad) 1 n 0]
theorem grow0_ans (n : Nat) (hn : 0 < n) (hl : n ≤ 2 ^ 40) : E.Ans 20 [.ptr 0 0 2, i64 n] hb0 (.tuple []) (hb2 n) := by
 refine Ans2 (F := F20) (by kernel_rfl) rfl (by decide) fun T hT h0 h1 => ?_
 have l1 : loadA hb0 1 false (.ptr 0 1 2) = some (.nilsl, hb0, .r 0) := rfl
 have l2 : loadA (hb1 n) 1 false (.ptr 0 1 2) = some (.nilsl, hb1 n, .r 0) := rfl
 have mk := makeNoZero_c n hn hl hb0
 have e1 : hb0 ++ [.cells (List.replicate n .bad) 1 n 0] = hb1 n := rfl
 have e2 : List.length hb0 = 1 := rfl
 have w1 : IntKind.i64.wrap (2 * 0) = 0 := by rw [wrap64] <;> omega
 have w2 : IntKind.i64.wrap (0 + (n : Int)) = n := by rw [wrap64] <;> omega
 have s1 : sliceA 1 (.sl 1 0 n 1 n none) none (some (.int .i64 0)) none = some (.sl 1 0 0 1 n none) := slice_to (h := 0) (by omega)
 have cp : builtinA (hb1 n) (.copy 1) [.sl 1 0 0 1 n none, .nilsl] = some (.int .i64 0, hb1 n, .l) := by
  simp [builtinA, copyA, cellsIn, storeCellsA, hb1, putCells]
 have st : storeA (hb1 n) 1 (.ptr 0 1 2) (.sl 1 0 0 1 n none) = some (undefA, hb2 n, .w 0) := store_one (H := hb1 n) (cs := [.ptr 0 0 2, .nilsl]) (i := 1) (n := 2) rfl rfl (by decide) rfl
 rw [e1, e2] at mk
 simp only [go_sem, Nat.reduceBEq, Nat.reduceLT, reduceCtorEq, Nat.reduceEqDiff, Int.reduceBEq, Int.reduceLT, Nat.zero_add, Nat.add_zero, hT, h0, h1, l1, bi_cap, bin_mul, w1, w2, mk, l2, s1, cp, st]
 rfl
theorem grow_ans (n : Nat) (hn : 0 < n) (hl : n ≤ 2 ^ 40) : E.Ans 15 [.ptr 0 0 2, i64 n] [.cells [.nilptr, .nilsl] 2 2 0] (.tuple []) (hb2 n) := by
 refine Ans2 (F := F15) (by kernel_rfl) rfl (by decide) fun T hT h0 h1 => ?_
 have hc : ∀ K, E.C 19 [.ptr 0 0 2] [.cells [.nilptr, .nilsl] 2 2 0] K ↔ K (.tuple []) hb0 (.c [.cells [.nilptr, .nilsl] 2 2 0] hb0) := fun K => C_shared rfl (copyCheck_first (q := 0) (H := [.cells [.nilptr, .nilsl] 2 2 0]) rfl)
 have l1 : loadA hb0 1 false (.ptr 0 1 2) = some (.nilsl, hb0, .r 0) := rfl
 have d1 : ¬ ((n : Int) < 0) := by omega
 have d2 : (0 : Int) < n := by omega
 have w1 : IntKind.i64.wrap 0 = 0 := by rw [wrap64] <;> omega
 have hg : ∀ K, E.C 20 [.ptr 0 0 2, .int .i64 n] hb0 K ↔ K (.tuple []) (hb2 n) (.c hb0 (hb2 n)) := fun K => C_shared rfl (grow0_ans n hn hl)
 simp only [go_sem, Nat.reduceBEq, Nat.reduceLT, reduceCtorEq, Nat.reduceEqDiff, Int.reduceBEq, Int.reduceBNe, Int.reduceLT, Int.reduceLE, Int.reduceGT, Int.reduceGE, Int.reduceEq, Int.reduceAdd, Int.reduceSub, Int.reduceNeg, Nat.zero_add, Nat.add_zero, hT, h0, h1, hc, d1, d2, l1, bi_cap, w1, hg]
 rfl
theorem string_ans {H : AHeap} {s : List UInt8} (hB : Bld H 0 s) (hs : s ≠ []) (hl : s.length ≤ 2 ^ 40) : ∃ H', E.Ans 16 [.ptr 0 0 2] H (.str s) H' := by
 obtain ⟨buf, hb, hbuf⟩ := hB
 cases hbuf with
 | fresh => exact absurd rfl hs
 | @row b _ wv hq hbb hw _ =>
  refine ⟨H.set b (.cells (bytesV s) 1 wv 1), Ans1 (F := F16) (by kernel_rfl) rfl (by decide) fun T hT h0 => ?_⟩
  have l1 : loadA H 1 false (.ptr 0 1 2) = some (.sl b 0 s.length 1 s.length none, H, .r 0) := load_at hb (by decide) (by decide) (by simp) (by decide) rfl
  have hpos : 0 < s.length := by cases s with | nil => exact absurd rfl hs | cons => simp
  have sd : builtinA H .sliceData [.sl b 0 s.length 1 s.length none] = some (.ptr b 0 s.length, H, .p) := by simp [builtinA, hpos, pureV]
  have ss : builtinA H .string [.ptr b 0 s.length, .int .i64 s.length] = some (.str s, H.set b (.cells (bytesV s) 1 wv 1), .l) := by
   have h1 : s.length ≠ 0 := by omega
   have h2 : (s.length : Int) ≤ 2 ^ 62 := by omega
   have h3 : (bytesV s).take s.length = bytesV s := List.take_of_length_le (by rw [bytesV_len]; omega)
   simp only [builtinA]
   rw [if_neg (by omega), if_pos (by omega)]
   simp [hbb, hw, bytesV_len, h3, bytesOf]
  simp only [go_sem, Nat.reduceBEq, Nat.reduceLT, reduceCtorEq, Nat.reduceEqDiff, Int.reduceBEq, Int.reduceLT, Nat.zero_add, Nat.add_zero, hT, h0, l1, sd, ss]
  rfl
end Go.AE.Fns
namespace Go.AE.Fns
open Go Go.AE Env
set_option maxRecDepth 100000
theorem txts_get (l : List (List UInt8)) (i : Nat) (h : i < l.length) : (txts l)[i]? = some (.str l[i]) := by simp [txts, h]
theorem join_loop1 (l : List (List UInt8)) (ex : Bool) (c0 : Nat) (hc0 : c0 ≤ 2 ^ 31) (htot : sumLen l ≤ 2 ^ 31) (hlen : l.length ≤ 2 ^ 31) (a0 a1 : AV) (H : AHeap) (Q : AExit → Tmps → AHeap → Prop) : ∀ (k i : Nat) (T : Tmps), i + k = l.length →
    T.length = 75 → gt T 0 = a0 → gt T 1 = a1 → gt T 39 = .lst (txts l) l.length 1 ex → gt T 40 = i64 l.length → gt T 41 = i64 i → gt T 5 = i64 ((c0 + sumLen (l.take i) : Nat) : Int) →
    (∀ T' : Tmps, T'.length = 75 → gt T' 0 = a0 → gt T' 1 = a1 → gt T' 5 = i64 ((c0 + sumLen l : Nat) : Int) → Q (.exit 1) T' H) → E.W (F192.loop 0) T H Q
  | 0, i, T, hik, hT, h0, h1, h39, h40, h41, h5, hQ => by
    rw [show F192.loop 0 = .loop _ from rfl, W_loop]
    have d1 : ¬ ((i : Int) < (l.length : Int)) := by omega
    simp only [go_sem, Nat.reduceBEq, Nat.reduceLT, reduceCtorEq, Nat.reduceEqDiff, Int.reduceBEq, Int.reduceLT, hT, h0, h1, h39, h40, h41, d1]
    refine hQ _ (by simp only [↓gp_eq, ↓gp_ne, ↓gp_none, ↓len_put, Nat.reduceBEq, Nat.reduceLT, decide_true, hT]) (by simp only [↓gp_eq, ↓gp_ne, ↓gp_none, ↓len_put, Nat.reduceBEq, Nat.reduceLT, decide_true, hT, h0]) (by simp only [↓gp_eq, ↓gp_ne, ↓gp_none, ↓len_put, Nat.reduceBEq, Nat.reduceLT, decide_true, hT, h1]) ?_
    simp only [go_sem, Nat.reduceBEq, Nat.reduceLT, reduceCtorEq, Nat.reduceEqDiff, Int.reduceBEq, Int.reduceLT, hT, h5]
    rw [List.take_of_length_le (by omega)]
  | k + 1, i, T, hik, hT, h0, h1, h39, h40, h41, h5, hQ => by
    rw [show F192.loop 0 = .loop _ from rfl, W_loop]
    have hi : i < l.length := by omega
    have d1 : ((i : Int) < (l.length : Int)) := by omega
    have hs1 := sumLen_take l i hi
    have hs2 := sumLen_take_le l (i + 1)
    have a2 : idxAddrA 1 (.lst (txts l) l.length 1 ex) (.int .i64 i) = some (.elt (txts l) i) := idxA_lst hi
    have l1 : ∀ H, loadA H 1 false (.elt (txts l) i) = some (.str l[i], H, .p) := fun H => load_elt (txts_get l i hi)
    have w1 : IntKind.i64.wrap (9223372036854775807 - ((c0 + sumLen (l.take i) : Nat) : Int)) = 9223372036854775807 - ((c0 + sumLen (l.take i) : Nat) : Int) := by rw [wrap64] <;> omega
    have d2 : ¬ (((l[i]).length : Int) > 9223372036854775807 - ((c0 + sumLen (l.take i) : Nat) : Int)) := by omega
    have w2 : IntKind.i64.wrap (((c0 + sumLen (l.take i) : Nat) : Int) + ((l[i]).length : Int)) = ((c0 + sumLen (l.take (i + 1)) : Nat) : Int) := by rw [wrap64] <;> omega
    have w3 : IntKind.i64.wrap ((i : Int) + 1) = ((i + 1 : Nat) : Int) := by rw [wrap64] <;> omega
    simp only [go_sem, Nat.reduceBEq, Nat.reduceLT, reduceCtorEq, Nat.reduceEqDiff, Int.reduceBEq, Int.reduceLT, hT, h0, h1, h39, h40, h41, h5, d1, a2, l1, w1, d2, w2, w3]
    exact join_loop1 l ex c0 hc0 htot hlen a0 a1 H Q k (i + 1) _ (by omega) (by simp only [↓gp_eq, ↓gp_ne, ↓gp_none, ↓len_put, Nat.reduceBEq, Nat.reduceLT, decide_true, hT]) (by simp only [↓gp_eq, ↓gp_ne, ↓gp_none, ↓len_put, Nat.reduceBEq, Nat.reduceLT, decide_true, hT, h0]) (by simp only [↓gp_eq, ↓gp_ne, ↓gp_none, ↓len_put, Nat.reduceBEq, Nat.reduceLT, decide_true, hT, h1]) (by simp only [↓gp_eq, ↓gp_ne, ↓gp_none, ↓len_put, Nat.reduceBEq, Nat.reduceLT, decide_true, hT, h39]) (by simp only [↓gp_eq, ↓gp_ne, ↓gp_none, ↓len_put, Nat.reduceBEq, Nat.reduceLT, decide_true, hT, h40]) (by simp only [↓gp_eq, ↓gp_ne, ↓gp_none, ↓len_put, Nat.reduceBEq, Nat.reduceLT, decide_true, hT]) (by simp only [↓gp_eq, ↓gp_ne, ↓gp_none, ↓len_put, Nat.reduceBEq, Nat.reduceLT, decide_true, hT]) hQ
theorem join_loop2 (l : List (List UInt8)) (hlen : l.length ≤ 2 ^ 31) (ex : Bool) (c : UInt8) (a0 : AV) (Q : AExit → Tmps → AHeap → Prop) : ∀ (k i : Nat) (T : Tmps) (H : AHeap) (s : List UInt8), i + k = l.length → Bld H 0 s → s.length + sumLen (l.drop i) + k ≤ 2 ^ 33 →
    T.length = 75 → gt T 0 = a0 → gt T 1 = .str [c] → gt T 8 = .ptr 0 0 2 → gt T 63 = .lst (txts l) l.length 1 ex → gt T 64 = i64 l.length → gt T 65 = i64 i →
    (∀ (T' : Tmps) (H' : AHeap), T'.length = 75 → gt T' 8 = .ptr 0 0 2 → Bld H' 0 (s ++ joinR [c] (l.drop i)) → Q (.exit 3) T' H') → E.W (F192.loop 1) T H Q
  | 0, i, T, H, s, hik, hB, hb, hT, h0, h1, h8, h63, h64, h65, hQ => by
    rw [show F192.loop 1 = .loop _ from rfl, W_loop]
    have d1 : ¬ ((i : Int) < (l.length : Int)) := by omega
    simp only [go_sem, Nat.reduceBEq, Nat.reduceLT, reduceCtorEq, Nat.reduceEqDiff, Int.reduceBEq, Int.reduceLT, hT, h0, h1, h8, h63, h64, h65, d1]
    refine hQ _ H (by simp only [↓gp_eq, ↓gp_ne, ↓gp_none, ↓len_put, Nat.reduceBEq, Nat.reduceLT, decide_true, hT]) (by simp only [↓gp_eq, ↓gp_ne, ↓gp_none, ↓len_put, Nat.reduceBEq, Nat.reduceLT, decide_true, hT, h8]) ?_
    rw [List.drop_eq_nil_of_le (by omega)]
    simpa [joinR] using hB
  | k + 1, i, T, H, s, hik, hB, hb, hT, h0, h1, h8, h63, h64, h65, hQ => by
    rw [show F192.loop 1 = .loop _ from rfl, W_loop]
    have hi : i < l.length := by omega
    have d1 : ((i : Int) < (l.length : Int)) := by omega
    have hdrop : l.drop i = l[i] :: l.drop (i + 1) := List.drop_eq_getElem_cons hi
    have hsum : sumLen (l.drop i) = (l[i]).length + sumLen (l.drop (i + 1)) := by rw [hdrop]; simp only [sumLen, List.map_cons, List.sum_cons]
    have a2 : idxAddrA 1 (.lst (txts l) l.length 1 ex) (.int .i64 i) = some (.elt (txts l) i) := idxA_lst hi
    have l1 : ∀ H, loadA H 1 false (.elt (txts l) i) = some (.str l[i], H, .p) := fun H => load_elt (txts_get l i hi)
    obtain ⟨H1, g1, hB1⟩ := writeString_ans hB [c] (by simp; omega)
    obtain ⟨H2, g2, hB2⟩ := writeString_ans hB1 l[i] (by simp; omega)
    have k1 : ∀ K, E.C 18 [.ptr 0 0 2, .str [c]] H K ↔ K (.tuple [i64 ([c] : List UInt8).length, .nilIface]) H1 (.c H H1) := fun K => C_shared rfl g1
    have k2 : ∀ K, E.C 18 [.ptr 0 0 2, .str l[i]] H1 K ↔ K (.tuple [i64 (l[i]).length, .nilIface]) H2 (.c H1 H2) := fun K => C_shared rfl g2
    have w3 : IntKind.i64.wrap ((i : Int) + 1) = ((i + 1 : Nat) : Int) := by rw [wrap64] <;> omega
    simp only [go_sem, Nat.reduceBEq, Nat.reduceLT, reduceCtorEq, Nat.reduceEqDiff, Int.reduceBEq, Int.reduceLT, hT, h0, h1, h8, h63, h64, h65, d1, a2, l1, k1, k2, w3]
    refine join_loop2 l hlen ex c a0 Q k (i + 1) _ H2 (s ++ [c] ++ l[i]) (by omega) hB2 (by simp; omega) (by simp only [↓gp_eq, ↓gp_ne, ↓gp_none, ↓len_put, Nat.reduceBEq, Nat.reduceLT, decide_true, hT]) (by simp only [↓gp_eq, ↓gp_ne, ↓gp_none, ↓len_put, Nat.reduceBEq, Nat.reduceLT, decide_true, hT, h0]) (by simp only [↓gp_eq, ↓gp_ne, ↓gp_none, ↓len_put, Nat.reduceBEq, Nat.reduceLT, decide_true, hT, h1]) (by simp only [↓gp_eq, ↓gp_ne, ↓gp_none, ↓len_put, Nat.reduceBEq, Nat.reduceLT, decide_true, hT, h8]) (by simp only [↓gp_eq, ↓gp_ne, ↓gp_none, ↓len_put, Nat.reduceBEq, Nat.reduceLT, decide_true, hT, h63]) (by simp only [↓gp_eq, ↓gp_ne, ↓gp_none, ↓len_put, Nat.reduceBEq, Nat.reduceLT, decide_true, hT, h64]) (by simp only [↓gp_eq, ↓gp_ne, ↓gp_none, ↓len_put, Nat.reduceBEq, Nat.reduceLT, decide_true, hT])
      fun T' H' q1 q2 q3 => hQ T' H' q1 q2 ?_
    have e : joinR [c] (l.drop i) = [c] ++ l[i] ++ joinR [c] (l.drop (i + 1)) := by rw [hdrop]; simp only [joinR, List.flatMap_cons]
    rw [e]
    simpa only [List.append_assoc] using q3
theorem join_ans (l : List (List UInt8)) (ex : Bool) (c : UInt8) (hb : sumLen l + l.length ≤ 2 ^ 30) : ∃ Hc, E.Ans 192 [.lst (txts l) l.length 1 ex, .str [c]] [] (.str (joinB [c] l)) Hc := by
 have key : ∀ (l : List (List UInt8)) (n : Nat), l.length = n → 2 ≤ n → sumLen l + n ≤ 2 ^ 30 → ∃ Hc, E.Ans 192 [.lst (txts l) n 1 ex, .str [c]] [] (.str (joinB [c] l)) Hc := by
  intro l n hn h2 hb
  obtain ⟨a, l', rfl⟩ : ∃ a l', l = a :: l' := by cases l with | nil => simp at hn; omega | cons a l' => exact ⟨a, l', rfl⟩
  have hn' : l'.length = n - 1 := by simp at hn; omega
  have hsum : sumLen (a :: l') = a.length + sumLen l' := by simp [sumLen]
  generalize htot : 1 * (n - 1) + sumLen (a :: l') = tot
  have hB0 : Bld (hb2 tot) 0 [] := ⟨_, rfl, .fresh (N := tot) (by decide) rfl (by omega)⟩
  obtain ⟨H1, g1, hB1⟩ := writeString_ans hB0 a (by simp; omega)
  have hjr : (joinR [c] l').length = sumLen l' + l'.length * 1 := joinR_len [c] l'
  have hfin : ∀ H' s, Bld H' 0 s → s = [] ++ a ++ joinR [c] l' → ∃ H2, E.Ans 16 [.ptr 0 0 2] H' (.str (a ++ joinR [c] l')) H2 := by
   intro H' s hB hs
   have : s = a ++ joinR [c] l' := by simpa using hs
   subst this
   refine string_ans hB ?_ (by simp [hjr]; omega)
   intro h
   have := congrArg List.length h
   rw [List.length_append, hjr] at this
   simp only [List.length_nil] at this
   omega
  refine AnsV2 (F := F192) (by kernel_rfl) rfl (by decide) fun T hT h0 h1 => ?_
  have d0 : ((n : Int) == 0) = false := by simp; omega
  have d1 : ((n : Int) == 1) = false := by simp; omega
  have w1 : IntKind.i64.wrap ((n : Int) - 1) = ((n - 1 : Nat) : Int) := by rw [wrap64] <;> omega
  have hq : 1 < ((9223372036854775807 : Int).tdiv ((n - 1 : Nat) : Int)) := by
   rw [Int.tdiv_eq_ediv_of_nonneg (by omega)]
   have : (2 : Int) ≤ 9223372036854775807 / ((n - 1 : Nat) : Int) := by
    rw [Int.le_ediv_iff_mul_le (by omega)]; omega
   omega
  have hq2 : ((9223372036854775807 : Int).tdiv ((n - 1 : Nat) : Int)) ≤ 9223372036854775807 := by
   rw [Int.tdiv_eq_ediv_of_nonneg (by omega)]
   exact Int.ediv_le_self _ (by omega)
  have w2 : IntKind.i64.wrap ((9223372036854775807 : Int).tdiv ((n - 1 : Nat) : Int)) = ((9223372036854775807 : Int).tdiv ((n - 1 : Nat) : Int)) := by rw [wrap64]; omega
  have d2 : ¬ ((1 : Int) ≥ ((9223372036854775807 : Int).tdiv ((n - 1 : Nat) : Int))) := by omega
  have bq : binA .quo (.int .i64 9223372036854775807) (.int .i64 ((n - 1 : Nat) : Int)) = some (.int .i64 (IntKind.i64.wrap ((9223372036854775807 : Int).tdiv ((n - 1 : Nat) : Int)))) := bin_quo (by omega)
  have w3 : IntKind.i64.wrap (1 * ((n - 1 : Nat) : Int)) = ((n - 1 : Nat) : Int) := by rw [wrap64] <;> omega
  have w4 : IntKind.i64.wrap (0 + ((n - 1 : Nat) : Int)) = ((n - 1 : Nat) : Int) := by rw [wrap64] <;> omega
  simp only [go_sem, Nat.reduceBEq, Nat.reduceLT, reduceCtorEq, Nat.reduceEqDiff, Int.reduceBEq, Int.reduceLT, hT, h0, h1, d0, d1, w1, w2, bq, d2, bin_mul, w3, w4]
  subst hn
  refine join_loop1 (a :: l') ex (l'.length) (by omega) (by omega) (by omega) _ _ [] _ (a :: l').length 0 _ (by omega) (by simp only [↓gp_eq, ↓gp_ne, ↓gp_none, ↓len_put, Nat.reduceBEq, Nat.reduceLT, decide_true, hT]) rfl rfl (by simp only [↓gp_eq, ↓gp_ne, ↓gp_none, ↓len_put, Nat.reduceBEq, Nat.reduceLT, decide_true, hT, h0]) (by simp only [↓gp_eq, ↓gp_ne, ↓gp_none, ↓len_put, Nat.reduceBEq, Nat.reduceLT, decide_true, hT]) (by simp only [↓gp_eq, ↓gp_ne, ↓gp_none, ↓len_put, Nat.reduceBEq, Nat.reduceLT, decide_true, hT]; rfl) ?_ ?_
  ·simp only [go_sem, Nat.reduceBEq, Nat.reduceLT, reduceCtorEq, Nat.reduceEqDiff, Int.reduceBEq, Int.reduceLT, hT]
   simp [sumLen]
  ·intro T2 q1 q2 q3 q4
   have q2' : gt T2 0 = .lst (txts (a :: l')) (a :: l').length 1 ex := by rw [q2]; simp only [go_sem, Nat.reduceBEq, Nat.reduceLT, reduceCtorEq, Nat.reduceEqDiff, Int.reduceBEq, Int.reduceLT, hT, h0]
   have q3' : gt T2 1 = .str [c] := by rw [q3]; simp only [go_sem, Nat.reduceBEq, Nat.reduceLT, reduceCtorEq, Nat.reduceEqDiff, Int.reduceBEq, Int.reduceLT, hT, h1]
   have q4' : gt T2 5 = i64 (tot : Int) := by rw [q4, ← htot]; simp
   have hal : fAlloc [.nilptr, .nilsl] 2 [] = some (.ptr 0 0 2, [.cells [.nilptr, .nilsl] 2 2 0], .a 0) := by rw [alloc_eq (by simp)]; rfl
   have hg : ∀ K, E.C 15 [.ptr 0 0 2, .int .i64 tot] [.cells [.nilptr, .nilsl] 2 2 0] K ↔ K (.tuple []) (hb2 tot) (.c [.cells [.nilptr, .nilsl] 2 2 0] (hb2 tot)) := fun K => C_shared rfl (grow_ans tot (by omega) (by omega))
   have a2 : idxAddrA 1 (.lst (txts (a :: l')) (a :: l').length 1 ex) (.int .i64 0) = some (.elt (txts (a :: l')) 0) := idxA_lst (i := 0) (by simp)
   have l1 : ∀ H, loadA H 1 false (.elt (txts (a :: l')) 0) = some (.str a, H, .p) := fun H => load_elt rfl
   have k1 : ∀ K, E.C 18 [.ptr 0 0 2, .str a] (hb2 tot) K ↔ K (.tuple [i64 a.length, .nilIface]) H1 (.c (hb2 tot) H1) := fun K => C_shared rfl g1
   have sl1 : sliceA 1 (.lst (txts (a :: l')) (a :: l').length 1 ex) (some (.int .i64 1)) none none = some (.lst (txts l') l'.length 1 ex) := by
    have := slice_lst (cs := txts (a :: l')) (ex := ex) (k := .i64) (l := 1) (n := (a :: l').length) (by simp) (txts_len _)
    simpa [txts] using this
   simp only [go_sem, Nat.reduceBEq, Nat.reduceLT, reduceCtorEq, Nat.reduceEqDiff, Int.reduceBEq, Int.reduceLT, q1, q2', q3', q4', hal, hg, a2, l1, k1, sl1]
   refine join_loop2 l' (by omega) ex c _ _ l'.length 0 _ H1 ([] ++ a) (by omega) hB1 (by simp; omega) (by simp only [↓gp_eq, ↓gp_ne, ↓gp_none, ↓len_put, Nat.reduceBEq, Nat.reduceLT, decide_true, q1]) rfl (by simp only [↓gp_eq, ↓gp_ne, ↓gp_none, ↓len_put, Nat.reduceBEq, Nat.reduceLT, decide_true, q1, q3']) (by simp only [↓gp_eq, ↓gp_ne, ↓gp_none, ↓len_put, Nat.reduceBEq, Nat.reduceLT, decide_true, q1]) (by simp only [↓gp_eq, ↓gp_ne, ↓gp_none, ↓len_put, Nat.reduceBEq, Nat.reduceLT, decide_true, q1]) (by simp only [↓gp_eq, ↓gp_ne, ↓gp_none, ↓len_put, Nat.reduceBEq, Nat.reduceLT, decide_true, q1]) (by simp only [↓gp_eq, ↓gp_ne, ↓gp_none, ↓len_put, Nat.reduceBEq, Nat.reduceLT, decide_true, q1]; rfl) ?_
   intro T3 H3 r1 r2 r3
   obtain ⟨H4, g4⟩ := hfin H3 _ r3 (by simp)
   have k4 : ∀ K, E.C 16 [.ptr 0 0 2] H3 K ↔ K (.str (a ++ joinR [c] l')) H4 (.c H3 H4) := fun K => C_shared rfl g4
   simp only [go_sem, Nat.reduceBEq, Nat.reduceLT, reduceCtorEq, Nat.reduceEqDiff, Int.reduceBEq, Int.reduceLT, r1, r2, k4]
   rfl
 rcases l with _ | ⟨a, _ | ⟨b, l'⟩⟩
 ·refine ⟨[], Ans2 (F := F192) (by kernel_rfl) rfl (by decide) fun T hT h0 h1 => ?_⟩
  have e0 : ((0 : Nat) : Int) = 0 := rfl
  simp only [go_sem, Nat.reduceBEq, Nat.reduceLT, reduceCtorEq, Nat.reduceEqDiff, Int.reduceBEq, Int.reduceLT, hT, h0, h1, List.length_nil, e0]
  rfl
 ·refine ⟨[], Ans2 (F := F192) (by kernel_rfl) rfl (by decide) fun T hT h0 h1 => ?_⟩
  have a1 : idxAddrA 1 (.lst (txts [a]) 1 1 ex) (.int .i64 0) = some (.elt (txts [a]) 0) := idxA_lst (i := 0) (by decide)
  have l1 : ∀ H, loadA H 1 false (.elt (txts [a]) 0) = some (.str a, H, .p) := fun H => load_elt rfl
  have e1 : ((([a] : List (List UInt8)).length : Nat) : Int) = 1 := rfl
  have e2 : ([a] : List (List UInt8)).length = 1 := rfl
  rw [e2] at h0
  have e3 : ((1 : Nat) : Int) = 1 := rfl
  simp only [go_sem, Nat.reduceBEq, Nat.reduceLT, reduceCtorEq, Nat.reduceEqDiff, Int.reduceBEq, Int.reduceLT, hT, h0, h1, e3, a1, l1]
  simp [joinB, joinR]
 ·exact key _ _ rfl (by simp) hb
theorem join_c (l : List (List UInt8)) (ex : Bool) (c : UInt8) (hb : sumLen l + l.length ≤ 2 ^ 30) (H : AHeap) (K : AV → AHeap → Kd → Prop) : E.C 192 [.lst (txts l) l.length 1 ex, .str [c]] H K ↔ K (.str (joinB [c] l)) H .p := by
 obtain ⟨Hc, h⟩ := join_ans l ex c hb
 refine C_val h ?_ (by kernel_rfl) rfl
 have := (IsSl.lst (l := l) ex).free
 simp only [AV.locFree] at this
 simp [locFreeL, this, AV.locFree]
end Go.AE.Fns
namespace Go.AE.Fns
open Go Go.AE Env
set_option maxRecDepth 100000
theorem get_app {H X : AHeap} {q : Nat} {k : ABlk} (h : H[q]? = some k) : (H ++ X)[q]? = some k := by
 rw [List.getElem?_append_left (lt_of_at h)]; exact h
section
variable (lb name : List (List UInt8)) (e1 e2 : Bool)
theorem fits_loop (q : Nat) (hle : lb.length ≤ name.length) (hn : name.length ≤ 2 ^ 31) (H : AHeap) (hq : H[q]? = some (.cells [.lst (txts name) name.length 1 e2] 0 1 0)) (Q : AExit → Tmps → AHeap → Prop) : ∀ (k i : Nat) (T : Tmps), i + k = lb.length →
    T.length = 41 → gt T 1 = .ptr q 0 1 → gt T 4 = i64 ((name.length - lb.length : Nat) : Int) → gt T 16 = .lst (txts lb) lb.length 1 e1 → gt T 17 = i64 lb.length → gt T 18 = i64 i →
    (fitL (i == 0) (lb.drop i) (name.drop (name.length - lb.length + i)) = true → ∀ T' : Tmps, T'.length = 41 → Q (.exit 0) T' H) →
    (fitL (i == 0) (lb.drop i) (name.drop (name.length - lb.length + i)) = false → ∀ T' : Tmps, gt T' 3 = .bool false → Q .ret T' H) → E.W (F77.loop 0) T H Q
  | 0, i, T, hik, hT, h1, h4, h16, h17, h18, hQt, hQf => by
    rw [show F77.loop 0 = .loop _ from rfl, W_loop]
    have d1 : ¬ ((i : Int) < (lb.length : Int)) := by omega
    simp only [go_sem, Nat.reduceBEq, Nat.reduceLT, reduceCtorEq, Nat.reduceEqDiff, Int.reduceBEq, Int.reduceLT, hT, h1, h4, h16, h17, h18, d1]
    refine hQt ?_ _ (by simp only [↓gp_eq, ↓gp_ne, ↓gp_none, ↓len_put, Nat.reduceBEq, Nat.reduceLT, decide_true, hT])
    rw [List.drop_eq_nil_of_le (by omega)]
    simp [fitL]
  | k + 1, i, T, hik, hT, h1, h4, h16, h17, h18, hQt, hQf => by
    rw [show F77.loop 0 = .loop _ from rfl, W_loop]
    have hi : i < lb.length := by omega
    have hd : name.length - lb.length + i < name.length := by omega
    rw [fitL_drop _ _ _ _ _ hi hd] at hQt hQf
    have d1 : ((i : Int) < (lb.length : Int)) := by omega
    have a1 : idxAddrA 1 (.lst (txts lb) lb.length 1 e1) (.int .i64 i) = some (.elt (txts lb) i) := idxA_lst hi
    have l1 : ∀ H, loadA H 1 false (.elt (txts lb) i) = some (.str lb[i], H, .p) := fun H => load_elt (txts_get lb i hi)
    have l2 : loadA H 1 false (.ptr q 0 1) = some (.lst (txts name) name.length 1 e2, H, .r q) := load_at hq (by decide) (by decide) (by simp) (by decide) rfl
    have w1 : IntKind.i64.wrap (((name.length - lb.length : Nat) : Int) + (i : Int)) = ((name.length - lb.length + i : Nat) : Int) := by rw [wrap64] <;> omega
    have a2 : idxAddrA 1 (.lst (txts name) name.length 1 e2) (.int .i64 ((name.length - lb.length + i : Nat) : Int)) = some (.elt (txts name) (name.length - lb.length + i)) := idxA_lst hd
    have l3 : ∀ H, loadA H 1 false (.elt (txts name) (name.length - lb.length + i)) = some (.str name[name.length - lb.length + i], H, .p) := fun H => load_elt (txts_get name _ hd)
    have w3 : IntKind.i64.wrap ((i : Int) + 1) = ((i + 1 : Nat) : Int) := by rw [wrap64] <;> omega
    have goOn : ∀ T' : Tmps, ((lb[i] == name[name.length - lb.length + i] || ((i == 0) && lb[i] == [42])) = true) → T'.length = 41 → gt T' 1 = .ptr q 0 1 → gt T' 4 = i64 ((name.length - lb.length : Nat) : Int) → gt T' 16 = .lst (txts lb) lb.length 1 e1 → gt T' 17 = i64 lb.length → gt T' 18 = i64 ((i + 1 : Nat) : Int) → E.W (F77.loop 0) T' H Q := by
      intro T' hc g0 g1 g2 g3 g4 g5
      rw [hc, Bool.true_and] at hQt hQf
      exact fits_loop q hle hn H hq Q k (i + 1) T' (by omega) g0 g1 g2 g3 g4 g5 hQt hQf
    by_cases c1 : lb[i] = name[name.length - lb.length + i]
    · have e3 : (lb[i] == name[name.length - lb.length + i]) = true := by simpa using c1
      simp only [go_sem, Nat.reduceBEq, Nat.reduceLT, reduceCtorEq, Nat.reduceEqDiff, Int.reduceBEq, Int.reduceLT, hT, h1, h4, h16, h17, h18, d1, a1, l1, l2, w1, a2, l3, e3, w3]
      exact goOn _ (by rw [e3]; rfl) (by simp only [↓gp_eq, ↓gp_ne, ↓gp_none, ↓len_put, Nat.reduceBEq, Nat.reduceLT, decide_true, hT]) (by simp only [↓gp_eq, ↓gp_ne, ↓gp_none, ↓len_put, Nat.reduceBEq, Nat.reduceLT, decide_true, hT, h1]) (by simp only [↓gp_eq, ↓gp_ne, ↓gp_none, ↓len_put, Nat.reduceBEq, Nat.reduceLT, decide_true, hT, h4]) (by simp only [↓gp_eq, ↓gp_ne, ↓gp_none, ↓len_put, Nat.reduceBEq, Nat.reduceLT, decide_true, hT, h16]) (by simp only [↓gp_eq, ↓gp_ne, ↓gp_none, ↓len_put, Nat.reduceBEq, Nat.reduceLT, decide_true, hT, h17]) (by simp only [↓gp_eq, ↓gp_ne, ↓gp_none, ↓len_put, Nat.reduceBEq, Nat.reduceLT, decide_true, hT])
    · have e3 : (lb[i] == name[name.length - lb.length + i]) = false := by simpa using c1
      by_cases c2 : i = 0
      · have e4 : ((i : Int) == 0) = true := by simpa using c2
        have e4' : (i == 0) = true := by simpa using c2
        by_cases c3 : lb[i] = [42]
        · have e5 : (lb[i] == [42]) = true := by simpa using c3
          simp only [go_sem, Nat.reduceBEq, Nat.reduceLT, reduceCtorEq, Nat.reduceEqDiff, Int.reduceBEq, Int.reduceLT, hT, h1, h4, h16, h17, h18, d1, a1, l1, l2, w1, a2, l3, e3, e4, e5, w3]
          exact goOn _ (by rw [e3, e4', e5]; rfl) (by simp only [↓gp_eq, ↓gp_ne, ↓gp_none, ↓len_put, Nat.reduceBEq, Nat.reduceLT, decide_true, hT]) (by simp only [↓gp_eq, ↓gp_ne, ↓gp_none, ↓len_put, Nat.reduceBEq, Nat.reduceLT, decide_true, hT, h1]) (by simp only [↓gp_eq, ↓gp_ne, ↓gp_none, ↓len_put, Nat.reduceBEq, Nat.reduceLT, decide_true, hT, h4]) (by simp only [↓gp_eq, ↓gp_ne, ↓gp_none, ↓len_put, Nat.reduceBEq, Nat.reduceLT, decide_true, hT, h16]) (by simp only [↓gp_eq, ↓gp_ne, ↓gp_none, ↓len_put, Nat.reduceBEq, Nat.reduceLT, decide_true, hT, h17]) (by simp only [↓gp_eq, ↓gp_ne, ↓gp_none, ↓len_put, Nat.reduceBEq, Nat.reduceLT, decide_true, hT])
        · have e5 : (lb[i] == [42]) = false := by simpa using c3
          simp only [go_sem, Nat.reduceBEq, Nat.reduceLT, reduceCtorEq, Nat.reduceEqDiff, Int.reduceBEq, Int.reduceLT, hT, h1, h4, h16, h17, h18, d1, a1, l1, l2, w1, a2, l3, e3, e4, e5]
          exact hQf (by rw [e3, e4', e5]; rfl) _ (by simp only [↓gp_eq, ↓gp_ne, ↓gp_none, ↓len_put, Nat.reduceBEq, Nat.reduceLT, decide_true, hT])
      · have e4 : ((i : Int) == 0) = false := by simpa using c2
        have e4' : (i == 0) = false := by simpa using c2
        simp only [go_sem, Nat.reduceBEq, Nat.reduceLT, reduceCtorEq, Nat.reduceEqDiff, Int.reduceBEq, Int.reduceLT, hT, h1, h4, h16, h17, h18, d1, a1, l1, l2, w1, a2, l3, e3, e4]
        exact hQf (by rw [e3, e4']; rfl) _ (by simp only [↓gp_eq, ↓gp_ne, ↓gp_none, ↓len_put, Nat.reduceBEq, Nat.reduceLT, decide_true, hT])
theorem fits_ans (q : Nat) (nb : Bool) (hn : name.length ≤ 2 ^ 31) (hlb : lb.length ≤ 2 ^ 31) (H : AHeap) (hq : H[q]? = some (.cells [.lst (txts name) name.length 1 e2] 0 1 0)) :
  E.Ans 77 [.agg [.lst (txts lb) lb.length 1 e1, .bool nb], .ptr q 0 1] H (.bool (fitsB lb name)) (H ++ [.cells [.lst (txts lb) lb.length 1 e1, .bool nb] 0 2 0]) := by
 refine Ans2 (F := F77) (by kernel_rfl) rfl (by decide) fun T hT h0 h1 => ?_
 have bx : newVarA H (.agg [.lst (txts lb) lb.length 1 e1, .bool nb]) 0 = some (.ptr H.length 0 2, H ++ [.cells [.lst (txts lb) lb.length 1 e1, .bool nb] 0 2 0], .a H.length) := rfl
 generalize hHb : H ++ [.cells [.lst (txts lb) lb.length 1 e1, .bool nb] 0 2 0] = Hb at bx
 have hqb : Hb[q]? = some (.cells [.lst (txts name) name.length 1 e2] 0 1 0) := by rw [← hHb]; exact get_app hq
 have hlast : Hb[H.length]? = some (.cells [.lst (txts lb) lb.length 1 e1, .bool nb] 0 2 0) := by rw [← hHb]; simp
 have l1 : loadA Hb 1 false (.ptr q 0 1) = some (.lst (txts name) name.length 1 e2, Hb, .r q) := load_at hqb (by decide) (by decide) (by simp) (by decide) rfl
 have l2 : loadA Hb 1 false (.ptr H.length 0 2) = some (.lst (txts lb) lb.length 1 e1, Hb, .r H.length) := load_at hlast (by decide) (by decide) (by simp) (by decide) rfl
 have w1 : IntKind.i64.wrap ((name.length : Int) - (lb.length : Int)) = (name.length : Int) - (lb.length : Int) := by rw [wrap64] <;> omega
 by_cases c : lb.length ≤ name.length
 ·have d1 : ¬ ((name.length : Int) - (lb.length : Int) < 0) := by omega
  have e0 : (name.length : Int) - (lb.length : Int) = ((name.length - lb.length : Nat) : Int) := by omega
  have e3 : fitsB lb name = fitL true lb (name.drop (name.length - lb.length)) := by simp [fitsB, c]
  simp only [go_sem, Nat.reduceBEq, Nat.reduceLT, reduceCtorEq, Nat.reduceEqDiff, Int.reduceBEq, Int.reduceLT, Nat.zero_add, Nat.add_zero, hT, h0, h1, bx, l1, l2, w1, d1]
  refine fits_loop lb name e1 e2 q c hn Hb hqb _ lb.length 0 _ (by omega) (by simp only [↓gp_eq, ↓gp_ne, ↓gp_none, ↓len_put, Nat.reduceBEq, Nat.reduceLT, decide_true, hT]) (by simp only [↓gp_eq, ↓gp_ne, ↓gp_none, ↓len_put, Nat.reduceBEq, Nat.reduceLT, decide_true, hT, h1]) (by simp only [↓gp_eq, ↓gp_ne, ↓gp_none, ↓len_put, Nat.reduceBEq, Nat.reduceLT, decide_true, hT, e0]) (by simp only [↓gp_eq, ↓gp_ne, ↓gp_none, ↓len_put, Nat.reduceBEq, Nat.reduceLT, decide_true, hT]) (by simp only [↓gp_eq, ↓gp_ne, ↓gp_none, ↓len_put, Nat.reduceBEq, Nat.reduceLT, decide_true, hT]) (by simp only [↓gp_eq, ↓gp_ne, ↓gp_none, ↓len_put, Nat.reduceBEq, Nat.reduceLT, decide_true, hT]; rfl) (fun hf T' q1 => ?_) (fun hf T' q1 => ?_)
  ·have hf' : fitL true lb (name.drop (name.length - lb.length)) = true := hf
   simp only [go_sem, Nat.reduceBEq, Nat.reduceLT, reduceCtorEq, Nat.reduceEqDiff, Int.reduceBEq, Int.reduceLT, q1]
   rw [e3, hf']
  ·have hf' : fitL true lb (name.drop (name.length - lb.length)) = false := hf
   simp only [go_sem, Nat.reduceBEq, Nat.reduceLT, reduceCtorEq, Nat.reduceEqDiff, Int.reduceBEq, Int.reduceLT, q1]
   rw [e3, hf']
 ·have d1 : ((name.length : Int) - (lb.length : Int) < 0) := by omega
  have e3 : fitsB lb name = false := by simp [fitsB, c]
  simp only [go_sem, Nat.reduceBEq, Nat.reduceLT, reduceCtorEq, Nat.reduceEqDiff, Int.reduceBEq, Int.reduceLT, Nat.zero_add, Nat.add_zero, hT, h0, h1, bx, l1, l2, w1, d1, e3]
end
end Go.AE.Fns
namespace Go.AE.Fns
open Go Go.AE Env
set_option maxRecDepth 100000
inductive IsSlH (H : AHeap) (l : List (List UInt8)) : AV → Prop where
 | lst (ex : Bool) : IsSlH H l (.lst (txts l) l.length 1 ex)
 | nil (h : l = []) : IsSlH H l .nilsl
 | sl {b o v g wv st : Nat} {cap : Option Nat} {cs : List AV} (hb : H[b]? = some (.cells cs g wv st)) (h1 : st < 2) (h2 : wv ≤ v) (h3 : v ≤ cs.length) (h4 : o + l.length ≤ v) (hg : ∀ i (h : i < l.length), cs[o + i]? = some (.str l[i])) : IsSlH H l (.sl b o l.length 1 v cap)
section
variable {H : AHeap} {l : List (List UInt8)} {r : AV}
theorem IsSlH.len (h : IsSlH H l r) (H' : AHeap) : lenA H' .lenSl r = some (.int .i64 l.length, H', .p) := by
 cases h with
 | lst => rfl
 | nil h => subst h; rfl
 | sl => rfl
theorem IsSlH.at (h : IsSlH H l r) (i : Nat) (hi : i < l.length) : ∃ a, idxAddrA 1 r (.int .i64 i) = some a ∧ ∃ kd, ∀ X, loadA (H ++ X) 1 false a = some (.str l[i], H ++ X, kd) := by
  cases h with
  | lst ex => exact ⟨_, idxA_lst hi, .p, fun X => load_elt (txts_get l i hi)⟩
  | nil h => subst h; simp at hi
  | @sl b o v g wv st cap cs hb h1 h2 h3 h4 hg => exact ⟨_, idxA_sl hi, .r b, fun X => load_at (get_app hb) h1 h2 h3 (by omega) (hg i hi)⟩
theorem IsSlH.app (h : IsSlH H l r) (X : AHeap) : IsSlH (H ++ X) l r := by
 cases h with
 | lst ex => exact .lst ex
 | nil h => exact .nil h
 | sl hb h1 h2 h3 h4 hg => exact .sl (get_app hb) h1 h2 h3 h4 hg
end
theorem cells_lst {cs : List AV} {n sz : Nat} {ex : Bool} : AV.cells (.lst cs n sz ex) = [.lst cs n sz ex] := Eq.trans rfl rfl
theorem cells_bool {b : Bool} : AV.cells (.bool b) = [.bool b] := Eq.trans rfl rfl
theorem fill2 {T : Tmps} {z0 z1 : AV} {x y : Opd} (hx : (ev T x).cells = [ev T x]) (hy : (ev T y).cells = [ev T y]) : fillA T [z0, z1] [(0, 1, x), (1, 1, y)] = some [ev T x, ev T y] := by
 simp [fillA, hx, hy, putCells]
theorem bi_max {H : AHeap} {a b : Int} : builtinA H .max [.int .i64 a, .int .i64 b] = some (.int .i64 (max a b), H, .p) := by
 simp only [builtinA, foldA, maxA, pureV, Option.map_some]
 congr 3
 split <;> omega
theorem store_two {H : AHeap} {x y z0 z1 : AV} : storeA (H ++ [.cells [z0, z1] 0 2 0]) 2 (.ptr H.length 0 2) (.agg [x, y]) = some (undefA, H ++ [.cells [x, y] 0 2 0], .w H.length) := by
 simp [storeA, AV.cells, storeCellsA, putCells]
theorem load_two {H : AHeap} {p : Nat} {x y : AV} (hp : H[p]? = some (.cells [x, y] 0 2 0)) : loadA H 2 true (.ptr p 0 2) = some (.agg [x, y], H, .r p) := by
 simp [loadA, hp, part, readV]
theorem foldM_succ (name rules : List (List UInt8)) (i : Nat) (hi : i < rules.length) : foldM name (rules.take (i + 1)) = stepM name (foldM name (rules.take i)) rules[i] := by
 unfold foldM
 rw [List.take_add_one, List.getElem?_eq_getElem hi, List.foldl_append]
 rfl
theorem match_loop (name rules : List (List UInt8)) (e2 : Bool) (hn : name.length ≤ 2 ^ 31) (hrl : rules.length ≤ 2 ^ 31) (hr : ∀ r ∈ rules, r.length ≤ 2 ^ 29) (H : AHeap) (q : Nat) (hq : H[q]? = some (.cells [.lst (txts name) name.length 1 e2] 0 1 0)) (r : AV) (hsl : IsSlH H rules r)
    (Q : AExit → Tmps → AHeap → Prop) : ∀ (k i : Nat) (T : Tmps) (X : AHeap), i + k = rules.length →
    T.length = 59 → gt T 5 = i64 (foldM name (rules.take i)).1 → gt T 6 = .func 77 [] [.ptr q 0 1] → gt T 7 = i64 (foldM name (rules.take i)).2 → gt T 14 = r → gt T 15 = i64 rules.length → gt T 16 = i64 i →
    (∀ (T' : Tmps) (X' : AHeap), T'.length = 59 → gt T' 5 = i64 (foldM name rules).1 → gt T' 7 = i64 (foldM name rules).2 → Q (.exit 0) T' (H ++ X')) → E.W (F76.loop 0) T (H ++ X) Q
  | 0, i, T, X, hik, hT, h5, h6, h7, h14, h15, h16, hQ => by
    rw [show F76.loop 0 = .loop _ from rfl, W_loop]
    have d1 : ¬ ((i : Int) < (rules.length : Int)) := by omega
    rw [List.take_of_length_le (by omega)] at h5 h7
    simp only [go_sem, Nat.reduceBEq, Nat.reduceLT, reduceCtorEq, Nat.reduceEqDiff, Int.reduceBEq, Int.reduceLT, hT, h5, h6, h7, h14, h15, h16, d1]
    exact hQ _ X (by simp only [↓gp_eq, ↓gp_ne, ↓gp_none, ↓len_put, Nat.reduceBEq, Nat.reduceLT, decide_true, hT]) (by simp only [↓gp_eq, ↓gp_ne, ↓gp_none, ↓len_put, Nat.reduceBEq, Nat.reduceLT, decide_true, hT, h5]) (by simp only [↓gp_eq, ↓gp_ne, ↓gp_none, ↓len_put, Nat.reduceBEq, Nat.reduceLT, decide_true, hT, h7])
  | k + 1, i, T, X, hik, hT, h5, h6, h7, h14, h15, h16, hQ => by
    rw [show F76.loop 0 = .loop _ from rfl, W_loop]
    have hi : i < rules.length := by omega
    have d1 : ((i : Int) < (rules.length : Int)) := by omega
    have hstep := foldM_succ name rules i hi
    generalize hst : foldM name (rules.take i) = st at h5 h7 hstep
    obtain ⟨most, first⟩ := st
    obtain ⟨a, ha, kd, hld⟩ := hsl.at i hi
    have hld' := hld X
    have hri : (rules[i]).length ≤ 2 ^ 29 := hr _ (List.getElem_mem hi)
    have hcl : (cutPre [33] rules[i]).length ≤ 2 ^ 29 := by
      unfold cutPre; split
      · simp; omega
      · exact hri
    have hlb : (labels rules[i]).length ≤ 2 ^ 30 := by
      have := count_le 46 (cutPre [33] rules[i])
      rw [labels, splitB_len]; omega
    have cp := cutPrefix_c rules[i] [33]
    have sp := fun H K => split_c (cutPre [33] rules[i]) 46 hcl H K
    have hlbe : splitB 46 (cutPre [33] rules[i]) = labels rules[i] := rfl
    have hne : List.isPrefixOf [33] rules[i] = isNot rules[i] := rfl
    rw [hne] at cp
    rw [hlbe] at sp
    have al : fAlloc [.nilsl, .bool false] 0 (H ++ X) = some (.ptr (H ++ X).length 0 2, (H ++ X) ++ [.cells [.nilsl, .bool false] 0 2 0], .a (H ++ X).length) := alloc_eq (by simp)
    generalize hHX : H ++ X = HX at al hld'
    have st2 := store_two (H := HX) (x := .lst (txts (labels rules[i])) (labels rules[i]).length 1 true) (y := .bool (isNot rules[i])) (z0 := .nilsl) (z1 := .bool false)
    generalize hH2 : HX ++ [.cells [.lst (txts (labels rules[i])) (labels rules[i]).length 1 true, .bool (isNot rules[i])] 0 2 0] = H2 at st2
    have hp : H2[HX.length]? = some (.cells [.lst (txts (labels rules[i])) (labels rules[i]).length 1 true, .bool (isNot rules[i])] 0 2 0) := by rw [← hH2]; simp
    have hq2 : H2[q]? = some (.cells [.lst (txts name) name.length 1 e2] 0 1 0) := by rw [← hH2, ← hHX]; exact get_app (get_app hq)
    have ld2 := load_two hp
    have ft := fits_ans (labels rules[i]) name true e2 q (isNot rules[i]) hn (by omega) H2 hq2
    generalize hH3 : H2 ++ [.cells [.lst (txts (labels rules[i])) (labels rules[i]).length 1 true, .bool (isNot rules[i])] 0 2 0] = H3 at ft
    have fc : ∀ K, E.C 77 [.agg [.lst (txts (labels rules[i])) (labels rules[i]).length 1 true, .bool (isNot rules[i])], .ptr q 0 1] H2 K ↔ K (.bool (fitsB (labels rules[i]) name)) H3 (.c H2 H3) := fun K => C_shared (by
      have := (IsSl.lst (l := labels rules[i]) true).free
      simp only [AV.locFree] at this
      simp [locFreeL, AV.locFree]) ft
    have hp3 : H3[HX.length]? = some (.cells [.lst (txts (labels rules[i])) (labels rules[i]).length 1 true, .bool (isNot rules[i])] 0 2 0) := by rw [← hH3]; exact get_app hp
    have l0 : loadA H3 1 false (.ptr HX.length 0 2) = some (.lst (txts (labels rules[i])) (labels rules[i]).length 1 true, H3, .r HX.length) := load_at hp3 (by decide) (by decide) (by simp) (by decide) rfl
    have l1 : loadA H3 1 false (.ptr HX.length 1 2) = some (.bool (isNot rules[i]), H3, .r HX.length) := load_at hp3 (by decide) (by decide) (by simp) (by decide) rfl
    have hX3 : ∃ X3, H3 = H ++ X3 := ⟨X ++ _ ++ _, by rw [← hH3, ← hH2, ← hHX, List.append_assoc, List.append_assoc, List.append_assoc]⟩
    obtain ⟨X3, hX3⟩ := hX3
    have w1 : IntKind.i64.wrap (((labels rules[i]).length : Int) - 1) = ((labels rules[i]).length : Int) - 1 := by rw [wrap64] <;> omega
    have w3 : IntKind.i64.wrap ((i : Int) + 1) = ((i + 1 : Nat) : Int) := by rw [wrap64] <;> omega
    have goOn : ∀ (T' : Tmps) (m f : Int), stepM name (most, first) rules[i] = (m, f) → T'.length = 59 → gt T' 5 = i64 m → gt T' 6 = .func 77 [] [.ptr q 0 1] → gt T' 7 = i64 f → gt T' 14 = r → gt T' 15 = i64 rules.length → gt T' 16 = i64 ((i + 1 : Nat) : Int) → E.W (F76.loop 0) T' H3 Q := by
      intro T' m f hs g0 g1 g2 g3 g4 g5 g6
      rw [hs] at hstep
      rw [hX3]
      exact match_loop name rules e2 hn hrl hr H q hq r hsl Q k (i + 1) T' X3 (by omega) g0 (by rw [hstep]; exact g1) g2 (by rw [hstep]; exact g3) g4 g5 g6 hQ
    cases c1 : fitsB (labels rules[i]) name with
    | false =>
      have hs : stepM name (most, first) rules[i] = (most, first) := by simp [stepM, c1]
      simp only [go_sem, Nat.reduceBEq, Nat.reduceLT, reduceCtorEq, Nat.reduceEqDiff, Int.reduceBEq, Int.reduceLT, Nat.zero_add, Nat.add_zero, hT, h5, h6, h7, h14, h15, h16, d1, ha, hld', cp, sp, fill2, cells_lst, cells_bool, al, st2, ld2, fc, c1, w3]
      exact goOn _ most first hs (by simp only [↓gp_eq, ↓gp_ne, ↓gp_none, ↓len_put, Nat.reduceBEq, Nat.reduceLT, decide_true, hT]) (by simp only [↓gp_eq, ↓gp_ne, ↓gp_none, ↓len_put, Nat.reduceBEq, Nat.reduceLT, decide_true, hT, h5]) (by simp only [↓gp_eq, ↓gp_ne, ↓gp_none, ↓len_put, Nat.reduceBEq, Nat.reduceLT, decide_true, hT, h6]) (by simp only [↓gp_eq, ↓gp_ne, ↓gp_none, ↓len_put, Nat.reduceBEq, Nat.reduceLT, decide_true, hT, h7]) (by simp only [↓gp_eq, ↓gp_ne, ↓gp_none, ↓len_put, Nat.reduceBEq, Nat.reduceLT, decide_true, hT, h14]) (by simp only [↓gp_eq, ↓gp_ne, ↓gp_none, ↓len_put, Nat.reduceBEq, Nat.reduceLT, decide_true, hT, h15]) (by simp only [↓gp_eq, ↓gp_ne, ↓gp_none, ↓len_put, Nat.reduceBEq, Nat.reduceLT, decide_true, hT])
    | true =>
      cases c2 : isNot rules[i] with
      | false =>
        have hs : stepM name (most, first) rules[i] = (max most (labels rules[i]).length, first) := by simp [stepM, c1, c2]
        rw [c2] at cp st2 ld2 fc l1
        simp only [go_sem, Nat.reduceBEq, Nat.reduceLT, reduceCtorEq, Nat.reduceEqDiff, Int.reduceBEq, Int.reduceLT, Nat.zero_add, Nat.add_zero, hT, h5, h6, h7, h14, h15, h16, d1, ha, hld', cp, sp, fill2, cells_lst, cells_bool, al, st2, ld2, fc, c1, l0, l1, bi_max, w3]
        exact goOn _ _ _ hs (by simp only [↓gp_eq, ↓gp_ne, ↓gp_none, ↓len_put, Nat.reduceBEq, Nat.reduceLT, decide_true, hT]) (by simp only [↓gp_eq, ↓gp_ne, ↓gp_none, ↓len_put, Nat.reduceBEq, Nat.reduceLT, decide_true, hT]) (by simp only [↓gp_eq, ↓gp_ne, ↓gp_none, ↓len_put, Nat.reduceBEq, Nat.reduceLT, decide_true, hT, h6]) (by simp only [↓gp_eq, ↓gp_ne, ↓gp_none, ↓len_put, Nat.reduceBEq, Nat.reduceLT, decide_true, hT, h7]) (by simp only [↓gp_eq, ↓gp_ne, ↓gp_none, ↓len_put, Nat.reduceBEq, Nat.reduceLT, decide_true, hT, h14]) (by simp only [↓gp_eq, ↓gp_ne, ↓gp_none, ↓len_put, Nat.reduceBEq, Nat.reduceLT, decide_true, hT, h15]) (by simp only [↓gp_eq, ↓gp_ne, ↓gp_none, ↓len_put, Nat.reduceBEq, Nat.reduceLT, decide_true, hT])
      | true =>
        rw [c2] at cp st2 ld2 fc l1
        by_cases c3 : first < 0
        · have hs : stepM name (most, first) rules[i] = (most, ((labels rules[i]).length : Int) - 1) := by simp [stepM, c1, c2, c3]
          simp only [go_sem, Nat.reduceBEq, Nat.reduceLT, reduceCtorEq, Nat.reduceEqDiff, Int.reduceBEq, Int.reduceLT, Nat.zero_add, Nat.add_zero, hT, h5, h6, h7, h14, h15, h16, d1, ha, hld', cp, sp, fill2, cells_lst, cells_bool, al, st2, ld2, fc, c1, c3, l0, l1, w1, w3]
          exact goOn _ _ _ hs (by simp only [↓gp_eq, ↓gp_ne, ↓gp_none, ↓len_put, Nat.reduceBEq, Nat.reduceLT, decide_true, hT]) (by simp only [↓gp_eq, ↓gp_ne, ↓gp_none, ↓len_put, Nat.reduceBEq, Nat.reduceLT, decide_true, hT, h5]) (by simp only [↓gp_eq, ↓gp_ne, ↓gp_none, ↓len_put, Nat.reduceBEq, Nat.reduceLT, decide_true, hT, h6]) (by simp only [↓gp_eq, ↓gp_ne, ↓gp_none, ↓len_put, Nat.reduceBEq, Nat.reduceLT, decide_true, hT]) (by simp only [↓gp_eq, ↓gp_ne, ↓gp_none, ↓len_put, Nat.reduceBEq, Nat.reduceLT, decide_true, hT, h14]) (by simp only [↓gp_eq, ↓gp_ne, ↓gp_none, ↓len_put, Nat.reduceBEq, Nat.reduceLT, decide_true, hT, h15]) (by simp only [↓gp_eq, ↓gp_ne, ↓gp_none, ↓len_put, Nat.reduceBEq, Nat.reduceLT, decide_true, hT])
        · have hs : stepM name (most, first) rules[i] = (most, first) := by simp [stepM, c1, c2, c3]
          simp only [go_sem, Nat.reduceBEq, Nat.reduceLT, reduceCtorEq, Nat.reduceEqDiff, Int.reduceBEq, Int.reduceLT, Nat.zero_add, Nat.add_zero, hT, h5, h6, h7, h14, h15, h16, d1, ha, hld', cp, sp, fill2, cells_lst, cells_bool, al, st2, ld2, fc, c1, c3, l0, l1, w1, w3]
          exact goOn _ _ _ hs (by simp only [↓gp_eq, ↓gp_ne, ↓gp_none, ↓len_put, Nat.reduceBEq, Nat.reduceLT, decide_true, hT]) (by simp only [↓gp_eq, ↓gp_ne, ↓gp_none, ↓len_put, Nat.reduceBEq, Nat.reduceLT, decide_true, hT, h5]) (by simp only [↓gp_eq, ↓gp_ne, ↓gp_none, ↓len_put, Nat.reduceBEq, Nat.reduceLT, decide_true, hT, h6]) (by simp only [↓gp_eq, ↓gp_ne, ↓gp_none, ↓len_put, Nat.reduceBEq, Nat.reduceLT, decide_true, hT, h7]) (by simp only [↓gp_eq, ↓gp_ne, ↓gp_none, ↓len_put, Nat.reduceBEq, Nat.reduceLT, decide_true, hT, h14]) (by simp only [↓gp_eq, ↓gp_ne, ↓gp_none, ↓len_put, Nat.reduceBEq, Nat.reduceLT, decide_true, hT, h15]) (by simp only [↓gp_eq, ↓gp_ne, ↓gp_none, ↓len_put, Nat.reduceBEq, Nat.reduceLT, decide_true, hT])
end Go.AE.Fns
namespace Go.AE.Fns
open Go Go.AE Env
set_option maxRecDepth 100000
theorem foldM_bounds (name : List (List UInt8)) : ∀ (rules : List (List UInt8)) (st : Int × Int), 1 ≤ st.1 → -1 ≤ st.2 → 1 ≤ (rules.foldl (stepM name) st).1 ∧ -1 ≤ (rules.foldl (stepM name) st).2
 | [], st, h1, h2 => ⟨h1, h2⟩
 | r :: l, st, h1, h2 => by
  simp only [List.foldl_cons]
  apply foldM_bounds name l
  ·unfold stepM; split
   ·split
    ·exact h1
    ·split
     ·have := Int.le_max_left st.1 ((labels r).length : Int); simp only; omega
     ·exact h1
   ·exact h1
  ·unfold stepM; split
   ·split
    ·simp only; omega
    ·split
     ·exact h2
     ·exact h2
   ·exact h2
theorem match_ans (name rules : List (List UInt8)) (e2 : Bool) (hn : name.length ≤ 2 ^ 31) (hrl : rules.length ≤ 2 ^ 31) (hr : ∀ r ∈ rules, r.length ≤ 2 ^ 29) (H : AHeap) (r : AV) (hsl : IsSlH H rules r) :
  ∃ X, E.Ans 76 [r, .lst (txts name) name.length 1 e2] H (i64 (matchN rules name)) (H ++ X) := by
 refine AnsX2 (F := F76) (by kernel_rfl) rfl (by decide) fun T hT h0 h1 => ?_
 have bx : newVarA H (.lst (txts name) name.length 1 e2) 0 = some (.ptr H.length 0 1, H ++ [.cells [.lst (txts name) name.length 1 e2] 0 1 0], .a H.length) := rfl
 have hq : (H ++ [.cells [.lst (txts name) name.length 1 e2] 0 1 0])[H.length]? = some (.cells [.lst (txts name) name.length 1 e2] 0 1 0) := by simp
 have hsl' := hsl.app [.cells [.lst (txts name) name.length 1 e2] 0 1 0]
 have hl := hsl'.len
 generalize hHb : H ++ [.cells [.lst (txts name) name.length 1 e2] 0 1 0] = Hb at bx hq hsl'
 simp only [go_sem, Nat.reduceBEq, Nat.reduceLT, reduceCtorEq, Nat.reduceEqDiff, Int.reduceBEq, Int.reduceLT, hT, h0, h1, bx, hl]
 have := match_loop name rules e2 hn hrl hr Hb H.length hq r hsl'
 conv => enter [4]; rw [← List.append_nil Hb]
 refine this _ rules.length 0 _ [] (by omega) (by simp only [↓gp_eq, ↓gp_ne, ↓gp_none, ↓len_put, Nat.reduceBEq, Nat.reduceLT, decide_true, hT]) (by simp only [↓gp_eq, ↓gp_ne, ↓gp_none, ↓len_put, Nat.reduceBEq, Nat.reduceLT, decide_true, hT]; rfl) (by simp only [↓gp_eq, ↓gp_ne, ↓gp_none, ↓len_put, Nat.reduceBEq, Nat.reduceLT, decide_true, hT]) (by simp only [↓gp_eq, ↓gp_ne, ↓gp_none, ↓len_put, Nat.reduceBEq, Nat.reduceLT, decide_true, hT]; rfl) (by simp only [↓gp_eq, ↓gp_ne, ↓gp_none, ↓len_put, Nat.reduceBEq, Nat.reduceLT, decide_true, hT]) (by simp only [↓gp_eq, ↓gp_ne, ↓gp_none, ↓len_put, Nat.reduceBEq, Nat.reduceLT, decide_true, hT]) (by simp only [↓gp_eq, ↓gp_ne, ↓gp_none, ↓len_put, Nat.reduceBEq, Nat.reduceLT, decide_true, hT]; rfl) ?_
 intro T' X' q1 q2 q3
 have hX : ∃ X, Hb ++ X' = H ++ X := ⟨_, by rw [← hHb, List.append_assoc]⟩
 by_cases c : (foldM name rules).2 ≥ 0
 ·have e : matchN rules name = (foldM name rules).2 := by simp [matchN, c]
  simp only [go_sem, Nat.reduceBEq, Nat.reduceLT, reduceCtorEq, Nat.reduceEqDiff, Int.reduceBEq, Int.reduceLT, q1, q2, q3, c, e, hX]
 ·have e : matchN rules name = (foldM name rules).1 := by simp [matchN, c]
  simp only [go_sem, Nat.reduceBEq, Nat.reduceLT, reduceCtorEq, Nat.reduceEqDiff, Int.reduceBEq, Int.reduceLT, q1, q2, q3, c, e, hX]
theorem C_slice {f : Nat} {rules : List (List UInt8)} {r : AV} {as : List AV} {v : AV} (hfree : locFreeL as = true) (hk : E.keep f = false) (hv : ∀ Hc, freeze Hc 1000000000 v = some v)
    (h : ∀ H, IsSlH H rules r → ∃ X, E.Ans f (r :: as) H v (H ++ X)) {H : AHeap} (hsl : IsSlH H rules r) : ∃ X kd, ∀ K : AV → AHeap → Kd → Prop, E.C f (r :: as) H K ↔ K v (H ++ X) kd := by
  cases hsl with
  | lst ex =>
    obtain ⟨X, hX⟩ := h [] (.lst ex)
    refine ⟨[], .p, fun K => ?_⟩
    rw [List.append_nil]
    refine C_val hX ?_ hk (hv _)
    have := (IsSl.lst (l := rules) ex).free
    simp only [AV.locFree] at this
    simp [locFreeL, AV.locFree, this, hfree]
  | nil hn =>
    obtain ⟨X, hX⟩ := h [] (.nil hn)
    refine ⟨[], .p, fun K => ?_⟩
    rw [List.append_nil]
    exact C_val hX (by simp [locFreeL, AV.locFree, hfree]) hk (hv _)
  | @sl b o v g wv st cap cs hb h1 h2 h3 h4 hg =>
    obtain ⟨X, hX⟩ := h H (.sl (cap := cap) hb h1 h2 h3 h4 hg)
    exact ⟨X, _, fun K => C_shared (by simp [locFreeL, AV.locFree]) hX⟩
def suffixN (rules : List (List UInt8)) (name : List UInt8) : List UInt8 := joinB [46] ((splitB 46 name).drop ((splitB 46 name).length - (matchN rules (splitB 46 name)).toNat))
theorem fits_len {lb name : List (List UInt8)} (h : fitsB lb name = true) : lb.length ≤ name.length := by
 simp [fitsB] at h; exact h.1
theorem foldM_le (name : List (List UInt8)) (hn : 1 ≤ name.length) : ∀ (rules : List (List UInt8)) (st : Int × Int), st.1 ≤ name.length → st.2 ≤ name.length → (rules.foldl (stepM name) st).1 ≤ name.length ∧ (rules.foldl (stepM name) st).2 ≤ name.length
 | [], st, h1, h2 => ⟨h1, h2⟩
 | r :: l, st, h1, h2 => by
  simp only [List.foldl_cons]
  apply foldM_le name hn l
  ·unfold stepM; split
   ·rename_i hf
    have := fits_len hf
    split
    ·exact h1
    ·split
     ·simp only; omega
     ·exact h1
   ·exact h1
  ·unfold stepM; split
   ·rename_i hf
    have := fits_len hf
    split
    ·simp only; omega
    ·split
     ·exact h2
     ·exact h2
   ·exact h2
theorem matchN_bounds (rules name : List (List UInt8)) (hn : 1 ≤ name.length) : 0 ≤ matchN rules name ∧ matchN rules name ≤ name.length := by
 have h1 := foldM_bounds name rules (1, -1) (by simp) (by simp)
 have h2 := foldM_le name hn rules (1, -1) (by show (1 : Int) ≤ (name.length : Int); omega) (by show (-1 : Int) ≤ (name.length : Int); omega)
 unfold matchN foldM
 split
 ·omega
 ·omega
theorem sumLen_split (c : UInt8) : ∀ s, sumLen (splitB c s) ≤ s.length
 | [] => by simp [splitB, sumLen]
 | x :: l => by
  have ih := sumLen_split c l
  simp only [splitB]
  split
  ·simp [sumLen] at ih ⊢; omega
  ·split
   ·simp [sumLen]
   ·rename_i h t hl
    rw [hl] at ih
    simp [sumLen] at ih ⊢; omega
theorem suffix_ans (rules : List (List UInt8)) (name : List UInt8) (hrl : rules.length ≤ 2 ^ 31) (hr : ∀ r ∈ rules, r.length ≤ 2 ^ 29) (H : AHeap) (r : AV) (hsl : IsSlH H rules r) :
  ∃ X, E.Ans 73 [r, .str name] H (if askedN rules name = 0 then .tuple [.str (suffixN rules name), i64 0] else .tuple [.str [], i64 (askedN rules name)]) (H ++ X) := by
 have hask : ∀ H, IsSlH H rules r → ∃ X, E.Ans 75 (r :: [.str name]) H (i64 (askedN rules name)) (H ++ X) := by
  intro H hs
  refine ⟨[], ?_⟩
  rw [List.append_nil]
  have hl := hs.len
  refine Ans2 (F := F75) (by kernel_rfl) rfl (by decide) fun T hT h0 h1 => ?_
  unfold askedN
  by_cases c1 : rules.length > 256
  ·have d1 : (rules.length : Int) > 256 := by omega
   simp only [go_sem, Nat.reduceBEq, Nat.reduceLT, reduceCtorEq, Nat.reduceEqDiff, Int.reduceBEq, Int.reduceBNe, Int.reduceLT, Int.reduceLE, Int.reduceGT, Int.reduceGE, Int.reduceEq, Int.reduceAdd, Int.reduceSub, Int.reduceNeg, hT, h0, h1, hl, c1, d1]
  ·have d1 : ¬ (rules.length : Int) > 256 := by omega
   by_cases c2 : name.length > 4096
   ·have d2 : (name.length : Int) > 4096 := by omega
    simp only [go_sem, Nat.reduceBEq, Nat.reduceLT, reduceCtorEq, Nat.reduceEqDiff, Int.reduceBEq, Int.reduceBNe, Int.reduceLT, Int.reduceLE, Int.reduceGT, Int.reduceGE, Int.reduceEq, Int.reduceAdd, Int.reduceSub, Int.reduceNeg, hT, h0, h1, hl, c1, d1, c2, d2]
   ·have d2 : ¬ (name.length : Int) > 4096 := by omega
    simp only [go_sem, Nat.reduceBEq, Nat.reduceLT, reduceCtorEq, Nat.reduceEqDiff, Int.reduceBEq, Int.reduceBNe, Int.reduceLT, Int.reduceLE, Int.reduceGT, Int.reduceGE, Int.reduceEq, Int.reduceAdd, Int.reduceSub, Int.reduceNeg, hT, h0, h1, hl, c1, d1, c2, d2]
 obtain ⟨X1, kd1, ck⟩ := C_slice rfl (by kernel_rfl) (fun _ => rfl) hask hsl
 refine AnsX2 (F := F73) (by kernel_rfl) rfl (by decide) fun T hT h0 h1 => ?_
 by_cases c : askedN rules name = 0
 ·have hnl : name.length ≤ 4096 := by
   unfold askedN at c
   split at c
   ·omega
   ·split at c
    ·omega
    ·omega
  have e1 : (askedN rules name != 0) = false := by simp [c]
  have sp := fun H K => split_c name 46 (by omega) H K
  have hcnt := count_le 46 name
  have hsl_len := splitB_len 46 name
  generalize hlb : splitB 46 name = lb at sp hsl_len
  have hsl1 := hsl.app X1
  have hmt := C_slice (v := i64 (matchN rules lb)) (as := [.lst (txts lb) lb.length 1 true]) (f := 76) (rules := rules) (r := r) (by
   have := (IsSl.lst (l := lb) true).free
   simp only [AV.locFree] at this
   simp [locFreeL, AV.locFree, this]) (by kernel_rfl) (fun _ => rfl) (fun H hs => match_ans lb rules true (by omega) hrl hr H r hs) hsl1
  obtain ⟨X2, kd2, mt⟩ := hmt
  have hb := matchN_bounds rules lb (by omega)
  have w1 : IntKind.i64.wrap ((lb.length : Int) - matchN rules lb) = ((lb.length - (matchN rules lb).toNat : Nat) : Int) := by rw [wrap64] <;> omega
  have sl1 : sliceA 1 (.lst (txts lb) lb.length 1 true) (some (.int .i64 ((lb.length - (matchN rules lb).toNat : Nat) : Int))) none none = some (.lst (txts (lb.drop (lb.length - (matchN rules lb).toNat))) (lb.drop (lb.length - (matchN rules lb).toNat)).length 1 true) := by
   have := slice_lst (cs := txts lb) (ex := true) (k := .i64) (l := lb.length - (matchN rules lb).toNat) (n := lb.length) (by omega) (txts_len _)
   rw [this]
   simp [txts]
  have hsum : sumLen (lb.drop (lb.length - (matchN rules lb).toNat)) ≤ sumLen lb := by
   unfold sumLen
   have := congrArg (fun l => (l.map List.length).sum) (List.take_append_drop (lb.length - (matchN rules lb).toNat) lb)
   simp only [List.map_append, List.sum_append] at this
   omega
  have hsl2 : sumLen lb ≤ name.length := by rw [← hlb]; exact sumLen_split 46 name
  have jn := fun H K => join_c (lb.drop (lb.length - (matchN rules lb).toNat)) true 46 (by simp; omega) H K
  have hX : ∃ X, (H ++ X1) ++ X2 = H ++ X := ⟨_, List.append_assoc ..⟩
  have es : suffixN rules name = joinB [46] (lb.drop (lb.length - (matchN rules lb).toNat)) := by rw [suffixN, hlb]
  simp only [go_sem, Nat.reduceBEq, Nat.reduceLT, reduceCtorEq, Nat.reduceEqDiff, Int.reduceBEq, Int.reduceBNe, Int.reduceLT, Int.reduceLE, Int.reduceGT, Int.reduceGE, Int.reduceEq, Int.reduceAdd, Int.reduceSub, Int.reduceNeg, hT, h0, h1, ck, e1, sp, mt, w1, sl1, jn, hX, c, es]
 ·have e1 : (askedN rules name != 0) = true := by simp [c]
  have hX : ∃ X, H ++ X1 = H ++ X := ⟨_, rfl⟩
  simp only [go_sem, Nat.reduceBEq, Nat.reduceLT, reduceCtorEq, Nat.reduceEqDiff, Int.reduceBEq, Int.reduceBNe, Int.reduceLT, Int.reduceLE, Int.reduceGT, Int.reduceGE, Int.reduceEq, Int.reduceAdd, Int.reduceSub, Int.reduceNeg, hT, h0, h1, ck, e1, c, hX]
end Go.AE.Fns
namespace Go.AE.Fns
open Go Go.AE Env
set_option maxRecDepth 100000
def idxOf (eqv : AV → Bool) (xs : List AV) : Int := match xs.findIdx? eqv with | some i => (i : Int) | none => -1
theorem idxOf_ge {eqv : AV → Bool} {xs : List AV} : decide (idxOf eqv xs ≥ 0) = xs.any eqv := by
 unfold idxOf
 cases h : xs.findIdx? eqv with
 | some i =>
  obtain ⟨h1, h2, _⟩ := List.findIdx?_eq_some_iff_getElem.1 h
  have : xs.any eqv = true := List.any_eq_true.2 ⟨_, List.getElem_mem h1, h2⟩
  rw [this]; simp
 | none =>
  have : xs.any eqv = false := by
   rw [List.any_eq_false]
   intro x hx
   have := List.findIdx?_eq_none_iff.1 h x hx
   simp [this]
  rw [this]; simp
theorem findIdx_at {eqv : AV → Bool} {xs : List AV} {i : Nat} (hi : i < xs.length) (h1 : ∀ j (h : j < xs.length), j < i → eqv xs[j] = false) (h2 : eqv xs[i] = true) : idxOf eqv xs = i := by
 have : xs.findIdx? eqv = some i := List.findIdx?_eq_some_iff_getElem.2 ⟨hi, h2, fun j hj => by simp [h1 j (by omega) hj]⟩
 simp [idxOf, this]
theorem findIdx_no {eqv : AV → Bool} {xs : List AV} (h1 : ∀ j (h : j < xs.length), eqv xs[j] = false) : idxOf eqv xs = -1 := by
 have : xs.findIdx? eqv = none := List.findIdx?_eq_none_iff.2 fun x hx => by
  obtain ⟨j, hj, rfl⟩ := List.getElem_of_mem hx
  exact h1 j hj
 simp [idxOf, this]
theorem index_loop (xs : List AV) (a : AV) (eqv : AV → Bool) (ex : Bool) (he : ∀ x ∈ xs, binA .eql a x = some (.bool (eqv x))) (hlen : xs.length ≤ 2 ^ 31) (H : AHeap) (Q : AExit → Tmps → AHeap → Prop)
    (hx : ∀ T : Tmps, T.length = 19 → idxOf eqv xs = -1 → Q (.exit 0) T H) (hr : ∀ T : Tmps, gt T 4 = i64 (idxOf eqv xs) → Q .ret T H) : ∀ (k i : Nat) (T : Tmps), i + k = xs.length → (∀ j (h : j < xs.length), j < i → eqv xs[j] = false) →
    T.length = 19 → gt T 0 = .lst xs xs.length 1 ex → gt T 1 = a → gt T 7 = i64 xs.length → gt T 8 = i64 i → E.W (F176.loop 0) T H Q
  | 0, i, T, hi, hb, hT, h0, h1, h7, h8 => by
    rw [show F176.loop 0 = .loop _ from rfl, W_loop]
    have d1 : ¬ ((i : Int) < (xs.length : Int)) := by omega
    simp only [go_sem, Nat.reduceBEq, Nat.reduceLT, reduceCtorEq, Nat.reduceEqDiff, Int.reduceBEq, Int.reduceLT, hT, h0, h1, h7, h8, d1]
    exact hx _ (by simp only [↓gp_eq, ↓gp_ne, ↓gp_none, ↓len_put, Nat.reduceBEq, Nat.reduceLT, decide_true, hT]) (findIdx_no fun j hj => hb j hj (by omega))
  | k + 1, i, T, hi, hb, hT, h0, h1, h7, h8 => by
    rw [show F176.loop 0 = .loop _ from rfl, W_loop]
    have d1 : ((i : Int) < (xs.length : Int)) := by omega
    have hil : i < xs.length := by omega
    have a1 : idxAddrA 1 (.lst xs xs.length 1 ex) (.int .i64 i) = some (.elt xs i) := idxA_lst hil
    have l1 : ∀ H, loadA H 1 false (.elt xs i) = some (xs[i], H, .p) := fun H => by simp [loadA, part, hil, pureV]
    have e1 := he xs[i] (List.getElem_mem hil)
    have w1 : IntKind.i64.wrap ((i : Int) + 1) = ((i + 1 : Nat) : Int) := by rw [wrap64] <;> omega
    cases c : eqv xs[i]
    · rw [c] at e1
      simp only [go_sem, Nat.reduceBEq, Nat.reduceLT, reduceCtorEq, Nat.reduceEqDiff, Int.reduceBEq, Int.reduceLT, hT, h0, h1, h7, h8, d1, a1, l1, e1, w1]
      refine index_loop xs a eqv ex he hlen H Q hx hr k (i + 1) _ (by omega) (fun j hj hji => ?_) (by simp only [↓gp_eq, ↓gp_ne, ↓gp_none, ↓len_put, Nat.reduceBEq, Nat.reduceLT, decide_true, hT]) (by simp only [↓gp_eq, ↓gp_ne, ↓gp_none, ↓len_put, Nat.reduceBEq, Nat.reduceLT, decide_true, hT, h0]) (by simp only [↓gp_eq, ↓gp_ne, ↓gp_none, ↓len_put, Nat.reduceBEq, Nat.reduceLT, decide_true, hT, h1]) (by simp only [↓gp_eq, ↓gp_ne, ↓gp_none, ↓len_put, Nat.reduceBEq, Nat.reduceLT, decide_true, hT, h7]) (by simp only [↓gp_eq, ↓gp_ne, ↓gp_none, ↓len_put, Nat.reduceBEq, Nat.reduceLT, decide_true, hT])
      by_cases q : j = i
      · subst q; exact c
      · exact hb j hj (by omega)
    · rw [c] at e1
      simp only [go_sem, Nat.reduceBEq, Nat.reduceLT, reduceCtorEq, Nat.reduceEqDiff, Int.reduceBEq, Int.reduceLT, hT, h0, h1, h7, h8, d1, a1, l1, e1]
      refine hr _ (by simp only [↓gp_eq, ↓gp_ne, ↓gp_none, ↓len_put, Nat.reduceBEq, Nat.reduceLT, decide_true, hT]; rw [findIdx_at hil hb c])
theorem index_anyT (xs : List AV) (a : AV) (eqv : AV → Bool) (ex : Bool) (he : ∀ x ∈ xs, binA .eql a x = some (.bool (eqv x))) (hlen : xs.length ≤ 2 ^ 31) (H : AHeap) (f : Nat) (hf : E.lp f = some F176) :
  E.Ans f [.lst xs xs.length 1 ex, a] H (i64 (idxOf eqv xs)) H := by
 refine Ans2 (F := F176) hf rfl (by decide) fun T hT h0 h1 => ?_
 have hl := fun Q hx hr => index_loop xs a eqv ex he hlen H Q hx hr xs.length 0
 rw [show F176.loop 0 = .loop _ from rfl] at hl
 simp only [go_sem, Nat.reduceBEq, Nat.reduceLT, reduceCtorEq, Nat.reduceEqDiff, Int.reduceBEq, Int.reduceLT, hT, h0, h1]
 refine hl _ ?_ ?_ _ (by omega) (fun j _ h => by omega) (by simp only [↓gp_eq, ↓gp_ne, ↓gp_none, ↓len_put, Nat.reduceBEq, Nat.reduceLT, decide_true, hT]) (by simp only [↓gp_eq, ↓gp_ne, ↓gp_none, ↓len_put, Nat.reduceBEq, Nat.reduceLT, decide_true, hT, h0]) (by simp only [↓gp_eq, ↓gp_ne, ↓gp_none, ↓len_put, Nat.reduceBEq, Nat.reduceLT, decide_true, hT, h1]) (by simp only [↓gp_eq, ↓gp_ne, ↓gp_none, ↓len_put, Nat.reduceBEq, Nat.reduceLT, decide_true, hT]) (by simp only [↓gp_eq, ↓gp_ne, ↓gp_none, ↓len_put, Nat.reduceBEq, Nat.reduceLT, decide_true, hT]; rfl)
 ·intro T' hT' hn
  simp only [go_sem, Nat.reduceBEq, Nat.reduceLT, reduceCtorEq, Nat.reduceEqDiff, Int.reduceBEq, Int.reduceLT, hT', hn]
 ·intro T' h4
  simp only [go_sem, Nat.reduceBEq, Nat.reduceLT, reduceCtorEq, Nat.reduceEqDiff, Int.reduceBEq, Int.reduceLT, h4]
def strEq (s : List UInt8) : AV → Bool | .str x => s == x | _ => false
def intEq (n : Int) : AV → Bool | .int _ x => n == x | _ => false
theorem containsS_ans (l : List (List UInt8)) (s : List UInt8) (ex : Bool) (hl : l.length ≤ 2 ^ 31) (H : AHeap) : E.Ans 163 [.lst (txts l) l.length 1 ex, .str s] H (.bool (l.contains s)) H := by
 refine Ans2 (F := F163) (by kernel_rfl) rfl (by decide) fun T hT h0 h1 => ?_
 have hx : ∀ x ∈ txts l, binA .eql (.str s) x = some (.bool (strEq s x)) := fun x hx => by
  simp only [txts, List.mem_map] at hx
  obtain ⟨y, _, rfl⟩ := hx
  rfl
 have hfree : locFreeL [.lst (txts l) (txts l).length 1 ex, .str s] = true := by
  have h1 := (IsSl.lst (l := l) ex).free
  rw [txts_len]
  simpa [locFreeL, AV.locFree, txts_len] using h1
 have hi := fun H K => C_val (H := H) (K := K) (index_anyT (txts l) (.str s) (strEq s) ex hx (by rw [txts_len]; exact hl) [] 176 (by kernel_rfl)) hfree (by kernel_rfl) rfl
 rw [txts_len] at hi
 have hc : decide (idxOf (strEq s) (txts l) ≥ 0) = l.contains s := by
  rw [idxOf_ge, txts, List.any_map, List.contains_eq_any_beq]
  rfl
 simp only [go_sem, Nat.reduceBEq, Nat.reduceLT, reduceCtorEq, Nat.reduceEqDiff, Int.reduceBEq, Int.reduceLT, hT, h0, h1, hi, hc]
theorem containsS_c (l : List (List UInt8)) (s : List UInt8) (ex : Bool) (hl : l.length ≤ 2 ^ 31) (H : AHeap) (K : AV → AHeap → Kd → Prop) : E.C 163 [.lst (txts l) l.length 1 ex, .str s] H K ↔ K (.bool (l.contains s)) H .p :=
 C_val (containsS_ans l s ex hl []) (by have h1 := (IsSl.lst (l := l) ex).free; simpa [locFreeL, AV.locFree] using h1) (by kernel_rfl) rfl
def schemes : List (List UInt8) := [[102, 116, 112], [104, 116, 116, 112], [104, 116, 116, 112, 115], [119, 115], [119, 115, 115]]
theorem tuple_ans (s : List UInt8) (H : AHeap) : E.Ans 78 [.str s] H (.bool (schemes.contains s)) H := by
 refine Ans1 (F := F78) (by kernel_rfl) rfl (by decide) fun T hT h0 => ?_
 have hc := containsS_c schemes s true (by decide)
 have e : ∀ T : Tmps, fillA T (repCells 5 [.str []]) [(0, 1, .c (.str [102, 116, 112])), (1, 1, .c (.str [104, 116, 116, 112])), (2, 1, .c (.str [104, 116, 116, 112, 115])), (3, 1, .c (.str [119, 115])), (4, 1, .c (.str [119, 115, 115]))] = some (txts schemes) := fun T => rfl
 simp only [go_sem, Nat.reduceBEq, Nat.reduceLT, reduceCtorEq, Nat.reduceEqDiff, Int.reduceBEq, Int.reduceLT, hT, h0, e]
 exact (hc _ _).2 (by simp only [go_sem, Nat.reduceBEq, Nat.reduceLT, reduceCtorEq, Nat.reduceEqDiff, Int.reduceBEq, Int.reduceLT, hT])
theorem tuple_c (s : List UInt8) (H : AHeap) (K : AV → AHeap → Kd → Prop) : E.C 78 [.str s] H K ↔ K (.bool (schemes.contains s)) H .p :=
 C_val (tuple_ans s []) rfl (by kernel_rfl) rfl
theorem containsK_c (n : Int) (H : AHeap) (K : AV → AHeap → Kd → Prop) : E.C 160 [.lst [.int .u8 1, .int .u8 2, .int .u8 3] 3 1 true, .int .u8 n] H K ↔ K (.bool (n == 1 || n == 2 || n == 3)) H .p := by
 refine C_val (Hc := []) (Ans2 (F := F160) (by kernel_rfl) rfl (by decide) fun T hT h0 h1 => ?_) rfl (by kernel_rfl) rfl
 have hx : ∀ x ∈ [AV.int .u8 1, .int .u8 2, .int .u8 3], binA .eql (.int .u8 n) x = some (.bool (intEq n x)) := fun x hx => by
  simp at hx
  rcases hx with rfl | rfl | rfl <;> simp [binA, intEq]
 have hi := fun H K => C_val (H := H) (K := K) (index_anyT [AV.int .u8 1, .int .u8 2, .int .u8 3] (.int .u8 n) (intEq n) true hx (by decide) [] 173 (by kernel_rfl)) rfl (by kernel_rfl) rfl
 rw [show [AV.int .u8 1, .int .u8 2, .int .u8 3].length = 3 from rfl] at hi
 have hc : decide (idxOf (intEq n) [AV.int .u8 1, .int .u8 2, .int .u8 3] ≥ 0) = (n == 1 || n == 2 || n == 3) := by
  rw [idxOf_ge]
  simp [intEq, Bool.or_assoc]
 simp only [go_sem, Nat.reduceBEq, Nat.reduceLT, reduceCtorEq, Nat.reduceEqDiff, Int.reduceBEq, Int.reduceLT, hT, h0, h1, hi, hc]
theorem hasSuffix0_ans (s p : List UInt8) (hs : s.length < 2 ^ 62) (H : AHeap) : E.Ans 152 [.str s, .str p] H (.bool (p.isSuffixOf s)) H := by
 refine Ans2 (F := F152) (by kernel_rfl) rfl (by decide) fun T hT h0 h1 => ?_
 by_cases c : p.length ≤ s.length
 ·have d1 : (s.length : Int) ≥ p.length := by omega
  have w1 : IntKind.i64.wrap ((s.length : Int) - p.length) = ((s.length - p.length : Nat) : Int) := by rw [wrap64] <;> omega
  have e1 : ∀ H, fSlStr (.str s) (some (.int .i64 ((s.length - p.length : Nat) : Int))) none H = some (.str (s.drop (s.length - p.length)), H, .p) := fun H => sl_from (by omega)
  have e2 : p.isSuffixOf s = (s.drop (s.length - p.length) == p) := by
   rw [Bool.eq_iff_iff]
   simp only [List.isSuffixOf_iff_suffix, beq_iff_eq, List.suffix_iff_eq_drop]
   exact eq_comm
  simp only [go_sem, Nat.reduceBEq, Nat.reduceLT, reduceCtorEq, Nat.reduceEqDiff, Int.reduceBEq, Int.reduceLT, hT, h0, h1, d1, w1, e1, e2]
 ·have d1 : ¬ (s.length : Int) ≥ p.length := by omega
  have e2 : p.isSuffixOf s = false := by
   rw [Bool.eq_false_iff]
   intro h
   rw [List.isSuffixOf_iff_suffix] at h
   exact c h.length_le
  simp only [go_sem, Nat.reduceBEq, Nat.reduceLT, reduceCtorEq, Nat.reduceEqDiff, Int.reduceBEq, Int.reduceLT, hT, h0, h1, d1, e2]
theorem hasSuffix0_c (s p : List UInt8) (hs : s.length < 2 ^ 62) (H : AHeap) (K : AV → AHeap → Kd → Prop) : E.C 152 [.str s, .str p] H K ↔ K (.bool (p.isSuffixOf s)) H .p :=
 C_val (hasSuffix0_ans s p hs []) rfl (by kernel_rfl) rfl
theorem hasSuffix_ans (s p : List UInt8) (hs : s.length < 2 ^ 62) (H : AHeap) : E.Ans 186 [.str s, .str p] H (.bool (p.isSuffixOf s)) H := by
 refine Ans2 (F := F186) (by kernel_rfl) rfl (by decide) fun T hT h0 h1 => ?_
 have hp := hasSuffix0_c s p hs
 simp only [go_sem, Nat.reduceBEq, Nat.reduceLT, reduceCtorEq, Nat.reduceEqDiff, Int.reduceBEq, Int.reduceLT, hT, h0, h1, hp]
theorem hasSuffix_c (s p : List UInt8) (hs : s.length < 2 ^ 62) (H : AHeap) (K : AV → AHeap → Kd → Prop) : E.C 186 [.str s, .str p] H K ↔ K (.bool (p.isSuffixOf s)) H .p :=
 C_val (hasSuffix_ans s p hs []) rfl (by kernel_rfl) rfl
def behindB (n s : List UInt8) : Bool := !(s == []) && (n == s || (46 :: s).isSuffixOf n)
theorem bin_adds {a b : List UInt8} (h : a.length + b.length ≤ 2 ^ 62) : binA .add (.str a) (.str b) = some (.str (a ++ b)) := by simp [binA]; omega
theorem behind_ans (n s : List UInt8) (hs : n.length < 2 ^ 62) (hs2 : s.length < 2 ^ 60) (H : AHeap) : E.Ans 241 [.str n, .str s] H (.bool (behindB n s)) H := by
 refine Ans2 (F := F241) (by kernel_rfl) rfl (by decide) fun T hT h0 h1 => ?_
 have hp := hasSuffix_c n (46 :: s) hs
 have ha : binA .add (.str [46]) (.str s) = some (.str (46 :: s)) := bin_adds (by simp; omega)
 unfold behindB
 cases c1 : s == []
 ·cases c2 : n == s
  ·simp only [go_sem, Nat.reduceBEq, Nat.reduceLT, reduceCtorEq, Nat.reduceEqDiff, Int.reduceBEq, Int.reduceLT, hT, h0, h1, c1, c2, ha, hp]
  ·simp only [go_sem, Nat.reduceBEq, Nat.reduceLT, reduceCtorEq, Nat.reduceEqDiff, Int.reduceBEq, Int.reduceLT, hT, h0, h1, c1, c2]
 ·simp only [go_sem, Nat.reduceBEq, Nat.reduceLT, reduceCtorEq, Nat.reduceEqDiff, Int.reduceBEq, Int.reduceLT, hT, h0, h1, c1]
theorem behind_c (n s : List UInt8) (hs : n.length < 2 ^ 62) (hs2 : s.length < 2 ^ 60) (H : AHeap) (K : AV → AHeap → Kd → Prop) : E.C 241 [.str n, .str s] H K ↔ K (.bool (behindB n s)) H .p :=
 C_val (behind_ans n s hs hs2 []) rfl (by kernel_rfl) rfl
theorem control_ans (r : Int) (H : AHeap) : E.Ans 53 [.int .i32 r] H (.bool (decide (r < 32) || (r == 37) || (r == 127))) H := by
 refine Ans1 (F := F53) (by kernel_rfl) rfl (by decide) fun T hT h0 => ?_
 by_cases c1 : r < 32
 ·simp only [go_sem, Nat.reduceBEq, Nat.reduceLT, reduceCtorEq, Nat.reduceEqDiff, Int.reduceBEq, Int.reduceLT, hT, h0, c1]
 ·cases c2 : r == 37
  ·cases c3 : r == 127
   ·simp only [go_sem, Nat.reduceBEq, Nat.reduceLT, reduceCtorEq, Nat.reduceEqDiff, Int.reduceBEq, Int.reduceLT, hT, h0, c1, c2, c3]
   ·simp only [go_sem, Nat.reduceBEq, Nat.reduceLT, reduceCtorEq, Nat.reduceEqDiff, Int.reduceBEq, Int.reduceLT, hT, h0, c1, c2, c3]
  ·simp only [go_sem, Nat.reduceBEq, Nat.reduceLT, reduceCtorEq, Nat.reduceEqDiff, Int.reduceBEq, Int.reduceLT, hT, h0, c1, c2]
theorem control_c (r : Int) (H : AHeap) (K : AV → AHeap → Kd → Prop) : E.C 53 [.int .i32 r] H K ↔ K (.bool (decide (r < 32) || (r == 37) || (r == 127))) H .p :=
 C_val (control_ans r []) rfl (by kernel_rfl) rfl
end Go.AE.Fns
namespace Go.AE.Fns
open Go Go.AE Env
set_option maxRecDepth 100000
theorem dec_pos (s : List UInt8) (p : Nat) : 1 ≤ (utf8Dec s p).2 := by
 unfold utf8Dec Utf8.decode
 simp only
 repeat' split
 all_goals simp
theorem dec_max (s : List UInt8) (p : Nat) : (utf8Dec s p).1 ≤ 1114111 := by
 unfold utf8Dec Utf8.decode
 simp only [Utf8.runeError]
 repeat' split
 all_goals simp only [ge_iff_le, Bool.and_eq_true, decide_eq_true_eq, beq_iff_eq] at *
 all_goals try omega
 all_goals try (rename_i h; simp only [Utf8.valid, Bool.and_eq_true, Bool.or_eq_true, decide_eq_true_eq] at h; omega)
theorem enc_high {r : Int} (h0 : 128 ≤ r) (h1 : r ≤ 1114111) : ∃ l x, utf8Enc r = l ++ [x] ∧ 1 ≤ l.length ∧ l.length ≤ 3 ∧ 128 ≤ x.toNat := by
 have hx : ∀ m : Nat, 128 ≤ (UInt8.ofNat (128 + m % 64)).toNat := fun m => by
  have : m % 64 < 64 := Nat.mod_lt _ (by omega)
  simp only [UInt8.toNat_ofNat']
  omega
 unfold utf8Enc Utf8.encode
 simp only
 generalize hc : (if Utf8.valid r = true then r.toNat else Utf8.runeError) = c
 have hc2 : 128 ≤ c := by
  subst hc
  split
  ·omega
  ·simp [Utf8.runeError]
 rw [if_neg (by omega)]
 split
 ·exact ⟨[_], _, rfl, by simp, by simp, hx c⟩
 ·split
  ·exact ⟨[_, _], _, rfl, by simp, by simp, hx c⟩
  ·exact ⟨[_, _, _], _, rfl, by simp, by simp, hx c⟩
def forb : List UInt8 := [0, 9, 10, 13, 32, 35, 47, 58, 60, 62, 63, 64, 91, 92, 93, 94, 124]
theorem of_run {f : Nat} {args : List AV} {v : AV} {Hc : AHeap} (n : Nat) (h : run n f args = some (v, Hc)) : E.Ans f args [] v Hc := by
 unfold run at h
 rw [callsF_eq] at h
 exact ⟨n, h⟩
def isV (v : AV) : Option (AV × AHeap) → Bool
 | some (w, _) => v.same w
 | _ => false
theorem validRune_ans (r : Int) (h0 : 128 ≤ r) (h1 : r ≤ 1114111) : ∃ b H', E.Ans 266 [.int .i32 r] [] (.bool b) H' := by
 obtain ⟨v, H', ⟨b, rfl⟩, h⟩ := AnsE1 (E := E) (f := 266) (F := F266) (a := .int .i32 r) (H := []) (P := fun v => ∃ b, v = .bool b) (by kernel_rfl) rfl (by decide) fun T hT h0' => by
  have d0 : (0 : Int) ≤ r := by omega
  by_cases c1 : r < 55296
  ·simp only [go_sem, Nat.reduceBEq, Nat.reduceLT, reduceCtorEq, Nat.reduceEqDiff, Int.reduceBEq, Int.reduceLT, hT, h0', d0, c1]
   exact ⟨_, rfl⟩
  ·by_cases c2 : 57343 < r
   ·simp only [go_sem, Nat.reduceBEq, Nat.reduceLT, reduceCtorEq, Nat.reduceEqDiff, Int.reduceBEq, Int.reduceLT, hT, h0', d0, c1, c2, h1]
    exact ⟨_, rfl⟩
   ·simp only [go_sem, Nat.reduceBEq, Nat.reduceLT, reduceCtorEq, Nat.reduceEqDiff, Int.reduceBEq, Int.reduceLT, hT, h0', d0, c1, c2]
    exact ⟨_, rfl⟩
 exact ⟨b, H', h⟩
theorem indexByte2_ans (s : List UInt8) (c : UInt8) (H : AHeap) : E.Ans 189 [.str s, .int .u8 c.toNat] H (i64 (idxB c s)) H := by
 refine Ans2 (F := F189) (by kernel_rfl) rfl (by decide) fun T hT h0 h1 => ?_
 have hp := indexByte1_c s c
 simp only [go_sem, Nat.reduceBEq, Nat.reduceLT, reduceCtorEq, Nat.reduceEqDiff, Int.reduceBEq, Int.reduceLT, hT, h0, h1, hp]
theorem indexByte2_c (s : List UInt8) (c : UInt8) (H : AHeap) (K : AV → AHeap → Kd → Prop) : E.C 189 [.str s, .int .u8 c.toNat] H K ↔ K (i64 (idxB c s)) H .p :=
 C_val (indexByte2_ans s c []) rfl (by kernel_rfl) rfl
theorem idxB_no {c : UInt8} {s : List UInt8} (h : s.all (fun x => x.toNat < 128) = true) (hc : 128 ≤ c.toNat) : idxB c s = -1 := by
 have : s.findIdx? (· == c) = none := List.findIdx?_eq_none_iff.2 fun x hx => by
  have := List.all_eq_true.1 h x hx
  simp only [decide_eq_true_eq] at this
  simp only [beq_eq_false_iff_ne]
  intro e
  subst e
  omega
 simp [idxB, this]
theorem indexRune_ascii (r : Int) (h0 : 0 ≤ r) (h1 : r < 128) (s : List UInt8) (H : AHeap) : E.Ans 191 [.str s, .int .i32 r] H (i64 (idxB (UInt8.ofNat r.toNat) s)) H := by
 refine Ans2 (F := F191) (by kernel_rfl) rfl (by decide) fun T hT h0' h1' => ?_
 have hp := indexByte2_c s (UInt8.ofNat r.toNat)
 have e1 : ((UInt8.ofNat r.toNat).toNat : Int) = r := by simp only [UInt8.toNat_ofNat']; omega
 rw [e1] at hp
 have e2 : ∀ H, convA H (.int .u8) (.int .i32 r) = some (.int .u8 r, H, .p) := fun H => by
  have : IntKind.u8.wrap r = r := by simp [IntKind.wrap, IntKind.bits, IntKind.signed]; omega
  simp [convA, this, pureV]
 simp only [go_sem, Nat.reduceBEq, Nat.reduceLT, reduceCtorEq, Nat.reduceEqDiff, Int.reduceBEq, Int.reduceLT, hT, h0', h1', h0, h1, e2, hp]
theorem of_isV {f : Nat} {args : List AV} {k : IntKind} {m : Int} (n : Nat) (h : isV (.int k m) (run n f args) = true) : ∃ Hc, E.Ans f args [] (.int k m) Hc := by
 cases hc : run n f args with
 | none => rw [hc] at h; simp [isV] at h
 | some p =>
  obtain ⟨v, Hc⟩ := p
  rw [hc] at h
  cases v <;> simp [isV, AV.same] at h
  obtain ⟨rfl, rfl⟩ := h
  exact ⟨Hc, of_run n hc⟩
theorem forb_ascii : forb.all (fun x => x.toNat < 128) = true := by decide
theorem forb_drop (i : Nat) : (forb.drop i).all (fun x => x.toNat < 128) = true := by
 rw [List.all_eq_true]
 intro x hx
 exact List.all_eq_true.1 forb_ascii x (List.mem_of_mem_drop hx)
theorem indexRune_high (r : Int) (h0 : 128 ≤ r) (h1 : r ≤ 1114111) : ∃ v H', v = i64 (-1) ∧ E.Ans 191 [.str forb, .int .i32 r] [] v H' := by
 by_cases c : r = 65533
 ·subst c
  obtain ⟨Hc, h⟩ := of_isV (f := 191) (args := [.str forb, .int .i32 65533]) (k := .i64) (m := -1) 400 (by kernel_rfl)
  exact ⟨_, Hc, rfl, h⟩
 ·refine AnsE2 (F := F191) (by kernel_rfl) rfl (by decide) fun T hT h0' h1' => ?_
  obtain ⟨b, Hb, hv⟩ := validRune_ans r h0 h1
  have hvc := fun H K => C_val (H := H) (K := K) hv rfl (by kernel_rfl) rfl
  have d0 : (0 : Int) ≤ r := by omega
  have d1 : ¬ r < 128 := by omega
  have d2 : (r == 65533) = false := by simpa using c
  cases b
  ·simp only [go_sem, Nat.reduceBEq, Nat.reduceLT, reduceCtorEq, Nat.reduceEqDiff, Int.reduceBEq, Int.reduceLT, hT, h0', h1', d0, d1, d2, hvc]
  ·obtain ⟨l, x, he, hl1, hl3, hx⟩ := enc_high h0 h1
   have e1 : ∀ H, convA H .ofInt (.int .i32 r) = some (.str (l ++ [x]), H, .p) := fun H => by simp [convA, he, pureV]
   have w1 : IntKind.i64.wrap (((l ++ [x]).length : Int) - 1) = (l.length : Nat) := by
    have : ((l ++ [x]).length : Int) - 1 = (l.length : Nat) := by simp
    rw [this, wrap64]; omega
   have dl : ((l.length : Nat) : Int) < ((forb.length : Nat) : Int) := by
    have : forb.length = 17 := rfl
    omega
   have i1 : ∀ H, fIdxStr (.str forb) (.int .i64 (l.length : Nat)) H = some (.int .u8 (forb[l.length]'(by simp [forb]; omega)).toNat, H, .p) := fun H => idx_str (by simp [forb]; omega)
   have i2 : ∀ H, fIdxStr (.str (l ++ [x])) (.int .i64 (l.length : Nat)) H = some (.int .u8 x.toNat, H, .p) := fun H => by
    rw [idx_str (by simp)]
    simp
   have hne : (((forb[l.length]'(by simp [forb]; omega)).toNat : Int) != (x.toNat : Int)) = true := by
    have h2 := List.all_eq_true.1 forb_ascii _ (List.getElem_mem (l := forb) (n := l.length) (by simp [forb]; omega))
    simp only [decide_eq_true_eq] at h2
    simp only [bne_iff_ne, ne_eq]
    omega
   have w2 : IntKind.i64.wrap (((l.length : Nat) : Int) + 1) = ((l.length + 1 : Nat) : Int) := by rw [wrap64] <;> omega
   have s1 : ∀ H, fSlStr (.str forb) (some (.int .i64 ((l.length + 1 : Nat) : Int))) none H = some (.str (forb.drop (l.length + 1)), H, .p) := fun H => by
    rw [sl_from (by have : forb.length = 17 := rfl; omega)]
    simp
   have hp := indexByte2_c (forb.drop (l.length + 1)) x
   rw [idxB_no (forb_drop _) hx] at hp
   simp only [go_sem, Nat.reduceBEq, Nat.reduceLT, reduceCtorEq, Nat.reduceEqDiff, Int.reduceBEq, Int.reduceLT, hT, h0', h1', d0, d1, d2, hvc, e1, w1]
   rw [W_loop]
   simp only [go_sem, Nat.reduceBEq, Nat.reduceLT, reduceCtorEq, Nat.reduceEqDiff, Int.reduceBEq, Int.reduceLT, hT, h0', h1', d0, d1, d2, hvc, e1, w1, dl, i1, i2, hne, w2, s1, hp]
   exact ⟨by kernel_rfl, by kernel_rfl⟩
end Go.AE.Fns
namespace Go.AE.Fns
open Go Go.AE Env
set_option maxRecDepth 100000
def asc : List AV := (List.range 256).map fun i => .bool (forb.contains (UInt8.ofNat i))
def isA (vs : List AV) : Option (AV × AHeap) → Bool
 | some (.tuple [.agg l, .bool true], _) => sameL l vs
 | _ => false
theorem makeSet_run : isA asc (run 1000 264 [.str forb]) = true := by kernel_rfl
theorem makeSet_ans : ∃ Hc, E.Ans 264 [.str forb] [] (.tuple [.agg asc, .bool true]) Hc := by
 have h := makeSet_run
 cases hc : run 1000 264 [.str forb] with
 | none => rw [hc] at h; simp [isA] at h
 | some p =>
  obtain ⟨v, Hc⟩ := p
  rw [hc] at h
  unfold isA at h
  split at h
  ·rename_i heq
   simp at heq
   obtain ⟨rfl, rfl⟩ := heq
   rw [← sameL_eq _ _ h]
   exact ⟨_, of_run _ hc⟩
  ·simp at h
theorem freezeL_bools (H : AHeap) : ∀ (l : List Bool) (k : Nat), l.length < k → freezeL H k (l.map .bool) = some (l.map .bool)
 | [], 0, h => by simp at h
 | [], k + 1, _ => rfl
 | a :: l, 0, h => by simp at h
 | a :: l, 1, h => by simp at h
 | a :: l, k + 2, h => by
  have ih := freezeL_bools H l (k + 1) (by simpa using h)
  simp only [List.map_cons, freezeL, freeze, ih]
def ascB : List Bool := (List.range 256).map fun i => forb.contains (UInt8.ofNat i)
theorem asc_eq : asc = ascB.map .bool := by simp [asc, ascB]
theorem asc_len : asc.length = 256 := by simp [asc]
theorem makeSet_c (H : AHeap) (K : AV → AHeap → Kd → Prop) : E.C 264 [.str forb] H K ↔ K (.tuple [.agg asc, .bool true]) H .p := by
 obtain ⟨Hc, h⟩ := makeSet_ans
 refine C_val h rfl (by kernel_rfl) ?_
 have h1 := freezeL_bools Hc ascB 999999997 (by simp [ascB])
 rw [← asc_eq] at h1
 have e1 : (1000000000 : Nat) = 999999997 + 1 + 1 + 1 := rfl
 rw [e1]
 simp only [freeze, freezeL, h1, Option.map_some]
theorem asc_cells : ∀ b ∈ asc, ∃ x, b = .bool x := by
 rw [asc_eq]
 intro b hb
 simp only [List.mem_map] at hb
 obtain ⟨x, _, rfl⟩ := hb
 exact ⟨x, rfl⟩
theorem contains_ans (c : UInt8) : ∃ b, E.Ans 228 [.ptr 0 0 256, .int .u8 c.toNat] [.cells asc 0 256 0] (.bool b) [.cells asc 0 256 0] := by
 have hc : c.toNat < 256 := c.toNat_lt
 obtain ⟨b, hb⟩ := asc_cells (asc[c.toNat]'(by rw [asc_len]; exact hc)) (List.getElem_mem _)
 refine ⟨b, ?_⟩
 refine Ans2 (F := F228) (by kernel_rfl) rfl (by decide) fun T hT h0 h1 => ?_
 have a1 : ∀ H, fIdxArrAddr 256 1 (.ptr 0 0 256) (.int .u8 c.toNat) H = some (.ptr 0 c.toNat 256, H, .p) := fun H => by
  have : (c.toNat : Int) < 256 := by omega
  simp [fIdxArrAddr, asI, this, addA, pureV]
 have l1 : loadA [.cells asc 0 256 0] 1 false (.ptr 0 c.toNat 256) = some (.bool b, [.cells asc 0 256 0], .r 0) := load_at (H := [.cells asc 0 256 0]) (b := 0) rfl (by omega) (by omega) (by rw [asc_len]; omega) (by omega) (by rw [← hb]; exact List.getElem?_eq_getElem _)
 simp only [go_sem, Nat.reduceBEq, Nat.reduceLT, reduceCtorEq, Nat.reduceEqDiff, Int.reduceBEq, Int.reduceLT, hT, h0, h1, fNilChk, a1, l1]
theorem store_all {zs cs : List AV} {n g : Nat} (hz : zs.length = n) (hc : cs.length = n) (hn : 0 < n) : storeA [.cells zs g n 0] n (.ptr 0 0 n) (.agg cs) = some (undefA, [.cells cs g n 0], .w 0) := by
 have hp : putCells zs 0 cs = cs := by
  apply List.ext_getElem?
  intro i
  rw [putCells_get _ _ _ _ (by omega)]
  by_cases h : i < cs.length
  ·simp [h]
  ·rw [if_neg (by omega), List.getElem?_eq_none (by omega), List.getElem?_eq_none (by omega)]
 simp [storeA, AV.cells, hc, hn, storeCellsA, hz, hp]
theorem should_c (n : Int) (H : AHeap) (K : AV → AHeap → Kd → Prop) : E.C 204 [i64 n] H K ↔ K (.bool (decide (n > 8))) H .p := by
 refine C_val (Hc := []) (Ans1 (F := F204) (by kernel_rfl) rfl (by decide) fun T hT h0 => ?_) rfl (by kernel_rfl) rfl
 simp only [go_sem, Nat.reduceBEq, Nat.reduceLT, reduceCtorEq, Nat.reduceEqDiff, Int.reduceBEq, Int.reduceLT, hT, h0]
def greatB (r : Int) : Bool := decide (r > 127) || (decide (r ≥ 65) && decide (r ≤ 90))
theorem great_ans (r : Int) : E.Ans 49 [.int .i32 r] [] (.bool (greatB r)) [] := by
 refine Ans1 (F := F49) (by kernel_rfl) rfl (by decide) fun T hT h0 => ?_
 unfold greatB
 by_cases c1 : r > 127
 ·simp only [go_sem, Nat.reduceBEq, Nat.reduceLT, reduceCtorEq, Nat.reduceEqDiff, Int.reduceBEq, Int.reduceLT, hT, h0, c1]
 ·by_cases c2 : r ≥ 65
  ·by_cases c3 : r ≤ 90
   ·simp only [go_sem, Nat.reduceBEq, Nat.reduceLT, reduceCtorEq, Nat.reduceEqDiff, Int.reduceBEq, Int.reduceLT, hT, h0, c1, c2, c3]
   ·simp only [go_sem, Nat.reduceBEq, Nat.reduceLT, reduceCtorEq, Nat.reduceEqDiff, Int.reduceBEq, Int.reduceLT, hT, h0, c1, c2, c3]
  ·simp only [go_sem, Nat.reduceBEq, Nat.reduceLT, reduceCtorEq, Nat.reduceEqDiff, Int.reduceBEq, Int.reduceLT, hT, h0, c1, c2]
theorem great_c (r : Int) (H : AHeap) (K : AV → AHeap → Kd → Prop) : E.C 49 [.int .i32 r] H K ↔ K (.bool (greatB r)) H (.a H.length) := by
 have := C_laid (K := K) (H := H) (by rfl) (great_ans r) (.inl (by kernel_rfl))
 simpa [AV.shift] using this
end Go.AE.Fns
namespace Go.AE.Fns
open Go Go.AE Env
set_option maxRecDepth 100000
def decB (c : UInt8) : Bool := decide (c.toNat ≥ 48) && decide (c.toNat ≤ 57)
def octB (c : UInt8) : Bool := decide (c.toNat ≥ 48) && decide (c.toNat ≤ 55)
def letB (c : UInt8) : Bool := decide ((c ||| 32).toNat ≥ 97) && decide ((c ||| 32).toNat ≤ 102)
theorem or32_all : (List.range 256).all (fun i => match binA .or (.int .u8 i) (.int .u8 32) with | some (.int .u8 m) => m == ((UInt8.ofNat i ||| 32).toNat : Int) | _ => false) = true := by decide +kernel
theorem or32 (c : UInt8) : binA .or (.int .u8 c.toNat) (.int .u8 32) = some (.int .u8 (c ||| 32).toNat) := by
 have h := List.all_eq_true.1 or32_all c.toNat (by simpa using c.toNat_lt)
 split at h
 ·rename_i m hm
  rw [hm]
  simp only [beq_iff_eq, UInt8.ofNat_toNat] at h
  rw [h]
 ·simp at h
theorem dec_c (c : UInt8) (H : AHeap) (K : AV → AHeap → Kd → Prop) : E.C 43 [.int .u8 c.toNat] H K ↔ K (.bool (decB c)) H .p := by
 refine C_val (Hc := []) (Ans1 (F := F43) (by kernel_rfl) rfl (by decide) fun T hT h0 => ?_) rfl (by kernel_rfl) rfl
 unfold decB
 by_cases c1 : c.toNat ≥ 48
 ·have d1 : (c.toNat : Int) ≥ 48 := by omega
  by_cases c2 : c.toNat ≤ 57
  ·have d2 : (c.toNat : Int) ≤ 57 := by omega
   simp only [go_sem, Nat.reduceBEq, Nat.reduceLT, reduceCtorEq, Nat.reduceEqDiff, Int.reduceBEq, Int.reduceLT, hT, h0, c1, c2, d1, d2]
  ·have d2 : ¬ (c.toNat : Int) ≤ 57 := by omega
   simp only [go_sem, Nat.reduceBEq, Nat.reduceLT, reduceCtorEq, Nat.reduceEqDiff, Int.reduceBEq, Int.reduceLT, hT, h0, c1, c2, d1, d2]
 ·have d1 : ¬ (c.toNat : Int) ≥ 48 := by omega
  simp only [go_sem, Nat.reduceBEq, Nat.reduceLT, reduceCtorEq, Nat.reduceEqDiff, Int.reduceBEq, Int.reduceLT, hT, h0, c1, d1]
theorem oct_c (c : UInt8) (H : AHeap) (K : AV → AHeap → Kd → Prop) : E.C 216 [.int .u8 c.toNat] H K ↔ K (.bool (octB c)) H .p := by
 refine C_val (Hc := []) (Ans1 (F := F216) (by kernel_rfl) rfl (by decide) fun T hT h0 => ?_) rfl (by kernel_rfl) rfl
 unfold octB
 by_cases c1 : c.toNat ≥ 48
 ·have d1 : (c.toNat : Int) ≥ 48 := by omega
  by_cases c2 : c.toNat ≤ 55
  ·have d2 : (c.toNat : Int) ≤ 55 := by omega
   simp only [go_sem, Nat.reduceBEq, Nat.reduceLT, reduceCtorEq, Nat.reduceEqDiff, Int.reduceBEq, Int.reduceLT, hT, h0, c1, c2, d1, d2]
  ·have d2 : ¬ (c.toNat : Int) ≤ 55 := by omega
   simp only [go_sem, Nat.reduceBEq, Nat.reduceLT, reduceCtorEq, Nat.reduceEqDiff, Int.reduceBEq, Int.reduceLT, hT, h0, c1, c2, d1, d2]
 ·have d1 : ¬ (c.toNat : Int) ≥ 48 := by omega
  simp only [go_sem, Nat.reduceBEq, Nat.reduceLT, reduceCtorEq, Nat.reduceEqDiff, Int.reduceBEq, Int.reduceLT, hT, h0, c1, d1]
theorem let_c (c : UInt8) (H : AHeap) (K : AV → AHeap → Kd → Prop) : E.C 215 [.int .u8 c.toNat] H K ↔ K (.bool (letB c)) H .p := by
 refine C_val (Hc := []) (Ans1 (F := F215) (by kernel_rfl) rfl (by decide) fun T hT h0 => ?_) rfl (by kernel_rfl) rfl
 unfold letB
 have e := or32 c
 by_cases c1 : (c ||| 32).toNat ≥ 97
 ·have d1 : ((c ||| 32).toNat : Int) ≥ 97 := by omega
  by_cases c2 : (c ||| 32).toNat ≤ 102
  ·have d2 : ((c ||| 32).toNat : Int) ≤ 102 := by omega
   simp only [go_sem, Nat.reduceBEq, Nat.reduceLT, reduceCtorEq, Nat.reduceEqDiff, Int.reduceBEq, Int.reduceLT, hT, h0, c1, c2, d1, d2, e]
  ·have d2 : ¬ ((c ||| 32).toNat : Int) ≤ 102 := by omega
   simp only [go_sem, Nat.reduceBEq, Nat.reduceLT, reduceCtorEq, Nat.reduceEqDiff, Int.reduceBEq, Int.reduceLT, hT, h0, c1, c2, d1, d2, e]
 ·have d1 : ¬ ((c ||| 32).toNat : Int) ≥ 97 := by omega
  simp only [go_sem, Nat.reduceBEq, Nat.reduceLT, reduceCtorEq, Nat.reduceEqDiff, Int.reduceBEq, Int.reduceLT, hT, h0, c1, d1, e]
abbrev Kinds := List (Nat × (UInt8 → Bool))
def Kinds.av (l : Kinds) : List AV := l.map fun p => .func p.1 [] []
def Kinds.Ok (l : Kinds) : Prop := ∀ p ∈ l, ∀ (c : UInt8) (H : AHeap) (K : AV → AHeap → Kd → Prop), E.C p.1 [.int .u8 c.toNat] H K ↔ K (.bool (p.2 c)) H .p
def Kinds.anyB (l : Kinds) (c : UInt8) : Bool := l.any fun p => p.2 c
theorem all1_ans {p : Nat × (UInt8 → Bool)} (hp : ∀ (c : UInt8) (H : AHeap) (K : AV → AHeap → Kd → Prop), E.C p.1 [.int .u8 c.toNat] H K ↔ K (.bool (p.2 c)) H .p) {H : AHeap} {q r i : Nat} {s : List UInt8} (hq : H[q]? = some (.cells [.str s] 0 1 0)) (hr : H[r]? = some (.cells [i64 i] 0 1 0)) (hi : i < s.length) :
  E.Ans 42 [.func p.1 [] [], .ptr q 0 1, .ptr r 0 1] H (.bool (p.2 s[i])) H := by
 refine Ans3 (F := F42) (by kernel_rfl) rfl (by decide) fun T hT h0 h1 h2 => ?_
 have l1 : loadA H 1 false (.ptr q 0 1) = some (.str s, H, .r q) := load_at hq (by omega) (by omega) (by simp) (by omega) rfl
 have l2 : loadA H 1 false (.ptr r 0 1) = some (i64 i, H, .r r) := load_at hr (by omega) (by omega) (by simp) (by omega) rfl
 have i1 : ∀ H, fIdxStr (.str s) (.int .i64 (i : Nat)) H = some (.int .u8 (s[i]).toNat, H, .p) := fun H => idx_str hi
 have hc := hp s[i]
 simp only [go_sem, Nat.reduceBEq, Nat.reduceLT, reduceCtorEq, Nat.reduceEqDiff, Int.reduceBEq, Int.reduceLT, hT, h0, h1, h2, l1, l2, i1, hc]
theorem idxFn_loop (l : Kinds) (hl : l.Ok) (hlen : l.length ≤ 2 ^ 31) (ex : Bool) {H : AHeap} {q r i : Nat} {s : List UInt8} (hq : H[q]? = some (.cells [.str s] 0 1 0)) (hr : H[r]? = some (.cells [i64 i] 0 1 0)) (hi : i < s.length) (Q : AExit → Tmps → AHeap → Prop)
    (hx : ∀ T : Tmps, T.length = 19 → l.anyB s[i] = false → Q (.exit 0) T H) (hret : ∀ (T : Tmps) (n : Nat), gt T 4 = i64 n → l.anyB s[i] = true → Q .ret T H) : ∀ (k j : Nat) (T : Tmps), j + k = l.length → (∀ p ∈ l.take j, p.2 s[i] = false) →
    T.length = 19 → gt T 0 = .lst l.av l.length 1 ex → gt T 1 = .func 42 [] [.ptr q 0 1, .ptr r 0 1] → gt T 7 = i64 l.length → gt T 8 = i64 j → E.W (F171.loop 0) T H Q
  | 0, j, T, hj, hb, hT, h0, h1, h7, h8 => by
    rw [show F171.loop 0 = .loop _ from rfl, W_loop]
    have d1 : ¬ ((j : Int) < (l.length : Int)) := by omega
    simp only [go_sem, Nat.reduceBEq, Nat.reduceLT, reduceCtorEq, Nat.reduceEqDiff, Int.reduceBEq, Int.reduceLT, hT, h0, h1, h7, h8, d1]
    refine hx _ (by simp only [↓gp_eq, ↓gp_ne, ↓gp_none, ↓len_put, Nat.reduceBEq, Nat.reduceLT, decide_true, hT]) ?_
    rw [List.take_of_length_le (by omega)] at hb
    unfold Kinds.anyB
    rw [List.any_eq_false]
    intro p hp
    simp [hb p hp]
  | k + 1, j, T, hj, hb, hT, h0, h1, h7, h8 => by
    rw [show F171.loop 0 = .loop _ from rfl, W_loop]
    have hjl : j < l.length := by omega
    have d1 : ((j : Int) < (l.length : Int)) := by omega
    have a1 : idxAddrA 1 (.lst l.av l.length 1 ex) (.int .i64 j) = some (.elt l.av j) := idxA_lst hjl
    have l1 : ∀ H, loadA H 1 false (.elt l.av j) = some (.func (l[j]).1 [] [], H, .p) := fun H => by simp [loadA, part, Kinds.av, hjl, pureV]
    have w1 : IntKind.i64.wrap ((j : Int) + 1) = ((j + 1 : Nat) : Int) := by rw [wrap64] <;> omega
    have hc := fun K => C_shared (K := K) (by rfl) (all1_ans (hl l[j] (List.getElem_mem hjl)) hq hr hi)
    cases c : (l[j]).2 s[i]
    · rw [c] at hc
      simp only [go_sem, Nat.reduceBEq, Nat.reduceLT, reduceCtorEq, Nat.reduceEqDiff, Int.reduceBEq, Int.reduceLT, hT, h0, h1, h7, h8, d1, a1, l1, hc, w1]
      refine idxFn_loop l hl hlen ex hq hr hi Q hx hret k (j + 1) _ (by omega) ?_ (by simp only [↓gp_eq, ↓gp_ne, ↓gp_none, ↓len_put, Nat.reduceBEq, Nat.reduceLT, decide_true, hT]) (by simp only [↓gp_eq, ↓gp_ne, ↓gp_none, ↓len_put, Nat.reduceBEq, Nat.reduceLT, decide_true, hT, h0]) (by simp only [↓gp_eq, ↓gp_ne, ↓gp_none, ↓len_put, Nat.reduceBEq, Nat.reduceLT, decide_true, hT, h1]) (by simp only [↓gp_eq, ↓gp_ne, ↓gp_none, ↓len_put, Nat.reduceBEq, Nat.reduceLT, decide_true, hT, h7]) (by simp only [↓gp_eq, ↓gp_ne, ↓gp_none, ↓len_put, Nat.reduceBEq, Nat.reduceLT, decide_true, hT])
      intro p hp
      rw [List.take_add_one, List.getElem?_eq_getElem hjl] at hp
      simp only [Option.toList_some, List.mem_append, List.mem_singleton] at hp
      rcases hp with hp | rfl
      · exact hb p hp
      · exact c
    · rw [c] at hc
      simp only [go_sem, Nat.reduceBEq, Nat.reduceLT, reduceCtorEq, Nat.reduceEqDiff, Int.reduceBEq, Int.reduceLT, hT, h0, h1, h7, h8, d1, a1, l1, hc]
      refine hret _ j (by simp only [↓gp_eq, ↓gp_ne, ↓gp_none, ↓len_put, Nat.reduceBEq, Nat.reduceLT, decide_true, hT]) ?_
      unfold Kinds.anyB
      exact List.any_eq_true.2 ⟨_, List.getElem_mem hjl, c⟩
theorem idxFn_ans (l : Kinds) (hl : l.Ok) (hlen : l.length ≤ 2 ^ 31) (ex : Bool) {H : AHeap} {q r i : Nat} {s : List UInt8} (hq : H[q]? = some (.cells [.str s] 0 1 0)) (hr : H[r]? = some (.cells [i64 i] 0 1 0)) (hi : i < s.length) :
  ∃ n : Int, decide (n ≥ 0) = l.anyB s[i] ∧ E.Ans 171 [.lst l.av l.length 1 ex, .func 42 [] [.ptr q 0 1, .ptr r 0 1]] H (i64 n) H := by
 obtain ⟨v, H', ⟨n, rfl, hn, rfl⟩, h⟩ := AnsH2 (E := E) (f := 171) (F := F171) (a := .lst l.av l.length 1 ex) (b := .func 42 [] [.ptr q 0 1, .ptr r 0 1]) (H := H) (P := fun v H' => ∃ n : Int, v = i64 n ∧ decide (n ≥ 0) = l.anyB s[i] ∧ H' = H) (by kernel_rfl) rfl (by decide) fun T hT h0 h1 => by
  have hlp := idxFn_loop l hl hlen ex hq hr hi
  rw [show F171.loop 0 = .loop _ from rfl] at hlp
  simp only [go_sem, Nat.reduceBEq, Nat.reduceLT, reduceCtorEq, Nat.reduceEqDiff, Int.reduceBEq, Int.reduceLT, hT, h0, h1, len_lst]
  refine hlp _ ?_ ?_ l.length 0 _ (by omega) (by simp) (by simp only [↓gp_eq, ↓gp_ne, ↓gp_none, ↓len_put, Nat.reduceBEq, Nat.reduceLT, decide_true, hT]) (by simp only [↓gp_eq, ↓gp_ne, ↓gp_none, ↓len_put, Nat.reduceBEq, Nat.reduceLT, decide_true, hT, h0]) (by simp only [↓gp_eq, ↓gp_ne, ↓gp_none, ↓len_put, Nat.reduceBEq, Nat.reduceLT, decide_true, hT, h1]) (by simp only [↓gp_eq, ↓gp_ne, ↓gp_none, ↓len_put, Nat.reduceBEq, Nat.reduceLT, decide_true, hT]) (by simp only [↓gp_eq, ↓gp_ne, ↓gp_none, ↓len_put, Nat.reduceBEq, Nat.reduceLT, decide_true, hT]; rfl)
  ·intro T' hT' hb
   simp only [go_sem, Nat.reduceBEq, Nat.reduceLT, reduceCtorEq, Nat.reduceEqDiff, Int.reduceBEq, Int.reduceLT, hT']
   exact ⟨-1, rfl, by rw [hb]; rfl⟩
  ·intro T' n h4 hb
   simp only [go_sem, Nat.reduceBEq, Nat.reduceLT, reduceCtorEq, Nat.reduceEqDiff, Int.reduceBEq, Int.reduceLT, h4]
   exact ⟨n, rfl, by rw [hb]; simp⟩
 exact ⟨n, hn, h⟩
theorem cntFn_ans (l : Kinds) (hl : l.Ok) (hlen : l.length ≤ 2 ^ 31) (ex : Bool) {H : AHeap} {q r i : Nat} {s : List UInt8} (hq : H[q]? = some (.cells [.str s] 0 1 0)) (hr : H[r]? = some (.cells [i64 i] 0 1 0)) (hi : i < s.length) :
  E.Ans 158 [.lst l.av l.length 1 ex, .func 42 [] [.ptr q 0 1, .ptr r 0 1]] H (.bool (l.anyB s[i])) H := by
 obtain ⟨n, hn, h⟩ := idxFn_ans l hl hlen ex hq hr hi
 refine Ans2 (F := F158) (by kernel_rfl) rfl (by decide) fun T hT h0 h1 => ?_
 have hc := fun K => C_shared (K := K) (by simp [locFreeL, AV.locFree]) h
 simp only [go_sem, Nat.reduceBEq, Nat.reduceLT, reduceCtorEq, Nat.reduceEqDiff, Int.reduceBEq, Int.reduceLT, hT, h0, h1, hc, hn]
theorem allocd {H : AHeap} {z : AV} : fAlloc [z] 0 H = some (.ptr H.length 0 1, H ++ [.cells [z] 0 1 0], .a H.length) := Eq.trans rfl rfl
theorem put1 {H : AHeap} {z x : AV} (hx : x.cells = [x]) : storeA (H ++ [.cells [z] 0 1 0]) 1 (.ptr H.length 0 1) x = some (undefA, H ++ [.cells [x] 0 1 0], .w H.length) := by
 simp [storeA, hx, storeCellsA, putCells]
theorem all_loop (l : Kinds) (hl : l.Ok) (hlen : l.length ≤ 2 ^ 31) (ex : Bool) (s : List UInt8) (hs : s.length ≤ 2 ^ 60) (Q : AExit → Tmps → AHeap → Prop)
    (hx : ∀ (T : Tmps) (H : AHeap), T.length = 16 → s.all l.anyB = true → Q (.exit 0) T H) (hret : ∀ (T : Tmps) (H : AHeap), gt T 4 = .bool false → s.all l.anyB = false → Q .ret T H) : ∀ (k i : Nat) (T : Tmps) (X : AHeap), i + k = s.length → (∀ b ∈ s.take i, l.anyB b = true) →
    T.length = 16 → gt T 1 = .lst l.av l.length 1 ex → gt T 2 = .ptr 0 0 1 → gt T 7 = i64 s.length → gt T 8 = i64 i → E.W (F41.loop 0) T (.cells [.str s] 0 1 0 :: X) Q
  | 0, i, T, X, hi, hb, hT, h1, h2, h7, h8 => by
    rw [show F41.loop 0 = .loop _ from rfl, W_loop]
    have d1 : ¬ ((i : Int) < (s.length : Int)) := by omega
    simp only [go_sem, Nat.reduceBEq, Nat.reduceLT, reduceCtorEq, Nat.reduceEqDiff, Int.reduceBEq, Int.reduceLT, hT, h1, h2, h7, h8, d1]
    refine hx _ _ (by simp only [↓gp_eq, ↓gp_ne, ↓gp_none, ↓len_put, Nat.reduceBEq, Nat.reduceLT, decide_true, hT]) ?_
    rw [List.take_of_length_le (by omega)] at hb
    exact List.all_eq_true.2 hb
  | k + 1, i, T, X, hi, hb, hT, h1, h2, h7, h8 => by
    rw [show F41.loop 0 = .loop _ from rfl, W_loop]
    have hil : i < s.length := by omega
    have d1 : ((i : Int) < (s.length : Int)) := by omega
    have w1 : IntKind.i64.wrap ((i : Int) + 1) = ((i + 1 : Nat) : Int) := by rw [wrap64] <;> omega
    have p1 : storeA (.cells [.str s] 0 1 0 :: (X ++ [.cells [i64 0] 0 1 0])) 1 (.ptr (ABlk.cells [.str s] 0 1 0 :: X).length 0 1) (i64 i) = some (undefA, .cells [.str s] 0 1 0 :: (X ++ [.cells [i64 i] 0 1 0]), .w (ABlk.cells [.str s] 0 1 0 :: X).length) := put1 (H := .cells [.str s] 0 1 0 :: X) (z := i64 0) (x := i64 i) rfl
    have hc := fun K => C_shared (K := K) (by simp [locFreeL, AV.locFree]) (cntFn_ans l hl hlen ex (H := .cells [.str s] 0 1 0 :: (X ++ [.cells [i64 i] 0 1 0])) (q := 0) (r := (ABlk.cells [.str s] 0 1 0 :: X).length) (i := i) (s := s) rfl (by simp) hil)
    cases c : l.anyB s[i]
    · rw [c] at hc
      simp only [go_sem, Nat.reduceBEq, Nat.reduceLT, reduceCtorEq, Nat.reduceEqDiff, Int.reduceBEq, Int.reduceLT, hT, h1, h2, h7, h8, d1, allocd, p1, hc]
      refine hret _ _ (by simp only [↓gp_eq, ↓gp_ne, ↓gp_none, ↓len_put, Nat.reduceBEq, Nat.reduceLT, decide_true, hT]) ?_
      rw [List.all_eq_false]
      exact ⟨_, List.getElem_mem hil, by simp [c]⟩
    · rw [c] at hc
      simp only [go_sem, Nat.reduceBEq, Nat.reduceLT, reduceCtorEq, Nat.reduceEqDiff, Int.reduceBEq, Int.reduceLT, hT, h1, h2, h7, h8, d1, allocd, p1, hc, w1]
      have hb2 : ∀ b ∈ s.take (i + 1), l.anyB b = true := by
        intro b hb'
        rw [List.take_add_one, List.getElem?_eq_getElem hil] at hb'
        simp only [Option.toList_some, List.mem_append, List.mem_singleton] at hb'
        rcases hb' with hb' | rfl
        · exact hb b hb'
        · exact c
      refine all_loop l hl hlen ex s hs Q hx hret k (i + 1) _ (X ++ [.cells [i64 i] 0 1 0]) (by omega) hb2 ?_ ?_ ?_ ?_ ?_
      · simp only [↓gp_eq, ↓gp_ne, ↓gp_none, ↓len_put, Nat.reduceBEq, Nat.reduceLT, decide_true, hT]
      · simp only [↓gp_eq, ↓gp_ne, ↓gp_none, ↓len_put, Nat.reduceBEq, Nat.reduceLT, decide_true, hT, h1]
      · simp only [↓gp_eq, ↓gp_ne, ↓gp_none, ↓len_put, Nat.reduceBEq, Nat.reduceLT, decide_true, hT, h2]
      · simp only [↓gp_eq, ↓gp_ne, ↓gp_none, ↓len_put, Nat.reduceBEq, Nat.reduceLT, decide_true, hT, h7]
      · simp only [↓gp_eq, ↓gp_ne, ↓gp_none, ↓len_put, Nat.reduceBEq, Nat.reduceLT, decide_true, hT]
theorem kinds_free : ∀ l : Kinds, locFreeL l.av = true
 | [] => rfl
 | p :: l => by
  have := kinds_free l
  simpa [Kinds.av, locFreeL, AV.locFree] using this
theorem all_ans (l : Kinds) (hl : l.Ok) (hlen : l.length ≤ 2 ^ 31) (ex : Bool) (s : List UInt8) (hs : s.length ≤ 2 ^ 60) : ∃ Hc, E.Ans 41 [.str s, .lst l.av l.length 1 ex] [] (.bool (s.all l.anyB)) Hc := by
 refine AnsV2 (F := F41) (by kernel_rfl) rfl (by decide) fun T hT h0 h1 => ?_
 have hlp := all_loop l hl hlen ex s hs
 rw [show F41.loop 0 = .loop _ from rfl] at hlp
 have b1 : newVarA [] (.str s) 0 = some (.ptr 0 0 1, [.cells [.str s] 0 1 0], .a 0) := rfl
 have l1 : loadA [.cells [.str s] 0 1 0] 1 false (.ptr 0 0 1) = some (.str s, [.cells [.str s] 0 1 0], .r 0) := load_at (H := [.cells [.str s] 0 1 0]) rfl (by omega) (by omega) (by simp) (by omega) rfl
 simp only [go_sem, Nat.reduceBEq, Nat.reduceLT, reduceCtorEq, Nat.reduceEqDiff, Int.reduceBEq, Int.reduceLT, hT, h0, h1, b1, l1]
 refine hlp _ ?_ ?_ s.length 0 _ [] (by omega) (by simp) (by simp only [↓gp_eq, ↓gp_ne, ↓gp_none, ↓len_put, Nat.reduceBEq, Nat.reduceLT, decide_true, hT]) (by simp only [↓gp_eq, ↓gp_ne, ↓gp_none, ↓len_put, Nat.reduceBEq, Nat.reduceLT, decide_true, hT, h1]) (by simp only [↓gp_eq, ↓gp_ne, ↓gp_none, ↓len_put, Nat.reduceBEq, Nat.reduceLT, decide_true, hT]) (by simp only [↓gp_eq, ↓gp_ne, ↓gp_none, ↓len_put, Nat.reduceBEq, Nat.reduceLT, decide_true, hT]) (by simp only [↓gp_eq, ↓gp_ne, ↓gp_none, ↓len_put, Nat.reduceBEq, Nat.reduceLT, decide_true, hT]; rfl)
 ·intro T' H' hT' hb
  simp only [go_sem, Nat.reduceBEq, Nat.reduceLT, reduceCtorEq, Nat.reduceEqDiff, Int.reduceBEq, Int.reduceLT, hT', hb]
 ·intro T' H' h4 hb
  simp only [go_sem, Nat.reduceBEq, Nat.reduceLT, reduceCtorEq, Nat.reduceEqDiff, Int.reduceBEq, Int.reduceLT, h4, hb]
theorem all_c (l : Kinds) (hl : l.Ok) (hlen : l.length ≤ 2 ^ 31) (ex : Bool) (s : List UInt8) (hs : s.length ≤ 2 ^ 60) (H : AHeap) (K : AV → AHeap → Kd → Prop) : E.C 41 [.str s, .lst l.av l.length 1 ex] H K ↔ K (.bool (s.all l.anyB)) H .p := by
 obtain ⟨Hc, h⟩ := all_ans l hl hlen ex s hs
 exact C_val h (by have := kinds_free l; simpa [locFreeL, AV.locFree] using this) (by kernel_rfl) rfl
theorem dec_ok : Kinds.Ok [(43, decB)] := fun p hp => by
 simp only [List.mem_singleton] at hp; subst hp; exact dec_c
theorem oct_ok : Kinds.Ok [(216, octB)] := fun p hp => by
 simp only [List.mem_singleton] at hp; subst hp; exact oct_c
theorem hex_ok : Kinds.Ok [(43, decB), (215, letB)] := fun p hp => by
 simp only [List.mem_cons, List.not_mem_nil, or_false] at hp
 rcases hp with rfl | rfl
 ·exact dec_c
 ·exact let_c
end Go.AE.Fns
namespace Go.AE.Fns
open Go Go.AE Env
set_option maxRecDepth 100000
theorem putCells_all {zs cs : List AV} (h : zs.length = cs.length) : putCells zs 0 cs = cs := by
 apply List.ext_getElem?
 intro i
 rw [putCells_get _ _ _ _ (by omega)]
 by_cases h : i < cs.length
 ·simp [h]
 ·rw [if_neg (by omega), List.getElem?_eq_none (by omega), List.getElem?_eq_none (by omega)]
theorem bi_copy {H : AHeap} {sz : Nat} {d x : AV} : builtinA H (.copy sz) [d, x] = copyA H sz d x := Eq.trans rfl rfl
theorem bi_string {H : AHeap} {p : AV} {n : Int} {k : IntKind} {b v : Nat} (hp : p = .ptr b 0 v) {s : List UInt8} (hb : H[b]? = some (.cells (bytesV s) 1 v 0)) (hv : v = s.length) (hn : n = s.length) (h0 : s ≠ []) (hl : s.length ≤ 2 ^ 40) :
  builtinA H .string [p, .int k n] = some (.str s, H.set b (.cells (bytesV s) 1 v 1), .l) := by
 subst hp hv hn
 have h1 : (s.length : Int) ≠ 0 := by
  have := List.length_pos_iff.2 h0
  omega
 have h2 : (0 : Int) < s.length ∧ (s.length : Int) ≤ 2 ^ 62 := by
  have := List.length_pos_iff.2 h0
  omega
 have h3 : (bytesV s).take s.length = bytesV s := List.take_of_length_le (by rw [bytesV_len]; omega)
 simp only [builtinA, if_neg h1, if_pos h2, hb, bytesV_len, Int.toNat_natCast, List.drop_zero, h3, bytesOf]
 simp
theorem clone_ans (s : List UInt8) (hs : s.length ≤ 2 ^ 40) : ∃ Hc, E.Ans 254 [.str s] [] (.str s) Hc := by
 refine AnsV1 (F := F254) (by kernel_rfl) rfl (by decide) fun T hT h0 => ?_
 by_cases c : s = []
 ·subst c
  have e : ((([] : List UInt8).length : Int) == 0) = true := rfl
  simp only [go_sem, Nat.reduceBEq, Nat.reduceLT, reduceCtorEq, Nat.reduceEqDiff, Int.reduceBEq, Int.reduceLT, hT, h0, e]
 ·have hp := List.length_pos_iff.2 c
  have e : ((s.length : Int) == 0) = false := by simp only [beq_eq_false_iff_ne]; omega
  have m1 : fMkSlice [.int .u8 0] 1 1 1 (.int .i64 s.length) (.int .i64 s.length) [] = some (.sl 0 0 s.length 1 s.length (some s.length), [.cells (List.replicate s.length (.int .u8 0)) 1 s.length 0], .a 0) := mkSl (H := []) (by omega) (by omega)
  have c1 : copyA [.cells (List.replicate s.length (.int .u8 0)) 1 s.length 0] 1 (.sl 0 0 s.length 1 s.length (some s.length)) (.str s) = some (.int .i64 s.length, [.cells (bytesV s) 1 s.length 0], .l) := by
   have hcell : cellsIn [.cells (List.replicate s.length (.int .u8 0)) 1 s.length 0] 1 (.str s) = some (s.length, bytesV s) := rfl
   have ht : (bytesV s).take s.length = bytesV s := List.take_of_length_le (by rw [bytesV_len]; omega)
   simp [copyA, hcell, storeCellsA, ht, bytesV_len, putCells_all (zs := List.replicate s.length (.int .u8 0)) (cs := bytesV s) (by simp [bytesV_len])]
  have a1 : idxAddrA 1 (.sl 0 0 s.length 1 s.length (some s.length)) (.int .i64 ((0 : Nat) : Int)) = some (.ptr 0 (0 + 0) s.length) := idxA_sl hp
  have s1 := bi_string (H := [.cells (bytesV s) 1 s.length 0]) (p := .ptr 0 0 s.length) (n := s.length) (k := .i64) rfl (s := s) rfl rfl rfl c hs
  rw [show ((0 : Nat) : Int) = 0 from rfl] at a1
  simp only [go_sem, Nat.reduceBEq, Nat.reduceLT, reduceCtorEq, Nat.reduceEqDiff, Int.reduceBEq, Int.reduceLT, hT, h0, e, m1, bi_copy, c1, a1, s1, Nat.add_zero]
theorem clone_c (s : List UInt8) (hs : s.length ≤ 2 ^ 40) (H : AHeap) (K : AV → AHeap → Kd → Prop) : E.C 254 [.str s] H K ↔ K (.str s) H .p := by
 obtain ⟨Hc, h⟩ := clone_ans s hs
 exact C_val h rfl (by kernel_rfl) rfl
theorem lower_c (c : UInt8) (H : AHeap) (K : AV → AHeap → Kd → Prop) : E.C 251 [.int .u8 c.toNat] H K ↔ K (.int .u8 (c ||| 32).toNat) H .p := by
 refine C_val (Hc := []) (Ans1 (F := F251) (by kernel_rfl) rfl (by decide) fun T hT h0 => ?_) rfl (by kernel_rfl) rfl
 have e := or32 c
 simp only [go_sem, Nat.reduceBEq, Nat.reduceLT, reduceCtorEq, Nat.reduceEqDiff, Int.reduceBEq, Int.reduceLT, hT, h0, e]
theorem loadBad {H : AHeap} : loadA H 1 false (.elt [.bad] 0) = some (.bad, H, .p) := Eq.trans rfl rfl
theorem numErr_ans (f : Nat) (hf : E.lp f = some F261) (fn s : List UInt8) (hs : s.length ≤ 2 ^ 40) : E.Ans f [.str fn, .str s] [] (.ptr 0 0 3) [.cells [.str fn, .str s, .bad] 0 3 0] := by
 refine Ans2 (F := F261) hf rfl (by decide) fun T hT h0 h1 => ?_
 have hc := clone_c s hs
 have hfill : ∀ T : Tmps, gt T 5 = .str fn → gt T 7 = .str s → gt T 8 = .bad → fillA T [.str [], .str [], .nilIface] [(0, 1, .t 5), (1, 1, .t 7), (2, 1, .t 8)] = some [.str fn, .str s, .bad] := fun T q1 q2 q3 => by
  simp [fillA, ev_t, q1, q2, q3, AV.cells, putCells]
 have hb : newVarA [] (.agg [.str fn, .str s, .bad]) 0 = some (.ptr 0 0 3, [.cells [.str fn, .str s, .bad] 0 3 0], .a 0) := rfl
 simp only [go_sem, Nat.reduceBEq, Nat.reduceLT, reduceCtorEq, Nat.reduceEqDiff, Int.reduceBEq, Int.reduceLT, hT, h0, h1, hc, loadBad]
 rw [hfill _ (by simp only [↓gp_eq, ↓gp_ne, ↓gp_none, ↓len_put, Nat.reduceBEq, Nat.reduceLT, decide_true, hT]) (by simp only [↓gp_eq, ↓gp_ne, ↓gp_none, ↓len_put, Nat.reduceBEq, Nat.reduceLT, decide_true, hT]) (by simp only [↓gp_eq, ↓gp_ne, ↓gp_none, ↓len_put, Nat.reduceBEq, Nat.reduceLT, decide_true, hT])]
 simp only [go_sem, Nat.reduceBEq, Nat.reduceLT, reduceCtorEq, Nat.reduceEqDiff, Int.reduceBEq, Int.reduceLT, hT, h0, h1, hb]
 exact by kernel_rfl
theorem numErr_c (f : Nat) (hf : E.lp f = some F261) (hk : E.keep f = false) (fn s : List UInt8) (hs : s.length ≤ 2 ^ 40) (H : AHeap) (K : AV → AHeap → Kd → Prop) : E.C f [.str fn, .str s] H K ↔ K (.ptr H.length 0 3) (H ++ [.cells [.str fn, .str s, .bad] 0 3 0]) (.a H.length) := by
 have := C_laid (K := K) (H := H) (by rfl) (numErr_ans f hf fn s hs) (.inr rfl)
 simpa [AV.shift, ABlk.shift, shiftL] using this
theorem toError_ans (s : List UInt8) (hs : s.length ≤ 2 ^ 40) (base bits : Int) (k : Int) (hk : k = 1 ∨ k = 2) : ∃ v H', (∃ p, v = .iface 7 (.ptr p 0 3)) ∧ E.Ans 263 [.str [80, 97, 114, 115, 101, 85, 105, 110, 116], .str s, i64 base, i64 bits, .iface 6 (i64 k)] [] v H' := by
 obtain ⟨v, H', h1, h2⟩ := AnsH5 (E := E) (f := 263) (F := F263) (a := .str [80, 97, 114, 115, 101, 85, 105, 110, 116]) (b := .str s) (c := i64 base) (d := i64 bits) (e := .iface 6 (i64 k)) (H := []) (P := fun v _ => ∃ p, v = .iface 7 (.ptr p 0 3)) (by kernel_rfl) rfl (by decide) fun T hT h0 h1 h2 h3 h4 => by
  have q1 := numErr_c 261 (by kernel_rfl) (by kernel_rfl) [80, 97, 114, 115, 101, 85, 105, 110, 116] s hs
  have q2 := numErr_c 262 (by kernel_rfl) (by kernel_rfl) [80, 97, 114, 115, 101, 85, 105, 110, 116] s hs
  rcases hk with rfl | rfl
  ·have e1 : aEq (.ifc false [(6, .i)]) (.iface 6 (i64 1)) (.iface 6 (i64 2)) = some false := rfl
   have e2 : aEq (.ifc false [(6, .i)]) (.iface 6 (i64 1)) (.iface 6 (i64 1)) = some true := rfl
   simp only [go_sem, Nat.reduceBEq, Nat.reduceLT, reduceCtorEq, Nat.reduceEqDiff, Int.reduceBEq, Int.reduceLT, hT, h0, h1, h2, h3, h4, e1, e2, q1]
   exact ⟨_, rfl⟩
  ·have e2 : aEq (.ifc false [(6, .i)]) (.iface 6 (i64 2)) (.iface 6 (i64 2)) = some true := rfl
   simp only [go_sem, Nat.reduceBEq, Nat.reduceLT, reduceCtorEq, Nat.reduceEqDiff, Int.reduceBEq, Int.reduceLT, hT, h0, h1, h2, h3, h4, e2, q2]
   exact ⟨_, rfl⟩
 exact ⟨v, H', h1, h2⟩
end Go.AE.Fns
namespace Go.AE.Fns
open Go Go.AE
theorem join_tail (sep a : List UInt8) : ∀ l, (joinB sep l).length ≤ (joinB sep (a :: l)).length
 | [] => by simp [joinB]
 | b :: l => by simp [joinB, joinR]; omega
theorem join_drop (sep : List UInt8) (l : List (List UInt8)) : ∀ (d j : Nat), (joinB sep (l.drop (j + d))).length ≤ (joinB sep (l.drop j)).length
 | 0, j => Nat.le_refl _
 | d + 1, j => by
  refine Nat.le_trans (join_drop sep l d (j + 1) |> fun h => by rw [show j + (d + 1) = j + 1 + d by omega]; exact h) ?_
  by_cases h : j < l.length
  ·rw [List.drop_eq_getElem_cons h]; exact join_tail _ _ _
  ·rw [List.drop_eq_nil_of_le (by omega), List.drop_eq_nil_of_le (by omega)]; exact Nat.le_refl _
end Go.AE.Fns
