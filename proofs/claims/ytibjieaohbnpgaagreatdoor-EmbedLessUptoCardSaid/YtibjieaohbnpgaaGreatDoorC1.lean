/- What the functions of texts answer. -/
import Derived.Test.YtibjieaohbnpgaaGreatDoorB4
import Derived.Test.YtibjieaohbnpgaaGreatDoorA6
import Derived.KernelRfl
set_option linter.all false
set_option linter.unusedSimpArgs false
set_option linter.unusedVariables false
set_option linter.unnecessarySimpa false
set_option linter.deprecated false
open Go Go.AE Go.AE.Env Go.AE.Fns
attribute [local go_sem ↓] W_seq W_block W_reg W_draw WO_step WO_nil Guard_none Guard_gt w_mv w_pick w_bin w_un w_extract w_load w_store w_slSl x_slStr x_idxStr x_field x_alloc x_mkSlice x_nilChk w_idxAddr w_fieldAddr w_box w_build w_lit w_mkFunc w_mkIface w_eq w_conv W1_fn W1_val W1_builtin W_cond W_ret W_skip W_exit ev_t ev_c ev_f evo_s evo_n gp_eq gp_ne gp_none len_put andThen_normal andThen_ret andThen_exit Fin1 x_idxArrAddr x_idxArr x_rangeStr x_nextStr x_lookup x_mapUpd x_mkMap x_slArr
attribute [local go_sem] Gd_undef Gd_tt Gd_tf Gd_ft Gd_ff Two_true Two_false Bnd_eq un_not idx_str0 CV_func bi_lenStr bi_lenSl bi_append len1i len0i len_str len_nil len_lst len_sl bin_lss bin_geq bin_eql bin_eqls bin_neqs bin_add List.map_cons List.map_nil decide_true decide_false Res_some Res_none Res_pure Res_pure_none Pick_true Pick_false if_true if_false List.cons_append List.nil_append List.append_nil Option.map_some AExit.exit.injEq Bool.not_true Bool.not_false true_and and_true ne_eq not_false_eq_true not_true_eq_false List.getElem?_cons_zero List.getElem?_cons_succ nil_ptr add_ptr eq_pn eq_nn Bool.false_eq_true Bool.true_and Bool.and_true Bool.false_and Bool.and_false Bool.true_or Bool.or_true Bool.false_or Bool.or_false range_str
namespace Go.AE
end Go.AE
namespace Go.AE
end Go.AE
namespace Go.AE.Fns
open Go Go.AE Env
set_option maxRecDepth 100000
abbrev i64 (n : Int) : AV := .int .i64 n
def txts (l : List (List UInt8)) : List AV := l.map .str
inductive IsSl (l : List (List UInt8)) : AV → Prop where
 | lst (ex : Bool) : IsSl l (.lst (txts l) l.length 1 ex)
 | nil (h : l = []) : IsSl l .nilsl
theorem IsSl.len {l : List (List UInt8)} {r : AV} (h : IsSl l r) (H : AHeap) : lenA H .lenSl r = some (.int .i64 l.length, H, .p) := by
 cases h with
 | lst => rfl
 | nil h => subst h; rfl
theorem IsSl.free {l : List (List UInt8)} {r : AV} (h : IsSl l r) : r.locFree = true := by
 cases h with
 | lst =>
  simp only [AV.locFree, txts]
  induction l with
  | nil => rfl
  | cons a l ih => simpa [locFreeL, AV.locFree] using ih
 | nil h => rfl
theorem txts_len (l : List (List UInt8)) : (txts l).length = l.length := by simp [txts]
end Go.AE.Fns
namespace Go.AE.Fns
open Go Go.AE Env
set_option maxRecDepth 100000
end Go.AE.Fns
namespace Go.AE.Fns
open Go Go.AE Env
set_option maxRecDepth 100000
end Go.AE.Fns
namespace Go.AE.Fns
open Go Go.AE Env
set_option maxRecDepth 100000
end Go.AE.Fns
namespace Go.AE.Fns
open Go Go.AE Env
set_option maxRecDepth 100000
def bytesV (s : List UInt8) : List AV := s.map fun b => .int .u8 b.toNat
inductive Buf (H : AHeap) (q : Nat) : AV → List UInt8 → Prop where
 | fresh {b N : Nat} (hq : b ≠ q) (hb : H[b]? = some (.cells (List.replicate N .bad) 1 N 0)) (hN : 0 < N) : Buf H q (.sl b 0 0 1 N none) []
 | row {b : Nat} {s : List UInt8} {wv : Nat} (hq : b ≠ q) (hb : H[b]? = some (.cells (bytesV s) 1 wv 0)) (hw : wv ≤ s.length) (hs : s ≠ []) : Buf H q (.sl b 0 s.length 1 s.length none) s
theorem lt_of_at {H : AHeap} {q : Nat} {k : ABlk} (h : H[q]? = some k) : q < H.length := by
 rcases Nat.lt_or_ge q H.length with h1 | h1
 ·exact h1
 ·simp [List.getElem?_eq_none h1] at h
theorem Buf.one {H : AHeap} {q : Nat} {buf : AV} {s : List UInt8} (h : Buf H q buf s) : buf.cells = [buf] := by cases h <;> rfl
theorem Buf.put {H : AHeap} {q : Nat} {buf : AV} {s : List UInt8} {k : ABlk} (h : Buf H q buf s) : Buf (H.set q k) q buf s := by
  cases h with
  | fresh hq hbb hN => exact .fresh hq (by rw [List.getElem?_set_ne (fun e => hq e.symm)]; exact hbb) hN
  | row hq hbb hw hs => exact .row hq (by rw [List.getElem?_set_ne (fun e => hq e.symm)]; exact hbb) hw hs
end Go.AE.Fns
namespace Go.AE.Fns
open Go Go.AE Env
set_option maxRecDepth 100000
def hb0 : AHeap := [.cells [.ptr 0 0 2, .nilsl] 2 2 0]
def hb1 (n : Nat) : AHeap := [.cells [.ptr 0 0 2, .nilsl] 2 2 0, .cells (List.replicate n .bad) 1 n 0]
def hb2 (n : Nat) : AHeap := [.cells [.ptr 0 0 2, .sl 1 0 0 1 n none] 2 2 0, .cells (List.replicate n .bad) 1 n 0]
end Go.AE.Fns
namespace Go.AE.Fns
open Go Go.AE Env
set_option maxRecDepth 100000
theorem txts_get (l : List (List UInt8)) (i : Nat) (h : i < l.length) : (txts l)[i]? = some (.str l[i]) := by simp [txts, h]
end Go.AE.Fns
namespace Go.AE.Fns
open Go Go.AE Env
set_option maxRecDepth 100000
theorem get_app {H X : AHeap} {q : Nat} {k : ABlk} (h : H[q]? = some k) : (H ++ X)[q]? = some k := by
 rw [List.getElem?_append_left (lt_of_at h)]; exact h
section
variable (lb name : List (List UInt8)) (e1 e2 : Bool)
end
end Go.AE.Fns
namespace Go.AE.Fns
open Go Go.AE Env
set_option maxRecDepth 100000
inductive IsSlH (H : AHeap) (l : List (List UInt8)) : AV → Prop where
 | lst (ex : Bool) : IsSlH H l (.lst (txts l) l.length 1 ex)
 | nil (h : l = []) : IsSlH H l .nilsl
 | sl {b o v g wv st : Nat} {cap : Option Nat} {cs : List AV} (hb : H[b]? = some (.cells cs g wv st)) (h1 : st < 2) (h2 : wv ≤ v) (h3 : v ≤ cs.length) (h4 : o + l.length ≤ v) (hg : ∀ i (h : i < l.length), cs[o + i]? = some (.str l[i])) : IsSlH H l (.sl b o l.length 1 v cap)
section
variable {H : AHeap} {l : List (List UInt8)} {r : AV}
theorem IsSlH.len (h : IsSlH H l r) (H' : AHeap) : lenA H' .lenSl r = some (.int .i64 l.length, H', .p) := by
 cases h with
 | lst => rfl
 | nil h => subst h; rfl
 | sl => rfl
theorem IsSlH.at (h : IsSlH H l r) (i : Nat) (hi : i < l.length) : ∃ a, idxAddrA 1 r (.int .i64 i) = some a ∧ ∃ kd, ∀ X, loadA (H ++ X) 1 false a = some (.str l[i], H ++ X, kd) := by
  cases h with
  | lst ex => exact ⟨_, idxA_lst hi, .p, fun X => load_elt (txts_get l i hi)⟩
  | nil h => subst h; simp at hi
  | @sl b o v g wv st cap cs hb h1 h2 h3 h4 hg => exact ⟨_, idxA_sl hi, .r b, fun X => load_at (get_app hb) h1 h2 h3 (by omega) (hg i hi)⟩
theorem IsSlH.app (h : IsSlH H l r) (X : AHeap) : IsSlH (H ++ X) l r := by
 cases h with
 | lst ex => exact .lst ex
 | nil h => exact .nil h
 | sl hb h1 h2 h3 h4 hg => exact .sl (get_app hb) h1 h2 h3 h4 hg
end
end Go.AE.Fns
namespace Go.AE.Fns
open Go Go.AE Env
set_option maxRecDepth 100000
end Go.AE.Fns
namespace Go.AE.Fns
open Go Go.AE Env
set_option maxRecDepth 100000
def idxOf (eqv : AV → Bool) (xs : List AV) : Int := match xs.findIdx? eqv with | some i => (i : Int) | none => -1
theorem idxOf_ge {eqv : AV → Bool} {xs : List AV} : decide (idxOf eqv xs ≥ 0) = xs.any eqv := by
 unfold idxOf
 cases h : xs.findIdx? eqv with
 | some i =>
  obtain ⟨h1, h2, _⟩ := List.findIdx?_eq_some_iff_getElem.1 h
  have : xs.any eqv = true := List.any_eq_true.2 ⟨_, List.getElem_mem h1, h2⟩
  rw [this]; simp
 | none =>
  have : xs.any eqv = false := by
   rw [List.any_eq_false]
   intro x hx
   have := List.findIdx?_eq_none_iff.1 h x hx
   simp [this]
  rw [this]; simp
theorem findIdx_at {eqv : AV → Bool} {xs : List AV} {i : Nat} (hi : i < xs.length) (h1 : ∀ j (h : j < xs.length), j < i → eqv xs[j] = false) (h2 : eqv xs[i] = true) : idxOf eqv xs = i := by
 have : xs.findIdx? eqv = some i := List.findIdx?_eq_some_iff_getElem.2 ⟨hi, h2, fun j hj => by simp [h1 j (by omega) hj]⟩
 simp [idxOf, this]
theorem findIdx_no {eqv : AV → Bool} {xs : List AV} (h1 : ∀ j (h : j < xs.length), eqv xs[j] = false) : idxOf eqv xs = -1 := by
 have : xs.findIdx? eqv = none := List.findIdx?_eq_none_iff.2 fun x hx => by
  obtain ⟨j, hj, rfl⟩ := List.getElem_of_mem hx
  exact h1 j hj
 simp [idxOf, this]
theorem index_loop (xs : List AV) (a : AV) (eqv : AV → Bool) (ex : Bool) (he : ∀ x ∈ xs, binA .eql a x = some (.bool (eqv x))) (hlen : xs.length ≤ 2 ^ 31) (H : AHeap) (Q : AExit → Tmps → AHeap → Prop)
    (hx : ∀ T : Tmps, T.length = 19 → idxOf eqv xs = -1 → Q (.exit 0) T H) (hr : ∀ T : Tmps, gt T 4 = i64 (idxOf eqv xs) → Q .ret T H) : ∀ (k i : Nat) (T : Tmps), i + k = xs.length → (∀ j (h : j < xs.length), j < i → eqv xs[j] = false) →
    T.length = 19 → gt T 0 = .lst xs xs.length 1 ex → gt T 1 = a → gt T 7 = i64 xs.length → gt T 8 = i64 i → E.W (F176.loop 0) T H Q
  | 0, i, T, hi, hb, hT, h0, h1, h7, h8 => by
    rw [show F176.loop 0 = .loop _ from rfl, W_loop]
    have d1 : ¬ ((i : Int) < (xs.length : Int)) := by omega
    simp only [go_sem, Nat.reduceBEq, Nat.reduceLT, reduceCtorEq, Nat.reduceEqDiff, Int.reduceBEq, Int.reduceBNe, Int.reduceLT, Int.reduceLE, Int.reduceGT, Int.reduceGE, Int.reduceEq, Int.reduceAdd, Int.reduceSub, Int.reduceNeg, hT, h0, h1, h7, h8, d1]
    exact hx _ (by simp only [↓gp_eq, ↓gp_ne, ↓gp_none, ↓len_put, Nat.reduceBEq, Nat.reduceLT, decide_true, hT]) (findIdx_no fun j hj => hb j hj (by omega))
  | k + 1, i, T, hi, hb, hT, h0, h1, h7, h8 => by
    rw [show F176.loop 0 = .loop _ from rfl, W_loop]
    have d1 : ((i : Int) < (xs.length : Int)) := by omega
    have hil : i < xs.length := by omega
    have a1 : idxAddrA 1 (.lst xs xs.length 1 ex) (.int .i64 i) = some (.elt xs i) := idxA_lst hil
    have l1 : ∀ H, loadA H 1 false (.elt xs i) = some (xs[i], H, .p) := fun H => by simp [loadA, part, hil, pureV]
    have e1 := he xs[i] (List.getElem_mem hil)
    have w1 : IntKind.i64.wrap ((i : Int) + 1) = ((i + 1 : Nat) : Int) := by rw [wrap64] <;> omega
    cases c : eqv xs[i]
    · rw [c] at e1
      simp only [go_sem, Nat.reduceBEq, Nat.reduceLT, reduceCtorEq, Nat.reduceEqDiff, Int.reduceBEq, Int.reduceBNe, Int.reduceLT, Int.reduceLE, Int.reduceGT, Int.reduceGE, Int.reduceEq, Int.reduceAdd, Int.reduceSub, Int.reduceNeg, hT, h0, h1, h7, h8, d1, a1, l1, e1, w1]
      refine index_loop xs a eqv ex he hlen H Q hx hr k (i + 1) _ (by omega) (fun j hj hji => ?_) (by simp only [↓gp_eq, ↓gp_ne, ↓gp_none, ↓len_put, Nat.reduceBEq, Nat.reduceLT, decide_true, hT]) (by simp only [↓gp_eq, ↓gp_ne, ↓gp_none, ↓len_put, Nat.reduceBEq, Nat.reduceLT, decide_true, hT, h0]) (by simp only [↓gp_eq, ↓gp_ne, ↓gp_none, ↓len_put, Nat.reduceBEq, Nat.reduceLT, decide_true, hT, h1]) (by simp only [↓gp_eq, ↓gp_ne, ↓gp_none, ↓len_put, Nat.reduceBEq, Nat.reduceLT, decide_true, hT, h7]) (by simp only [↓gp_eq, ↓gp_ne, ↓gp_none, ↓len_put, Nat.reduceBEq, Nat.reduceLT, decide_true, hT])
      by_cases q : j = i
      · subst q; exact c
      · exact hb j hj (by omega)
    · rw [c] at e1
      simp only [go_sem, Nat.reduceBEq, Nat.reduceLT, reduceCtorEq, Nat.reduceEqDiff, Int.reduceBEq, Int.reduceBNe, Int.reduceLT, Int.reduceLE, Int.reduceGT, Int.reduceGE, Int.reduceEq, Int.reduceAdd, Int.reduceSub, Int.reduceNeg, hT, h0, h1, h7, h8, d1, a1, l1, e1]
      refine hr _ (by simp only [↓gp_eq, ↓gp_ne, ↓gp_none, ↓len_put, Nat.reduceBEq, Nat.reduceLT, decide_true, hT]; rw [findIdx_at hil hb c])
theorem index_anyT (xs : List AV) (a : AV) (eqv : AV → Bool) (ex : Bool) (he : ∀ x ∈ xs, binA .eql a x = some (.bool (eqv x))) (hlen : xs.length ≤ 2 ^ 31) (H : AHeap) (f : Nat) (hf : E.lp f = some F176) :
  E.Ans f [.lst xs xs.length 1 ex, a] H (i64 (idxOf eqv xs)) H := by
 refine Ans2 (F := F176) hf rfl (by decide) fun T hT h0 h1 => ?_
 have hl := fun Q hx hr => index_loop xs a eqv ex he hlen H Q hx hr xs.length 0
 rw [show F176.loop 0 = .loop _ from rfl] at hl
 simp only [go_sem, Nat.reduceBEq, Nat.reduceLT, reduceCtorEq, Nat.reduceEqDiff, Int.reduceBEq, Int.reduceBNe, Int.reduceLT, Int.reduceLE, Int.reduceGT, Int.reduceGE, Int.reduceEq, Int.reduceAdd, Int.reduceSub, Int.reduceNeg, hT, h0, h1]
 refine hl _ ?_ ?_ _ (by omega) (fun j _ h => by omega) (by simp only [↓gp_eq, ↓gp_ne, ↓gp_none, ↓len_put, Nat.reduceBEq, Nat.reduceLT, decide_true, hT]) (by simp only [↓gp_eq, ↓gp_ne, ↓gp_none, ↓len_put, Nat.reduceBEq, Nat.reduceLT, decide_true, hT, h0]) (by simp only [↓gp_eq, ↓gp_ne, ↓gp_none, ↓len_put, Nat.reduceBEq, Nat.reduceLT, decide_true, hT, h1]) (by simp only [↓gp_eq, ↓gp_ne, ↓gp_none, ↓len_put, Nat.reduceBEq, Nat.reduceLT, decide_true, hT]) (by simp only [↓gp_eq, ↓gp_ne, ↓gp_none, ↓len_put, Nat.reduceBEq, Nat.reduceLT, decide_true, hT]; rfl)
 ·intro T' hT' hn
  simp only [go_sem, Nat.reduceBEq, Nat.reduceLT, reduceCtorEq, Nat.reduceEqDiff, Int.reduceBEq, Int.reduceBNe, Int.reduceLT, Int.reduceLE, Int.reduceGT, Int.reduceGE, Int.reduceEq, Int.reduceAdd, Int.reduceSub, Int.reduceNeg, hT', hn]
 ·intro T' h4
  simp only [go_sem, Nat.reduceBEq, Nat.reduceLT, reduceCtorEq, Nat.reduceEqDiff, Int.reduceBEq, Int.reduceBNe, Int.reduceLT, Int.reduceLE, Int.reduceGT, Int.reduceGE, Int.reduceEq, Int.reduceAdd, Int.reduceSub, Int.reduceNeg, h4]
def strEq (s : List UInt8) : AV → Bool | .str x => s == x | _ => false
theorem containsS_ans (l : List (List UInt8)) (s : List UInt8) (ex : Bool) (hl : l.length ≤ 2 ^ 31) (H : AHeap) : E.Ans 163 [.lst (txts l) l.length 1 ex, .str s] H (.bool (l.contains s)) H := by
 refine Ans2 (F := F163) (by kernel_rfl) rfl (by decide) fun T hT h0 h1 => ?_
 have hx : ∀ x ∈ txts l, binA .eql (.str s) x = some (.bool (strEq s x)) := fun x hx => by
  simp only [txts, List.mem_map] at hx
  obtain ⟨y, _, rfl⟩ := hx
  rfl
 have hfree : locFreeL [.lst (txts l) (txts l).length 1 ex, .str s] = true := by
  have h1 := (IsSl.lst (l := l) ex).free
  rw [txts_len]
  simpa [locFreeL, AV.locFree, txts_len] using h1
 have hi := fun H K => C_val (H := H) (K := K) (index_anyT (txts l) (.str s) (strEq s) ex hx (by rw [txts_len]; exact hl) [] 176 (by kernel_rfl)) hfree (by kernel_rfl) rfl
 rw [txts_len] at hi
 have hc : decide (idxOf (strEq s) (txts l) ≥ 0) = l.contains s := by
  rw [idxOf_ge, txts, List.any_map, List.contains_eq_any_beq]
  rfl
 simp only [go_sem, Nat.reduceBEq, Nat.reduceLT, reduceCtorEq, Nat.reduceEqDiff, Int.reduceBEq, Int.reduceBNe, Int.reduceLT, Int.reduceLE, Int.reduceGT, Int.reduceGE, Int.reduceEq, Int.reduceAdd, Int.reduceSub, Int.reduceNeg, hT, h0, h1, hi, hc]
theorem containsS_c (l : List (List UInt8)) (s : List UInt8) (ex : Bool) (hl : l.length ≤ 2 ^ 31) (H : AHeap) (K : AV → AHeap → Kd → Prop) : E.C 163 [.lst (txts l) l.length 1 ex, .str s] H K ↔ K (.bool (l.contains s)) H .p :=
 C_val (containsS_ans l s ex hl []) (by have h1 := (IsSl.lst (l := l) ex).free; simpa [locFreeL, AV.locFree] using h1) (by kernel_rfl) rfl
end Go.AE.Fns
namespace Go.AE.Fns
open Go Go.AE Env
set_option maxRecDepth 100000
end Go.AE.Fns
namespace Go.AE.Fns
open Go Go.AE Env
set_option maxRecDepth 100000
end Go.AE.Fns
namespace Go.AE.Fns
open Go Go.AE Env
set_option maxRecDepth 100000
abbrev Kinds := List (Nat × (UInt8 → Bool))
def Kinds.av (l : Kinds) : List AV := l.map fun p => .func p.1 [] []
def Kinds.Ok (l : Kinds) : Prop := ∀ p ∈ l, ∀ (c : UInt8) (H : AHeap) (K : AV → AHeap → Kd → Prop), E.C p.1 [.int .u8 c.toNat] H K ↔ K (.bool (p.2 c)) H .p
end Go.AE.Fns
namespace Go.AE.Fns
open Go Go.AE Env
set_option maxRecDepth 100000
end Go.AE.Fns
