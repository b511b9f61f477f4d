/- What the functions of texts answer. -/
import Derived.Test.YtibjieaohbnpgaaGreatDoorB4
import Derived.Test.YtibjieaohbnpgaaGreatDoorA6
import Derived.KernelRfl
set_option linter.all false
set_option linter.unusedSimpArgs false
set_option linter.unusedVariables false
set_option linter.unnecessarySimpa false
set_option linter.deprecated false
open Go Go.AE Go.AE.Env Go.AE.Fns
attribute [local go_sem ↓] W_seq W_block W_reg W_draw WO_nil Guard_none Guard_gt w_mv w_pick w_bin w_un w_extract w_load w_store w_slSl x_slStr x_idxStr x_field x_alloc x_mkSlice x_nilChk w_idxAddr w_fieldAddr w_box w_build w_lit w_mkFunc w_mkIface w_eq w_conv W1_fn W1_val W1_builtin W_cond W_ret W_skip W_exit gp_eq gp_ne x_idxArrAddr x_idxArr x_rangeStr x_nextStr x_lookup x_mapUpd x_mkMap x_slArr
attribute [local go_sem] Gd_undef Gd_tt Gd_tf Gd_ft Gd_ff Two_true Two_false Bnd_eq un_not idx_str0 bi_lenStr bi_lenSl bi_append len1i len0i len_str len_nil len_lst len_sl bin_lss bin_geq bin_eql bin_eqls bin_neqs bin_add List.map_cons List.map_nil decide_true decide_false Res_some Res_none Res_pure Res_pure_none Pick_true Pick_false if_true if_false List.cons_append List.nil_append List.append_nil Option.map_some AExit.exit.injEq Bool.not_true Bool.not_false true_and and_true ne_eq not_false_eq_true not_true_eq_false List.getElem?_cons_zero List.getElem?_cons_succ nil_ptr add_ptr Bool.false_eq_true Bool.true_and Bool.and_true Bool.false_and Bool.and_false Bool.true_or Bool.or_true Bool.false_or Bool.or_false
namespace Go.AE
end Go.AE
namespace Go.AE
end Go.AE
namespace Go.AE.Fns
open Go Go.AE Env
set_option maxRecDepth 100000
abbrev i64 (n : Int) : AV := .int .i64 n
def txts (l : List (List UInt8)) : List AV := l.map .str
inductive IsSl (l : List (List UInt8)) : AV → Prop where
 | lst (ex : Bool) : IsSl l (.lst (txts l) l.length 1 ex)
 | nil (h : l = []) : IsSl l .nilsl
theorem IsSl.len {l : List (List UInt8)} {r : AV} (h : IsSl l r) (H : AHeap) : lenA H .lenSl r = some (.int .i64 l.length, H, .p) := by
 cases h with
 | lst => rfl
 | nil h => subst h; rfl
theorem IsSl.free {l : List (List UInt8)} {r : AV} (h : IsSl l r) : r.locFree = true := by
 cases h with
 | lst =>
  simp only [AV.locFree, txts]
  induction l with
  | nil => rfl
  | cons a l ih => simpa [locFreeL, AV.locFree] using ih
 | nil h => rfl
end Go.AE.Fns
namespace Go.AE.Fns
open Go Go.AE Env
set_option maxRecDepth 100000
end Go.AE.Fns
namespace Go.AE.Fns
open Go Go.AE Env
set_option maxRecDepth 100000
end Go.AE.Fns
namespace Go.AE.Fns
open Go Go.AE Env
set_option maxRecDepth 100000
end Go.AE.Fns
namespace Go.AE.Fns
open Go Go.AE Env
set_option maxRecDepth 100000
def bytesV (s : List UInt8) : List AV := s.map fun b => .int .u8 b.toNat
inductive Buf (H : AHeap) (q : Nat) : AV → List UInt8 → Prop where
 | fresh {b N : Nat} (hq : b ≠ q) (hb : H[b]? = some (.cells (List.replicate N .bad) 1 N 0)) (hN : 0 < N) : Buf H q (.sl b 0 0 1 N none) []
 | row {b : Nat} {s : List UInt8} {wv : Nat} (hq : b ≠ q) (hb : H[b]? = some (.cells (bytesV s) 1 wv 0)) (hw : wv ≤ s.length) (hs : s ≠ []) : Buf H q (.sl b 0 s.length 1 s.length none) s
theorem lt_of_at {H : AHeap} {q : Nat} {k : ABlk} (h : H[q]? = some k) : q < H.length := by
 rcases Nat.lt_or_ge q H.length with h1 | h1
 ·exact h1
 ·simp [List.getElem?_eq_none h1] at h
theorem Buf.one {H : AHeap} {q : Nat} {buf : AV} {s : List UInt8} (h : Buf H q buf s) : buf.cells = [buf] := by cases h <;> rfl
theorem Buf.put {H : AHeap} {q : Nat} {buf : AV} {s : List UInt8} {k : ABlk} (h : Buf H q buf s) : Buf (H.set q k) q buf s := by
  cases h with
  | fresh hq hbb hN => exact .fresh hq (by rw [List.getElem?_set_ne (fun e => hq e.symm)]; exact hbb) hN
  | row hq hbb hw hs => exact .row hq (by rw [List.getElem?_set_ne (fun e => hq e.symm)]; exact hbb) hw hs
end Go.AE.Fns
namespace Go.AE.Fns
open Go Go.AE Env
set_option maxRecDepth 100000
def hb0 : AHeap := [.cells [.ptr 0 0 2, .nilsl] 2 2 0]
def hb1 (n : Nat) : AHeap := [.cells [.ptr 0 0 2, .nilsl] 2 2 0, .cells (List.replicate n .bad) 1 n 0]
def hb2 (n : Nat) : AHeap := [.cells [.ptr 0 0 2, .sl 1 0 0 1 n none] 2 2 0, .cells (List.replicate n .bad) 1 n 0]
end Go.AE.Fns
namespace Go.AE.Fns
open Go Go.AE Env
set_option maxRecDepth 100000
theorem txts_get (l : List (List UInt8)) (i : Nat) (h : i < l.length) : (txts l)[i]? = some (.str l[i]) := by simp [txts, h]
end Go.AE.Fns
namespace Go.AE.Fns
open Go Go.AE Env
set_option maxRecDepth 100000
theorem get_app {H X : AHeap} {q : Nat} {k : ABlk} (h : H[q]? = some k) : (H ++ X)[q]? = some k := by
 rw [List.getElem?_append_left (lt_of_at h)]; exact h
section
variable (lb name : List (List UInt8)) (e1 e2 : Bool)
end
end Go.AE.Fns
namespace Go.AE.Fns
open Go Go.AE Env
set_option maxRecDepth 100000
inductive IsSlH (H : AHeap) (l : List (List UInt8)) : AV → Prop where
 | lst (ex : Bool) : IsSlH H l (.lst (txts l) l.length 1 ex)
 | nil (h : l = []) : IsSlH H l .nilsl
 | sl {b o v g wv st : Nat} {cap : Option Nat} {cs : List AV} (hb : H[b]? = some (.cells cs g wv st)) (h1 : st < 2) (h2 : wv ≤ v) (h3 : v ≤ cs.length) (h4 : o + l.length ≤ v) (hg : ∀ i (h : i < l.length), cs[o + i]? = some (.str l[i])) : IsSlH H l (.sl b o l.length 1 v cap)
section
variable {H : AHeap} {l : List (List UInt8)} {r : AV}
theorem IsSlH.len (h : IsSlH H l r) (H' : AHeap) : lenA H' .lenSl r = some (.int .i64 l.length, H', .p) := by
 cases h with
 | lst => rfl
 | nil h => subst h; rfl
 | sl => rfl
theorem IsSlH.at (h : IsSlH H l r) (i : Nat) (hi : i < l.length) : ∃ a, idxAddrA 1 r (.int .i64 i) = some a ∧ ∃ kd, ∀ X, loadA (H ++ X) 1 false a = some (.str l[i], H ++ X, kd) := by
  cases h with
  | lst ex => exact ⟨_, idxA_lst hi, .p, fun X => load_elt (txts_get l i hi)⟩
  | nil h => subst h; simp at hi
  | @sl b o v g wv st cap cs hb h1 h2 h3 h4 hg => exact ⟨_, idxA_sl hi, .r b, fun X => load_at (get_app hb) h1 h2 h3 (by omega) (hg i hi)⟩
theorem IsSlH.app (h : IsSlH H l r) (X : AHeap) : IsSlH (H ++ X) l r := by
 cases h with
 | lst ex => exact .lst ex
 | nil h => exact .nil h
 | sl hb h1 h2 h3 h4 hg => exact .sl (get_app hb) h1 h2 h3 h4 hg
end
end Go.AE.Fns
namespace Go.AE.Fns
open Go Go.AE Env
set_option maxRecDepth 100000
end Go.AE.Fns
namespace Go.AE.Fns
open Go Go.AE Env
set_option maxRecDepth 100000
end Go.AE.Fns
namespace Go.AE.Fns
open Go Go.AE Env
set_option maxRecDepth 100000
end Go.AE.Fns
namespace Go.AE.Fns
open Go Go.AE Env
set_option maxRecDepth 100000
end Go.AE.Fns
namespace Go.AE.Fns
open Go Go.AE Env
set_option maxRecDepth 100000
abbrev Kinds := List (Nat × (UInt8 → Bool))
def Kinds.av (l : Kinds) : List AV := l.map fun p => .func p.1 [] []
def Kinds.Ok (l : Kinds) : Prop := ∀ p ∈ l, ∀ (c : UInt8) (H : AHeap) (K : AV → AHeap → Kd → Prop), E.C p.1 [.int .u8 c.toNat] H K ↔ K (.bool (p.2 c)) H .p
end Go.AE.Fns
namespace Go.AE.Fns
open Go Go.AE Env
set_option maxRecDepth 100000
end Go.AE.Fns
