/- What the functions of origins answer, and the law over the evaluator. -/
import Derived.Test.YtibjieaohbnpgaaGreatDoorC2
import Derived.Test.YtibjieaohbnpgaaGreatDoorB4
import Derived.Test.YtibjieaohbnpgaaGreatDoorB5
import Derived.Test.YtibjieaohbnpgaaGreatDoorC1
set_option linter.all false
set_option linter.unusedSimpArgs false
set_option linter.unusedVariables false
set_option linter.unnecessarySimpa false
set_option linter.deprecated false
namespace Go.AE.Fns
open Go Go.AE Env
set_option maxRecDepth 100000
structure Host.In (h : Host) : Prop where
 name : h.name.length ≤ 2 ^ 29
 kind : h.kind < 256
 v4 : h.v4 < 2 ^ 32
 v6 : ∀ x ∈ h.v6, x < 65536
end Go.AE.Fns
namespace Go.AE.Fns
open Go Go.AE Env
set_option maxRecDepth 100000
structure Origin where
 opaq : Bool := false
 id : Int := 0
 scheme : List UInt8 := []
 host : Host := { kind := 0 }
 port : Int := 0
 hasPort : Bool := false
 domain : List UInt8 := []
 hasDomain : Bool := false
 deriving DecidableEq
def Origin.cells (o : Origin) : List AV := [.bool o.opaq, i64 o.id, .str o.scheme] ++ o.host.cells ++ [i64 o.port, .bool o.hasPort, .str o.domain, .bool o.hasDomain]
abbrev originT : ETy := .st [(0, 1, false, .b), (1, 1, false, .i), (2, 1, false, .s), (3, 11, true, hostT), (14, 1, false, .i), (15, 1, false, .b), (16, 1, false, .s), (17, 1, false, .b)]
theorem origin_eq (a b : Origin) : aEq originT (.agg a.cells) (.agg b.cells) = some (decide (a = b)) := by
 have hh : aEq originT (.agg a.cells) (.agg b.cells) = some ((a.opaq == b.opaq) && ((a.id == b.id) && ((a.scheme == b.scheme) && (decide (a.host = b.host) && ((a.port == b.port) && ((a.hasPort == b.hasPort) && ((a.domain == b.domain) && ((a.hasDomain == b.hasDomain) && true)))))))) := by
  rw [aEq_st]
  exact aEqF_cons rfl rfl aEq_bb (aEqF_cons rfl rfl aEq_i (aEqF_cons rfl rfl aEq_s (aEqF_cons rfl rfl (host_eq _ _) (aEqF_cons rfl rfl aEq_i (aEqF_cons rfl rfl aEq_bb (aEqF_cons rfl rfl aEq_s (aEqF_cons rfl rfl aEq_bb aEqF_nil)))))))
 rw [hh]
 congr 1
 rw [Bool.eq_iff_iff]
 cases a; cases b
 simp only [Bool.and_eq_true, beq_iff_eq, decide_eq_true_eq, Origin.mk.injEq, and_true]
theorem origin_eqV (a b : Origin) {ng : Bool} : eqV ng originT (.agg a.cells) (.agg b.cells) = some (.bool (if ng then !decide (a = b) else decide (a = b))) := by
 unfold eqV
 rw [origin_eq]; rfl
structure Origin.In (o : Origin) : Prop where
 host : o.host.In
 scheme : o.scheme.length ≤ 2 ^ 29
 domain : o.domain.length ≤ 2 ^ 29
 id : -(2 ^ 63 : Int) ≤ o.id ∧ o.id < 2 ^ 63
 port : -(2 ^ 63 : Int) ≤ o.port ∧ o.port < 2 ^ 63
theorem origin_free (o : Origin) : locFreeL o.cells = true := rfl
def sameO (a b : Origin) : Bool := if a.opaq || b.opaq then (a.opaq == b.opaq) && (a.id == b.id) else decide ({ a with domain := b.domain, hasDomain := b.hasDomain, id := b.id } = b)
theorem sameO_c (a b : Origin) (H : AHeap) (K : AV → AHeap → Kd → Prop) : E.C 236 [.agg a.cells, .agg b.cells] H K ↔ K (.bool (sameO a b)) H .p := by
 refine C_by (V236 (K := fun v' _ => v' = .bool (sameO a b)) ?_) rfl (by kernel_rfl) (fun _ => rfl)
 have b1 : newVarA [] (.agg a.cells) 0 = some (.ptr 0 0 18, [.cells a.cells 0 18 0], .a 0) := rfl
 have b2 : newVarA [.cells a.cells 0 18 0] (.agg b.cells) 0 = some (.ptr 1 0 18, [.cells a.cells 0 18 0, .cells b.cells 0 18 0], .a 1) := rfl
 generalize hH : [ABlk.cells a.cells 0 18 0, .cells b.cells 0 18 0] = H0 at b2
 have l00 : loadA H0 1 false (.ptr 0 0 18) = some (.bool a.opaq, H0, .r 0) := by subst hH; rfl
 have l01 : loadA H0 1 false (.ptr 0 1 18) = some (.int .i64 a.id, H0, .r 0) := by subst hH; rfl
 have l10 : loadA H0 1 false (.ptr 1 0 18) = some (.bool b.opaq, H0, .r 1) := by subst hH; rfl
 have l11 : loadA H0 1 false (.ptr 1 1 18) = some (.int .i64 b.id, H0, .r 1) := by subst hH; rfl
 have l1g : loadA H0 1 false (.ptr 1 16 18) = some (.str b.domain, H0, .r 1) := by subst hH; rfl
 have l1h : loadA H0 1 false (.ptr 1 17 18) = some (.bool b.hasDomain, H0, .r 1) := by subst hH; rfl
 have s1 : storeA H0 1 (.ptr 0 16 18) (.str b.domain) = some (undefA, [.cells (Origin.cells { a with domain := b.domain }) 0 18 0, .cells b.cells 0 18 0], .w 0) := by subst hH; rfl
 have s2 : storeA [.cells (Origin.cells { a with domain := b.domain }) 0 18 0, .cells b.cells 0 18 0] 1 (.ptr 0 17 18) (.bool b.hasDomain) = some (undefA, [.cells (Origin.cells { a with domain := b.domain, hasDomain := b.hasDomain }) 0 18 0, .cells b.cells 0 18 0], .w 0) := rfl
 have s3 : storeA [.cells (Origin.cells { a with domain := b.domain, hasDomain := b.hasDomain }) 0 18 0, .cells b.cells 0 18 0] 1 (.ptr 0 1 18) (.int .i64 b.id) = some (undefA, [.cells (Origin.cells { a with domain := b.domain, hasDomain := b.hasDomain, id := b.id }) 0 18 0, .cells b.cells 0 18 0], .w 0) := rfl
 have la : loadA [.cells (Origin.cells { a with domain := b.domain, hasDomain := b.hasDomain, id := b.id }) 0 18 0, .cells b.cells 0 18 0] 18 true (.ptr 0 0 18) = some (.agg (Origin.cells { a with domain := b.domain, hasDomain := b.hasDomain, id := b.id }), [.cells (Origin.cells { a with domain := b.domain, hasDomain := b.hasDomain, id := b.id }) 0 18 0, .cells b.cells 0 18 0], .r 0) := rfl
 have lb : loadA [.cells (Origin.cells { a with domain := b.domain, hasDomain := b.hasDomain, id := b.id }) 0 18 0, .cells b.cells 0 18 0] 18 true (.ptr 1 0 18) = some (.agg b.cells, [.cells (Origin.cells { a with domain := b.domain, hasDomain := b.hasDomain, id := b.id }) 0 18 0, .cells b.cells 0 18 0], .r 1) := rfl
 have hd : drawOk (drawn F236 0) [.p, .r 1, .p, .r 1, .p, .r 1, .p, .w 0, .p, .w 0, .p, .w 0] = true := by kernel_rfl
 have hq := origin_eqV
 cases e0 : a.opaq <;> cases e1 : b.opaq
 ·have hs : sameO a b = decide ({ a with domain := b.domain, hasDomain := b.hasDomain, id := b.id } = b) := by simp [sameO, e0, e1]
  rw [hs]
  rw [e0] at l00
  rw [e1] at l10
  simp (disch := omega) only [go_sem, Int.reduceBEq, Int.reduceBNe, Int.reduceLT, Int.reduceLE, Int.reduceAdd, Int.reduceSub, Int.reduceNeg, Nat.reduceLT, Nat.reduceLeDiff, Nat.reduceAdd, b1, b2, l00, l01, l10, l11, l1g, l1h, s1, s2, s3, la, lb, hd, hq, Nat.zero_add]
 ·have hs : sameO a b = ((false == true) && (a.id == b.id)) := by simp [sameO, e0, e1]
  rw [hs]
  rw [e0] at l00
  rw [e1] at l10
  simp (disch := omega) only [go_sem, Int.reduceBEq, Int.reduceBNe, Int.reduceLT, Int.reduceLE, Int.reduceAdd, Int.reduceSub, Int.reduceNeg, Nat.reduceLT, Nat.reduceLeDiff, Nat.reduceAdd, b1, b2, l00, l01, l10, l11, l1g, l1h, s1, s2, s3, la, lb, hd, hq, Nat.zero_add]
 ·have hs : sameO a b = ((true == false) && (a.id == b.id)) := by simp [sameO, e0, e1]
  rw [hs]
  rw [e0] at l00
  rw [e1] at l10
  simp (disch := omega) only [go_sem, Int.reduceBEq, Int.reduceBNe, Int.reduceLT, Int.reduceLE, Int.reduceAdd, Int.reduceSub, Int.reduceNeg, Nat.reduceLT, Nat.reduceLeDiff, Nat.reduceAdd, b1, b2, l00, l01, l10, l11, l1g, l1h, s1, s2, s3, la, lb, hd, hq, Nat.zero_add]
 ·have hs : sameO a b = ((true == true) && (a.id == b.id)) := by simp [sameO, e0, e1]
  rw [hs]
  rw [e0] at l00
  rw [e1] at l10
  simp (disch := omega) only [go_sem, Int.reduceBEq, Int.reduceBNe, Int.reduceLT, Int.reduceLE, Int.reduceAdd, Int.reduceSub, Int.reduceNeg, Nat.reduceLT, Nat.reduceLeDiff, Nat.reduceAdd, b1, b2, l00, l01, l10, l11, l1g, l1h, s1, s2, s3, la, lb, hd, hq, Nat.zero_add]
end Go.AE.Fns
namespace Go.AE.Fns
open Go Go.AE Env
set_option maxRecDepth 100000
structure Site where
 opaq : Bool := false
 id : Int := 0
 scheme : List UInt8 := []
 host : List UInt8 := []
 deriving DecidableEq
def Site.cells (s : Site) : List AV := [.bool s.opaq, i64 s.id, .str s.scheme, .str s.host]
end Go.AE.Fns
namespace Go.AE.Fns
open Go Go.AE Env
set_option maxRecDepth 100000
end Go.AE.Fns
namespace Go.AE.Fns
open Go Go.AE Env
set_option maxRecDepth 100000
theorem sameO_iff {a b : Origin} (ha : a.opaq = false) : sameO a b = true ↔ b.opaq = false ∧ a.scheme = b.scheme ∧ a.host = b.host ∧ a.port = b.port ∧ a.hasPort = b.hasPort := by
 unfold sameO
 cases hb : b.opaq
 ·simp only [ha, Bool.or_self, Bool.false_eq_true, if_false, decide_eq_true_eq, true_and]
  cases a; cases b
  simp only at ha hb
  subst ha hb
  simp
 ·simp [ha]
end Go.AE.Fns
namespace Go.AE.Fns
open Go Go.AE Env
set_option maxRecDepth 100000
def orgs (l : List Origin) : List AV := l.flatMap Origin.cells
theorem org_len (o : Origin) : o.cells.length = 18 := rfl
theorem orgs_len : ∀ l : List Origin, (orgs l).length = l.length * 18
 | [] => rfl
 | o :: l => by
  have := orgs_len l
  simp only [orgs, List.flatMap_cons, List.length_append, org_len, List.length_cons] at this ⊢
  omega
theorem orgs_at : ∀ (l : List Origin) (i : Nat) (h : i < l.length), ((orgs l).drop (i * 18)).take 18 = (l[i]).cells
 | o :: l, 0, _ => by
  simp only [orgs, List.flatMap_cons, Nat.zero_mul, List.drop_zero, List.getElem_cons_zero]
  rw [List.take_append_of_le_length (Nat.le_refl 18)]
  rfl
 | o :: l, i + 1, h => by
  have ih := orgs_at l i (by simpa using h)
  simp only [orgs, List.flatMap_cons, List.getElem_cons_succ] at ih ⊢
  rw [show (i + 1) * 18 = o.cells.length + i * 18 by rw [org_len]; omega, List.drop_append, List.drop_eq_nil_of_le (by omega), List.nil_append, Nat.add_sub_cancel_left]
  exact ih
inductive VO (H : AHeap) : AV → List Origin → Prop where
 | lst {l : List Origin} (ex : Bool) : VO H (.lst (orgs l) l.length 18 ex) l
 | nil : VO H .nilsl []
 | sl {b v : Nat} {cap : Option Nat} {l : List Origin} {cs : List AV} {g wv st : Nat} (hb : H[b]? = some (.cells cs g wv st)) (h1 : st < 2) (h2 : wv ≤ v) (h3 : v ≤ cs.length) (h4 : l.length * 18 ≤ v) (h5 : cs.take (l.length * 18) = orgs l) : VO H (.sl b 0 l.length 18 v cap) l
theorem VO.len {H : AHeap} {r : AV} {l : List Origin} (h : VO H r l) (H' : AHeap) : lenA H' .lenSl r = some (.int .i64 l.length, H', .p) := by cases h <;> rfl
theorem VO.app {H : AHeap} {r : AV} {l : List Origin} (h : VO H r l) (X : AHeap) : VO (H ++ X) r l := by
 cases h with
 | lst ex => exact .lst ex
 | nil => exact .nil
 | sl hb h1 h2 h3 h4 h5 => exact .sl (get_app hb) h1 h2 h3 h4 h5
theorem VO.get {H : AHeap} {r : AV} {l : List Origin} (h : VO H r l) {i : Nat} (hi : i < l.length) : ∃ a kd, idxAddrA 18 r (.int .i64 i) = some a ∧ loadA H 18 true a = some (.agg (l[i]).cells, H, kd) := by
 have e := orgs_at l i hi
 cases h with
 | lst ex =>
  refine ⟨.elt (orgs l) (i * 18), .p, by simp [idxAddrA, asI, hi], ?_⟩
  have hl := orgs_len l
  have h2 : i * 18 + 18 ≤ (orgs l).length := by omega
  simp only [loadA, part, if_true, if_pos h2, e, pureV, Option.map_some]
 | nil => simp at hi
 | @sl b v cap _ cs g wv st hb h1 h2 h3 h4 h5 =>
  refine ⟨.ptr b (0 + i * 18) v, .r b, by simp [idxAddrA, asI, hi], ?_⟩
  rw [Nat.zero_add]
  have hc : st < 2 ∧ wv ≤ v ∧ v ≤ cs.length ∧ i * 18 + 18 ≤ v := ⟨h1, h2, h3, by omega⟩
  have h6 : i * 18 + 18 ≤ cs.length := by omega
  have e2 : (cs.drop (i * 18)).take 18 = (l[i]).cells := by
   rw [← e, ← h5, List.drop_take, List.take_take]
   congr 1
   omega
  simp only [loadA, hb, if_pos hc, part, if_true, if_pos h6, e2, readV, Option.map_some]
inductive IsO (l : List Origin) : AV → Prop where
 | lst (ex : Bool) : IsO l (.lst (orgs l) l.length 18 ex)
 | nil (h : l = []) : IsO l .nilsl
theorem IsO.vo {l : List Origin} {r : AV} (h : IsO l r) (H : AHeap) : VO H r l := by
 cases h with
 | lst ex => exact .lst ex
 | nil h => subst h; exact .nil
theorem locFreeL_app : ∀ a b : List AV, locFreeL (a ++ b) = (locFreeL a && locFreeL b)
 | [], b => by simp [locFreeL]
 | x :: a, b => by simp [locFreeL, locFreeL_app a b, Bool.and_assoc]
theorem orgs_free : ∀ l : List Origin, locFreeL (orgs l) = true
 | [] => rfl
 | o :: l => by
  have ih := orgs_free l
  simp only [orgs, List.flatMap_cons] at ih ⊢
  rw [locFreeL_app, origin_free, ih]; rfl
theorem IsO.free {l : List Origin} {r : AV} (h : IsO l r) : r.locFree = true := by
 cases h with
 | lst ex => simpa [AV.locFree] using orgs_free l
 | nil => rfl
structure Al where
 all : Bool := false
 self : Bool := false
 r : AV := .nilsl
 os : List Origin := []
def Al.cells (a : Al) : List AV := [.bool a.all, .bool a.self, a.r]
def hasB (a : Al) (s o : Origin) : Bool := a.all || (a.self && sameO s o) || a.os.any fun x => sameO x o
structure Gr where
 feat : List UInt8
 al : Al
def Gr.cells (g : Gr) : List AV := .str g.feat :: g.al.cells
def Gr.Ok (g : Gr) (M : Nat) : Prop := IsO g.al.os g.al.r ∧ g.al.os.length ≤ M ∧ g.feat.length ≤ M
def grs (l : List Gr) : List AV := l.flatMap Gr.cells
inductive IsG (l : List Gr) : AV → Prop where
 | lst (ex : Bool) : IsG l (.lst (grs l) l.length 4 ex)
 | nil (h : l = []) : IsG l .nilsl
theorem gr_len (g : Gr) : g.cells.length = 4 := rfl
theorem grs_len : ∀ l : List Gr, (grs l).length = l.length * 4
 | [] => rfl
 | o :: l => by
  have := grs_len l
  simp only [grs, List.flatMap_cons, List.length_append, gr_len, List.length_cons] at this ⊢
  omega
theorem grs_at : ∀ (l : List Gr) (i : Nat) (h : i < l.length), ((grs l).drop (i * 4)).take 4 = (l[i]).cells
 | o :: l, 0, _ => by
  simp only [grs, List.flatMap_cons, Nat.zero_mul, List.drop_zero, List.getElem_cons_zero]
  rw [List.take_append_of_le_length (Nat.le_refl 4)]
  rfl
 | o :: l, i + 1, h => by
  have ih := grs_at l i (by simpa using h)
  simp only [grs, List.flatMap_cons, List.getElem_cons_succ] at ih ⊢
  rw [show (i + 1) * 4 = o.cells.length + i * 4 by rw [gr_len]; omega, List.drop_append, List.drop_eq_nil_of_le (by omega), List.nil_append, Nat.add_sub_cancel_left]
  exact ih
theorem IsG.len {r : AV} {l : List Gr} (h : IsG l r) (H' : AHeap) : lenA H' .lenSl r = some (.int .i64 l.length, H', .p) := by
 cases h with
 | lst ex => rfl
 | nil h => subst h; rfl
theorem IsG.get {r : AV} {l : List Gr} (h : IsG l r) {i : Nat} (hi : i < l.length) : ∃ a, idxAddrA 4 r (.int .i64 i) = some a ∧ ∀ H, loadA H 4 true a = some (.agg (l[i]).cells, H, .p) := by
 have e := grs_at l i hi
 cases h with
 | lst ex =>
  refine ⟨.elt (grs l) (i * 4), by simp [idxAddrA, asI, hi], fun H => ?_⟩
  have hl := grs_len l
  have h2 : i * 4 + 4 ≤ (grs l).length := by omega
  simp only [loadA, part, if_true, if_pos h2, e, pureV, Option.map_some]
 | nil h => subst h; simp at hi
theorem grs_free {M : Nat} : ∀ l : List Gr, (∀ g ∈ l, g.Ok M) → locFreeL (grs l) = true
 | [], _ => rfl
 | g :: l, h => by
  have ih := grs_free l fun x hx => h x (by simp [hx])
  have hg := (h g (by simp)).1.free
  simp only [grs, List.flatMap_cons] at ih ⊢
  rw [locFreeL_app, ih]
  simp [Gr.cells, Al.cells, locFreeL, AV.locFree, hg]
theorem IsG.free {M : Nat} {l : List Gr} {r : AV} (h : IsG l r) (hl : ∀ g ∈ l, g.Ok M) : r.locFree = true := by
 cases h with
 | lst ex => simpa [AV.locFree] using grs_free l hl
 | nil => rfl
end Go.AE.Fns
namespace Go.AE.Fns
open Go Go.AE Env
set_option maxRecDepth 100000
theorem load_org {H : AHeap} {b : Nat} {o : Origin} (hb : H[b]? = some (.cells o.cells 0 18 0)) : loadA H 18 true (.ptr b 0 18) = some (.agg o.cells, H, .r b) := by
 have hc : (0 : Nat) < 2 ∧ 18 ≤ 18 ∧ 18 ≤ o.cells.length ∧ 0 + 18 ≤ 18 := ⟨by omega, by omega, Nat.le_refl _, by omega⟩
 have h2 : 0 + 18 ≤ o.cells.length := Nat.le_refl _
 simp only [loadA, hb, if_pos hc, part, if_true, if_pos h2, readV, Option.map_some]
 rfl
theorem same_ans (x o : Origin) {H : AHeap} {q : Nat} (hq : H[q]? = some (.cells o.cells 0 18 0)) : E.Ans 395 [.agg x.cells, .ptr q 0 18] H (.bool (sameO x o)) (H ++ [.cells x.cells 0 18 0]) := by
 obtain ⟨v', H', ⟨rfl, rfl⟩, h⟩ : ∃ v' H', (v' = AV.bool (sameO x o) ∧ H' = H ++ [.cells x.cells 0 18 0]) ∧ E.Ans 395 [.agg x.cells, .ptr q 0 18] H v' H' := by
  refine V395 (K := fun v' H' => v' = .bool (sameO x o) ∧ H' = H ++ [.cells x.cells 0 18 0]) ?_
  have n1 : newVarA H (.agg x.cells) 0 = some (.ptr H.length 0 18, H ++ [.cells x.cells 0 18 0], .a H.length) := rfl
  have l1 : loadA (H ++ [.cells x.cells 0 18 0]) 18 true (.ptr H.length 0 18) = some (.agg x.cells, H ++ [.cells x.cells 0 18 0], .r H.length) := load_org (by simp)
  have l2 : loadA (H ++ [.cells x.cells 0 18 0]) 18 true (.ptr q 0 18) = some (.agg o.cells, H ++ [.cells x.cells 0 18 0], .r q) := load_org (get_app hq)
  have hs := fun H K => sameO_c x o H K
  simp (disch := omega) only [go_sem, Int.reduceBEq, Int.reduceBNe, Int.reduceLT, Int.reduceLE, Int.reduceAdd, Int.reduceSub, Int.reduceNeg, Nat.reduceLT, Nat.reduceLeDiff, Nat.reduceAdd, n1, l1, l2, hs]
 exact h
theorem idxO_loop {l : List Origin} {r : AV} {q : Nat} {o : Origin} {H0 : AHeap} (hv : VO H0 r l) (hq : H0[q]? = some (.cells o.cells 0 18 0)) (hl : l.length ≤ 2 ^ 40) {K0 : AHeap → Prop} {Kr : AV → AHeap → Prop} (h0 : l.any (fun x => sameO x o) = false → ∀ X, K0 (H0 ++ X)) (h1 : l.any (fun x => sameO x o) = true → ∀ (n : Nat) X, Kr (i64 n) (H0 ++ X)) :
    ∀ (k i : Nat) (X : AHeap), i + k = l.length → (l.drop i).any (fun x => sameO x o) = l.any (fun x => sameO x o) → L408_0 r (.func 395 [] [.ptr q 0 18]) (i64 l.length) (i64 i) (H0 ++ X) K0 Kr
  | 0, i, X, hi, ha => S408_0 fun _ => by
    rw [List.drop_eq_nil_of_le (by omega)] at ha
    have := h0 ha.symm X
    simp (disch := omega) only [go_sem, Int.reduceBEq, Int.reduceBNe, Int.reduceLT, Int.reduceLE, Int.reduceAdd, Int.reduceSub, Int.reduceNeg, Nat.reduceLT, Nat.reduceLeDiff, Nat.reduceAdd]
    rw [if_neg (by omega)]
    exact this
  | k + 1, i, X, hi, ha => S408_0 fun _ => by
    have hil : i < l.length := by omega
    obtain ⟨a, kd, g1, g2⟩ := (hv.app X).get hil
    have hc := fun K => C_shared (K := K) rfl (same_ans l[i] o (get_app (X := X) hq))
    rw [List.drop_eq_getElem_cons hil, List.any_cons] at ha
    cases e : sameO l[i] o
    · rw [e] at hc ha
      rw [Bool.false_or] at ha
      have ih := idxO_loop hv hq hl h0 h1 k (i + 1) (X ++ [.cells (l[i]).cells 0 18 0]) (by omega) ha
      rw [← List.append_assoc] at ih
      simp (disch := omega) only [go_sem, Int.reduceBEq, Int.reduceBNe, Int.reduceLT, Int.reduceLE, Int.reduceAdd, Int.reduceSub, Int.reduceNeg, Nat.reduceLT, Nat.reduceLeDiff, Nat.reduceAdd, g1, g2, hc]
      rw [if_pos hil]
      exact ih
    · rw [e] at hc ha
      rw [Bool.true_or] at ha
      have := h1 ha.symm i (X ++ [.cells (l[i]).cells 0 18 0])
      rw [← List.append_assoc] at this
      simp (disch := omega) only [go_sem, Int.reduceBEq, Int.reduceBNe, Int.reduceLT, Int.reduceLE, Int.reduceAdd, Int.reduceSub, Int.reduceNeg, Nat.reduceLT, Nat.reduceLeDiff, Nat.reduceAdd, g1, g2, hc]
      rw [if_pos hil]
      exact this
theorem idxO_ans {l : List Origin} {r : AV} {q : Nat} {o : Origin} {H : AHeap} (hv : VO H r l) (hq : H[q]? = some (.cells o.cells 0 18 0)) (hl : l.length ≤ 2 ^ 40) : ∃ (n : Int) (X : AHeap), decide (n ≥ 0) = l.any (fun x => sameO x o) ∧ E.Ans 408 [r, .func 395 [] [.ptr q 0 18]] H (i64 n) (H ++ X) := by
 obtain ⟨v', H', ⟨n, X, rfl, hn, rfl⟩, h⟩ : ∃ v' H', (∃ (n : Int) (X : AHeap), v' = i64 n ∧ decide (n ≥ 0) = l.any (fun x => sameO x o) ∧ H' = H ++ X) ∧ E.Ans 408 [r, .func 395 [] [.ptr q 0 18]] H v' H' := by
  refine V408 (K := fun v' H' => ∃ (n : Int) (X : AHeap), v' = i64 n ∧ decide (n ≥ 0) = l.any (fun x => sameO x o) ∧ H' = H ++ X) ?_
  have hlen := fun H' => hv.len H'
  have hlp := fun {K0 Kr} h0 h1 => idxO_loop (K0 := K0) (Kr := Kr) hv hq hl h0 h1 l.length 0 [] (by omega) rfl
  simp (disch := omega) only [go_sem, Int.reduceBEq, Int.reduceBNe, Int.reduceLT, Int.reduceLE, Int.reduceAdd, Int.reduceSub, Int.reduceNeg, Nat.reduceLT, Nat.reduceLeDiff, Nat.reduceAdd, hlen]
  rw [List.append_nil] at hlp
  refine hlp (fun ha X => ?_) (fun ha n X => ?_)
  ·exact ⟨-1, X, rfl, by rw [ha]; rfl, rfl⟩
  ·exact ⟨n, X, rfl, by rw [ha]; simp, rfl⟩
 exact ⟨n, X, hn, h⟩
theorem contO_ans {l : List Origin} {r : AV} {q : Nat} {o : Origin} {H : AHeap} (hv : VO H r l) (hq : H[q]? = some (.cells o.cells 0 18 0)) (hl : l.length ≤ 2 ^ 40) : ∃ X : AHeap, E.Ans 396 [r, .func 395 [] [.ptr q 0 18]] H (.bool (l.any (fun x => sameO x o))) (H ++ X) := by
 obtain ⟨n, X, hn, hi⟩ := idxO_ans hv hq hl
 have hc := fun K => C_shared (K := K) (by simp [locFreeL, AV.locFree]) hi
 obtain ⟨v', H', ⟨rfl, rfl⟩, h⟩ : ∃ v' H', (v' = AV.bool (l.any (fun x => sameO x o)) ∧ H' = H ++ X) ∧ E.Ans 396 [r, .func 395 [] [.ptr q 0 18]] H v' H' := by
  refine V396 (K := fun v' H' => v' = .bool (l.any (fun x => sameO x o)) ∧ H' = H ++ X) ?_
  simp (disch := omega) only [go_sem, Int.reduceBEq, Int.reduceBNe, Int.reduceLT, Int.reduceLE, Int.reduceAdd, Int.reduceSub, Int.reduceNeg, Nat.reduceLT, Nat.reduceLeDiff, Nat.reduceAdd, hc, hn]
 exact ⟨X, h⟩
theorem has_ans {a : Al} (s o : Origin) {H : AHeap} (hv : VO H a.r a.os) (hl : a.os.length ≤ 2 ^ 40) : ∃ X : AHeap, E.Ans 382 [.agg a.cells, .agg s.cells, .agg o.cells] H (.bool (hasB a s o)) (H ++ X) := by
 obtain ⟨v', H', ⟨rfl, X, rfl⟩, h⟩ : ∃ v' H', (v' = AV.bool (hasB a s o) ∧ ∃ X, H' = H ++ X) ∧ E.Ans 382 [.agg a.cells, .agg s.cells, .agg o.cells] H v' H' := by
  refine V382 (K := fun v' H' => v' = .bool (hasB a s o) ∧ ∃ X, H' = H ++ X) ?_
  have n1 : newVarA H (.agg a.cells) 0 = some (.ptr H.length 0 3, H ++ [.cells a.cells 0 3 0], .a H.length) := rfl
  have n2 : newVarA (H ++ [.cells a.cells 0 3 0]) (.agg s.cells) 0 = some (.ptr (H.length + 1) 0 18, H ++ [.cells a.cells 0 3 0, .cells s.cells 0 18 0], .a (H.length + 1)) := by
   have e : newVarA (H ++ [.cells a.cells 0 3 0]) (.agg s.cells) 0 = some (.ptr (H ++ [ABlk.cells a.cells 0 3 0]).length 0 18, (H ++ [.cells a.cells 0 3 0]) ++ [.cells s.cells 0 18 0], .a (H ++ [ABlk.cells a.cells 0 3 0]).length) := rfl
   rw [e]; simp
  have n3 : newVarA (H ++ [.cells a.cells 0 3 0, .cells s.cells 0 18 0]) (.agg o.cells) 0 = some (.ptr (H.length + 2) 0 18, H ++ [.cells a.cells 0 3 0, .cells s.cells 0 18 0, .cells o.cells 0 18 0], .a (H.length + 2)) := by
   have e : newVarA (H ++ [.cells a.cells 0 3 0, .cells s.cells 0 18 0]) (.agg o.cells) 0 = some (.ptr (H ++ [ABlk.cells a.cells 0 3 0, .cells s.cells 0 18 0]).length 0 18, (H ++ [.cells a.cells 0 3 0, .cells s.cells 0 18 0]) ++ [.cells o.cells 0 18 0], .a (H ++ [ABlk.cells a.cells 0 3 0, .cells s.cells 0 18 0]).length) := rfl
   rw [e]; simp
  have g0 : (H ++ [.cells a.cells 0 3 0, .cells s.cells 0 18 0, .cells o.cells 0 18 0])[H.length]? = some (.cells a.cells 0 3 0) := by simp
  have g1 : (H ++ [.cells a.cells 0 3 0, .cells s.cells 0 18 0, .cells o.cells 0 18 0])[H.length + 1]? = some (.cells s.cells 0 18 0) := by simp [List.getElem?_append_right]
  have g2 : (H ++ [.cells a.cells 0 3 0, .cells s.cells 0 18 0, .cells o.cells 0 18 0])[H.length + 2]? = some (.cells o.cells 0 18 0) := by simp [List.getElem?_append_right]
  have hv' := hv.app [.cells a.cells 0 3 0, .cells s.cells 0 18 0, .cells o.cells 0 18 0]
  generalize hH : H ++ [ABlk.cells a.cells 0 3 0, .cells s.cells 0 18 0, .cells o.cells 0 18 0] = H3 at *
  have la : loadA H3 1 false (.ptr H.length 0 3) = some (.bool a.all, H3, .r H.length) := load_at g0 (by omega) (by omega) (Nat.le_refl _) (by omega) rfl
  have lb : loadA H3 1 false (.ptr H.length 1 3) = some (.bool a.self, H3, .r H.length) := load_at g0 (by omega) (by omega) (Nat.le_refl _) (by omega) rfl
  have lr : loadA H3 1 false (.ptr H.length 2 3) = some (a.r, H3, .r H.length) := load_at g0 (by omega) (by omega) (Nat.le_refl _) (by omega) rfl
  have ls := load_org g1
  have lo := load_org g2
  have hs := fun H K => sameO_c s o H K
  obtain ⟨X, hX⟩ := contO_ans hv' g2 hl
  have hc := fun K => C_shared (K := K) (by simp [locFreeL, AV.locFree]) hX
  have fx : ∃ X, H3 = H ++ X := ⟨_, hH.symm⟩
  have fy : ∃ Y, H3 ++ X = H ++ Y := ⟨_, by rw [← hH, List.append_assoc]⟩
  unfold hasB
  cases e1 : a.all
  ·rw [e1] at la
   cases e2 : a.self
   ·rw [e2] at lb
    simp (disch := omega) only [go_sem, Int.reduceBEq, Int.reduceBNe, Int.reduceLT, Int.reduceLE, Int.reduceAdd, Int.reduceSub, Int.reduceNeg, Nat.reduceLT, Nat.reduceLeDiff, Nat.reduceAdd, n1, n2, n3, la, lb, lr, ls, lo, hs, hc, Nat.zero_add, Nat.add_zero, Bool.false_or, Bool.false_and]
    exact fy
   ·rw [e2] at lb
    cases e3 : sameO s o
    ·rw [e3] at hs
     simp (disch := omega) only [go_sem, Int.reduceBEq, Int.reduceBNe, Int.reduceLT, Int.reduceLE, Int.reduceAdd, Int.reduceSub, Int.reduceNeg, Nat.reduceLT, Nat.reduceLeDiff, Nat.reduceAdd, n1, n2, n3, la, lb, lr, ls, lo, hs, hc, Nat.zero_add, Nat.add_zero, Bool.false_or, Bool.true_and]
     exact fy
    ·rw [e3] at hs
     simp (disch := omega) only [go_sem, Int.reduceBEq, Int.reduceBNe, Int.reduceLT, Int.reduceLE, Int.reduceAdd, Int.reduceSub, Int.reduceNeg, Nat.reduceLT, Nat.reduceLeDiff, Nat.reduceAdd, n1, n2, n3, la, lb, lr, ls, lo, hs, hc, Nat.zero_add, Nat.add_zero, Bool.false_or, Bool.true_and, Bool.true_or]
     exact fx
  ·rw [e1] at la
   simp (disch := omega) only [go_sem, Int.reduceBEq, Int.reduceBNe, Int.reduceLT, Int.reduceLE, Int.reduceAdd, Int.reduceSub, Int.reduceNeg, Nat.reduceLT, Nat.reduceLeDiff, Nat.reduceAdd, n1, n2, n3, la, lb, lr, ls, lo, hs, hc, Nat.zero_add, Nat.add_zero, Bool.true_or]
   exact fx
 exact ⟨X, h⟩
theorem al_free {a : Al} (h : a.r.locFree = true) (s o : Origin) : locFreeL [.agg a.cells, .agg s.cells, .agg o.cells] = true := by
 have h1 := origin_free s
 have h2 := origin_free o
 simp [locFreeL, AV.locFree, Al.cells, h, h1, h2]
theorem has_c {a : Al} (h : IsO a.os a.r) (hl : a.os.length ≤ 2 ^ 40) (s o : Origin) (H : AHeap) (K : AV → AHeap → Kd → Prop) : E.C 382 [.agg a.cells, .agg s.cells, .agg o.cells] H K ↔ K (.bool (hasB a s o)) H .p := by
 obtain ⟨X, hX⟩ := has_ans s o (h.vo []) hl
 exact C_val hX (al_free h.free s o) (by kernel_rfl) rfl
theorem VO.alone {H : AHeap} {r : AV} {l : List Origin} (h : VO H r l) (e : r.locFree = true) : VO [] r l := by
 cases h with
 | lst ex => exact .lst ex
 | nil => exact .nil
 | sl => simp [AV.locFree] at e
end Go.AE.Fns
namespace Go.AE.Fns
open Go Go.AE Env
set_option maxRecDepth 100000
def atomB : AV → Bool
 | .bool _ | .int _ _ | .str _ => true
 | _ => false
theorem freeze_atom {v : AV} (h : atomB v = true) (H : AHeap) (k : Nat) : freeze H (k + 1) v = some v := by
 cases v <;> first | rfl | simp [atomB] at h
theorem orgs_atom {l : List Origin} {v : AV} (h : v ∈ orgs l) : atomB v = true := by
 obtain ⟨o, _, h⟩ := List.mem_flatMap.1 h
 have k : o.cells.all atomB = true := rfl
 exact List.all_eq_true.1 k v h
theorem freeze_os {l : List Origin} {r : AV} (h : IsO l r) (hl : l.length ≤ 2 ^ 20) (H : AHeap) : freeze H (899999999 + 1) r = some r := by
 cases h with
 | lst ex =>
  have := freezeL_all (H := H) (m := 1) (k := 899999999) (l := orgs l) (fun v hv => freeze_atom (orgs_atom hv) H 0) (by rw [orgs_len]; omega)
  simp only [freeze, this, Option.map_some]
 | nil => rfl
theorem freeze_aggk {H : AHeap} {m k : Nat} {l : List AV} (hv : ∀ v ∈ l, freeze H m v = some v) (hl : l.length + m ≤ k) : freeze H (k + 1) (.agg l) = some (.agg l) := by
 simp only [freeze, freezeL_all hv hl, Option.map_some]
theorem freeze_al {a : Al} (h : IsO a.os a.r) (hl : a.os.length ≤ 2 ^ 20) (H : AHeap) : ∀ v ∈ a.cells, freeze H (899999999 + 1) v = some v := by
 intro v hv
 simp only [Al.cells, List.mem_cons, List.not_mem_nil, or_false] at hv
 rcases hv with rfl | rfl | rfl
 ·exact freeze_atom rfl H _
 ·exact freeze_atom rfl H _
 ·exact freeze_os h hl H
theorem freeze_al2 {a : Al} (h : IsO a.os a.r) (hl : a.os.length ≤ 2 ^ 20) (b : Bool) (H : AHeap) : freeze H 1000000000 (.tuple [.agg a.cells, .bool b]) = some (.tuple [.agg a.cells, .bool b]) := by
 refine freeze_tuple (m := 949999999 + 1) (fun v hv => ?_) (by simp)
 simp only [List.mem_cons, List.not_mem_nil, or_false] at hv
 rcases hv with rfl | rfl
 ·exact freeze_aggk (freeze_al h hl H) (by simp [Al.cells])
 ·exact freeze_atom rfl H _
theorem freeze_gr {g : Gr} (h : IsO g.al.os g.al.r) (hl : g.al.os.length ≤ 2 ^ 20) (b : Bool) (H : AHeap) : freeze H 1000000000 (.tuple [.agg g.cells, .bool b]) = some (.tuple [.agg g.cells, .bool b]) := by
 refine freeze_tuple (m := 949999999 + 1) (fun v hv => ?_) (by simp)
 simp only [List.mem_cons, List.not_mem_nil, or_false] at hv
 rcases hv with rfl | rfl
 ·refine freeze_aggk (m := 899999999 + 1) (fun v hv => ?_) (by simp [Gr.cells, Al.cells])
  unfold Gr.cells at hv
  rcases List.mem_cons.1 hv with rfl | hv
  ·exact freeze_atom rfl H _
  ·exact freeze_al h hl H v hv
 ·exact freeze_atom rfl H _
theorem gr_free {g : Gr} (h : g.al.r.locFree = true) : locFreeL [.agg g.cells] = true := by simp [locFreeL, AV.locFree, Gr.cells, Al.cells, h]
theorem feature_c {g : Gr} (hg : g.al.r.locFree = true) (H : AHeap) (K : AV → AHeap → Kd → Prop) : E.C 404 [.agg g.cells] H K ↔ K (.str g.feat) H .p := by
 refine C_by (V404 (K := fun v' _ => v' = .str g.feat) ?_) (gr_free hg) (by kernel_rfl) fun _ => rfl
 have n1 : newVarA [] (.agg g.cells) 0 = some (.ptr 0 0 4, [.cells g.cells 0 4 0], .a 0) := rfl
 have l1 : loadA [.cells g.cells 0 4 0] 1 false (.ptr 0 0 4) = some (.str g.feat, [.cells g.cells 0 4 0], .r 0) := rfl
 simp (disch := omega) only [go_sem, Int.reduceBEq, Int.reduceBNe, Int.reduceLT, Int.reduceLE, Int.reduceAdd, Int.reduceSub, Int.reduceNeg, Nat.reduceLT, Nat.reduceLeDiff, Nat.reduceAdd, n1, l1, Nat.zero_add, Nat.add_zero]
theorem load_gr {H : AHeap} {b : Nat} {g : Gr} (hb : H[b]? = some (.cells g.cells 0 4 0)) : loadA H 4 true (.ptr b 0 4) = some (.agg g.cells, H, .r b) := by
 have hc : (0 : Nat) < 2 ∧ 4 ≤ 4 ∧ 4 ≤ g.cells.length ∧ 0 + 4 ≤ 4 := ⟨by omega, by omega, Nat.le_refl _, by omega⟩
 have h2 : 0 + 4 ≤ g.cells.length := Nat.le_refl _
 simp only [loadA, hb, if_pos hc, part, if_true, if_pos h2, readV, Option.map_some]
 rfl
theorem isFeat_ans {g : Gr} (hg : g.al.r.locFree = true) (f : List UInt8) {H : AHeap} {q p : Nat} (hq : H[q]? = some (.cells [.func 404 [] []] 0 1 0)) (hp : H[p]? = some (.cells [.str f] 0 1 0)) :
  E.Ans 417 [.agg g.cells, .ptr q 0 1, .ptr p 0 1] H (.bool (g.feat == f)) (H ++ [.cells g.cells 0 4 0]) := by
 obtain ⟨v', H', ⟨rfl, rfl⟩, h⟩ : ∃ v' H', (v' = AV.bool (g.feat == f) ∧ H' = H ++ [.cells g.cells 0 4 0]) ∧ E.Ans 417 [.agg g.cells, .ptr q 0 1, .ptr p 0 1] H v' H' := by
  refine V417 (K := fun v' H' => v' = .bool (g.feat == f) ∧ H' = H ++ [.cells g.cells 0 4 0]) ?_
  have n1 : newVarA H (.agg g.cells) 0 = some (.ptr H.length 0 4, H ++ [.cells g.cells 0 4 0], .a H.length) := rfl
  have l1 : loadA (H ++ [.cells g.cells 0 4 0]) 1 false (.ptr q 0 1) = some (.func 404 [] [], H ++ [.cells g.cells 0 4 0], .r q) := load_at (get_app hq) (by omega) (by omega) (by simp) (by omega) rfl
  have l2 : loadA (H ++ [.cells g.cells 0 4 0]) 4 true (.ptr H.length 0 4) = some (.agg g.cells, H ++ [.cells g.cells 0 4 0], .r H.length) := load_gr (by simp)
  have l3 : loadA (H ++ [.cells g.cells 0 4 0]) 1 false (.ptr p 0 1) = some (.str f, H ++ [.cells g.cells 0 4 0], .r p) := load_at (get_app hp) (by omega) (by omega) (by simp) (by omega) rfl
  have hc := fun H K => feature_c hg H K
  simp (disch := omega) only [go_sem, Int.reduceBEq, Int.reduceBNe, Int.reduceLT, Int.reduceLE, Int.reduceAdd, Int.reduceSub, Int.reduceNeg, Nat.reduceLT, Nat.reduceLeDiff, Nat.reduceAdd, n1, l1, l2, l3, hc]
  exact draw_reads (by rfl) (by kernel_rfl)
 exact h
def findG (l : List Gr) (f : List UInt8) : Option Gr := l.find? fun g => g.feat == f
theorem findG_mem {l : List Gr} {f : List UInt8} {g : Gr} (h : findG l f = some g) : g ∈ l := List.mem_of_find?_eq_some h
theorem idxG_loop {l : List Gr} {r : AV} {q p M : Nat} {f : List UInt8} {H0 : AHeap} (hv : IsG l r) (hk : ∀ g ∈ l, g.Ok M) (hq : H0[q]? = some (.cells [.func 404 [] []] 0 1 0)) (hp : H0[p]? = some (.cells [.str f] 0 1 0)) (hl : l.length ≤ 2 ^ 40) {K0 : AHeap → Prop} {Kr : AV → AHeap → Prop}
    (h0 : findG l f = none → ∀ X, K0 (H0 ++ X)) (h1 : ∀ (i : Nat) (hi : i < l.length), findG l f = some l[i] → ∀ X, Kr (i64 i) (H0 ++ X)) :
    ∀ (k i : Nat) (X : AHeap), i + k = l.length → findG (l.drop i) f = findG l f → L418_0 r (.func 417 [] [.ptr q 0 1, .ptr p 0 1]) (i64 l.length) (i64 i) (H0 ++ X) K0 Kr
  | 0, i, X, hi, ha => S418_0 fun _ => by
    rw [List.drop_eq_nil_of_le (by omega)] at ha
    have := h0 ha.symm X
    simp (disch := omega) only [go_sem, Int.reduceBEq, Int.reduceBNe, Int.reduceLT, Int.reduceLE, Int.reduceAdd, Int.reduceSub, Int.reduceNeg, Nat.reduceLT, Nat.reduceLeDiff, Nat.reduceAdd]
    rw [if_neg (by omega)]
    exact this
  | k + 1, i, X, hi, ha => S418_0 fun _ => by
    have hil : i < l.length := by omega
    obtain ⟨a, g1, g2⟩ := hv.get hil
    have hc := fun K => C_shared (K := K) (by simp [locFreeL, AV.locFree]) (isFeat_ans (hk _ (List.getElem_mem hil)).1.free f (get_app (X := X) hq) (get_app (X := X) hp))
    have ha0 := ha
    rw [List.drop_eq_getElem_cons hil] at ha
    unfold findG at ha
    rw [List.find?_cons] at ha
    cases e : (l[i]).feat == f
    · rw [e] at hc ha
      have ih := idxG_loop hv hk hq hp hl h0 h1 k (i + 1) (X ++ [.cells (l[i]).cells 0 4 0]) (by omega) ha
      rw [← List.append_assoc] at ih
      simp (disch := omega) only [go_sem, Int.reduceBEq, Int.reduceBNe, Int.reduceLT, Int.reduceLE, Int.reduceAdd, Int.reduceSub, Int.reduceNeg, Nat.reduceLT, Nat.reduceLeDiff, Nat.reduceAdd, g1, g2, hc]
      rw [if_pos hil]
      exact ih
    · rw [e] at hc ha
      have := h1 i hil ha.symm (X ++ [.cells (l[i]).cells 0 4 0])
      rw [← List.append_assoc] at this
      simp (disch := omega) only [go_sem, Int.reduceBEq, Int.reduceBNe, Int.reduceLT, Int.reduceLE, Int.reduceAdd, Int.reduceSub, Int.reduceNeg, Nat.reduceLT, Nat.reduceLeDiff, Nat.reduceAdd, g1, g2, hc]
      rw [if_pos hil]
      exact this
theorem idxG_ans {l : List Gr} {r : AV} {q p M : Nat} {f : List UInt8} {H : AHeap} (hv : IsG l r) (hk : ∀ g ∈ l, g.Ok M) (hq : H[q]? = some (.cells [.func 404 [] []] 0 1 0)) (hp : H[p]? = some (.cells [.str f] 0 1 0)) (hl : l.length ≤ 2 ^ 40) :
  ∃ (n : Int) (X : AHeap), ((n = -1 ∧ findG l f = none) ∨ ∃ (i : Nat) (hi : i < l.length), n = i ∧ findG l f = some l[i]) ∧ E.Ans 418 [r, .func 417 [] [.ptr q 0 1, .ptr p 0 1]] H (i64 n) (H ++ X) := by
 obtain ⟨v', H', ⟨n, X, rfl, hn, rfl⟩, h⟩ : ∃ v' H', (∃ (n : Int) (X : AHeap), v' = i64 n ∧ ((n = -1 ∧ findG l f = none) ∨ ∃ (i : Nat) (hi : i < l.length), n = i ∧ findG l f = some l[i]) ∧ H' = H ++ X) ∧ E.Ans 418 [r, .func 417 [] [.ptr q 0 1, .ptr p 0 1]] H v' H' := by
  refine V418 (K := fun v' H' => ∃ (n : Int) (X : AHeap), v' = i64 n ∧ ((n = -1 ∧ findG l f = none) ∨ ∃ (i : Nat) (hi : i < l.length), n = i ∧ findG l f = some l[i]) ∧ H' = H ++ X) ?_
  have hlen := fun H' => hv.len H'
  generalize hP : (fun (v' : AV) (H' : AHeap) => ∃ (n : Int) (X : AHeap), v' = i64 n ∧ ((n = -1 ∧ findG l f = none) ∨ ∃ (i : Nat) (hi : i < l.length), n = i ∧ findG l f = some l[i]) ∧ H' = H ++ X) = P
  have hlp := fun {K0 Kr} h0 h1 => idxG_loop (K0 := K0) (Kr := Kr) hv hk hq hp hl h0 h1 l.length 0 [] (by omega) rfl
  simp (disch := omega) only [go_sem, Int.reduceBEq, Int.reduceBNe, Int.reduceLT, Int.reduceLE, Int.reduceAdd, Int.reduceSub, Int.reduceNeg, Nat.reduceLT, Nat.reduceLeDiff, Nat.reduceAdd, hlen]
  rw [List.append_nil] at hlp
  refine hlp (fun ha X => ?_) (fun i hi ha X => ?_)
  ·subst hP; exact ⟨-1, X, rfl, .inl ⟨rfl, ha⟩, rfl⟩
  ·subst hP; exact ⟨i, X, rfl, .inr ⟨i, hi, rfl, ha⟩, rfl⟩
 exact ⟨n, X, hn, h⟩
def noG : Gr := { feat := [], al := {} }
theorem first_c {l : List Gr} {r : AV} {M : Nat} (hv : IsG l r) (hk : ∀ g ∈ l, g.Ok M) (hM : M ≤ 2 ^ 20) (hl : l.length ≤ 2 ^ 40) (f : List UInt8) (H : AHeap) (K : AV → AHeap → Kd → Prop) :
  E.C 405 [r, .str f, .func 404 [] []] H K ↔ K (.tuple [.agg ((findG l f).getD noG).cells, .bool (findG l f).isSome]) H .p := by
 have hf : ∀ Hc, freeze Hc 1000000000 (.tuple [.agg ((findG l f).getD noG).cells, .bool (findG l f).isSome]) = some (.tuple [.agg ((findG l f).getD noG).cells, .bool (findG l f).isSome]) := by
  intro Hc
  cases e : findG l f with
  | none => rfl
  | some g =>
   have hg := hk g (findG_mem e)
   exact freeze_gr hg.1 (by have := hg.2.1; omega) _ Hc
 refine C_by (V405 (K := fun v' _ => v' = .tuple [.agg ((findG l f).getD noG).cells, .bool (findG l f).isSome]) ?_) (by have := hv.free hk; simp [locFreeL, AV.locFree, this]) (by kernel_rfl) hf
 have n1 : newVarA [] (.str f) 0 = some (.ptr 0 0 1, [.cells [.str f] 0 1 0], .a 0) := rfl
 have n2 : newVarA [.cells [.str f] 0 1 0] (.func 404 [] []) 0 = some (.ptr 1 0 1, [.cells [.str f] 0 1 0, .cells [.func 404 [] []] 0 1 0], .a 1) := rfl
 have n3 : fAlloc [.str [], .bool false, .bool false, .nilsl] 0 [.cells [.str f] 0 1 0, .cells [.func 404 [] []] 0 1 0] = some (.ptr 2 0 4, [.cells [.str f] 0 1 0, .cells [.func 404 [] []] 0 1 0, .cells noG.cells 0 4 0], .a 2) := rfl
 obtain ⟨n, X, hn, hi⟩ := idxG_ans (H := [.cells [.str f] 0 1 0, .cells [.func 404 [] []] 0 1 0, .cells noG.cells 0 4 0]) (q := 1) (p := 0) hv hk rfl rfl hl
 have hc := fun K => C_shared (K := K) (by simp [locFreeL, AV.locFree]) hi
 have n4 : fAlloc [.str [], .bool false, .bool false, .nilsl] 0 ([.cells [.str f] 0 1 0, .cells [.func 404 [] []] 0 1 0, .cells noG.cells 0 4 0] ++ X) = some (.ptr ([ABlk.cells [.str f] 0 1 0, .cells [.func 404 [] []] 0 1 0, .cells noG.cells 0 4 0] ++ X).length 0 4, ([.cells [.str f] 0 1 0, .cells [.func 404 [] []] 0 1 0, .cells noG.cells 0 4 0] ++ X) ++ [.cells noG.cells 0 4 0], .a ([ABlk.cells [.str f] 0 1 0, .cells [.func 404 [] []] 0 1 0, .cells noG.cells 0 4 0] ++ X).length) := rfl
 have s4 : storeA (([.cells [.str f] 0 1 0, .cells [.func 404 [] []] 0 1 0, .cells noG.cells 0 4 0] ++ X) ++ [.cells noG.cells 0 4 0]) 4 (.ptr 2 0 4) (.agg noG.cells) = some (undefA, ([.cells [.str f] 0 1 0, .cells [.func 404 [] []] 0 1 0, .cells noG.cells 0 4 0] ++ X) ++ [.cells noG.cells 0 4 0], .w 2) := rfl
 have s5 : ∀ g : Gr, storeA ([.cells [.str f] 0 1 0, .cells [.func 404 [] []] 0 1 0, .cells noG.cells 0 4 0] ++ X) 4 (.ptr 2 0 4) (.agg g.cells) = some (undefA, [.cells [.str f] 0 1 0, .cells [.func 404 [] []] 0 1 0, .cells g.cells 0 4 0] ++ X, .w 2) := fun _ => rfl
 have l5 : ∀ g : Gr, loadA (.cells [.str f] 0 1 0 :: .cells [.func 404 [] []] 0 1 0 :: .cells g.cells 0 4 0 :: X) 4 true (.ptr 2 0 4) = some (.agg g.cells, .cells [.str f] 0 1 0 :: .cells [.func 404 [] []] 0 1 0 :: .cells g.cells 0 4 0 :: X, .r 2) := fun _ => load_gr rfl
 generalize hH : [ABlk.cells [.str f] 0 1 0, .cells [.func 404 [] []] 0 1 0, .cells noG.cells 0 4 0] ++ X = H3 at hc n4 s4 s5
 have l4 : loadA (H3 ++ [.cells noG.cells 0 4 0]) 4 true (.ptr H3.length 0 4) = some (.agg noG.cells, H3 ++ [.cells noG.cells 0 4 0], .r H3.length) := load_gr (by simp)
 have l6 : loadA (H3 ++ [.cells noG.cells 0 4 0]) 4 true (.ptr 2 0 4) = some (.agg noG.cells, H3 ++ [.cells noG.cells 0 4 0], .r 2) := by subst hH; exact load_gr rfl
 rcases hn with ⟨rfl, e⟩ | ⟨i, hil, rfl, e⟩
 ·rw [e]
  have d1 : decide ((-1 : Int) < 0) = true := rfl
  simp (disch := omega) only [go_sem, Int.reduceBEq, Int.reduceBNe, Int.reduceLT, Int.reduceLE, Int.reduceAdd, Int.reduceSub, Int.reduceNeg, Nat.reduceLT, Nat.reduceLeDiff, Nat.reduceAdd, n1, n2, n3, hc, d1, n4, l4, s4, l6]
  rfl
 ·rw [e]
  have d1 : decide (((i : Nat) : Int) < 0) = false := decide_eq_false (by omega)
  obtain ⟨a, g1, g2⟩ := hv.get hil
  simp (disch := omega) only [go_sem, Int.reduceBEq, Int.reduceBNe, Int.reduceLT, Int.reduceLE, Int.reduceAdd, Int.reduceSub, Int.reduceNeg, Nat.reduceLT, Nat.reduceLeDiff, Nat.reduceAdd, n1, n2, n3, hc, d1, g1, g2, s5, l5]
  rfl
end Go.AE.Fns
namespace Go.AE.Fns
open Go Go.AE Env
set_option maxRecDepth 100000
theorem lives16_ans : ∃ Hl, E.Ans 381 [] [] (.bool true) Hl := by
 have h := r1
 unfold run at h
 rw [callsF_eq] at h
 cases hc : callsA lpT.get keep (hookA keep onceN once) 100000 false 381 [] [] with
 | none => rw [hc] at h; simp [isT] at h
 | some p =>
  obtain ⟨v, Hl⟩ := p
  rw [hc] at h
  unfold isT at h
  split at h
  ·rename_i heq
   simp at heq
   exact ⟨Hl, 100000, by show callsA E.lp E.keep E.hk 100000 false 381 [] [] = _; rw [← heq.1]; exact hc⟩
  ·simp at h
theorem lives16_c (H : AHeap) (K : AV → AHeap → Kd → Prop) : E.C 381 [] H K ↔ K (.bool true) H .p := by
 obtain ⟨Hl, h⟩ := lives16_ans
 exact C_by (v := .bool true) ⟨_, Hl, rfl, h⟩ rfl (by kernel_rfl) fun _ => rfl
end Go.AE.Fns
namespace Go.AE.Fns
open Go Go.AE Env
set_option maxRecDepth 100000
def defs : List (List UInt8) := [[112, 105, 99, 116, 117, 114, 101, 45, 105, 110, 45, 112, 105, 99, 116, 117, 114, 101], [115, 121, 110, 99, 45, 120, 104, 114], [103, 97, 109, 101, 112, 97, 100]]
def ruleB (l : List Gr) (f : List UInt8) : Al × Bool := match findG l f with
 | some g => (g.al, true)
 | none => ({ all := defs.contains f, self := !defs.contains f }, false)
theorem rule_ok {l : List Gr} {M : Nat} (hk : ∀ g ∈ l, g.Ok M) (hM : M ≤ 2 ^ 20) (f : List UInt8) : IsO (ruleB l f).1.os (ruleB l f).1.r ∧ (ruleB l f).1.os.length ≤ 2 ^ 20 := by
  unfold ruleB
  cases e : findG l f with
  | none => exact ⟨.nil rfl, by simp⟩
  | some g =>
    have hg := hk g (findG_mem e)
    exact ⟨hg.1, by have := hg.2.1; show g.al.os.length ≤ _; omega⟩
theorem rule_c {l : List Gr} {r : AV} {M : Nat} (hv : IsG l r) (hk : ∀ g ∈ l, g.Ok M) (hM : M ≤ 2 ^ 20) (hl : l.length ≤ 2 ^ 40) (f : List UInt8) (H : AHeap) (K : AV → AHeap → Kd → Prop) :
  E.C 397 [r, .str f] H K ↔ K (.tuple [.agg (ruleB l f).1.cells, .bool (ruleB l f).2]) H .p := by
 have ok := rule_ok hk hM f
 refine C_by (V397 (K := fun v' _ => v' = .tuple [.agg (ruleB l f).1.cells, .bool (ruleB l f).2]) ?_) (by have := hv.free hk; simp [locFreeL, AV.locFree, this]) (by kernel_rfl) (freeze_al2 ok.1 ok.2 _)
 have n1 : fAlloc [.bool false, .bool false, .nilsl] 0 [] = some (.ptr 0 0 3, [.cells (Al.cells {}) 0 3 0], .a 0) := rfl
 have n2 : fAlloc [.str [], .bool false, .bool false, .nilsl] 0 [.cells (Al.cells {}) 0 3 0] = some (.ptr 1 0 4, [.cells (Al.cells {}) 0 3 0, .cells noG.cells 0 4 0], .a 1) := rfl
 have s1 : ∀ g : Gr, storeA [.cells (Al.cells {}) 0 3 0, .cells noG.cells 0 4 0] 4 (.ptr 1 0 4) (.agg g.cells) = some (undefA, [.cells (Al.cells {}) 0 3 0, .cells g.cells 0 4 0], .w 1) := fun _ => rfl
 have l1 : ∀ g : Gr, loadA [.cells (Al.cells {}) 0 3 0, .cells g.cells 0 4 0] 3 true (.ptr 1 1 4) = some (.agg g.al.cells, [.cells (Al.cells {}) 0 3 0, .cells g.cells 0 4 0], .r 1) := fun _ => rfl
 have s2 : ∀ (g : Gr) (a : Al), storeA [.cells (Al.cells {}) 0 3 0, .cells g.cells 0 4 0] 3 (.ptr 0 0 3) (.agg a.cells) = some (undefA, [.cells a.cells 0 3 0, .cells g.cells 0 4 0], .w 0) := fun _ _ => rfl
 have l2 : ∀ (g : Gr) (a : Al), loadA [.cells a.cells 0 3 0, .cells g.cells 0 4 0] 3 true (.ptr 0 0 3) = some (.agg a.cells, [.cells a.cells 0 3 0, .cells g.cells 0 4 0], .r 0) := fun _ _ => rfl
 have hfi := fun H K => first_c hv hk hM hl f H K
 have hcn : ∀ (H : AHeap) (K : AV → AHeap → Kd → Prop), E.C 163 [.lst [.str [112, 105, 99, 116, 117, 114, 101, 45, 105, 110, 45, 112, 105, 99, 116, 117, 114, 101], .str [115, 121, 110, 99, 45, 120, 104, 114], .str [103, 97, 109, 101, 112, 97, 100]] 3 1 true, .str f] H K ↔ K (.bool (defs.contains f)) H .p := fun H K => containsS_c defs f true (by decide) H K
 have b1 : ∀ b : Bool, bldV [.bool false, .bool false, .nilsl] [(0, 1, .bool b), (1, 1, .bool (!b))] = some (.agg (Al.cells { all := b, self := !b })) := fun _ => rfl
 unfold ruleB
 cases e : findG l f with
 | none =>
  simp only [e, Option.getD_none, Option.isSome_none] at hfi
  simp (disch := omega) only [go_sem, Int.reduceBEq, Int.reduceBNe, Int.reduceLT, Int.reduceLE, Int.reduceAdd, Int.reduceSub, Int.reduceNeg, Nat.reduceLT, Nat.reduceLeDiff, Nat.reduceAdd, n1, n2, hfi, s1, hcn, b1, s2, l2]
 | some g =>
  simp only [e, Option.getD_some, Option.isSome_some] at hfi
  simp (disch := omega) only [go_sem, Int.reduceBEq, Int.reduceBNe, Int.reduceLT, Int.reduceLE, Int.reduceAdd, Int.reduceSub, Int.reduceNeg, Nat.reduceLT, Nat.reduceLeDiff, Nat.reduceAdd, n1, n2, hfi, s1, l1, s2, l2, Nat.zero_add]
def inhB (f : List UInt8) (p : Bool) (d a : List Gr) (s c : Origin) : Bool := (p && hasB (ruleB a f).1 s c) && (!(ruleB d f).2 || hasB (ruleB d f).1 s c)
theorem inherited_c {d a : List Gr} {rd ra : AV} {M : Nat} (hd : IsG d rd) (kd : ∀ g ∈ d, g.Ok M) (ld : d.length ≤ 2 ^ 40) (ha : IsG a ra) (ka : ∀ g ∈ a, g.Ok M) (la : a.length ≤ 2 ^ 40) (hM : M ≤ 2 ^ 20) (f : List UInt8) (p : Bool) (s c : Origin) (H : AHeap) (K : AV → AHeap → Kd → Prop) :
  E.C 384 [.str f, .bool p, rd, ra, .agg s.cells, .agg c.cells] H K ↔ K (.bool (inhB f p d a s c)) H .p := by
 refine C_by (V384 (K := fun v' _ => v' = .bool (inhB f p d a s c)) ?_) (by have h1 := hd.free kd; have h2 := ha.free ka; simp [locFreeL, AV.locFree, h1, h2, origin_free]) (by kernel_rfl) fun _ => rfl
 have n1 : newVarA [] (.agg s.cells) 0 = some (.ptr 0 0 18, [.cells s.cells 0 18 0], .a 0) := rfl
 have n2 : newVarA [.cells s.cells 0 18 0] (.agg c.cells) 0 = some (.ptr 1 0 18, [.cells s.cells 0 18 0, .cells c.cells 0 18 0], .a 1) := rfl
 have hrd := fun H K => rule_c hd kd hM ld f H K
 have hra := fun H K => rule_c ha ka hM la f H K
 have okd := rule_ok kd hM f
 have oka := rule_ok ka hM f
 have hhd := fun H K => has_c okd.1 (by omega) s c H K
 have hha := fun H K => has_c oka.1 (by omega) s c H K
 unfold inhB
 generalize (ruleB d f).2 = b at *
 generalize (ruleB d f).1 = x at *
 generalize (ruleB a f).1 = y at *
 have n3 : fAlloc [.bool false, .bool false, .nilsl] 0 [.cells s.cells 0 18 0, .cells c.cells 0 18 0] = some (.ptr 2 0 3, [.cells s.cells 0 18 0, .cells c.cells 0 18 0, .cells (Al.cells {}) 0 3 0], .a 2) := rfl
 have s3 : storeA [.cells s.cells 0 18 0, .cells c.cells 0 18 0, .cells (Al.cells {}) 0 3 0] 3 (.ptr 2 0 3) (.agg x.cells) = some (undefA, [.cells s.cells 0 18 0, .cells c.cells 0 18 0, .cells x.cells 0 3 0], .w 2) := rfl
 have n4 : fAlloc [.bool false, .bool false, .nilsl] 0 [.cells s.cells 0 18 0, .cells c.cells 0 18 0, .cells x.cells 0 3 0] = some (.ptr 3 0 3, [.cells s.cells 0 18 0, .cells c.cells 0 18 0, .cells x.cells 0 3 0, .cells (Al.cells {}) 0 3 0], .a 3) := rfl
 have s4 : storeA [.cells s.cells 0 18 0, .cells c.cells 0 18 0, .cells x.cells 0 3 0, .cells (Al.cells {}) 0 3 0] 3 (.ptr 3 0 3) (.agg y.cells) = some (undefA, [.cells s.cells 0 18 0, .cells c.cells 0 18 0, .cells x.cells 0 3 0, .cells y.cells 0 3 0], .w 3) := rfl
 generalize hH : [ABlk.cells s.cells 0 18 0, .cells c.cells 0 18 0, .cells x.cells 0 3 0, .cells y.cells 0 3 0] = H4 at s4
 have l0 : loadA H4 18 true (.ptr 0 0 18) = some (.agg s.cells, H4, .r 0) := by subst hH; rfl
 have l1 : loadA H4 18 true (.ptr 1 0 18) = some (.agg c.cells, H4, .r 1) := by subst hH; rfl
 have l2 : loadA H4 3 true (.ptr 2 0 3) = some (.agg x.cells, H4, .r 2) := by subst hH; rfl
 have l3 : loadA H4 3 true (.ptr 3 0 3) = some (.agg y.cells, H4, .r 3) := by subst hH; rfl
 generalize hasB x s c = hx at *
 generalize hasB y s c = hy at *
 cases p <;> cases hy <;> cases b <;> cases hx <;> simp (disch := omega) only [go_sem, Int.reduceBEq, Int.reduceBNe, Int.reduceLT, Int.reduceLE, Int.reduceAdd, Int.reduceSub, Int.reduceNeg, Nat.reduceLT, Nat.reduceLeDiff, Nat.reduceAdd, n1, n2, hrd, n3, s3, hra, n4, s4, l0, l1, l2, l3, hhd, hha] <;> rfl
theorem enabled_c {d : List Gr} {rd : AV} {M : Nat} (hd : IsG d rd) (kd : ∀ g ∈ d, g.Ok M) (ld : d.length ≤ 2 ^ 40) (hM : M ≤ 2 ^ 20) (f : List UInt8) (s o : Origin) (H : AHeap) (K : AV → AHeap → Kd → Prop) :
  E.C 385 [.str f, .bool false, rd, .agg s.cells, .agg o.cells] H K ↔ K (.bool false) H .p := by
 refine C_by (V385 (K := fun v' _ => v' = .bool false) ?_) (by have h1 := hd.free kd; simp [locFreeL, AV.locFree, h1, origin_free]) (by kernel_rfl) fun _ => rfl
 have n1 : newVarA [] (.agg s.cells) 0 = some (.ptr 0 0 18, [.cells s.cells 0 18 0], .a 0) := rfl
 have n2 : newVarA [.cells s.cells 0 18 0] (.agg o.cells) 0 = some (.ptr 1 0 18, [.cells s.cells 0 18 0, .cells o.cells 0 18 0], .a 1) := rfl
 have hrd := fun H K => rule_c hd kd hM ld f H K
 generalize (ruleB d f).2 = b at *
 generalize (ruleB d f).1 = x at *
 have n3 : fAlloc [.bool false, .bool false, .nilsl] 0 [.cells s.cells 0 18 0, .cells o.cells 0 18 0] = some (.ptr 2 0 3, [.cells s.cells 0 18 0, .cells o.cells 0 18 0, .cells (Al.cells {}) 0 3 0], .a 2) := rfl
 have s3 : storeA [.cells s.cells 0 18 0, .cells o.cells 0 18 0, .cells (Al.cells {}) 0 3 0] 3 (.ptr 2 0 3) (.agg x.cells) = some (undefA, [.cells s.cells 0 18 0, .cells o.cells 0 18 0, .cells x.cells 0 3 0], .w 2) := rfl
 simp (disch := omega) only [go_sem, Int.reduceBEq, Int.reduceBNe, Int.reduceLT, Int.reduceLE, Int.reduceAdd, Int.reduceSub, Int.reduceNeg, Nat.reduceLT, Nat.reduceLeDiff, Nat.reduceAdd, n1, n2, hrd, n3, s3]
theorem less_loop {l : List Gr} {r : AV} {M : Nat} {f : List UInt8} {s o : Origin} {ch : Bool} (hv : IsG l r) (hk : ∀ g ∈ l, g.Ok M) (hM : M ≤ 2 ^ 20) (hl : l.length ≤ 2 ^ 40) {K0 : AHeap → Prop} {Kr : AV → AHeap → Prop}
    (h0 : ∀ H, K0 H) (h1 : ∀ H, Kr (.bool true) H) (hch : ∀ g, findG l f = some g → ch = true → hasB g.al s o = true) :
    ∀ (k i : Nat) (X : AHeap), i + k = l.length → findG (l.drop i) f = findG l f → L383_0 (.str f) (.ptr 0 0 18) (.ptr 1 0 18) (.bool ch) r (i64 l.length) (i64 i) (.cells s.cells 0 18 0 :: .cells o.cells 0 18 0 :: X) K0 Kr
  | 0, i, X, hi, ha => S383_0 fun _ => by
    have := h0 (.cells s.cells 0 18 0 :: .cells o.cells 0 18 0 :: X)
    simp (disch := omega) only [go_sem, Int.reduceBEq, Int.reduceBNe, Int.reduceLT, Int.reduceLE, Int.reduceAdd, Int.reduceSub, Int.reduceNeg, Nat.reduceLT, Nat.reduceLeDiff, Nat.reduceAdd]
    rw [if_neg (by omega)]
    exact this
  | k + 1, i, X, hi, ha => S383_0 fun _ => by
    have hil : i < l.length := by omega
    obtain ⟨a, g1, g2⟩ := hv.get hil
    have hg := hk _ (List.getElem_mem hil)
    have n1 : fAlloc [.str [], .bool false, .bool false, .nilsl] 0 (.cells s.cells 0 18 0 :: .cells o.cells 0 18 0 :: X) = some (.ptr (ABlk.cells s.cells 0 18 0 :: .cells o.cells 0 18 0 :: X).length 0 4, (.cells s.cells 0 18 0 :: .cells o.cells 0 18 0 :: X) ++ [.cells noG.cells 0 4 0], .a (ABlk.cells s.cells 0 18 0 :: .cells o.cells 0 18 0 :: X).length) := rfl
    have ih := less_loop hv hk hM hl h0 h1 hch k (i + 1) (X ++ [.cells (l[i]).cells 0 4 0]) (by omega)
    have hcons : (ABlk.cells s.cells 0 18 0 :: .cells o.cells 0 18 0 :: (X ++ [.cells (l[i]).cells 0 4 0])) = (ABlk.cells s.cells 0 18 0 :: .cells o.cells 0 18 0 :: X) ++ [.cells (l[i]).cells 0 4 0] := rfl
    rw [hcons] at ih
    have q0 : (ABlk.cells s.cells 0 18 0 :: .cells o.cells 0 18 0 :: X)[0]? = some (.cells s.cells 0 18 0) := rfl
    have q1 : (ABlk.cells s.cells 0 18 0 :: .cells o.cells 0 18 0 :: X)[1]? = some (.cells o.cells 0 18 0) := rfl
    generalize hH : ABlk.cells s.cells 0 18 0 :: .cells o.cells 0 18 0 :: X = H2 at *
    have s1 : storeA (H2 ++ [.cells noG.cells 0 4 0]) 4 (.ptr H2.length 0 4) (.agg (l[i]).cells) = some (undefA, H2 ++ [.cells (l[i]).cells 0 4 0], .w H2.length) := by
      have e0 : (H2 ++ [ABlk.cells noG.cells 0 4 0])[H2.length]? = some (.cells noG.cells 0 4 0) := by simp
      have e1 : (AV.agg (l[i]).cells).cells.length = 4 ∧ 0 < 4 := ⟨rfl, by decide⟩
      have e2 : (0 : Nat) = 0 ∧ 4 = noG.cells.length ∧ 0 + (AV.agg (l[i]).cells).cells.length ≤ 4 := ⟨rfl, rfl, Nat.le_refl _⟩
      have e3 : putCells noG.cells 0 (AV.agg (l[i]).cells).cells = (l[i]).cells := rfl
      unfold storeA
      simp only
      rw [if_pos e1]
      unfold storeCellsA
      rw [e0]
      show Option.map _ (if (0 : Nat) = 0 ∧ 4 = noG.cells.length ∧ 0 + (AV.agg (l[i]).cells).cells.length ≤ 4 then _ else none) = _
      rw [if_pos e2, e3]
      simp
    have l1 : loadA (H2 ++ [.cells (l[i]).cells 0 4 0]) 1 false (.ptr H2.length 0 4) = some (.str (l[i]).feat, H2 ++ [.cells (l[i]).cells 0 4 0], .r H2.length) := load_at (cs := (l[i]).cells) (g := 0) (wv := 4) (st := 0) (by simp) (by omega) (by omega) (Nat.le_refl _) (by omega) rfl
    have l2 : loadA (H2 ++ [.cells (l[i]).cells 0 4 0]) 3 true (.ptr H2.length 1 4) = some (.agg (l[i]).al.cells, H2 ++ [.cells (l[i]).cells 0 4 0], .r H2.length) := by
      have e0 : (H2 ++ [ABlk.cells (l[i]).cells 0 4 0])[H2.length]? = some (.cells (l[i]).cells 0 4 0) := by simp
      have hc : (0 : Nat) < 2 ∧ 4 ≤ 4 ∧ 4 ≤ (l[i]).cells.length ∧ 1 + 3 ≤ 4 := ⟨by omega, by omega, Nat.le_refl _, by omega⟩
      have h2 : 1 + 3 ≤ (l[i]).cells.length := Nat.le_refl _
      simp only [loadA, e0, if_pos hc, part, if_true, if_pos h2, readV, Option.map_some]
      rfl
    have l3 : loadA (H2 ++ [.cells (l[i]).cells 0 4 0]) 18 true (.ptr 0 0 18) = some (.agg s.cells, H2 ++ [.cells (l[i]).cells 0 4 0], .r 0) := load_org (get_app q0)
    have l4 : loadA (H2 ++ [.cells (l[i]).cells 0 4 0]) 18 true (.ptr 1 0 18) = some (.agg o.cells, H2 ++ [.cells (l[i]).cells 0 4 0], .r 1) := load_org (get_app q1)
    have hh := fun H K => has_c hg.1 (by have := hg.2.1; omega) s o H K
    rw [List.drop_eq_getElem_cons hil] at ha
    unfold findG at ha
    rw [List.find?_cons] at ha
    cases e : ((l[i]).feat == f)
    · rw [e] at ha
      have ih' := ih ha
      simp (disch := omega) only [go_sem, Int.reduceBEq, Int.reduceBNe, Int.reduceLT, Int.reduceLE, Int.reduceAdd, Int.reduceSub, Int.reduceNeg, Nat.reduceLT, Nat.reduceLeDiff, Nat.reduceAdd, g1, g2, n1, s1, l1, e, Nat.add_zero]
      rw [if_pos hil]
      exact ih'
    · rw [e] at ha
      have hb := hch _ ha.symm
      have k1 := h1 (H2 ++ [.cells (l[i]).cells 0 4 0])
      cases ch
      · simp (disch := omega) only [go_sem, Int.reduceBEq, Int.reduceBNe, Int.reduceLT, Int.reduceLE, Int.reduceAdd, Int.reduceSub, Int.reduceNeg, Nat.reduceLT, Nat.reduceLeDiff, Nat.reduceAdd, g1, g2, n1, s1, l1, e, Nat.add_zero]
        rw [if_pos hil]
        exact k1
      · rw [hb rfl] at hh
        simp (disch := omega) only [go_sem, Int.reduceBEq, Int.reduceBNe, Int.reduceLT, Int.reduceLE, Int.reduceAdd, Int.reduceSub, Int.reduceNeg, Nat.reduceLT, Nat.reduceLeDiff, Nat.reduceAdd, g1, g2, n1, s1, l1, l2, l3, l4, hh, e, Nat.add_zero]
        rw [if_pos hil]
        exact k1
theorem embedLess_ans {M : Nat} (f : List UInt8) {d a : List Gr} {rd ra : AV} (hd : IsG d rd) (ld : d.length ≤ M) (kd : ∀ g ∈ d, g.Ok M) (ha : IsG a ra) (la : a.length ≤ M) (ka : ∀ g ∈ a, g.Ok M) (s o : Origin) (hM : M ≤ 2 ^ 20 := by decide) :
  ∃ H', E.Ans 383 [.str f, rd, ra, .agg s.cells, .agg o.cells] [] (.bool true) H' := by
 obtain ⟨v', H', hv, h⟩ : ∃ v' H', v' = AV.bool true ∧ E.Ans 383 [.str f, rd, ra, .agg s.cells, .agg o.cells] [] v' H' := by
  refine V383 (K := fun v' _ => v' = .bool true) ?_
  have n1 : newVarA [] (.agg s.cells) 0 = some (.ptr 0 0 18, [.cells s.cells 0 18 0], .a 0) := rfl
  have n2 : newVarA [.cells s.cells 0 18 0] (.agg o.cells) 0 = some (.ptr 1 0 18, [.cells s.cells 0 18 0, .cells o.cells 0 18 0], .a 1) := rfl
  have l1 : loadA [.cells s.cells 0 18 0, .cells o.cells 0 18 0] 18 true (.ptr 0 0 18) = some (.agg s.cells, [.cells s.cells 0 18 0, .cells o.cells 0 18 0], .r 0) := rfl
  have l2 : loadA [.cells s.cells 0 18 0, .cells o.cells 0 18 0] 18 true (.ptr 1 0 18) = some (.agg o.cells, [.cells s.cells 0 18 0, .cells o.cells 0 18 0], .r 1) := rfl
  have i0 := fun H K => inherited_c hd kd (by omega) ha ka (by omega) hM f false s o H K
  have i1 := fun H K => inherited_c hd kd (by omega) ha ka (by omega) hM f true s o H K
  have e0 := fun H K => enabled_c hd kd (by omega) hM f s o H K
  rw [show inhB f false d a s o = false by simp [inhB]] at i0
  have hch : ∀ g, findG d f = some g → inhB f true d a s o = true → hasB g.al s o = true := by
   intro g hg hi
   unfold inhB ruleB at hi
   rw [hg] at hi
   simp at hi
   exact hi.2
  generalize inhB f true d a s o = ch at *
  have hlen := fun H' => hd.len H'
  have hlp := fun {K0 Kr} h0 h1 => less_loop (s := s) (o := o) (ch := ch) (f := f) (K0 := K0) (Kr := Kr) hd kd hM (by omega) h0 h1 hch d.length 0 [] (by omega) rfl
  simp (disch := omega) only [go_sem, Int.reduceBEq, Int.reduceBNe, Int.reduceLT, Int.reduceLE, Int.reduceAdd, Int.reduceSub, Int.reduceNeg, Nat.reduceLT, Nat.reduceLeDiff, Nat.reduceAdd, lives16_c, n1, n2, l1, l2, i0, i1, e0, hlen]
  exact hlp (fun _ => trivial) (fun _ => rfl)
 exact ⟨H', hv ▸ h⟩
end Go.AE.Fns
