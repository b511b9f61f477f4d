/- What the functions of origins answer, and the law over the evaluator. -/
import Derived.Test.YtibjieaohbnpgaaGreatDoorC2
import Derived.Test.YtibjieaohbnpgaaGreatDoorB4
import Derived.Test.YtibjieaohbnpgaaGreatDoorB5
set_option linter.all false
set_option linter.unusedSimpArgs false
set_option linter.unusedVariables false
set_option linter.unnecessarySimpa false
set_option linter.deprecated false
namespace Go.AE.Fns
open Go Go.AE Env
set_option maxRecDepth 100000
structure Host.In (h : Host) : Prop where
 name : h.name.length ≤ 2 ^ 29
 kind : h.kind < 256
 v4 : h.v4 < 2 ^ 32
 v6 : ∀ x ∈ h.v6, x < 65536
end Go.AE.Fns
namespace Go.AE.Fns
open Go Go.AE Env
set_option maxRecDepth 100000
structure Origin where
 opaq : Bool := false
 id : Int := 0
 scheme : List UInt8 := []
 host : Host := { kind := 0 }
 port : Int := 0
 hasPort : Bool := false
 domain : List UInt8 := []
 hasDomain : Bool := false
 deriving DecidableEq
def Origin.cells (o : Origin) : List AV := [.bool o.opaq, i64 o.id, .str o.scheme] ++ o.host.cells ++ [i64 o.port, .bool o.hasPort, .str o.domain, .bool o.hasDomain]
abbrev originT : ETy := .st [(0, 1, false, .b), (1, 1, false, .i), (2, 1, false, .s), (3, 11, true, hostT), (14, 1, false, .i), (15, 1, false, .b), (16, 1, false, .s), (17, 1, false, .b)]
theorem origin_eq (a b : Origin) : aEq originT (.agg a.cells) (.agg b.cells) = some (decide (a = b)) := by
 have hh : aEq originT (.agg a.cells) (.agg b.cells) = some ((a.opaq == b.opaq) && ((a.id == b.id) && ((a.scheme == b.scheme) && (decide (a.host = b.host) && ((a.port == b.port) && ((a.hasPort == b.hasPort) && ((a.domain == b.domain) && ((a.hasDomain == b.hasDomain) && true)))))))) := by
  rw [aEq_st]
  exact aEqF_cons rfl rfl aEq_bb (aEqF_cons rfl rfl aEq_i (aEqF_cons rfl rfl aEq_s (aEqF_cons rfl rfl (host_eq _ _) (aEqF_cons rfl rfl aEq_i (aEqF_cons rfl rfl aEq_bb (aEqF_cons rfl rfl aEq_s (aEqF_cons rfl rfl aEq_bb aEqF_nil)))))))
 rw [hh]
 congr 1
 rw [Bool.eq_iff_iff]
 cases a; cases b
 simp only [Bool.and_eq_true, beq_iff_eq, decide_eq_true_eq, Origin.mk.injEq, and_true]
theorem origin_eqV (a b : Origin) {ng : Bool} : eqV ng originT (.agg a.cells) (.agg b.cells) = some (.bool (if ng then !decide (a = b) else decide (a = b))) := by
 unfold eqV
 rw [origin_eq]; rfl
structure Origin.In (o : Origin) : Prop where
 host : o.host.In
 scheme : o.scheme.length ≤ 2 ^ 29
 domain : o.domain.length ≤ 2 ^ 29
 id : -(2 ^ 63 : Int) ≤ o.id ∧ o.id < 2 ^ 63
 port : -(2 ^ 63 : Int) ≤ o.port ∧ o.port < 2 ^ 63
theorem origin_free (o : Origin) : locFreeL o.cells = true := rfl
def sameO (a b : Origin) : Bool := if a.opaq || b.opaq then (a.opaq == b.opaq) && (a.id == b.id) else decide ({ a with domain := b.domain, hasDomain := b.hasDomain, id := b.id } = b)
theorem sameO_c (a b : Origin) (H : AHeap) (K : AV → AHeap → Kd → Prop) : E.C 236 [.agg a.cells, .agg b.cells] H K ↔ K (.bool (sameO a b)) H .p := by
 refine C_by (V236 (K := fun v' _ => v' = .bool (sameO a b)) ?_) rfl (by kernel_rfl) (fun _ => rfl)
 have b1 : newVarA [] (.agg a.cells) 0 = some (.ptr 0 0 18, [.cells a.cells 0 18 0], .a 0) := rfl
 have b2 : newVarA [.cells a.cells 0 18 0] (.agg b.cells) 0 = some (.ptr 1 0 18, [.cells a.cells 0 18 0, .cells b.cells 0 18 0], .a 1) := rfl
 generalize hH : [ABlk.cells a.cells 0 18 0, .cells b.cells 0 18 0] = H0 at b2
 have l00 : loadA H0 1 false (.ptr 0 0 18) = some (.bool a.opaq, H0, .r 0) := by subst hH; rfl
 have l01 : loadA H0 1 false (.ptr 0 1 18) = some (.int .i64 a.id, H0, .r 0) := by subst hH; rfl
 have l10 : loadA H0 1 false (.ptr 1 0 18) = some (.bool b.opaq, H0, .r 1) := by subst hH; rfl
 have l11 : loadA H0 1 false (.ptr 1 1 18) = some (.int .i64 b.id, H0, .r 1) := by subst hH; rfl
 have l1g : loadA H0 1 false (.ptr 1 16 18) = some (.str b.domain, H0, .r 1) := by subst hH; rfl
 have l1h : loadA H0 1 false (.ptr 1 17 18) = some (.bool b.hasDomain, H0, .r 1) := by subst hH; rfl
 have s1 : storeA H0 1 (.ptr 0 16 18) (.str b.domain) = some (undefA, [.cells (Origin.cells { a with domain := b.domain }) 0 18 0, .cells b.cells 0 18 0], .w 0) := by subst hH; rfl
 have s2 : storeA [.cells (Origin.cells { a with domain := b.domain }) 0 18 0, .cells b.cells 0 18 0] 1 (.ptr 0 17 18) (.bool b.hasDomain) = some (undefA, [.cells (Origin.cells { a with domain := b.domain, hasDomain := b.hasDomain }) 0 18 0, .cells b.cells 0 18 0], .w 0) := rfl
 have s3 : storeA [.cells (Origin.cells { a with domain := b.domain, hasDomain := b.hasDomain }) 0 18 0, .cells b.cells 0 18 0] 1 (.ptr 0 1 18) (.int .i64 b.id) = some (undefA, [.cells (Origin.cells { a with domain := b.domain, hasDomain := b.hasDomain, id := b.id }) 0 18 0, .cells b.cells 0 18 0], .w 0) := rfl
 have la : loadA [.cells (Origin.cells { a with domain := b.domain, hasDomain := b.hasDomain, id := b.id }) 0 18 0, .cells b.cells 0 18 0] 18 true (.ptr 0 0 18) = some (.agg (Origin.cells { a with domain := b.domain, hasDomain := b.hasDomain, id := b.id }), [.cells (Origin.cells { a with domain := b.domain, hasDomain := b.hasDomain, id := b.id }) 0 18 0, .cells b.cells 0 18 0], .r 0) := rfl
 have lb : loadA [.cells (Origin.cells { a with domain := b.domain, hasDomain := b.hasDomain, id := b.id }) 0 18 0, .cells b.cells 0 18 0] 18 true (.ptr 1 0 18) = some (.agg b.cells, [.cells (Origin.cells { a with domain := b.domain, hasDomain := b.hasDomain, id := b.id }) 0 18 0, .cells b.cells 0 18 0], .r 1) := rfl
 have hd : drawOk (drawn F236 0) [.p, .r 1, .p, .r 1, .p, .r 1, .p, .w 0, .p, .w 0, .p, .w 0] = true := by kernel_rfl
 have hq := origin_eqV
 cases e0 : a.opaq <;> cases e1 : b.opaq
 ·have hs : sameO a b = decide ({ a with domain := b.domain, hasDomain := b.hasDomain, id := b.id } = b) := by simp [sameO, e0, e1]
  rw [hs]
  rw [e0] at l00
  rw [e1] at l10
  simp (disch := omega) only [go_sem, Int.reduceBEq, Int.reduceBNe, Int.reduceLT, Int.reduceLE, Int.reduceAdd, Int.reduceSub, Int.reduceNeg, Nat.reduceLT, Nat.reduceLeDiff, Nat.reduceAdd, b1, b2, l00, l01, l10, l11, l1g, l1h, s1, s2, s3, la, lb, hd, hq, Nat.zero_add]
 ·have hs : sameO a b = ((false == true) && (a.id == b.id)) := by simp [sameO, e0, e1]
  rw [hs]
  rw [e0] at l00
  rw [e1] at l10
  simp (disch := omega) only [go_sem, Int.reduceBEq, Int.reduceBNe, Int.reduceLT, Int.reduceLE, Int.reduceAdd, Int.reduceSub, Int.reduceNeg, Nat.reduceLT, Nat.reduceLeDiff, Nat.reduceAdd, b1, b2, l00, l01, l10, l11, l1g, l1h, s1, s2, s3, la, lb, hd, hq, Nat.zero_add]
 ·have hs : sameO a b = ((true == false) && (a.id == b.id)) := by simp [sameO, e0, e1]
  rw [hs]
  rw [e0] at l00
  rw [e1] at l10
  simp (disch := omega) only [go_sem, Int.reduceBEq, Int.reduceBNe, Int.reduceLT, Int.reduceLE, Int.reduceAdd, Int.reduceSub, Int.reduceNeg, Nat.reduceLT, Nat.reduceLeDiff, Nat.reduceAdd, b1, b2, l00, l01, l10, l11, l1g, l1h, s1, s2, s3, la, lb, hd, hq, Nat.zero_add]
 ·have hs : sameO a b = ((true == true) && (a.id == b.id)) := by simp [sameO, e0, e1]
  rw [hs]
  rw [e0] at l00
  rw [e1] at l10
  simp (disch := omega) only [go_sem, Int.reduceBEq, Int.reduceBNe, Int.reduceLT, Int.reduceLE, Int.reduceAdd, Int.reduceSub, Int.reduceNeg, Nat.reduceLT, Nat.reduceLeDiff, Nat.reduceAdd, b1, b2, l00, l01, l10, l11, l1g, l1h, s1, s2, s3, la, lb, hd, hq, Nat.zero_add]
end Go.AE.Fns
namespace Go.AE.Fns
open Go Go.AE Env
set_option maxRecDepth 100000
structure Site where
 opaq : Bool := false
 id : Int := 0
 scheme : List UInt8 := []
 host : List UInt8 := []
 deriving DecidableEq
def Site.cells (s : Site) : List AV := [.bool s.opaq, i64 s.id, .str s.scheme, .str s.host]
end Go.AE.Fns
namespace Go.AE.Fns
open Go Go.AE Env
set_option maxRecDepth 100000
end Go.AE.Fns
namespace Go.AE.Fns
open Go Go.AE Env
set_option maxRecDepth 100000
theorem sameO_self (a : Origin) : sameO a a = true := by unfold sameO; split <;> simp
theorem sameO_iff {a b : Origin} (ha : a.opaq = false) : sameO a b = true ↔ b.opaq = false ∧ a.scheme = b.scheme ∧ a.host = b.host ∧ a.port = b.port ∧ a.hasPort = b.hasPort := by
 unfold sameO
 cases hb : b.opaq
 ·simp only [ha, Bool.or_self, Bool.false_eq_true, if_false, decide_eq_true_eq, true_and]
  cases a; cases b
  simp only at ha hb
  subst ha hb
  simp
 ·simp [ha]
end Go.AE.Fns
namespace Go.AE.Fns
open Go Go.AE Env
set_option maxRecDepth 100000
def orgs (l : List Origin) : List AV := l.flatMap Origin.cells
theorem org_len (o : Origin) : o.cells.length = 18 := rfl
theorem orgs_len : ∀ l : List Origin, (orgs l).length = l.length * 18
 | [] => rfl
 | o :: l => by
  have := orgs_len l
  simp only [orgs, List.flatMap_cons, List.length_append, org_len, List.length_cons] at this ⊢
  omega
theorem orgs_at : ∀ (l : List Origin) (i : Nat) (h : i < l.length), ((orgs l).drop (i * 18)).take 18 = (l[i]).cells
 | o :: l, 0, _ => by
  simp only [orgs, List.flatMap_cons, Nat.zero_mul, List.drop_zero, List.getElem_cons_zero]
  rw [List.take_append_of_le_length (Nat.le_refl 18)]
  rfl
 | o :: l, i + 1, h => by
  have ih := orgs_at l i (by simpa using h)
  simp only [orgs, List.flatMap_cons, List.getElem_cons_succ] at ih ⊢
  rw [show (i + 1) * 18 = o.cells.length + i * 18 by rw [org_len]; omega, List.drop_append, List.drop_eq_nil_of_le (by omega), List.nil_append, Nat.add_sub_cancel_left]
  exact ih
theorem orgs_app (l m : List Origin) : orgs (l ++ m) = orgs l ++ orgs m := List.flatMap_append ..
theorem orgs_one (o : Origin) : orgs [o] = o.cells := by simp [orgs]
inductive VO (H : AHeap) : AV → List Origin → Prop where
 | lst {l : List Origin} (ex : Bool) : VO H (.lst (orgs l) l.length 18 ex) l
 | nil : VO H .nilsl []
 | sl {b v : Nat} {cap : Option Nat} {l : List Origin} {cs : List AV} {g wv st : Nat} (hb : H[b]? = some (.cells cs g wv st)) (h1 : st < 2) (h2 : wv ≤ v) (h3 : v ≤ cs.length) (h4 : l.length * 18 ≤ v) (h5 : cs.take (l.length * 18) = orgs l) : VO H (.sl b 0 l.length 18 v cap) l
theorem VO.len {H : AHeap} {r : AV} {l : List Origin} (h : VO H r l) (H' : AHeap) : lenA H' .lenSl r = some (.int .i64 l.length, H', .p) := by cases h <;> rfl
theorem VO.app {H : AHeap} {r : AV} {l : List Origin} (h : VO H r l) (X : AHeap) : VO (H ++ X) r l := by
 cases h with
 | lst ex => exact .lst ex
 | nil => exact .nil
 | sl hb h1 h2 h3 h4 h5 => exact .sl (get_app hb) h1 h2 h3 h4 h5
theorem VO.get {H : AHeap} {r : AV} {l : List Origin} (h : VO H r l) {i : Nat} (hi : i < l.length) : ∃ a kd, idxAddrA 18 r (.int .i64 i) = some a ∧ loadA H 18 true a = some (.agg (l[i]).cells, H, kd) := by
 have e := orgs_at l i hi
 cases h with
 | lst ex =>
  refine ⟨.elt (orgs l) (i * 18), .p, by simp [idxAddrA, asI, hi], ?_⟩
  have hl := orgs_len l
  have h2 : i * 18 + 18 ≤ (orgs l).length := by omega
  simp only [loadA, part, if_true, if_pos h2, e, pureV, Option.map_some]
 | nil => simp at hi
 | @sl b v cap _ cs g wv st hb h1 h2 h3 h4 h5 =>
  refine ⟨.ptr b (0 + i * 18) v, .r b, by simp [idxAddrA, asI, hi], ?_⟩
  rw [Nat.zero_add]
  have hc : st < 2 ∧ wv ≤ v ∧ v ≤ cs.length ∧ i * 18 + 18 ≤ v := ⟨h1, h2, h3, by omega⟩
  have h6 : i * 18 + 18 ≤ cs.length := by omega
  have e2 : (cs.drop (i * 18)).take 18 = (l[i]).cells := by
   rw [← e, ← h5, List.drop_take, List.take_take]
   congr 1
   omega
  simp only [loadA, hb, if_pos hc, part, if_true, if_pos h6, e2, readV, Option.map_some]
inductive IsO (l : List Origin) : AV → Prop where
 | lst (ex : Bool) : IsO l (.lst (orgs l) l.length 18 ex)
 | nil (h : l = []) : IsO l .nilsl
theorem IsO.vo {l : List Origin} {r : AV} (h : IsO l r) (H : AHeap) : VO H r l := by
 cases h with
 | lst ex => exact .lst ex
 | nil h => subst h; exact .nil
theorem locFreeL_app : ∀ a b : List AV, locFreeL (a ++ b) = (locFreeL a && locFreeL b)
 | [], b => by simp [locFreeL]
 | x :: a, b => by simp [locFreeL, locFreeL_app a b, Bool.and_assoc]
theorem orgs_free : ∀ l : List Origin, locFreeL (orgs l) = true
 | [] => rfl
 | o :: l => by
  have ih := orgs_free l
  simp only [orgs, List.flatMap_cons] at ih ⊢
  rw [locFreeL_app, origin_free, ih]; rfl
theorem IsO.free {l : List Origin} {r : AV} (h : IsO l r) : r.locFree = true := by
 cases h with
 | lst ex => simpa [AV.locFree] using orgs_free l
 | nil => rfl
structure Al where
 all : Bool := false
 self : Bool := false
 r : AV := .nilsl
 os : List Origin := []
def Al.cells (a : Al) : List AV := [.bool a.all, .bool a.self, a.r]
def hasB (a : Al) (s o : Origin) : Bool := a.all || (a.self && sameO s o) || a.os.any fun x => sameO x o
theorem append_org {H : AHeap} {r : AV} {l : List Origin} (hr : IsO l r) (more : Origin) (hl : l.length ≤ 2 ^ 20) : ∃ r1 X1 k1 r2 X2 k2, appendA H 18 120 0 (.lst [] 0 18 true) r = some (r1, H ++ X1, k1) ∧ appendA (H ++ X1) 18 120 0 r1 (.lst more.cells 1 18 true) = some (r2, H ++ X2, k2) ∧ r2.cells = [r2] ∧ (k1 = .p ∧ k2 = .a H.length ∨ k1 = .a H.length ∧ k2 = .l) ∧ ∀ H' : AHeap, H'.length = H.length → VO (H' ++ X2) r2 (l ++ [more]) := by
 have hol := orgs_len l
 have hc : cellsIn H 18 r = some (l.length, orgs l) := by
  cases hr with
  | lst ex => simp [cellsIn, hol]
  | nil h => subst h; rfl
 have hq : quiet r = true := by cases hr <;> rfl
 have hb1 : (l.length + 1) * 120 ≤ 1099511627776 := by omega
 have hb2 : l.length * 120 ≤ 1099511627776 := by omega
 by_cases h0 : l = []
 ·subst h0
  refine ⟨.lst [] 0 18 true, [], .p, .sl H.length 0 1 18 18 none, [.cells more.cells 0 18 0], .a H.length, by simp [appendA, hc, hq], ?_, rfl, .inl ⟨rfl, rfl⟩, fun H' hH => ?_⟩
  ·simp [appendA, cellsIn, org_len, quiet]
  ·refine VO.sl (l := [more]) (wv := 18) (st := 0) (g := 0) (cs := more.cells) (by simp [← hH]) (by decide) (Nat.le_refl _) (Nat.le_refl _) (Nat.le_refl _) ?_
   rw [orgs_one]; rfl
 ·have hm : l.length ≠ 0 := by simpa using h0
  refine ⟨.sl H.length 0 l.length 18 (orgs l).length none, [.cells (orgs l) 0 (orgs l).length 0], .a H.length, .sl H.length 0 (l.length + 1) 18 (orgs l ++ more.cells).length none, [.cells (orgs l ++ more.cells) 0 (orgs l).length 0], .l, ?_, ?_, rfl, .inr ⟨rfl, rfl⟩, fun H' hH => ?_⟩
  ·simp [appendA, hc, h0, hb2, hq]
  ·simp [appendA, cellsIn, org_len, hol, hb1]
  ·have := VO.sl (H := H' ++ [.cells (orgs l ++ more.cells) 0 (orgs l).length 0]) (b := H.length) (cap := none) (l := l ++ [more]) (v := (orgs l ++ more.cells).length) (wv := (orgs l).length) (st := 0) (g := 0) (cs := orgs l ++ more.cells) (by simp [← hH]) (by decide) (by simp) (Nat.le_refl _) (by simp [hol, org_len]; omega) (by rw [List.take_of_length_le (by simp [hol, org_len]; omega), orgs_app, orgs_one])
   simpa using this
structure Gr where
 feat : List UInt8
 al : Al
def Gr.cells (g : Gr) : List AV := .str g.feat :: g.al.cells
def Gr.Ok (g : Gr) (M : Nat) : Prop := IsO g.al.os g.al.r ∧ g.al.os.length ≤ M ∧ g.feat.length ≤ M
def grs (l : List Gr) : List AV := l.flatMap Gr.cells
inductive IsG (l : List Gr) : AV → Prop where
 | lst (ex : Bool) : IsG l (.lst (grs l) l.length 4 ex)
 | nil (h : l = []) : IsG l .nilsl
theorem gr_len (g : Gr) : g.cells.length = 4 := rfl
theorem grs_len : ∀ l : List Gr, (grs l).length = l.length * 4
 | [] => rfl
 | o :: l => by
  have := grs_len l
  simp only [grs, List.flatMap_cons, List.length_append, gr_len, List.length_cons] at this ⊢
  omega
theorem grs_at : ∀ (l : List Gr) (i : Nat) (h : i < l.length), ((grs l).drop (i * 4)).take 4 = (l[i]).cells
 | o :: l, 0, _ => by
  simp only [grs, List.flatMap_cons, Nat.zero_mul, List.drop_zero, List.getElem_cons_zero]
  rw [List.take_append_of_le_length (Nat.le_refl 4)]
  rfl
 | o :: l, i + 1, h => by
  have ih := grs_at l i (by simpa using h)
  simp only [grs, List.flatMap_cons, List.getElem_cons_succ] at ih ⊢
  rw [show (i + 1) * 4 = o.cells.length + i * 4 by rw [gr_len]; omega, List.drop_append, List.drop_eq_nil_of_le (by omega), List.nil_append, Nat.add_sub_cancel_left]
  exact ih
theorem IsG.len {r : AV} {l : List Gr} (h : IsG l r) (H' : AHeap) : lenA H' .lenSl r = some (.int .i64 l.length, H', .p) := by
 cases h with
 | lst ex => rfl
 | nil h => subst h; rfl
theorem IsG.get {r : AV} {l : List Gr} (h : IsG l r) {i : Nat} (hi : i < l.length) : ∃ a, idxAddrA 4 r (.int .i64 i) = some a ∧ ∀ H, loadA H 4 true a = some (.agg (l[i]).cells, H, .p) := by
 have e := grs_at l i hi
 cases h with
 | lst ex =>
  refine ⟨.elt (grs l) (i * 4), by simp [idxAddrA, asI, hi], fun H => ?_⟩
  have hl := grs_len l
  have h2 : i * 4 + 4 ≤ (grs l).length := by omega
  simp only [loadA, part, if_true, if_pos h2, e, pureV, Option.map_some]
 | nil h => subst h; simp at hi
theorem grs_free {M : Nat} : ∀ l : List Gr, (∀ g ∈ l, g.Ok M) → locFreeL (grs l) = true
 | [], _ => rfl
 | g :: l, h => by
  have ih := grs_free l fun x hx => h x (by simp [hx])
  have hg := (h g (by simp)).1.free
  simp only [grs, List.flatMap_cons] at ih ⊢
  rw [locFreeL_app, ih]
  simp [Gr.cells, Al.cells, locFreeL, AV.locFree, hg]
theorem IsG.free {M : Nat} {l : List Gr} {r : AV} (h : IsG l r) (hl : ∀ g ∈ l, g.Ok M) : r.locFree = true := by
 cases h with
 | lst ex => simpa [AV.locFree] using grs_free l hl
 | nil => rfl
end Go.AE.Fns
namespace Go.AE.Fns
open Go Go.AE Env
set_option maxRecDepth 100000
theorem load_org {H : AHeap} {b : Nat} {o : Origin} (hb : H[b]? = some (.cells o.cells 0 18 0)) : loadA H 18 true (.ptr b 0 18) = some (.agg o.cells, H, .r b) := by
 have hc : (0 : Nat) < 2 ∧ 18 ≤ 18 ∧ 18 ≤ o.cells.length ∧ 0 + 18 ≤ 18 := ⟨by omega, by omega, Nat.le_refl _, by omega⟩
 have h2 : 0 + 18 ≤ o.cells.length := Nat.le_refl _
 simp only [loadA, hb, if_pos hc, part, if_true, if_pos h2, readV, Option.map_some]
 rfl
theorem same_ans (x o : Origin) {H : AHeap} {q : Nat} (hq : H[q]? = some (.cells o.cells 0 18 0)) : E.Ans 395 [.agg x.cells, .ptr q 0 18] H (.bool (sameO x o)) (H ++ [.cells x.cells 0 18 0]) := by
 obtain ⟨v', H', ⟨rfl, rfl⟩, h⟩ : ∃ v' H', (v' = AV.bool (sameO x o) ∧ H' = H ++ [.cells x.cells 0 18 0]) ∧ E.Ans 395 [.agg x.cells, .ptr q 0 18] H v' H' := by
  refine V395 (K := fun v' H' => v' = .bool (sameO x o) ∧ H' = H ++ [.cells x.cells 0 18 0]) ?_
  have n1 : newVarA H (.agg x.cells) 0 = some (.ptr H.length 0 18, H ++ [.cells x.cells 0 18 0], .a H.length) := rfl
  have l1 : loadA (H ++ [.cells x.cells 0 18 0]) 18 true (.ptr H.length 0 18) = some (.agg x.cells, H ++ [.cells x.cells 0 18 0], .r H.length) := load_org (by simp)
  have l2 : loadA (H ++ [.cells x.cells 0 18 0]) 18 true (.ptr q 0 18) = some (.agg o.cells, H ++ [.cells x.cells 0 18 0], .r q) := load_org (get_app hq)
  have hs := fun H K => sameO_c x o H K
  simp (disch := omega) only [go_sem, Int.reduceBEq, Int.reduceBNe, Int.reduceLT, Int.reduceLE, Int.reduceAdd, Int.reduceSub, Int.reduceNeg, Nat.reduceLT, Nat.reduceLeDiff, Nat.reduceAdd, n1, l1, l2, hs]
 exact h
theorem idxO_loop {l : List Origin} {r : AV} {q : Nat} {o : Origin} {H0 : AHeap} (hv : VO H0 r l) (hq : H0[q]? = some (.cells o.cells 0 18 0)) (hl : l.length ≤ 2 ^ 40) {K0 : AHeap → Prop} {Kr : AV → AHeap → Prop} (h0 : l.any (fun x => sameO x o) = false → ∀ X, K0 (H0 ++ X)) (h1 : l.any (fun x => sameO x o) = true → ∀ (n : Nat) X, Kr (i64 n) (H0 ++ X)) :
    ∀ (k i : Nat) (X : AHeap), i + k = l.length → (l.drop i).any (fun x => sameO x o) = l.any (fun x => sameO x o) → L408_0 r (.func 395 [] [.ptr q 0 18]) (i64 l.length) (i64 i) (H0 ++ X) K0 Kr
  | 0, i, X, hi, ha => S408_0 fun _ => by
    rw [List.drop_eq_nil_of_le (by omega)] at ha
    have := h0 ha.symm X
    simp (disch := omega) only [go_sem, Int.reduceBEq, Int.reduceBNe, Int.reduceLT, Int.reduceLE, Int.reduceAdd, Int.reduceSub, Int.reduceNeg, Nat.reduceLT, Nat.reduceLeDiff, Nat.reduceAdd]
    rw [if_neg (by omega)]
    exact this
  | k + 1, i, X, hi, ha => S408_0 fun _ => by
    have hil : i < l.length := by omega
    obtain ⟨a, kd, g1, g2⟩ := (hv.app X).get hil
    have hc := fun K => C_shared (K := K) rfl (same_ans l[i] o (get_app (X := X) hq))
    rw [List.drop_eq_getElem_cons hil, List.any_cons] at ha
    cases e : sameO l[i] o
    · rw [e] at hc ha
      rw [Bool.false_or] at ha
      have ih := idxO_loop hv hq hl h0 h1 k (i + 1) (X ++ [.cells (l[i]).cells 0 18 0]) (by omega) ha
      rw [← List.append_assoc] at ih
      simp (disch := omega) only [go_sem, Int.reduceBEq, Int.reduceBNe, Int.reduceLT, Int.reduceLE, Int.reduceAdd, Int.reduceSub, Int.reduceNeg, Nat.reduceLT, Nat.reduceLeDiff, Nat.reduceAdd, g1, g2, hc]
      rw [if_pos hil]
      exact ih
    · rw [e] at hc ha
      rw [Bool.true_or] at ha
      have := h1 ha.symm i (X ++ [.cells (l[i]).cells 0 18 0])
      rw [← List.append_assoc] at this
      simp (disch := omega) only [go_sem, Int.reduceBEq, Int.reduceBNe, Int.reduceLT, Int.reduceLE, Int.reduceAdd, Int.reduceSub, Int.reduceNeg, Nat.reduceLT, Nat.reduceLeDiff, Nat.reduceAdd, g1, g2, hc]
      rw [if_pos hil]
      exact this
theorem idxO_ans {l : List Origin} {r : AV} {q : Nat} {o : Origin} {H : AHeap} (hv : VO H r l) (hq : H[q]? = some (.cells o.cells 0 18 0)) (hl : l.length ≤ 2 ^ 40) : ∃ (n : Int) (X : AHeap), decide (n ≥ 0) = l.any (fun x => sameO x o) ∧ E.Ans 408 [r, .func 395 [] [.ptr q 0 18]] H (i64 n) (H ++ X) := by
 obtain ⟨v', H', ⟨n, X, rfl, hn, rfl⟩, h⟩ : ∃ v' H', (∃ (n : Int) (X : AHeap), v' = i64 n ∧ decide (n ≥ 0) = l.any (fun x => sameO x o) ∧ H' = H ++ X) ∧ E.Ans 408 [r, .func 395 [] [.ptr q 0 18]] H v' H' := by
  refine V408 (K := fun v' H' => ∃ (n : Int) (X : AHeap), v' = i64 n ∧ decide (n ≥ 0) = l.any (fun x => sameO x o) ∧ H' = H ++ X) ?_
  have hlen := fun H' => hv.len H'
  have hlp := fun {K0 Kr} h0 h1 => idxO_loop (K0 := K0) (Kr := Kr) hv hq hl h0 h1 l.length 0 [] (by omega) rfl
  simp (disch := omega) only [go_sem, Int.reduceBEq, Int.reduceBNe, Int.reduceLT, Int.reduceLE, Int.reduceAdd, Int.reduceSub, Int.reduceNeg, Nat.reduceLT, Nat.reduceLeDiff, Nat.reduceAdd, hlen]
  rw [List.append_nil] at hlp
  refine hlp (fun ha X => ?_) (fun ha n X => ?_)
  ·exact ⟨-1, X, rfl, by rw [ha]; rfl, rfl⟩
  ·exact ⟨n, X, rfl, by rw [ha]; simp, rfl⟩
 exact ⟨n, X, hn, h⟩
theorem contO_ans {l : List Origin} {r : AV} {q : Nat} {o : Origin} {H : AHeap} (hv : VO H r l) (hq : H[q]? = some (.cells o.cells 0 18 0)) (hl : l.length ≤ 2 ^ 40) : ∃ X : AHeap, E.Ans 396 [r, .func 395 [] [.ptr q 0 18]] H (.bool (l.any (fun x => sameO x o))) (H ++ X) := by
 obtain ⟨n, X, hn, hi⟩ := idxO_ans hv hq hl
 have hc := fun K => C_shared (K := K) (by simp [locFreeL, AV.locFree]) hi
 obtain ⟨v', H', ⟨rfl, rfl⟩, h⟩ : ∃ v' H', (v' = AV.bool (l.any (fun x => sameO x o)) ∧ H' = H ++ X) ∧ E.Ans 396 [r, .func 395 [] [.ptr q 0 18]] H v' H' := by
  refine V396 (K := fun v' H' => v' = .bool (l.any (fun x => sameO x o)) ∧ H' = H ++ X) ?_
  simp (disch := omega) only [go_sem, Int.reduceBEq, Int.reduceBNe, Int.reduceLT, Int.reduceLE, Int.reduceAdd, Int.reduceSub, Int.reduceNeg, Nat.reduceLT, Nat.reduceLeDiff, Nat.reduceAdd, hc, hn]
 exact ⟨X, h⟩
theorem has_ans {a : Al} (s o : Origin) {H : AHeap} (hv : VO H a.r a.os) (hl : a.os.length ≤ 2 ^ 40) : ∃ X : AHeap, E.Ans 382 [.agg a.cells, .agg s.cells, .agg o.cells] H (.bool (hasB a s o)) (H ++ X) := by
 obtain ⟨v', H', ⟨rfl, X, rfl⟩, h⟩ : ∃ v' H', (v' = AV.bool (hasB a s o) ∧ ∃ X, H' = H ++ X) ∧ E.Ans 382 [.agg a.cells, .agg s.cells, .agg o.cells] H v' H' := by
  refine V382 (K := fun v' H' => v' = .bool (hasB a s o) ∧ ∃ X, H' = H ++ X) ?_
  have n1 : newVarA H (.agg a.cells) 0 = some (.ptr H.length 0 3, H ++ [.cells a.cells 0 3 0], .a H.length) := rfl
  have n2 : newVarA (H ++ [.cells a.cells 0 3 0]) (.agg s.cells) 0 = some (.ptr (H.length + 1) 0 18, H ++ [.cells a.cells 0 3 0, .cells s.cells 0 18 0], .a (H.length + 1)) := by
   have e : newVarA (H ++ [.cells a.cells 0 3 0]) (.agg s.cells) 0 = some (.ptr (H ++ [ABlk.cells a.cells 0 3 0]).length 0 18, (H ++ [.cells a.cells 0 3 0]) ++ [.cells s.cells 0 18 0], .a (H ++ [ABlk.cells a.cells 0 3 0]).length) := rfl
   rw [e]; simp
  have n3 : newVarA (H ++ [.cells a.cells 0 3 0, .cells s.cells 0 18 0]) (.agg o.cells) 0 = some (.ptr (H.length + 2) 0 18, H ++ [.cells a.cells 0 3 0, .cells s.cells 0 18 0, .cells o.cells 0 18 0], .a (H.length + 2)) := by
   have e : newVarA (H ++ [.cells a.cells 0 3 0, .cells s.cells 0 18 0]) (.agg o.cells) 0 = some (.ptr (H ++ [ABlk.cells a.cells 0 3 0, .cells s.cells 0 18 0]).length 0 18, (H ++ [.cells a.cells 0 3 0, .cells s.cells 0 18 0]) ++ [.cells o.cells 0 18 0], .a (H ++ [ABlk.cells a.cells 0 3 0, .cells s.cells 0 18 0]).length) := rfl
   rw [e]; simp
  have g0 : (H ++ [.cells a.cells 0 3 0, .cells s.cells 0 18 0, .cells o.cells 0 18 0])[H.length]? = some (.cells a.cells 0 3 0) := by simp
  have g1 : (H ++ [.cells a.cells 0 3 0, .cells s.cells 0 18 0, .cells o.cells 0 18 0])[H.length + 1]? = some (.cells s.cells 0 18 0) := by simp [List.getElem?_append_right]
  have g2 : (H ++ [.cells a.cells 0 3 0, .cells s.cells 0 18 0, .cells o.cells 0 18 0])[H.length + 2]? = some (.cells o.cells 0 18 0) := by simp [List.getElem?_append_right]
  have hv' := hv.app [.cells a.cells 0 3 0, .cells s.cells 0 18 0, .cells o.cells 0 18 0]
  generalize hH : H ++ [ABlk.cells a.cells 0 3 0, .cells s.cells 0 18 0, .cells o.cells 0 18 0] = H3 at *
  have la : loadA H3 1 false (.ptr H.length 0 3) = some (.bool a.all, H3, .r H.length) := load_at g0 (by omega) (by omega) (Nat.le_refl _) (by omega) rfl
  have lb : loadA H3 1 false (.ptr H.length 1 3) = some (.bool a.self, H3, .r H.length) := load_at g0 (by omega) (by omega) (Nat.le_refl _) (by omega) rfl
  have lr : loadA H3 1 false (.ptr H.length 2 3) = some (a.r, H3, .r H.length) := load_at g0 (by omega) (by omega) (Nat.le_refl _) (by omega) rfl
  have ls := load_org g1
  have lo := load_org g2
  have hs := fun H K => sameO_c s o H K
  obtain ⟨X, hX⟩ := contO_ans hv' g2 hl
  have hc := fun K => C_shared (K := K) (by simp [locFreeL, AV.locFree]) hX
  have fx : ∃ X, H3 = H ++ X := ⟨_, hH.symm⟩
  have fy : ∃ Y, H3 ++ X = H ++ Y := ⟨_, by rw [← hH, List.append_assoc]⟩
  unfold hasB
  cases e1 : a.all
  ·rw [e1] at la
   cases e2 : a.self
   ·rw [e2] at lb
    simp (disch := omega) only [go_sem, Int.reduceBEq, Int.reduceBNe, Int.reduceLT, Int.reduceLE, Int.reduceAdd, Int.reduceSub, Int.reduceNeg, Nat.reduceLT, Nat.reduceLeDiff, Nat.reduceAdd, n1, n2, n3, la, lb, lr, ls, lo, hs, hc, Nat.zero_add, Nat.add_zero, Bool.false_or, Bool.false_and]
    exact fy
   ·rw [e2] at lb
    cases e3 : sameO s o
    ·rw [e3] at hs
     simp (disch := omega) only [go_sem, Int.reduceBEq, Int.reduceBNe, Int.reduceLT, Int.reduceLE, Int.reduceAdd, Int.reduceSub, Int.reduceNeg, Nat.reduceLT, Nat.reduceLeDiff, Nat.reduceAdd, n1, n2, n3, la, lb, lr, ls, lo, hs, hc, Nat.zero_add, Nat.add_zero, Bool.false_or, Bool.true_and]
     exact fy
    ·rw [e3] at hs
     simp (disch := omega) only [go_sem, Int.reduceBEq, Int.reduceBNe, Int.reduceLT, Int.reduceLE, Int.reduceAdd, Int.reduceSub, Int.reduceNeg, Nat.reduceLT, Nat.reduceLeDiff, Nat.reduceAdd, n1, n2, n3, la, lb, lr, ls, lo, hs, hc, Nat.zero_add, Nat.add_zero, Bool.false_or, Bool.true_and, Bool.true_or]
     exact fx
  ·rw [e1] at la
   simp (disch := omega) only [go_sem, Int.reduceBEq, Int.reduceBNe, Int.reduceLT, Int.reduceLE, Int.reduceAdd, Int.reduceSub, Int.reduceNeg, Nat.reduceLT, Nat.reduceLeDiff, Nat.reduceAdd, n1, n2, n3, la, lb, lr, ls, lo, hs, hc, Nat.zero_add, Nat.add_zero, Bool.true_or]
   exact fx
 exact ⟨X, h⟩
theorem al_free {a : Al} (h : a.r.locFree = true) (s o : Origin) : locFreeL [.agg a.cells, .agg s.cells, .agg o.cells] = true := by
 have h1 := origin_free s
 have h2 := origin_free o
 simp [locFreeL, AV.locFree, Al.cells, h, h1, h2]
theorem has_c {a : Al} (h : IsO a.os a.r) (hl : a.os.length ≤ 2 ^ 40) (s o : Origin) (H : AHeap) (K : AV → AHeap → Kd → Prop) : E.C 382 [.agg a.cells, .agg s.cells, .agg o.cells] H K ↔ K (.bool (hasB a s o)) H .p := by
 obtain ⟨X, hX⟩ := has_ans s o (h.vo []) hl
 exact C_val hX (al_free h.free s o) (by kernel_rfl) rfl
theorem VO.alone {H : AHeap} {r : AV} {l : List Origin} (h : VO H r l) (e : r.locFree = true) : VO [] r l := by
 cases h with
 | lst ex => exact .lst ex
 | nil => exact .nil
 | sl => simp [AV.locFree] at e
theorem has_cs {a : Al} {H : AHeap} (h : VO H a.r a.os) (hl : a.os.length ≤ 2 ^ 40) (s o : Origin) : ∃ X kd, ∀ K : AV → AHeap → Kd → Prop, E.C 382 [.agg a.cells, .agg s.cells, .agg o.cells] H K ↔ K (.bool (hasB a s o)) (H ++ X) kd := by
 by_cases e : a.r.locFree = true
 ·have h0 := h.alone e
  obtain ⟨X, hX⟩ := has_ans s o h0 hl
  refine ⟨[], .p, fun K => ?_⟩
  rw [List.append_nil]
  exact C_val hX (al_free e s o) (by kernel_rfl) rfl
 ·obtain ⟨X, hX⟩ := has_ans s o h hl
  exact ⟨X, _, fun K => C_shared (by simp only [Bool.not_eq_true] at e; simp [locFreeL, AV.locFree, Al.cells, e]) hX⟩
theorem bld_al {r : AV} {l : List Origin} (h : IsO l r) : bldV [.bool false, .bool false, .nilsl] [(2, 1, r)] = some (.agg [.bool false, .bool false, r]) := by cases h <;> rfl
end Go.AE.Fns
namespace Go.AE.Fns
open Go Go.AE Env
set_option maxRecDepth 100000
theorem lives16_ans : ∃ Hl, E.Ans 381 [] [] (.bool true) Hl := by
 have h := r1
 unfold run at h
 rw [callsF_eq] at h
 cases hc : callsA lpT.get keep (hookA keep onceN once) 100000 false 381 [] [] with
 | none => rw [hc] at h; simp [isT] at h
 | some p =>
  obtain ⟨v, Hl⟩ := p
  rw [hc] at h
  unfold isT at h
  split at h
  ·rename_i heq
   simp at heq
   exact ⟨Hl, 100000, by show callsA E.lp E.keep E.hk 100000 false 381 [] [] = _; rw [← heq.1]; exact hc⟩
  ·simp at h
theorem lives16_c (H : AHeap) (K : AV → AHeap → Kd → Prop) : E.C 381 [] H K ↔ K (.bool true) H .p := by
 obtain ⟨Hl, h⟩ := lives16_ans
 exact C_by (v := .bool true) ⟨_, Hl, rfl, h⟩ rfl (by kernel_rfl) fun _ => rfl
end Go.AE.Fns
namespace Go.AE.Fns
open Go Go.AE Env
set_option maxRecDepth 100000
abbrev zOrg : List AV := [.bool false, .int .i64 0, .str [], .int .u8 0, .str [], .int .u32 0, .int .u16 0, .int .u16 0, .int .u16 0, .int .u16 0, .int .u16 0, .int .u16 0, .int .u16 0, .int .u16 0, .int .i64 0, .bool false, .str [], .bool false]
set_option maxHeartbeats 4000000 in
theorem embedOrigins_ans {a : Al} (ha : IsO a.os a.r) (hl : a.os.length ≤ 2 ^ 20) (s o more : Origin) : ∃ H', E.Ans 380 [.agg a.cells, .agg s.cells, .agg o.cells, .agg more.cells] [] (.bool true) H' := by
 obtain ⟨v', H', hv, h⟩ : ∃ v' H', v' = AV.bool true ∧ E.Ans 380 [.agg a.cells, .agg s.cells, .agg o.cells, .agg more.cells] [] v' H' := by
  refine V380 (K := fun v' _ => v' = .bool true) ?_
  have n1 : newVarA [] (.agg a.cells) 0 = some (.ptr 0 0 3, [.cells a.cells 0 3 0], .a 0) := rfl
  have n2 : newVarA [.cells a.cells 0 3 0] (.agg s.cells) 0 = some (.ptr 1 0 18, [.cells a.cells 0 3 0, .cells s.cells 0 18 0], .a 1) := rfl
  have n3 : newVarA [.cells a.cells 0 3 0, .cells s.cells 0 18 0] (.agg o.cells) 0 = some (.ptr 2 0 18, [.cells a.cells 0 3 0, .cells s.cells 0 18 0, .cells o.cells 0 18 0], .a 2) := rfl
  have n4 : newVarA [.cells a.cells 0 3 0, .cells s.cells 0 18 0, .cells o.cells 0 18 0] (.agg more.cells) 0 = some (.ptr 3 0 18, [.cells a.cells 0 3 0, .cells s.cells 0 18 0, .cells o.cells 0 18 0, .cells more.cells 0 18 0], .a 3) := rfl
  have n5 : fAlloc [.bool false, .bool false, .nilsl] 0 [.cells a.cells 0 3 0, .cells s.cells 0 18 0, .cells o.cells 0 18 0, .cells more.cells 0 18 0] = some (.ptr 4 0 3, [.cells a.cells 0 3 0, .cells s.cells 0 18 0, .cells o.cells 0 18 0, .cells more.cells 0 18 0, .cells [.bool false, .bool false, .nilsl] 0 3 0], .a 4) := rfl
  have s5 : storeA [.cells a.cells 0 3 0, .cells s.cells 0 18 0, .cells o.cells 0 18 0, .cells more.cells 0 18 0, .cells [.bool false, .bool false, .nilsl] 0 3 0] 3 (.ptr 4 0 3) (.agg a.cells) = some (undefA, [.cells a.cells 0 3 0, .cells s.cells 0 18 0, .cells o.cells 0 18 0, .cells more.cells 0 18 0, .cells a.cells 0 3 0], .w 4) := rfl
  generalize hH4 : [ABlk.cells a.cells 0 3 0, .cells s.cells 0 18 0, .cells o.cells 0 18 0, .cells more.cells 0 18 0] = H4 at n4 n5
  have p3 : loadA H4 3 true (.ptr 0 0 3) = some (.agg a.cells, H4, .r 0) := by subst hH4; rfl
  have p1 : loadA H4 18 true (.ptr 1 0 18) = some (.agg s.cells, H4, .r 1) := by subst hH4; rfl
  have p2 : loadA H4 18 true (.ptr 2 0 18) = some (.agg o.cells, H4, .r 2) := by subst hH4; rfl
  obtain ⟨r1, X1, c1, r2, X2, c2, q1, q2, q3, q6, q4⟩ := append_org (H := [.cells a.cells 0 3 0, .cells s.cells 0 18 0, .cells o.cells 0 18 0, .cells more.cells 0 18 0, .cells a.cells 0 3 0]) ha more hl
  have q5 := q4 [.cells a.cells 0 3 0, .cells s.cells 0 18 0, .cells o.cells 0 18 0, .cells more.cells 0 18 0, .cells [.bool a.all, .bool a.self, r2] 0 3 0] rfl
  have s6 : storeA ([.cells a.cells 0 3 0, .cells s.cells 0 18 0, .cells o.cells 0 18 0, .cells more.cells 0 18 0, .cells a.cells 0 3 0] ++ X2) 1 (.ptr 4 2 3) r2 = some (undefA, [.cells a.cells 0 3 0, .cells s.cells 0 18 0, .cells o.cells 0 18 0, .cells more.cells 0 18 0, .cells [.bool a.all, .bool a.self, r2] 0 3 0] ++ X2, .w 4) := by
   simp only [storeA, q3]
   rfl
  have l0 : zOrg = zOrg := rfl
  have lit0 : litV zOrg 0 18 [] = some (.lst [] 0 18 true) := rfl
  have lit1 : ∀ x : Origin, litV zOrg 1 18 [(0, 18, .agg x.cells)] = some (.lst x.cells 1 18 true) := fun _ => rfl
  generalize hH5 : [ABlk.cells a.cells 0 3 0, .cells s.cells 0 18 0, .cells o.cells 0 18 0, .cells more.cells 0 18 0, .cells a.cells 0 3 0] = H5 at s5 q1 q2 s6
  have p5 : loadA H5 1 false (.ptr 0 2 3) = some (a.r, H5, .r 0) := by subst hH5; rfl
  have p6 : loadA (H5 ++ X1) 18 true (.ptr 3 0 18) = some (.agg more.cells, H5 ++ X1, .r 3) := by subst hH5; rfl
  generalize hH6 : [ABlk.cells a.cells 0 3 0, .cells s.cells 0 18 0, .cells o.cells 0 18 0, .cells more.cells 0 18 0, .cells [.bool a.all, .bool a.self, r2] 0 3 0] ++ X2 = H6 at s6 q5
  have p7 : loadA H6 3 true (.ptr 4 0 3) = some (.agg [.bool a.all, .bool a.self, r2], H6, .r 4) := by subst hH6; rfl
  have p8 : loadA H6 18 true (.ptr 1 0 18) = some (.agg s.cells, H6, .r 1) := by subst hH6; rfl
  have p9 : loadA H6 18 true (.ptr 2 0 18) = some (.agg o.cells, H6, .r 2) := by subst hH6; rfl
  obtain ⟨X3, kd, hy⟩ := has_cs (a := { all := a.all, self := a.self, r := r2, os := a.os ++ [more] }) q5 (by simp; omega) s o
  generalize hG : H6 ++ X3 = G at hy
  have g0 : loadA G 1 false (.ptr 0 0 3) = some (.bool a.all, G, .r 0) := by subst hG hH6; rfl
  have g1 : loadA G 1 false (.ptr 0 1 3) = some (.bool a.self, G, .r 0) := by subst hG hH6; rfl
  have g2 : loadA G 1 false (.ptr 0 2 3) = some (a.r, G, .r 0) := by subst hG hH6; rfl
  have g3 : loadA G 18 true (.ptr 1 0 18) = some (.agg s.cells, G, .r 1) := by subst hG hH6; rfl
  have g4 : loadA G 18 true (.ptr 2 0 18) = some (.agg o.cells, G, .r 2) := by subst hG hH6; rfl
  have b1 : bldV [.bool false, .bool false, .nilsl] [(2, 1, a.r)] = some (.agg (Al.cells { r := a.r, os := a.os })) := bld_al ha
  have b2 : bldV [.bool false, .bool false, .nilsl] [(1, 1, .bool true)] = some (.agg (Al.cells { self := true })) := rfl
  have b3 : bldV [.bool false, .bool false, .nilsl] [] = some (.agg (Al.cells {})) := rfl
  have b4 : bldV [.bool false, .bool false, .nilsl] [(2, 1, .lst o.cells 1 18 true)] = some (.agg (Al.cells { r := .lst o.cells 1 18 true, os := [o] })) := rfl
  have hx := fun H K => has_c ha (by omega) s o H K
  have hz := fun H K => has_c (a := { r := a.r, os := a.os }) ha (by show a.os.length ≤ _; omega) s o H K
  have hn := fun H K => has_c (a := { self := true }) (.nil rfl) (by simp) s o H K
  have hoo := fun H K => has_c (a := { self := true }) (.nil rfl) (by simp) o o H K
  have he := fun H K => has_c (a := {}) (.nil rfl) (by simp) s o H K
  have h1 := fun H K => has_c (a := { r := .lst o.cells 1 18 true, os := [o] }) (by have := IsO.lst (l := [o]) true; rwa [orgs_one] at this) (by simp) s o H K
  have ex : hasB a s o = (a.all || (a.self && hasB { self := true } s o) || hasB { r := a.r, os := a.os } s o) := by simp [hasB]
  have ey : hasB a s o = true → hasB { all := a.all, self := a.self, r := r2, os := a.os ++ [more] } s o = true := by
   simp only [hasB, List.any_append, Bool.or_eq_true]
   rintro (h | h)
   ·exact .inl h
   ·exact .inr (.inl h)
  rw [show hasB { self := true } o o = true by simp [hasB, sameO_self]] at hoo
  rw [show hasB {} s o = false by simp [hasB]] at he
  rw [show hasB { r := .lst o.cells 1 18 true, os := [o] } s o = true by simp [hasB, sameO_self]] at h1
  have k1 : drawOk (drawn F380 0) [.p, .p, .r 0, c1, .r 3, .p, c2, .p, .w 4] = true := by
   rcases q6 with ⟨rfl, rfl⟩ | ⟨rfl, rfl⟩
   ·show drawOk (drawn F380 0) [.p, .p, .r 0, .p, .r 3, .p, .a 5, .p, .w 4] = true
    kernel_rfl
   ·show drawOk (drawn F380 0) [.p, .p, .r 0, .a 5, .r 3, .p, .l, .p, .w 4] = true
    kernel_rfl
  clear q6
  change ∀ K, E.C 382 [.agg [.bool a.all, .bool a.self, r2], .agg s.cells, .agg o.cells] H6 K ↔ _ at hy
  generalize hasB { all := a.all, self := a.self, r := r2, os := a.os ++ [more] } s o = y at *
  generalize hasB { self := true } s o = n at *
  generalize hasB { r := a.r, os := a.os } s o = z at *
  generalize hasB a s o = x at *
  cases e1 : a.all
  ·rw [e1] at g0
   cases e2 : a.self
   ·rw [e2] at g1
    rw [e1, e2] at ex
    cases z
    ·obtain rfl : x = false := by simpa using ex
     simp (disch := omega) only [go_sem, Int.reduceBEq, Int.reduceBNe, Int.reduceLT, Int.reduceLE, Int.reduceAdd, Int.reduceSub, Int.reduceNeg, Nat.reduceLT, Nat.reduceLeDiff, Nat.reduceAdd, lives16_c, n1, n2, n3, n4, n5, s5, p3, p1, p2, hx, lit0, p5, q1, p6, lit1, q2, s6, p7, p8, p9, hy, g0, g1, g2, g3, g4, b1, b2, b3, b4, hz, hn, hoo, he, h1, Nat.zero_add, Nat.add_zero, k1]
    ·obtain rfl : x = true := by simpa using ex
     rw [ey rfl] at hy
     simp (disch := omega) only [go_sem, Int.reduceBEq, Int.reduceBNe, Int.reduceLT, Int.reduceLE, Int.reduceAdd, Int.reduceSub, Int.reduceNeg, Nat.reduceLT, Nat.reduceLeDiff, Nat.reduceAdd, lives16_c, n1, n2, n3, n4, n5, s5, p3, p1, p2, hx, lit0, p5, q1, p6, lit1, q2, s6, p7, p8, p9, hy, g0, g1, g2, g3, g4, b1, b2, b3, b4, hz, hn, hoo, he, h1, Nat.zero_add, Nat.add_zero, k1]
   ·rw [e2] at g1
    rw [e1, e2] at ex
    cases n
    ·cases z
     ·obtain rfl : x = false := by simpa using ex
      simp (disch := omega) only [go_sem, Int.reduceBEq, Int.reduceBNe, Int.reduceLT, Int.reduceLE, Int.reduceAdd, Int.reduceSub, Int.reduceNeg, Nat.reduceLT, Nat.reduceLeDiff, Nat.reduceAdd, lives16_c, n1, n2, n3, n4, n5, s5, p3, p1, p2, hx, lit0, p5, q1, p6, lit1, q2, s6, p7, p8, p9, hy, g0, g1, g2, g3, g4, b1, b2, b3, b4, hz, hn, hoo, he, h1, Nat.zero_add, Nat.add_zero, k1]
     ·obtain rfl : x = true := by simpa using ex
      rw [ey rfl] at hy
      simp (disch := omega) only [go_sem, Int.reduceBEq, Int.reduceBNe, Int.reduceLT, Int.reduceLE, Int.reduceAdd, Int.reduceSub, Int.reduceNeg, Nat.reduceLT, Nat.reduceLeDiff, Nat.reduceAdd, lives16_c, n1, n2, n3, n4, n5, s5, p3, p1, p2, hx, lit0, p5, q1, p6, lit1, q2, s6, p7, p8, p9, hy, g0, g1, g2, g3, g4, b1, b2, b3, b4, hz, hn, hoo, he, h1, Nat.zero_add, Nat.add_zero, k1]
    ·obtain rfl : x = true := by simpa using ex
     rw [ey rfl] at hy
     simp (disch := omega) only [go_sem, Int.reduceBEq, Int.reduceBNe, Int.reduceLT, Int.reduceLE, Int.reduceAdd, Int.reduceSub, Int.reduceNeg, Nat.reduceLT, Nat.reduceLeDiff, Nat.reduceAdd, lives16_c, n1, n2, n3, n4, n5, s5, p3, p1, p2, hx, lit0, p5, q1, p6, lit1, q2, s6, p7, p8, p9, hy, g0, g1, g2, g3, g4, b1, b2, b3, b4, hz, hn, hoo, he, h1, Nat.zero_add, Nat.add_zero, k1]
  ·rw [e1] at g0
   rw [e1] at ex
   obtain rfl : x = true := by simpa using ex
   rw [ey rfl] at hy
   simp (disch := omega) only [go_sem, Int.reduceBEq, Int.reduceBNe, Int.reduceLT, Int.reduceLE, Int.reduceAdd, Int.reduceSub, Int.reduceNeg, Nat.reduceLT, Nat.reduceLeDiff, Nat.reduceAdd, lives16_c, n1, n2, n3, n4, n5, s5, p3, p1, p2, hx, lit0, p5, q1, p6, lit1, q2, s6, p7, p8, p9, hy, g0, g1, g2, g3, g4, b1, b2, b3, b4, hz, hn, hoo, he, h1, Nat.zero_add, Nat.add_zero, k1]
 exact ⟨H', hv ▸ h⟩
end Go.AE.Fns
