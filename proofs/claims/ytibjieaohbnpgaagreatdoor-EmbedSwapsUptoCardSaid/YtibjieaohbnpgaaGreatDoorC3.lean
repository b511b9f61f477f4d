/- What the functions of origins answer, and the law over the evaluator. -/
import Derived.Test.YtibjieaohbnpgaaGreatDoorC2
import Derived.Test.YtibjieaohbnpgaaGreatDoorB4
import Derived.Test.YtibjieaohbnpgaaGreatDoorB5
set_option linter.all false
set_option linter.unusedSimpArgs false
set_option linter.unusedVariables false
set_option linter.unnecessarySimpa false
set_option linter.deprecated false
namespace Go.AE.Fns
open Go Go.AE Env
set_option maxRecDepth 100000
structure Host.In (h : Host) : Prop where
 name : h.name.length ≤ 2 ^ 29
 kind : h.kind < 256
 v4 : h.v4 < 2 ^ 32
 v6 : ∀ x ∈ h.v6, x < 65536
end Go.AE.Fns
namespace Go.AE.Fns
open Go Go.AE Env
set_option maxRecDepth 100000
structure Origin where
 opaq : Bool := false
 id : Int := 0
 scheme : List UInt8 := []
 host : Host := { kind := 0 }
 port : Int := 0
 hasPort : Bool := false
 domain : List UInt8 := []
 hasDomain : Bool := false
 deriving DecidableEq
def Origin.cells (o : Origin) : List AV := [.bool o.opaq, i64 o.id, .str o.scheme] ++ o.host.cells ++ [i64 o.port, .bool o.hasPort, .str o.domain, .bool o.hasDomain]
abbrev originT : ETy := .st [(0, 1, false, .b), (1, 1, false, .i), (2, 1, false, .s), (3, 11, true, hostT), (14, 1, false, .i), (15, 1, false, .b), (16, 1, false, .s), (17, 1, false, .b)]
theorem origin_eq (a b : Origin) : aEq originT (.agg a.cells) (.agg b.cells) = some (decide (a = b)) := by
 have hh : aEq originT (.agg a.cells) (.agg b.cells) = some ((a.opaq == b.opaq) && ((a.id == b.id) && ((a.scheme == b.scheme) && (decide (a.host = b.host) && ((a.port == b.port) && ((a.hasPort == b.hasPort) && ((a.domain == b.domain) && ((a.hasDomain == b.hasDomain) && true)))))))) := by
  rw [aEq_st]
  exact aEqF_cons rfl rfl aEq_bb (aEqF_cons rfl rfl aEq_i (aEqF_cons rfl rfl aEq_s (aEqF_cons rfl rfl (host_eq _ _) (aEqF_cons rfl rfl aEq_i (aEqF_cons rfl rfl aEq_bb (aEqF_cons rfl rfl aEq_s (aEqF_cons rfl rfl aEq_bb aEqF_nil)))))))
 rw [hh]
 congr 1
 rw [Bool.eq_iff_iff]
 cases a; cases b
 simp only [Bool.and_eq_true, beq_iff_eq, decide_eq_true_eq, Origin.mk.injEq, and_true]
theorem origin_eqV (a b : Origin) {ng : Bool} : eqV ng originT (.agg a.cells) (.agg b.cells) = some (.bool (if ng then !decide (a = b) else decide (a = b))) := by
 unfold eqV
 rw [origin_eq]; rfl
structure Origin.In (o : Origin) : Prop where
 host : o.host.In
 scheme : o.scheme.length ≤ 2 ^ 29
 domain : o.domain.length ≤ 2 ^ 29
 id : -(2 ^ 63 : Int) ≤ o.id ∧ o.id < 2 ^ 63
 port : -(2 ^ 63 : Int) ≤ o.port ∧ o.port < 2 ^ 63
theorem origin_free (o : Origin) : locFreeL o.cells = true := rfl
def sameO (a b : Origin) : Bool := if a.opaq || b.opaq then (a.opaq == b.opaq) && (a.id == b.id) else decide ({ a with domain := b.domain, hasDomain := b.hasDomain, id := b.id } = b)
theorem sameO_c (a b : Origin) (H : AHeap) (K : AV → AHeap → Kd → Prop) : E.C 236 [.agg a.cells, .agg b.cells] H K ↔ K (.bool (sameO a b)) H .p := by
 refine C_by (V236 (K := fun v' _ => v' = .bool (sameO a b)) ?_) rfl (by kernel_rfl) (fun _ => rfl)
 have b1 : newVarA [] (.agg a.cells) 0 = some (.ptr 0 0 18, [.cells a.cells 0 18 0], .a 0) := rfl
 have b2 : newVarA [.cells a.cells 0 18 0] (.agg b.cells) 0 = some (.ptr 1 0 18, [.cells a.cells 0 18 0, .cells b.cells 0 18 0], .a 1) := rfl
 generalize hH : [ABlk.cells a.cells 0 18 0, .cells b.cells 0 18 0] = H0 at b2
 have l00 : loadA H0 1 false (.ptr 0 0 18) = some (.bool a.opaq, H0, .r 0) := by subst hH; rfl
 have l01 : loadA H0 1 false (.ptr 0 1 18) = some (.int .i64 a.id, H0, .r 0) := by subst hH; rfl
 have l10 : loadA H0 1 false (.ptr 1 0 18) = some (.bool b.opaq, H0, .r 1) := by subst hH; rfl
 have l11 : loadA H0 1 false (.ptr 1 1 18) = some (.int .i64 b.id, H0, .r 1) := by subst hH; rfl
 have l1g : loadA H0 1 false (.ptr 1 16 18) = some (.str b.domain, H0, .r 1) := by subst hH; rfl
 have l1h : loadA H0 1 false (.ptr 1 17 18) = some (.bool b.hasDomain, H0, .r 1) := by subst hH; rfl
 have s1 : storeA H0 1 (.ptr 0 16 18) (.str b.domain) = some (undefA, [.cells (Origin.cells { a with domain := b.domain }) 0 18 0, .cells b.cells 0 18 0], .w 0) := by subst hH; rfl
 have s2 : storeA [.cells (Origin.cells { a with domain := b.domain }) 0 18 0, .cells b.cells 0 18 0] 1 (.ptr 0 17 18) (.bool b.hasDomain) = some (undefA, [.cells (Origin.cells { a with domain := b.domain, hasDomain := b.hasDomain }) 0 18 0, .cells b.cells 0 18 0], .w 0) := rfl
 have s3 : storeA [.cells (Origin.cells { a with domain := b.domain, hasDomain := b.hasDomain }) 0 18 0, .cells b.cells 0 18 0] 1 (.ptr 0 1 18) (.int .i64 b.id) = some (undefA, [.cells (Origin.cells { a with domain := b.domain, hasDomain := b.hasDomain, id := b.id }) 0 18 0, .cells b.cells 0 18 0], .w 0) := rfl
 have la : loadA [.cells (Origin.cells { a with domain := b.domain, hasDomain := b.hasDomain, id := b.id }) 0 18 0, .cells b.cells 0 18 0] 18 true (.ptr 0 0 18) = some (.agg (Origin.cells { a with domain := b.domain, hasDomain := b.hasDomain, id := b.id }), [.cells (Origin.cells { a with domain := b.domain, hasDomain := b.hasDomain, id := b.id }) 0 18 0, .cells b.cells 0 18 0], .r 0) := rfl
 have lb : loadA [.cells (Origin.cells { a with domain := b.domain, hasDomain := b.hasDomain, id := b.id }) 0 18 0, .cells b.cells 0 18 0] 18 true (.ptr 1 0 18) = some (.agg b.cells, [.cells (Origin.cells { a with domain := b.domain, hasDomain := b.hasDomain, id := b.id }) 0 18 0, .cells b.cells 0 18 0], .r 1) := rfl
 have hd : drawOk (drawn F236 0) [.p, .r 1, .p, .r 1, .p, .r 1, .p, .w 0, .p, .w 0, .p, .w 0] = true := by kernel_rfl
 have hq := origin_eqV
 cases e0 : a.opaq <;> cases e1 : b.opaq
 ·have hs : sameO a b = decide ({ a with domain := b.domain, hasDomain := b.hasDomain, id := b.id } = b) := by simp [sameO, e0, e1]
  rw [hs]
  rw [e0] at l00
  rw [e1] at l10
  simp (disch := omega) only [go_sem, Int.reduceBEq, Int.reduceBNe, Int.reduceLT, Int.reduceLE, Int.reduceAdd, Int.reduceSub, Int.reduceNeg, Nat.reduceLT, Nat.reduceLeDiff, Nat.reduceAdd, b1, b2, l00, l01, l10, l11, l1g, l1h, s1, s2, s3, la, lb, hd, hq, Nat.zero_add]
 ·have hs : sameO a b = ((false == true) && (a.id == b.id)) := by simp [sameO, e0, e1]
  rw [hs]
  rw [e0] at l00
  rw [e1] at l10
  simp (disch := omega) only [go_sem, Int.reduceBEq, Int.reduceBNe, Int.reduceLT, Int.reduceLE, Int.reduceAdd, Int.reduceSub, Int.reduceNeg, Nat.reduceLT, Nat.reduceLeDiff, Nat.reduceAdd, b1, b2, l00, l01, l10, l11, l1g, l1h, s1, s2, s3, la, lb, hd, hq, Nat.zero_add]
 ·have hs : sameO a b = ((true == false) && (a.id == b.id)) := by simp [sameO, e0, e1]
  rw [hs]
  rw [e0] at l00
  rw [e1] at l10
  simp (disch := omega) only [go_sem, Int.reduceBEq, Int.reduceBNe, Int.reduceLT, Int.reduceLE, Int.reduceAdd, Int.reduceSub, Int.reduceNeg, Nat.reduceLT, Nat.reduceLeDiff, Nat.reduceAdd, b1, b2, l00, l01, l10, l11, l1g, l1h, s1, s2, s3, la, lb, hd, hq, Nat.zero_add]
 ·have hs : sameO a b = ((true == true) && (a.id == b.id)) := by simp [sameO, e0, e1]
  rw [hs]
  rw [e0] at l00
  rw [e1] at l10
  simp (disch := omega) only [go_sem, Int.reduceBEq, Int.reduceBNe, Int.reduceLT, Int.reduceLE, Int.reduceAdd, Int.reduceSub, Int.reduceNeg, Nat.reduceLT, Nat.reduceLeDiff, Nat.reduceAdd, b1, b2, l00, l01, l10, l11, l1g, l1h, s1, s2, s3, la, lb, hd, hq, Nat.zero_add]
end Go.AE.Fns
namespace Go.AE.Fns
open Go Go.AE Env
set_option maxRecDepth 100000
structure Site where
 opaq : Bool := false
 id : Int := 0
 scheme : List UInt8 := []
 host : List UInt8 := []
 deriving DecidableEq
def Site.cells (s : Site) : List AV := [.bool s.opaq, i64 s.id, .str s.scheme, .str s.host]
end Go.AE.Fns
namespace Go.AE.Fns
open Go Go.AE Env
set_option maxRecDepth 100000
end Go.AE.Fns
namespace Go.AE.Fns
open Go Go.AE Env
set_option maxRecDepth 100000
theorem sameO_self (a : Origin) : sameO a a = true := by unfold sameO; split <;> simp
theorem sameO_iff {a b : Origin} (ha : a.opaq = false) : sameO a b = true ↔ b.opaq = false ∧ a.scheme = b.scheme ∧ a.host = b.host ∧ a.port = b.port ∧ a.hasPort = b.hasPort := by
 unfold sameO
 cases hb : b.opaq
 ·simp only [ha, Bool.or_self, Bool.false_eq_true, if_false, decide_eq_true_eq, true_and]
  cases a; cases b
  simp only at ha hb
  subst ha hb
  simp
 ·simp [ha]
theorem sameO_op {a b : Origin} (ha : a.opaq = true) : sameO a b = true ↔ b.opaq = true ∧ a.id = b.id := by
 unfold sameO
 simp only [ha, Bool.true_or, if_true, Bool.and_eq_true, beq_iff_eq]
 constructor
 ·rintro ⟨h1, h2⟩; exact ⟨h1.symm, h2⟩
 ·rintro ⟨h1, h2⟩; exact ⟨h1.symm, h2⟩
theorem bool_eq {a b : Bool} (h : a = true ↔ b = true) : a = b := by cases a <;> cases b <;> simp_all
theorem sameO_comm (a b : Origin) : sameO a b = sameO b a := by
 apply bool_eq
 cases ha : a.opaq
 ·rw [sameO_iff ha]
  cases hb : b.opaq
  ·rw [sameO_iff hb]
   constructor
   ·rintro ⟨_, h1, h2, h3, h4⟩; exact ⟨ha, h1.symm, h2.symm, h3.symm, h4.symm⟩
   ·rintro ⟨_, h1, h2, h3, h4⟩; exact ⟨rfl, h1.symm, h2.symm, h3.symm, h4.symm⟩
  ·rw [sameO_op hb]; simp [ha]
 ·rw [sameO_op ha]
  cases hb : b.opaq
  ·rw [sameO_iff hb]; simp [ha]
  ·rw [sameO_op hb]
   constructor
   ·rintro ⟨_, h⟩; exact ⟨ha, h.symm⟩
   ·rintro ⟨_, h⟩; exact ⟨rfl, h.symm⟩
end Go.AE.Fns
namespace Go.AE.Fns
open Go Go.AE Env
set_option maxRecDepth 100000
def orgs (l : List Origin) : List AV := l.flatMap Origin.cells
theorem org_len (o : Origin) : o.cells.length = 18 := rfl
theorem orgs_len : ∀ l : List Origin, (orgs l).length = l.length * 18
 | [] => rfl
 | o :: l => by
  have := orgs_len l
  simp only [orgs, List.flatMap_cons, List.length_append, org_len, List.length_cons] at this ⊢
  omega
theorem orgs_at : ∀ (l : List Origin) (i : Nat) (h : i < l.length), ((orgs l).drop (i * 18)).take 18 = (l[i]).cells
 | o :: l, 0, _ => by
  simp only [orgs, List.flatMap_cons, Nat.zero_mul, List.drop_zero, List.getElem_cons_zero]
  rw [List.take_append_of_le_length (Nat.le_refl 18)]
  rfl
 | o :: l, i + 1, h => by
  have ih := orgs_at l i (by simpa using h)
  simp only [orgs, List.flatMap_cons, List.getElem_cons_succ] at ih ⊢
  rw [show (i + 1) * 18 = o.cells.length + i * 18 by rw [org_len]; omega, List.drop_append, List.drop_eq_nil_of_le (by omega), List.nil_append, Nat.add_sub_cancel_left]
  exact ih
inductive VO (H : AHeap) : AV → List Origin → Prop where
 | lst {l : List Origin} (ex : Bool) : VO H (.lst (orgs l) l.length 18 ex) l
 | nil : VO H .nilsl []
 | sl {b v : Nat} {cap : Option Nat} {l : List Origin} {cs : List AV} {g wv st : Nat} (hb : H[b]? = some (.cells cs g wv st)) (h1 : st < 2) (h2 : wv ≤ v) (h3 : v ≤ cs.length) (h4 : l.length * 18 ≤ v) (h5 : cs.take (l.length * 18) = orgs l) : VO H (.sl b 0 l.length 18 v cap) l
theorem VO.len {H : AHeap} {r : AV} {l : List Origin} (h : VO H r l) (H' : AHeap) : lenA H' .lenSl r = some (.int .i64 l.length, H', .p) := by cases h <;> rfl
theorem VO.app {H : AHeap} {r : AV} {l : List Origin} (h : VO H r l) (X : AHeap) : VO (H ++ X) r l := by
 cases h with
 | lst ex => exact .lst ex
 | nil => exact .nil
 | sl hb h1 h2 h3 h4 h5 => exact .sl (get_app hb) h1 h2 h3 h4 h5
theorem VO.get {H : AHeap} {r : AV} {l : List Origin} (h : VO H r l) {i : Nat} (hi : i < l.length) : ∃ a kd, idxAddrA 18 r (.int .i64 i) = some a ∧ loadA H 18 true a = some (.agg (l[i]).cells, H, kd) := by
 have e := orgs_at l i hi
 cases h with
 | lst ex =>
  refine ⟨.elt (orgs l) (i * 18), .p, by simp [idxAddrA, asI, hi], ?_⟩
  have hl := orgs_len l
  have h2 : i * 18 + 18 ≤ (orgs l).length := by omega
  simp only [loadA, part, if_true, if_pos h2, e, pureV, Option.map_some]
 | nil => simp at hi
 | @sl b v cap _ cs g wv st hb h1 h2 h3 h4 h5 =>
  refine ⟨.ptr b (0 + i * 18) v, .r b, by simp [idxAddrA, asI, hi], ?_⟩
  rw [Nat.zero_add]
  have hc : st < 2 ∧ wv ≤ v ∧ v ≤ cs.length ∧ i * 18 + 18 ≤ v := ⟨h1, h2, h3, by omega⟩
  have h6 : i * 18 + 18 ≤ cs.length := by omega
  have e2 : (cs.drop (i * 18)).take 18 = (l[i]).cells := by
   rw [← e, ← h5, List.drop_take, List.take_take]
   congr 1
   omega
  simp only [loadA, hb, if_pos hc, part, if_true, if_pos h6, e2, readV, Option.map_some]
inductive IsO (l : List Origin) : AV → Prop where
 | lst (ex : Bool) : IsO l (.lst (orgs l) l.length 18 ex)
 | nil (h : l = []) : IsO l .nilsl
theorem locFreeL_app : ∀ a b : List AV, locFreeL (a ++ b) = (locFreeL a && locFreeL b)
 | [], b => by simp [locFreeL]
 | x :: a, b => by simp [locFreeL, locFreeL_app a b, Bool.and_assoc]
theorem orgs_free : ∀ l : List Origin, locFreeL (orgs l) = true
 | [] => rfl
 | o :: l => by
  have ih := orgs_free l
  simp only [orgs, List.flatMap_cons] at ih ⊢
  rw [locFreeL_app, origin_free, ih]; rfl
theorem IsO.free {l : List Origin} {r : AV} (h : IsO l r) : r.locFree = true := by
 cases h with
 | lst ex => simpa [AV.locFree] using orgs_free l
 | nil => rfl
structure Al where
 all : Bool := false
 self : Bool := false
 r : AV := .nilsl
 os : List Origin := []
def Al.cells (a : Al) : List AV := [.bool a.all, .bool a.self, a.r]
structure Gr where
 feat : List UInt8
 al : Al
def Gr.cells (g : Gr) : List AV := .str g.feat :: g.al.cells
def Gr.Ok (g : Gr) (M : Nat) : Prop := IsO g.al.os g.al.r ∧ g.al.os.length ≤ M ∧ g.feat.length ≤ M
def grs (l : List Gr) : List AV := l.flatMap Gr.cells
inductive IsG (l : List Gr) : AV → Prop where
 | lst (ex : Bool) : IsG l (.lst (grs l) l.length 4 ex)
 | nil (h : l = []) : IsG l .nilsl
theorem gr_len (g : Gr) : g.cells.length = 4 := rfl
theorem grs_len : ∀ l : List Gr, (grs l).length = l.length * 4
 | [] => rfl
 | o :: l => by
  have := grs_len l
  simp only [grs, List.flatMap_cons, List.length_append, gr_len, List.length_cons] at this ⊢
  omega
theorem grs_at : ∀ (l : List Gr) (i : Nat) (h : i < l.length), ((grs l).drop (i * 4)).take 4 = (l[i]).cells
 | o :: l, 0, _ => by
  simp only [grs, List.flatMap_cons, Nat.zero_mul, List.drop_zero, List.getElem_cons_zero]
  rw [List.take_append_of_le_length (Nat.le_refl 4)]
  rfl
 | o :: l, i + 1, h => by
  have ih := grs_at l i (by simpa using h)
  simp only [grs, List.flatMap_cons, List.getElem_cons_succ] at ih ⊢
  rw [show (i + 1) * 4 = o.cells.length + i * 4 by rw [gr_len]; omega, List.drop_append, List.drop_eq_nil_of_le (by omega), List.nil_append, Nat.add_sub_cancel_left]
  exact ih
theorem IsG.len {r : AV} {l : List Gr} (h : IsG l r) (H' : AHeap) : lenA H' .lenSl r = some (.int .i64 l.length, H', .p) := by
 cases h with
 | lst ex => rfl
 | nil h => subst h; rfl
theorem IsG.get {r : AV} {l : List Gr} (h : IsG l r) {i : Nat} (hi : i < l.length) : ∃ a, idxAddrA 4 r (.int .i64 i) = some a ∧ ∀ H, loadA H 4 true a = some (.agg (l[i]).cells, H, .p) := by
 have e := grs_at l i hi
 cases h with
 | lst ex =>
  refine ⟨.elt (grs l) (i * 4), by simp [idxAddrA, asI, hi], fun H => ?_⟩
  have hl := grs_len l
  have h2 : i * 4 + 4 ≤ (grs l).length := by omega
  simp only [loadA, part, if_true, if_pos h2, e, pureV, Option.map_some]
 | nil h => subst h; simp at hi
theorem grs_free {M : Nat} : ∀ l : List Gr, (∀ g ∈ l, g.Ok M) → locFreeL (grs l) = true
 | [], _ => rfl
 | g :: l, h => by
  have ih := grs_free l fun x hx => h x (by simp [hx])
  have hg := (h g (by simp)).1.free
  simp only [grs, List.flatMap_cons] at ih ⊢
  rw [locFreeL_app, ih]
  simp [Gr.cells, Al.cells, locFreeL, AV.locFree, hg]
theorem IsG.free {M : Nat} {l : List Gr} {r : AV} (h : IsG l r) (hl : ∀ g ∈ l, g.Ok M) : r.locFree = true := by
 cases h with
 | lst ex => simpa [AV.locFree] using grs_free l hl
 | nil => rfl
end Go.AE.Fns
namespace Go.AE.Fns
open Go Go.AE Env
set_option maxRecDepth 100000
theorem VO.alone {H : AHeap} {r : AV} {l : List Origin} (h : VO H r l) (e : r.locFree = true) : VO [] r l := by
 cases h with
 | lst ex => exact .lst ex
 | nil => exact .nil
 | sl => simp [AV.locFree] at e
end Go.AE.Fns
namespace Go.AE.Fns
open Go Go.AE Env
set_option maxRecDepth 100000
theorem lives16_ans : ∃ Hl, E.Ans 381 [] [] (.bool true) Hl := by
 have h := r1
 unfold run at h
 rw [callsF_eq] at h
 cases hc : callsA lpT.get keep (hookA keep onceN once) 100000 false 381 [] [] with
 | none => rw [hc] at h; simp [isT] at h
 | some p =>
  obtain ⟨v, Hl⟩ := p
  rw [hc] at h
  unfold isT at h
  split at h
  ·rename_i heq
   simp at heq
   exact ⟨Hl, 100000, by show callsA E.lp E.keep E.hk 100000 false 381 [] [] = _; rw [← heq.1]; exact hc⟩
  ·simp at h
theorem lives16_c (H : AHeap) (K : AV → AHeap → Kd → Prop) : E.C 381 [] H K ↔ K (.bool true) H .p := by
 obtain ⟨Hl, h⟩ := lives16_ans
 exact C_by (v := .bool true) ⟨_, Hl, rfl, h⟩ rfl (by kernel_rfl) fun _ => rfl
def swapB (a : Int) (x : Origin) (b : Int) (y : Origin) (i : Bool) : Bool := if ((a == b) && ((a == 0) || sameO x y)) = true then false else if ((i && (a == 1)) && (b == 0)) = true then false else true
theorem swaps_c (a b : Int) (x y : Origin) (i : Bool) (H : AHeap) (K : AV → AHeap → Kd → Prop) : E.C 387 [.int .u8 a, .agg x.cells, .int .u8 b, .agg y.cells, .bool i] H K ↔ K (.bool (swapB a x b y i)) H .p := by
 refine C_by (V387 (K := fun v' _ => v' = .bool (swapB a x b y i)) ?_) rfl (by kernel_rfl) (fun _ => rfl)
 have n1 : newVarA [] (.agg x.cells) 0 = some (.ptr 0 0 18, [.cells x.cells 0 18 0], .a 0) := rfl
 have n2 : newVarA [.cells x.cells 0 18 0] (.agg y.cells) 0 = some (.ptr 1 0 18, [.cells x.cells 0 18 0, .cells y.cells 0 18 0], .a 1) := rfl
 have l1 : loadA [.cells x.cells 0 18 0, .cells y.cells 0 18 0] 18 true (.ptr 0 0 18) = some (.agg x.cells, [.cells x.cells 0 18 0, .cells y.cells 0 18 0], .r 0) := rfl
 have l2 : loadA [.cells x.cells 0 18 0, .cells y.cells 0 18 0] 18 true (.ptr 1 0 18) = some (.agg y.cells, [.cells x.cells 0 18 0, .cells y.cells 0 18 0], .r 1) := rfl
 have hs := fun H K => sameO_c x y H K
 unfold swapB
 generalize sameO x y = s at *
 cases e1 : (a == b) <;> cases e2 : (a == 0) <;> cases e3 : s <;> cases i <;> cases e4 : (a == 1) <;> cases e5 : (b == 0) <;> (rw [e3] at hs; simp (disch := omega) only [go_sem, Int.reduceBEq, Int.reduceBNe, Int.reduceLT, Int.reduceLE, Int.reduceAdd, Int.reduceSub, Int.reduceNeg, Nat.reduceLT, Nat.reduceLeDiff, Nat.reduceAdd, n1, n2, l1, l2, hs, e1, e2, e4, e5]) <;> rfl
theorem swap_comm (a b : Int) (x y : Origin) : swapB b y a x false = swapB a x b y false := by
 unfold swapB
 rw [sameO_comm y x]
 by_cases h : a = b
 ·subst h; rfl
 ·have h1 : (a == b) = false := by simpa using h
  have h2 : (b == a) = false := by simpa using fun e => h e.symm
  simp [h1, h2]
theorem swap_self (a : Int) (x : Origin) : swapB a x a x false = false := by simp [swapB, sameO_self]
theorem swap_first {a b : Int} {x y : Origin} (h : swapB a x b y false = false) : swapB a x b y true = false := by
 unfold swapB at h ⊢
 split
 ·rfl
 ·rename_i c
  rw [if_neg c] at h
  simp at h
theorem embeds3_c {r : AV} (hr : r.locFree = true) (x y : Origin) (H : AHeap) (K : AV → AHeap → Kd → Prop) : E.C 388 [.int .u8 3, .int .u8 1, r, .agg x.cells, .agg y.cells] H K ↔ K (.tuple [.bool true, i64 0]) H .p := by
 refine C_by (V388 (K := fun v' _ => v' = .tuple [.bool true, i64 0]) ?_) (by simp [locFreeL, AV.locFree, hr, origin_free]) (by kernel_rfl) fun _ => rfl
 have n1 : newVarA [] (.agg x.cells) 0 = some (.ptr 0 0 18, [.cells x.cells 0 18 0], .a 0) := rfl
 have n2 : newVarA [.cells x.cells 0 18 0] (.agg y.cells) 0 = some (.ptr 1 0 18, [.cells x.cells 0 18 0, .cells y.cells 0 18 0], .a 1) := rfl
 simp (disch := omega) only [go_sem, Int.reduceBEq, Int.reduceBNe, Int.reduceLT, Int.reduceLE, Int.reduceAdd, Int.reduceSub, Int.reduceNeg, Nat.reduceLT, Nat.reduceLeDiff, Nat.reduceAdd, n1, n2]
theorem embeds0_c {r : AV} (hr : r.locFree = true) (x y : Origin) (H : AHeap) (K : AV → AHeap → Kd → Prop) : E.C 388 [.int .u8 0, .int .u8 0, r, .agg x.cells, .agg y.cells] H K ↔ K (.tuple [.bool true, i64 0]) H .p := by
 refine C_by (V388 (K := fun v' _ => v' = .tuple [.bool true, i64 0]) ?_) (by simp [locFreeL, AV.locFree, hr, origin_free]) (by kernel_rfl) fun _ => rfl
 have n1 : newVarA [] (.agg x.cells) 0 = some (.ptr 0 0 18, [.cells x.cells 0 18 0], .a 0) := rfl
 have n2 : newVarA [.cells x.cells 0 18 0] (.agg y.cells) 0 = some (.ptr 1 0 18, [.cells x.cells 0 18 0, .cells y.cells 0 18 0], .a 1) := rfl
 simp (disch := omega) only [go_sem, Int.reduceBEq, Int.reduceBNe, Int.reduceLT, Int.reduceLE, Int.reduceAdd, Int.reduceSub, Int.reduceNeg, Nat.reduceLT, Nat.reduceLeDiff, Nat.reduceAdd, n1, n2]
theorem embeds1_c {r : AV} (hr : r.locFree = true) (x : Origin) (H : AHeap) (K : AV → AHeap → Kd → Prop) : E.C 388 [.int .u8 1, .int .u8 0, r, .agg x.cells, .agg x.cells] H K ↔ K (.tuple [.bool true, i64 0]) H .p := by
 refine C_by (V388 (K := fun v' _ => v' = .tuple [.bool true, i64 0]) ?_) (by simp [locFreeL, AV.locFree, hr, origin_free]) (by kernel_rfl) fun _ => rfl
 have n1 : newVarA [] (.agg x.cells) 0 = some (.ptr 0 0 18, [.cells x.cells 0 18 0], .a 0) := rfl
 have n2 : newVarA [.cells x.cells 0 18 0] (.agg x.cells) 0 = some (.ptr 1 0 18, [.cells x.cells 0 18 0, .cells x.cells 0 18 0], .a 1) := rfl
 have l1 : loadA [.cells x.cells 0 18 0, .cells x.cells 0 18 0] 18 true (.ptr 0 0 18) = some (.agg x.cells, [.cells x.cells 0 18 0, .cells x.cells 0 18 0], .r 0) := rfl
 have l2 : loadA [.cells x.cells 0 18 0, .cells x.cells 0 18 0] 18 true (.ptr 1 0 18) = some (.agg x.cells, [.cells x.cells 0 18 0, .cells x.cells 0 18 0], .r 1) := rfl
 have hs := fun H K => sameO_c x x H K
 rw [sameO_self] at hs
 simp (disch := omega) only [go_sem, Int.reduceBEq, Int.reduceBNe, Int.reduceLT, Int.reduceLE, Int.reduceAdd, Int.reduceSub, Int.reduceNeg, Nat.reduceLT, Nat.reduceLeDiff, Nat.reduceAdd, n1, n2, l1, l2, hs]
set_option maxHeartbeats 4000000 in
theorem embedSwaps_ans {r : AV} (hr : r.locFree = true) (a b : Int) (x y : Origin) : ∃ H', E.Ans 386 [.int .u8 a, .int .u8 b, .agg x.cells, .agg y.cells, r] [] (.bool true) H' := by
 obtain ⟨v', H', hv, h⟩ : ∃ v' H', v' = AV.bool true ∧ E.Ans 386 [.int .u8 a, .int .u8 b, .agg x.cells, .agg y.cells, r] [] v' H' := by
  refine V386 (K := fun v' _ => v' = .bool true) ?_
  have n1 : newVarA [] (.agg x.cells) 0 = some (.ptr 0 0 18, [.cells x.cells 0 18 0], .a 0) := rfl
  have n2 : newVarA [.cells x.cells 0 18 0] (.agg y.cells) 0 = some (.ptr 1 0 18, [.cells x.cells 0 18 0, .cells y.cells 0 18 0], .a 1) := rfl
  generalize hH : [ABlk.cells x.cells 0 18 0, .cells y.cells 0 18 0] = H2 at n2
  have l1 : loadA H2 18 true (.ptr 0 0 18) = some (.agg x.cells, H2, .r 0) := by subst hH; rfl
  have l2 : loadA H2 18 true (.ptr 1 0 18) = some (.agg y.cells, H2, .r 1) := by subst hH; rfl
  have s1 := fun H K => swaps_c a b x y false H K
  have s2 := fun H K => swaps_c b a y x false H K
  have s3 := fun H K => swaps_c a a x x false H K
  have s4 := fun H K => swaps_c a b x y true H K
  rw [swap_comm] at s2
  rw [swap_self] at s3
  have m1 := fun H K => embeds3_c hr x y H K
  have m2 := fun H K => embeds0_c hr x y H K
  have m3 := fun H K => embeds1_c hr x H K
  have k1 : ∀ ks, ks.all readK = true → drawOk (drawn F386 0) ks = true := fun ks h => draw_reads h (by kernel_rfl)
  have imp := @swap_first a b x y
  generalize swapB a x b y false = P at *
  generalize swapB a x b y true = Q at *
  cases P
  ·rw [imp rfl] at s4
   simp (disch := omega) only [go_sem, Int.reduceBEq, Int.reduceBNe, Int.reduceLT, Int.reduceLE, Int.reduceAdd, Int.reduceSub, Int.reduceNeg, Nat.reduceLT, Nat.reduceLeDiff, Nat.reduceAdd, lives16_c, n1, n2, l1, l2, s1, s2, s3, s4, m1, m2, m3]
   exact k1 _ (by rfl)
  ·cases Q
   ·simp (disch := omega) only [go_sem, Int.reduceBEq, Int.reduceBNe, Int.reduceLT, Int.reduceLE, Int.reduceAdd, Int.reduceSub, Int.reduceNeg, Nat.reduceLT, Nat.reduceLeDiff, Nat.reduceAdd, lives16_c, n1, n2, l1, l2, s1, s2, s3, s4, m1, m2, m3]
    exact k1 _ (by rfl)
   ·simp (disch := omega) only [go_sem, Int.reduceBEq, Int.reduceBNe, Int.reduceLT, Int.reduceLE, Int.reduceAdd, Int.reduceSub, Int.reduceNeg, Nat.reduceLT, Nat.reduceLeDiff, Nat.reduceAdd, lives16_c, n1, n2, l1, l2, s1, s2, s3, s4, m1, m2, m3]
    exact k1 _ (by rfl)
 exact ⟨H', hv ▸ h⟩
end Go.AE.Fns
