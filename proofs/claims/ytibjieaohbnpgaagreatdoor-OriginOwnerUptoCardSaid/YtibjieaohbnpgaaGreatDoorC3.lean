/- What the functions of origins answer, and the law over the evaluator. -/
import Derived.Test.YtibjieaohbnpgaaGreatDoorC2
import Derived.Test.YtibjieaohbnpgaaGreatDoorB4
import Derived.Test.YtibjieaohbnpgaaGreatDoorC1
import Derived.Test.YtibjieaohbnpgaaGreatDoorB5
set_option linter.all false
set_option linter.unusedSimpArgs false
set_option linter.unusedVariables false
set_option linter.unnecessarySimpa false
set_option linter.deprecated false
namespace Go.AE.Fns
open Go Go.AE Env
set_option maxRecDepth 100000
structure Host.In (h : Host) : Prop where
 name : h.name.length ≤ 2 ^ 29
 kind : h.kind < 256
 v4 : h.v4 < 2 ^ 32
 v6 : ∀ x ∈ h.v6, x < 65536
end Go.AE.Fns
namespace Go.AE.Fns
open Go Go.AE Env
set_option maxRecDepth 100000
def specialB (s : List UInt8) : Int × Bool := if s = [102, 116, 112] then (21, true) else if s = [102, 105, 108, 101] then (0, true) else if s = [104, 116, 116, 112] then (80, true) else if s = [104, 116, 116, 112, 115] then (443, true) else if s = [119, 115] then (80, true) else if s = [119, 115, 115] then (443, true) else (0, false)
def spMap : List (AV × AV) := [(.str [102, 116, 112], i64 21), (.str [102, 105, 108, 101], i64 0), (.str [104, 116, 116, 112], i64 80), (.str [104, 116, 116, 112, 115], i64 443), (.str [119, 115], i64 80), (.str [119, 115, 115], i64 443)]
theorem special_c (s : List UInt8) (H : AHeap) (K : AV → AHeap → Kd → Prop) : E.C 116 [.str s] H K ↔ K (.tuple [i64 (specialB s).1, .bool (specialB s).2]) H .p := by
 refine C_by (V116 (K := fun v' _ => v' = .tuple [i64 (specialB s).1, .bool (specialB s).2]) ?_) rfl (by kernel_rfl) (fun _ => rfl)
 have m0 : fMkMap [] = some (.map 0, [.map []], .a 0) := rfl
 have m1 : fMapUpd .s (.map 0) (.str [102, 116, 112]) (.int .i64 21) [.map []] = some (undefA, [.map (spMap.take 1)], .l) := rfl
 have m2 : fMapUpd .s (.map 0) (.str [102, 105, 108, 101]) (.int .i64 0) [.map (spMap.take 1)] = some (undefA, [.map (spMap.take 2)], .l) := rfl
 have m3 : fMapUpd .s (.map 0) (.str [104, 116, 116, 112]) (.int .i64 80) [.map (spMap.take 2)] = some (undefA, [.map (spMap.take 3)], .l) := rfl
 have m4 : fMapUpd .s (.map 0) (.str [104, 116, 116, 112, 115]) (.int .i64 443) [.map (spMap.take 3)] = some (undefA, [.map (spMap.take 4)], .l) := rfl
 have m5 : fMapUpd .s (.map 0) (.str [119, 115]) (.int .i64 80) [.map (spMap.take 4)] = some (undefA, [.map (spMap.take 5)], .l) := rfl
 have m6 : fMapUpd .s (.map 0) (.str [119, 115, 115]) (.int .i64 443) [.map (spMap.take 5)] = some (undefA, [.map spMap], .l) := rfl
 have lk : fLookup .s (.int .i64 0) true (.map 0) (.str s) [.map spMap] = some (.tuple [i64 (specialB s).1, .bool (specialB s).2], [.map spMap], .r 0) := by
  have e : ∀ k : List UInt8, aEq .s (.str s) (.str k) = some (s == k) := fun _ => rfl
  unfold specialB
  simp only [fLookup, List.getElem?_cons_zero, ETy.plainKey, if_true, spMap, findA, e]
  by_cases c1 : s = [102, 116, 112]
  ·subst c1; rfl
  by_cases c2 : s = [102, 105, 108, 101]
  ·subst c2; rfl
  by_cases c3 : s = [104, 116, 116, 112]
  ·subst c3; rfl
  by_cases c4 : s = [104, 116, 116, 112, 115]
  ·subst c4; rfl
  by_cases c5 : s = [119, 115]
  ·subst c5; rfl
  by_cases c6 : s = [119, 115, 115]
  ·subst c6; rfl
  simp only [c1, c2, c3, c4, c5, c6, if_false, beq_eq_false_iff_ne.2 c1, beq_eq_false_iff_ne.2 c2, beq_eq_false_iff_ne.2 c3, beq_eq_false_iff_ne.2 c4, beq_eq_false_iff_ne.2 c5, beq_eq_false_iff_ne.2 c6]
  rfl
 simp (disch := omega) only [go_sem, Int.reduceBEq, m0, m1, m2, m3, m4, m5, m6, lk]
structure Origin where
 opaq : Bool := false
 id : Int := 0
 scheme : List UInt8 := []
 host : Host := { kind := 0 }
 port : Int := 0
 hasPort : Bool := false
 domain : List UInt8 := []
 hasDomain : Bool := false
 deriving DecidableEq
def Origin.cells (o : Origin) : List AV := [.bool o.opaq, i64 o.id, .str o.scheme] ++ o.host.cells ++ [i64 o.port, .bool o.hasPort, .str o.domain, .bool o.hasDomain]
abbrev originT : ETy := .st [(0, 1, false, .b), (1, 1, false, .i), (2, 1, false, .s), (3, 11, true, hostT), (14, 1, false, .i), (15, 1, false, .b), (16, 1, false, .s), (17, 1, false, .b)]
theorem origin_eq (a b : Origin) : aEq originT (.agg a.cells) (.agg b.cells) = some (decide (a = b)) := by
 have hh : aEq originT (.agg a.cells) (.agg b.cells) = some ((a.opaq == b.opaq) && ((a.id == b.id) && ((a.scheme == b.scheme) && (decide (a.host = b.host) && ((a.port == b.port) && ((a.hasPort == b.hasPort) && ((a.domain == b.domain) && ((a.hasDomain == b.hasDomain) && true)))))))) := by
  rw [aEq_st]
  exact aEqF_cons rfl rfl aEq_bb (aEqF_cons rfl rfl aEq_i (aEqF_cons rfl rfl aEq_s (aEqF_cons rfl rfl (host_eq _ _) (aEqF_cons rfl rfl aEq_i (aEqF_cons rfl rfl aEq_bb (aEqF_cons rfl rfl aEq_s (aEqF_cons rfl rfl aEq_bb aEqF_nil)))))))
 rw [hh]
 congr 1
 rw [Bool.eq_iff_iff]
 cases a; cases b
 simp only [Bool.and_eq_true, beq_iff_eq, decide_eq_true_eq, Origin.mk.injEq, and_true]
theorem origin_eqV (a b : Origin) {ng : Bool} : eqV ng originT (.agg a.cells) (.agg b.cells) = some (.bool (if ng then !decide (a = b) else decide (a = b))) := by
 unfold eqV
 rw [origin_eq]; rfl
structure Origin.In (o : Origin) : Prop where
 host : o.host.In
 scheme : o.scheme.length ≤ 2 ^ 29
 domain : o.domain.length ≤ 2 ^ 29
 id : -(2 ^ 63 : Int) ≤ o.id ∧ o.id < 2 ^ 63
 port : -(2 ^ 63 : Int) ≤ o.port ∧ o.port < 2 ^ 63
def originOk (o : Origin) : Bool :=
 if o.opaq then decide (o = { opaq := true, id := o.id })
 else
  let base := (o.id == 0) && schemes.contains o.scheme && hostOk o.host && (((o.host.kind : Int) == 1) || ((o.host.kind : Int) == 2) || ((o.host.kind : Int) == 3))
  let p := if o.hasPort then base && decide (0 ≤ o.port) && decide (o.port < 65536) && !(o.port == (specialB o.scheme).1) else base && (o.port == 0)
  if o.hasDomain then p && ((o.host.kind : Int) == 1) && behindB o.host.name o.domain else p && (o.domain == [])
theorem origin_free (o : Origin) : locFreeL o.cells = true := rfl
theorem originCheck_c (o : Origin) (hi : o.In) (H : AHeap) (K : AV → AHeap → Kd → Prop) : E.C 70 [.agg o.cells] H K ↔ K (i64 (if originOk o then 0 else 18)) H .p := by
 refine C_by (V70 (K := fun v' _ => v' = i64 (if originOk o then 0 else 18)) ?_) rfl (by kernel_rfl) (fun _ => rfl)
 have b1 : newVarA [] (.agg o.cells) 0 = some (.ptr 0 0 18, [.cells o.cells 0 18 0], .a 0) := rfl
 have la : loadA [.cells o.cells 0 18 0] 18 true (.ptr 0 0 18) = some (.agg o.cells, [.cells o.cells 0 18 0], .r 0) := rfl
 have l0 : loadA [.cells o.cells 0 18 0] 1 false (.ptr 0 0 18) = some (.bool o.opaq, [.cells o.cells 0 18 0], .r 0) := rfl
 have l1 : loadA [.cells o.cells 0 18 0] 1 false (.ptr 0 1 18) = some (.int .i64 o.id, [.cells o.cells 0 18 0], .r 0) := rfl
 have l2 : loadA [.cells o.cells 0 18 0] 1 false (.ptr 0 2 18) = some (.str o.scheme, [.cells o.cells 0 18 0], .r 0) := rfl
 have l3 : loadA [.cells o.cells 0 18 0] 1 false (.ptr 0 3 18) = some (.int .u8 (o.host.kind : Nat), [.cells o.cells 0 18 0], .r 0) := rfl
 have l4 : loadA [.cells o.cells 0 18 0] 1 false (.ptr 0 4 18) = some (.str o.host.name, [.cells o.cells 0 18 0], .r 0) := rfl
 have lh : loadA [.cells o.cells 0 18 0] 11 true (.ptr 0 3 18) = some (.agg o.host.cells, [.cells o.cells 0 18 0], .r 0) := rfl
 have l14 : loadA [.cells o.cells 0 18 0] 1 false (.ptr 0 14 18) = some (.int .i64 o.port, [.cells o.cells 0 18 0], .r 0) := rfl
 have l15 : loadA [.cells o.cells 0 18 0] 1 false (.ptr 0 15 18) = some (.bool o.hasPort, [.cells o.cells 0 18 0], .r 0) := rfl
 have l16 : loadA [.cells o.cells 0 18 0] 1 false (.ptr 0 16 18) = some (.str o.domain, [.cells o.cells 0 18 0], .r 0) := rfl
 have l17 : loadA [.cells o.cells 0 18 0] 1 false (.ptr 0 17 18) = some (.bool o.hasDomain, [.cells o.cells 0 18 0], .r 0) := rfl
 have m1 : ∀ n, bldV [.bool false, .int .i64 0, .str [], .int .u8 0, .str [], .int .u32 0, .int .u16 0, .int .u16 0, .int .u16 0, .int .u16 0, .int .u16 0, .int .u16 0, .int .u16 0, .int .u16 0, .int .i64 0, .bool false, .str [], .bool false] [(0, 1, .bool true), (1, 1, .int .i64 n)] = some (.agg (Origin.cells { opaq := true, id := n })) := fun _ => rfl
 have hq := origin_eqV
 have hc := fun H K => hostCheck_c o.host hi.host.name H K
 have hbh := fun H K => behind_c o.host.name o.domain (by have := hi.host.name; omega) (by have := hi.domain; omega) H K
 have hk : ∀ q : Bool, ((if q = true then (0 : Int) else 18) == 0) = q := fun q => by cases q <;> rfl
 have key : ∀ q : Bool, (if (!q) = true then AV.int .i64 18 = i64 (if q = true then 0 else 18) else AV.int .i64 0 = i64 (if q = true then 0 else 18)) := fun q => by cases q <;> rfl
 unfold originOk
 cases e0 : o.opaq
 ·cases e15 : o.hasPort
  ·cases e17 : o.hasDomain
   ·simp (disch := omega) only [go_sem, Int.reduceBEq, b1, la, l0, l1, l2, l3, l4, lh, l14, l15, l16, l17, m1, hq, hc, hk, special_c, tuple_c, containsK_c, hbh, Nat.zero_add, e0, e15, e17]
    exact key _
   ·simp (disch := omega) only [go_sem, Int.reduceBEq, b1, la, l0, l1, l2, l3, l4, lh, l14, l15, l16, l17, m1, hq, hc, hk, special_c, tuple_c, containsK_c, hbh, Nat.zero_add, e0, e15, e17]
    exact key _
  ·cases e17 : o.hasDomain
   ·simp (disch := omega) only [go_sem, Int.reduceBEq, b1, la, l0, l1, l2, l3, l4, lh, l14, l15, l16, l17, m1, hq, hc, hk, special_c, tuple_c, containsK_c, hbh, Nat.zero_add, e0, e15, e17]
    exact key _
   ·simp (disch := omega) only [go_sem, Int.reduceBEq, b1, la, l0, l1, l2, l3, l4, lh, l14, l15, l16, l17, m1, hq, hc, hk, special_c, tuple_c, containsK_c, hbh, Nat.zero_add, e0, e15, e17]
    exact key _
 ·simp (disch := omega) only [go_sem, Int.reduceBEq, b1, la, l0, l1, m1, hq, Nat.zero_add, e0]
  have keyp : ∀ (p : Prop) (_ : Decidable p), (if (!decide p) = true then AV.int .i64 18 = i64 (if p then 0 else 18) else AV.int .i64 0 = i64 (if p then 0 else 18)) := fun p i => by by_cases h : p <;> simp [h]
  first | exact key _ | exact keyp _ _
def sameO (a b : Origin) : Bool := if a.opaq || b.opaq then (a.opaq == b.opaq) && (a.id == b.id) else decide ({ a with domain := b.domain, hasDomain := b.hasDomain, id := b.id } = b)
def sameDom (a b : Origin) : Bool := if a.opaq || b.opaq then sameO a b else if a.hasDomain && b.hasDomain then (a.scheme == b.scheme) && (a.domain == b.domain) else (a.hasDomain == b.hasDomain) && sameO a b
theorem sameO_c (a b : Origin) (H : AHeap) (K : AV → AHeap → Kd → Prop) : E.C 236 [.agg a.cells, .agg b.cells] H K ↔ K (.bool (sameO a b)) H .p := by
 refine C_by (V236 (K := fun v' _ => v' = .bool (sameO a b)) ?_) rfl (by kernel_rfl) (fun _ => rfl)
 have b1 : newVarA [] (.agg a.cells) 0 = some (.ptr 0 0 18, [.cells a.cells 0 18 0], .a 0) := rfl
 have b2 : newVarA [.cells a.cells 0 18 0] (.agg b.cells) 0 = some (.ptr 1 0 18, [.cells a.cells 0 18 0, .cells b.cells 0 18 0], .a 1) := rfl
 generalize hH : [ABlk.cells a.cells 0 18 0, .cells b.cells 0 18 0] = H0 at b2
 have l00 : loadA H0 1 false (.ptr 0 0 18) = some (.bool a.opaq, H0, .r 0) := by subst hH; rfl
 have l01 : loadA H0 1 false (.ptr 0 1 18) = some (.int .i64 a.id, H0, .r 0) := by subst hH; rfl
 have l10 : loadA H0 1 false (.ptr 1 0 18) = some (.bool b.opaq, H0, .r 1) := by subst hH; rfl
 have l11 : loadA H0 1 false (.ptr 1 1 18) = some (.int .i64 b.id, H0, .r 1) := by subst hH; rfl
 have l1g : loadA H0 1 false (.ptr 1 16 18) = some (.str b.domain, H0, .r 1) := by subst hH; rfl
 have l1h : loadA H0 1 false (.ptr 1 17 18) = some (.bool b.hasDomain, H0, .r 1) := by subst hH; rfl
 have s1 : storeA H0 1 (.ptr 0 16 18) (.str b.domain) = some (undefA, [.cells (Origin.cells { a with domain := b.domain }) 0 18 0, .cells b.cells 0 18 0], .w 0) := by subst hH; rfl
 have s2 : storeA [.cells (Origin.cells { a with domain := b.domain }) 0 18 0, .cells b.cells 0 18 0] 1 (.ptr 0 17 18) (.bool b.hasDomain) = some (undefA, [.cells (Origin.cells { a with domain := b.domain, hasDomain := b.hasDomain }) 0 18 0, .cells b.cells 0 18 0], .w 0) := rfl
 have s3 : storeA [.cells (Origin.cells { a with domain := b.domain, hasDomain := b.hasDomain }) 0 18 0, .cells b.cells 0 18 0] 1 (.ptr 0 1 18) (.int .i64 b.id) = some (undefA, [.cells (Origin.cells { a with domain := b.domain, hasDomain := b.hasDomain, id := b.id }) 0 18 0, .cells b.cells 0 18 0], .w 0) := rfl
 have la : loadA [.cells (Origin.cells { a with domain := b.domain, hasDomain := b.hasDomain, id := b.id }) 0 18 0, .cells b.cells 0 18 0] 18 true (.ptr 0 0 18) = some (.agg (Origin.cells { a with domain := b.domain, hasDomain := b.hasDomain, id := b.id }), [.cells (Origin.cells { a with domain := b.domain, hasDomain := b.hasDomain, id := b.id }) 0 18 0, .cells b.cells 0 18 0], .r 0) := rfl
 have lb : loadA [.cells (Origin.cells { a with domain := b.domain, hasDomain := b.hasDomain, id := b.id }) 0 18 0, .cells b.cells 0 18 0] 18 true (.ptr 1 0 18) = some (.agg b.cells, [.cells (Origin.cells { a with domain := b.domain, hasDomain := b.hasDomain, id := b.id }) 0 18 0, .cells b.cells 0 18 0], .r 1) := rfl
 have hd : drawOk (drawn F236 0) [.p, .r 1, .p, .r 1, .p, .r 1, .p, .w 0, .p, .w 0, .p, .w 0] = true := by kernel_rfl
 have hq := origin_eqV
 cases e0 : a.opaq <;> cases e1 : b.opaq
 ·have hs : sameO a b = decide ({ a with domain := b.domain, hasDomain := b.hasDomain, id := b.id } = b) := by simp [sameO, e0, e1]
  rw [hs]
  rw [e0] at l00
  rw [e1] at l10
  simp (disch := omega) only [go_sem, Int.reduceBEq, b1, b2, l00, l01, l10, l11, l1g, l1h, s1, s2, s3, la, lb, hd, hq, Nat.zero_add]
 ·have hs : sameO a b = ((false == true) && (a.id == b.id)) := by simp [sameO, e0, e1]
  rw [hs]
  rw [e0] at l00
  rw [e1] at l10
  simp (disch := omega) only [go_sem, Int.reduceBEq, b1, b2, l00, l01, l10, l11, l1g, l1h, s1, s2, s3, la, lb, hd, hq, Nat.zero_add]
 ·have hs : sameO a b = ((true == false) && (a.id == b.id)) := by simp [sameO, e0, e1]
  rw [hs]
  rw [e0] at l00
  rw [e1] at l10
  simp (disch := omega) only [go_sem, Int.reduceBEq, b1, b2, l00, l01, l10, l11, l1g, l1h, s1, s2, s3, la, lb, hd, hq, Nat.zero_add]
 ·have hs : sameO a b = ((true == true) && (a.id == b.id)) := by simp [sameO, e0, e1]
  rw [hs]
  rw [e0] at l00
  rw [e1] at l10
  simp (disch := omega) only [go_sem, Int.reduceBEq, b1, b2, l00, l01, l10, l11, l1g, l1h, s1, s2, s3, la, lb, hd, hq, Nat.zero_add]
theorem sameDom_c (a b : Origin) (H : AHeap) (K : AV → AHeap → Kd → Prop) : E.C 237 [.agg a.cells, .agg b.cells] H K ↔ K (.bool (sameDom a b)) H .p := by
 refine C_by (V237 (K := fun v' _ => v' = .bool (sameDom a b)) ?_) rfl (by kernel_rfl) (fun _ => rfl)
 have b1 : newVarA [] (.agg a.cells) 0 = some (.ptr 0 0 18, [.cells a.cells 0 18 0], .a 0) := rfl
 have b2 : newVarA [.cells a.cells 0 18 0] (.agg b.cells) 0 = some (.ptr 1 0 18, [.cells a.cells 0 18 0, .cells b.cells 0 18 0], .a 1) := rfl
 generalize hH : [ABlk.cells a.cells 0 18 0, .cells b.cells 0 18 0] = H0 at b2
 have l00 : loadA H0 1 false (.ptr 0 0 18) = some (.bool a.opaq, H0, .r 0) := by subst hH; rfl
 have l10 : loadA H0 1 false (.ptr 1 0 18) = some (.bool b.opaq, H0, .r 1) := by subst hH; rfl
 have l02 : loadA H0 1 false (.ptr 0 2 18) = some (.str a.scheme, H0, .r 0) := by subst hH; rfl
 have l12 : loadA H0 1 false (.ptr 1 2 18) = some (.str b.scheme, H0, .r 1) := by subst hH; rfl
 have l0g : loadA H0 1 false (.ptr 0 16 18) = some (.str a.domain, H0, .r 0) := by subst hH; rfl
 have l0h : loadA H0 1 false (.ptr 0 17 18) = some (.bool a.hasDomain, H0, .r 0) := by subst hH; rfl
 have l1g : loadA H0 1 false (.ptr 1 16 18) = some (.str b.domain, H0, .r 1) := by subst hH; rfl
 have l1h : loadA H0 1 false (.ptr 1 17 18) = some (.bool b.hasDomain, H0, .r 1) := by subst hH; rfl
 have la : loadA H0 18 true (.ptr 0 0 18) = some (.agg a.cells, H0, .r 0) := by subst hH; rfl
 have lb : loadA H0 18 true (.ptr 1 0 18) = some (.agg b.cells, H0, .r 1) := by subst hH; rfl
 have hs := sameO_c
 unfold sameDom
 cases e0 : a.opaq <;> cases e1 : b.opaq <;> cases e2 : a.hasDomain <;> cases e3 : b.hasDomain
 all_goals (rw [e0] at l00; rw [e1] at l10; rw [e2] at l0h; rw [e3] at l1h)
 all_goals simp (disch := omega) only [go_sem, Int.reduceBEq, b1, b2, l00, l10, l02, l12, l0g, l0h, l1g, l1h, la, lb, hs, Nat.zero_add]
 all_goals (try rfl)
end Go.AE.Fns
namespace Go.AE.Fns
open Go Go.AE Env
set_option maxRecDepth 100000
structure RulesIn (rules : List (List UInt8)) : Prop where
 n : rules.length ≤ 2 ^ 31
 s : ∀ r ∈ rules, r.length ≤ 2 ^ 29
theorem IsSl.toH {rules : List (List UInt8)} {r : AV} (h : IsSl rules r) (H : AHeap) : IsSlH H rules r := by
 cases h with
 | lst ex => exact .lst ex
 | nil h => exact .nil h
theorem asked_c {rules : List (List UInt8)} {r : AV} (hr : IsSl rules r) (name : List UInt8) (H : AHeap) (K : AV → AHeap → Kd → Prop) : E.C 75 [r, .str name] H K ↔ K (i64 (askedN rules name)) H .p :=
 C_val (asked_ans hr name []) (by have := hr.free; simp [locFreeL, AV.locFree, this]) (by kernel_rfl) rfl
theorem match_c {rules : List (List UInt8)} {r : AV} (hr : IsSl rules r) (hi : RulesIn rules) (name : List (List UInt8)) (hn : name.length ≤ 2 ^ 31) (ex : Bool) (H : AHeap) (K : AV → AHeap → Kd → Prop) : E.C 76 [r, .lst (txts name) name.length 1 ex] H K ↔ K (i64 (matchN rules name)) H .p := by
 obtain ⟨X, h⟩ := match_ans name rules ex hn hi.n hi.s [] r (hr.toH [])
 have h1 := hr.free
 have h2 := (IsSl.lst (l := name) ex).free
 exact C_val h (by simp only [AV.locFree] at h2; simp [locFreeL, AV.locFree, h1, h2]) (by kernel_rfl) rfl
theorem suffixV_c {rules : List (List UInt8)} {r : AV} (hr : IsSl rules r) (hi : RulesIn rules) (name : List UInt8) (H : AHeap) (K : AV → AHeap → Kd → Prop) : E.C 73 [r, .str name] H K ↔ K (.tuple [.str (if askedN rules name = 0 then suffixN rules name else []), i64 (askedN rules name)]) H .p := by
 obtain ⟨X, h⟩ := suffix_ans rules name hi.n hi.s [] r (hr.toH [])
 have h1 := hr.free
 have e : (if askedN rules name = 0 then AV.tuple [.str (suffixN rules name), i64 0] else .tuple [.str [], i64 (askedN rules name)]) = .tuple [.str (if askedN rules name = 0 then suffixN rules name else []), i64 (askedN rules name)] := by
  split
  ·rename_i h; rw [h]
  ·rfl
 rw [e] at h
 exact C_val h (by simp [locFreeL, AV.locFree, h1]) (by kernel_rfl) rfl
def regB (rules : List (List UInt8)) (name : List UInt8) : List UInt8 × Bool × Int :=
 if askedN rules name ≠ 0 then ([], false, askedN rules name)
 else if ((splitB 46 name).length : Int) < matchN rules (splitB 46 name) + 1 then ([], false, 0)
 else (joinB [46] ((splitB 46 name).drop ((splitB 46 name).length - (matchN rules (splitB 46 name) + 1).toNat)), true, 0)
theorem reg_c {rules : List (List UInt8)} {r : AV} (hr : IsSl rules r) (hi : RulesIn rules) (name : List UInt8) (H : AHeap) (K : AV → AHeap → Kd → Prop) : E.C 72 [r, .str name] H K ↔ K (.tuple [.str (regB rules name).1, .bool (regB rules name).2.1, i64 (regB rules name).2.2]) H .p := by
 refine C_by (V72 (K := fun v' _ => v' = .tuple [.str (regB rules name).1, .bool (regB rules name).2.1, i64 (regB rules name).2.2]) ?_) (by have := hr.free; simp [locFreeL, AV.locFree, this]) (by kernel_rfl) fun _ => rfl
 have ha := fun H K => asked_c hr name H K
 unfold regB
 by_cases c : askedN rules name = 0
 ·have hnl : name.length ≤ 4096 := by
   unfold askedN at c
   split at c
   ·omega
   ·split at c
    ·omega
    ·omega
  have e1 : (askedN rules name != 0) = false := by simp [c]
  have sp := fun H K => split_c name 46 (by omega) H K
  have hcnt := count_le 46 name
  have hsl_len := splitB_len 46 name
  have hsl2 : sumLen (splitB 46 name) ≤ name.length := sumLen_split 46 name
  generalize hlb : splitB 46 name = lb at sp hsl_len hsl2 ⊢
  have hm := fun H K => match_c hr hi lb (by omega) true H K
  have hb := matchN_bounds rules lb (by omega)
  have w1 : IntKind.i64.wrap (matchN rules lb + 1) = matchN rules lb + 1 := wrap64 (by omega)
  simp only [c, ne_eq, not_true_eq_false, if_false]
  by_cases c2 : (lb.length : Int) < matchN rules lb + 1
  ·have d : decide ((lb.length : Int) < matchN rules lb + 1) = true := decide_eq_true c2
   simp only [if_pos c2]
   simp (disch := omega) only [go_sem, Int.reduceBEq, ha, e1, sp, hm, w1, d]
  ·have d : decide ((lb.length : Int) < matchN rules lb + 1) = false := decide_eq_false c2
   have w2 : IntKind.i64.wrap ((lb.length : Int) - (matchN rules lb + 1)) = ((lb.length - (matchN rules lb + 1).toNat : Nat) : Int) := by rw [wrap64] <;> omega
   have sl1 : sliceA 1 (.lst (txts lb) lb.length 1 true) (some (.int .i64 ((lb.length - (matchN rules lb + 1).toNat : Nat) : Int))) none none = some (.lst (txts (lb.drop (lb.length - (matchN rules lb + 1).toNat))) (lb.drop (lb.length - (matchN rules lb + 1).toNat)).length 1 true) := by
    have := slice_lst (cs := txts lb) (ex := true) (k := .i64) (l := lb.length - (matchN rules lb + 1).toNat) (n := lb.length) (by omega) (txts_len _)
    rw [this]
    simp [txts]
   have hsum : sumLen (lb.drop (lb.length - (matchN rules lb + 1).toNat)) ≤ sumLen lb := by
    unfold sumLen
    have := congrArg (fun l => (l.map List.length).sum) (List.take_append_drop (lb.length - (matchN rules lb + 1).toNat) lb)
    simp only [List.map_append, List.sum_append] at this
    omega
   have jn := fun H K => join_c (lb.drop (lb.length - (matchN rules lb + 1).toNat)) true 46 (by simp; omega) H K
   simp only [if_neg c2]
   simp (disch := omega) only [go_sem, Int.reduceBEq, ha, e1, sp, hm, w1, d, w2, sl1, jn]
 ·have e1 : (askedN rules name != 0) = true := by simp [c]
  simp only [c, ne_eq, not_false_eq_true, if_true]
  simp (disch := omega) only [go_sem, Int.reduceBEq, ha, e1]
structure Site where
 opaq : Bool := false
 id : Int := 0
 scheme : List UInt8 := []
 host : List UInt8 := []
 deriving DecidableEq
def Site.cells (s : Site) : List AV := [.bool s.opaq, i64 s.id, .str s.scheme, .str s.host]
end Go.AE.Fns
namespace Go.AE.Fns
open Go Go.AE Env
set_option maxRecDepth 100000
def sfx (rules : List (List UInt8)) (n : List UInt8) : List UInt8 := if askedN rules n = 0 then suffixN rules n else []
def relaxOk (rules : List (List UInt8)) (o : Origin) (d : List UInt8) : Bool :=
  (!o.opaq && ((o.host.kind : Int) == 1) && behindB o.host.name d) && (if (d == o.host.name) = true then true else !(d == sfx rules o.host.name) && !(d == sfx rules d))
def relaxE (rules : List (List UInt8)) (o : Origin) (d : List UInt8) : Int := if originOk o then (if 256 < rules.length then 3 else if relaxOk rules o d then 0 else 21) else 18
def relaxB (rules : List (List UInt8)) (o : Origin) (d : List UInt8) : Origin := if relaxE rules o d = 0 then { o with domain := d, hasDomain := true } else {}
set_option maxHeartbeats 2000000 in
theorem relax_c {rules : List (List UInt8)} {r : AV} (hr : IsSl rules r) (hi : RulesIn rules) (o : Origin) (ho : o.In) (d : List UInt8) (hd : d.length ≤ 2 ^ 29) (H : AHeap) (K : AV → AHeap → Kd → Prop) : E.C 235 [r, .agg o.cells, .str d] H K ↔ K (.tuple [.agg (relaxB rules o d).cells, i64 (relaxE rules o d)]) H .p := by
 refine C_by (V235 (K := fun v' _ => v' = .tuple [.agg (relaxB rules o d).cells, i64 (relaxE rules o d)]) ?_) (by have := hr.free; simp [locFreeL, AV.locFree, this, origin_free]) (by kernel_rfl) fun _ => rfl
 have b1 : newVarA [] (.agg o.cells) 0 = some (.ptr 0 0 18, [.cells o.cells 0 18 0], .a 0) := rfl
 have b2 : fAlloc (Origin.cells {}) 0 [.cells o.cells 0 18 0] = some (.ptr 1 0 18, [.cells o.cells 0 18 0, .cells (Origin.cells {}) 0 18 0], .a 1) := rfl
 have b2' : fAlloc [.bool false, .int .i64 0, .str [], .int .u8 0, .str [], .int .u32 0, .int .u16 0, .int .u16 0, .int .u16 0, .int .u16 0, .int .u16 0, .int .u16 0, .int .u16 0, .int .u16 0, .int .i64 0, .bool false, .str [], .bool false] 0 [.cells o.cells 0 18 0] = some (.ptr 1 0 18, [.cells o.cells 0 18 0, .cells (Origin.cells {}) 0 18 0], .a 1) := b2
 have st0 : storeA [.cells o.cells 0 18 0, .cells (Origin.cells {}) 0 18 0] 18 (.ptr 1 0 18) (.agg (Origin.cells {})) = some (undefA, [.cells o.cells 0 18 0, .cells (Origin.cells {}) 0 18 0], .w 1) := rfl
 generalize hH : [ABlk.cells o.cells 0 18 0, .cells (Origin.cells {}) 0 18 0] = H0 at b2' st0
 have la : loadA H0 18 true (.ptr 0 0 18) = some (.agg o.cells, H0, .r 0) := by subst hH; rfl
 have lz : loadA H0 18 true (.ptr 1 0 18) = some (.agg (Origin.cells {}), H0, .r 1) := by subst hH; rfl
 have l0 : loadA H0 1 false (.ptr 0 0 18) = some (.bool o.opaq, H0, .r 0) := by subst hH; rfl
 have l3 : loadA H0 1 false (.ptr 0 3 18) = some (.int .u8 (o.host.kind : Nat), H0, .r 0) := by subst hH; rfl
 have l4 : loadA H0 1 false (.ptr 0 4 18) = some (.str o.host.name, H0, .r 0) := by subst hH; rfl
 have m0 : bldV [.bool false, .int .i64 0, .str [], .int .u8 0, .str [], .int .u32 0, .int .u16 0, .int .u16 0, .int .u16 0, .int .u16 0, .int .u16 0, .int .u16 0, .int .u16 0, .int .u16 0, .int .i64 0, .bool false, .str [], .bool false] [] = some (.agg (Origin.cells {})) := rfl
 have s1 : storeA H0 1 (.ptr 0 16 18) (.str d) = some (undefA, [.cells (Origin.cells { o with domain := d }) 0 18 0, .cells (Origin.cells {}) 0 18 0], .w 0) := by subst hH; rfl
 have s2 : storeA [.cells (Origin.cells { o with domain := d }) 0 18 0, .cells (Origin.cells {}) 0 18 0] 1 (.ptr 0 17 18) (.bool true) = some (undefA, [.cells (Origin.cells { o with domain := d, hasDomain := true }) 0 18 0, .cells (Origin.cells {}) 0 18 0], .w 0) := rfl
 generalize ho' : ({ o with domain := d, hasDomain := true } : Origin) = o' at s2
 have l7 : loadA [.cells (Origin.cells o') 0 18 0, .cells (Origin.cells {}) 0 18 0] 18 true (.ptr 0 0 18) = some (.agg (Origin.cells o'), [.cells (Origin.cells o') 0 18 0, .cells (Origin.cells {}) 0 18 0], .r 0) := rfl
 have s3 : storeA [.cells (Origin.cells o') 0 18 0, .cells (Origin.cells {}) 0 18 0] 18 (.ptr 1 0 18) (.agg (Origin.cells o')) = some (undefA, [.cells (Origin.cells o') 0 18 0, .cells (Origin.cells o') 0 18 0], .w 1) := rfl
 have l8 : loadA [.cells (Origin.cells o') 0 18 0, .cells (Origin.cells o') 0 18 0] 18 true (.ptr 1 0 18) = some (.agg (Origin.cells o'), [.cells (Origin.cells o') 0 18 0, .cells (Origin.cells o') 0 18 0], .r 1) := rfl
 have hl := hr.len
 have hc := fun H K => originCheck_c o ho H K
 have hb := fun H K => behind_c o.host.name d (by have := ho.host.name; omega) (by omega) H K
 have hs := fun n H K => suffixV_c hr hi n H K
 unfold relaxB relaxE
 rw [ho']
 cases ok : originOk o
 ·simp only [ok] at hc
  simp (disch := omega) only [go_sem, Int.reduceBEq, Int.reduceBNe, Int.reduceLT, Int.reduceLE, Int.reduceAdd, Int.reduceSub, Int.reduceNeg, Nat.reduceLT, Nat.reduceLeDiff, Nat.reduceAdd, b1, b2', la, hc, m0, st0, lz]
  rfl
 ·simp only [ok] at hc
  by_cases c : 256 < rules.length
  ·have dd : decide ((256 : Int) < (rules.length : Int)) = true := by simp; omega
   simp only [if_pos c]
   simp (disch := omega) only [go_sem, Int.reduceBEq, Int.reduceBNe, Int.reduceLT, Int.reduceLE, Int.reduceAdd, Int.reduceSub, Int.reduceNeg, Nat.reduceLT, Nat.reduceLeDiff, Nat.reduceAdd, b1, b2', la, hc, m0, st0, lz, hl, dd]
   rfl
  ·have dd : decide ((256 : Int) < (rules.length : Int)) = false := by simp; omega
   simp only [if_neg c]
   have hx : ∀ n, (if askedN rules n = 0 then suffixN rules n else []) = sfx rules n := fun _ => rfl
   simp only [hx] at hs
   cases e0 : o.opaq
   case true =>
    have rx : relaxOk rules o d = false := by simp [relaxOk, e0]
    simp only [e0] at l0
    simp only [rx]
    simp (disch := omega) only [go_sem, Int.reduceBEq, Int.reduceBNe, Int.reduceLT, Int.reduceLE, Int.reduceAdd, Int.reduceSub, Int.reduceNeg, Nat.reduceLT, Nat.reduceLeDiff, Nat.reduceAdd, b1, b2', la, hc, m0, st0, lz, hl, dd, l0, l3, l4, hb, hs, Nat.zero_add, s1, s2, l7, s3, l8]
    rfl
   simp only [e0] at l0
   cases e1 : ((o.host.kind : Int) == 1)
   case false =>
    have rx : relaxOk rules o d = false := by unfold relaxOk; rw [e0, e1]; rfl
    simp only [rx]
    simp (disch := omega) only [go_sem, Int.reduceBEq, Int.reduceBNe, Int.reduceLT, Int.reduceLE, Int.reduceAdd, Int.reduceSub, Int.reduceNeg, Nat.reduceLT, Nat.reduceLeDiff, Nat.reduceAdd, b1, b2', la, hc, m0, st0, lz, hl, dd, l0, l3, l4, hb, hs, Nat.zero_add, s1, s2, l7, s3, l8, e1]
    rfl
   cases e2 : behindB o.host.name d
   case false =>
    have rx : relaxOk rules o d = false := by unfold relaxOk; rw [e0, e1, e2]; rfl
    simp only [e2] at hb
    simp only [rx]
    simp (disch := omega) only [go_sem, Int.reduceBEq, Int.reduceBNe, Int.reduceLT, Int.reduceLE, Int.reduceAdd, Int.reduceSub, Int.reduceNeg, Nat.reduceLT, Nat.reduceLeDiff, Nat.reduceAdd, b1, b2', la, hc, m0, st0, lz, hl, dd, l0, l3, l4, hb, hs, Nat.zero_add, s1, s2, l7, s3, l8, e1]
    rfl
   simp only [e2] at hb
   cases e3 : (d == o.host.name)
   case true =>
    have rx : relaxOk rules o d = true := by unfold relaxOk; rw [e0, e1, e2, e3]; rfl
    simp only [rx]
    simp (disch := omega) only [go_sem, Int.reduceBEq, Int.reduceBNe, Int.reduceLT, Int.reduceLE, Int.reduceAdd, Int.reduceSub, Int.reduceNeg, Nat.reduceLT, Nat.reduceLeDiff, Nat.reduceAdd, b1, b2', la, hc, m0, st0, lz, hl, dd, l0, l3, l4, hb, hs, Nat.zero_add, s1, s2, l7, s3, l8, e1, e3]
   cases e4 : (d == sfx rules o.host.name)
   case true =>
    have rx : relaxOk rules o d = false := by unfold relaxOk; rw [e0, e1, e2, e3, e4]; rfl
    simp only [rx]
    simp (disch := omega) only [go_sem, Int.reduceBEq, Int.reduceBNe, Int.reduceLT, Int.reduceLE, Int.reduceAdd, Int.reduceSub, Int.reduceNeg, Nat.reduceLT, Nat.reduceLeDiff, Nat.reduceAdd, b1, b2', la, hc, m0, st0, lz, hl, dd, l0, l3, l4, hb, hs, Nat.zero_add, s1, s2, l7, s3, l8, e1, e3, e4]
    rfl
   cases e5 : (d == sfx rules d)
   case true =>
    have rx : relaxOk rules o d = false := by unfold relaxOk; rw [e0, e1, e2, e3, e4, e5]; rfl
    simp only [rx]
    simp (disch := omega) only [go_sem, Int.reduceBEq, Int.reduceBNe, Int.reduceLT, Int.reduceLE, Int.reduceAdd, Int.reduceSub, Int.reduceNeg, Nat.reduceLT, Nat.reduceLeDiff, Nat.reduceAdd, b1, b2', la, hc, m0, st0, lz, hl, dd, l0, l3, l4, hb, hs, Nat.zero_add, s1, s2, l7, s3, l8, e1, e3, e4, e5]
    rfl
   have rx : relaxOk rules o d = true := by unfold relaxOk; rw [e0, e1, e2, e3, e4, e5]; rfl
   simp only [rx]
   simp (disch := omega) only [go_sem, Int.reduceBEq, Int.reduceBNe, Int.reduceLT, Int.reduceLE, Int.reduceAdd, Int.reduceSub, Int.reduceNeg, Nat.reduceLT, Nat.reduceLeDiff, Nat.reduceAdd, b1, b2', la, hc, m0, st0, lz, hl, dd, l0, l3, l4, hb, hs, Nat.zero_add, s1, s2, l7, s3, l8, e1, e3, e4, e5]
end Go.AE.Fns
namespace Go.AE.Fns
open Go Go.AE Env
set_option maxRecDepth 100000
theorem sameO_iff {a b : Origin} (ha : a.opaq = false) : sameO a b = true ↔ b.opaq = false ∧ a.scheme = b.scheme ∧ a.host = b.host ∧ a.port = b.port ∧ a.hasPort = b.hasPort := by
 unfold sameO
 cases hb : b.opaq
 ·simp only [ha, Bool.or_self, Bool.false_eq_true, if_false, decide_eq_true_eq, true_and]
  cases a; cases b
  simp only at ha hb
  subst ha hb
  simp
 ·simp [ha]
theorem lives_ans : ∃ Hl, E.Ans 47 [] [] (.bool true) Hl := by
 have h := r0
 unfold run at h
 rw [callsF_eq] at h
 cases hc : callsA lpT.get keep (hookA keep onceN once) 100000 false 47 [] [] with
 | none => rw [hc] at h; simp [isT] at h
 | some p =>
  obtain ⟨v, Hl⟩ := p
  rw [hc] at h
  unfold isT at h
  split at h
  ·rename_i heq
   simp at heq
   exact ⟨Hl, 100000, by show callsA E.lp E.keep E.hk 100000 false 47 [] [] = _; rw [← heq.1]; exact hc⟩
  ·simp at h
theorem lives_c (H : AHeap) (K : AV → AHeap → Kd → Prop) : E.C 47 [] H K ↔ K (.bool true) H .p := by
 obtain ⟨Hl, h⟩ := lives_ans
 exact C_by (v := .bool true) ⟨_, Hl, rfl, h⟩ rfl (by kernel_rfl) fun _ => rfl
end Go.AE.Fns
namespace Go.AE.Fns
open Go Go.AE Env
set_option maxRecDepth 100000
theorem joinB_cons2 (c : UInt8) (a b : List UInt8) (t : List (List UInt8)) : joinB [c] (a :: b :: t) = a ++ (c :: joinB [c] (b :: t)) := by simp [joinB, joinR]
theorem joinB_tl (c : UInt8) (a : List UInt8) : ∀ l, joinB [c] l <:+ joinB [c] (a :: l)
  | [] => ⟨a, by simp [joinB, joinR]⟩
  | b :: t => ⟨a ++ [c], by rw [joinB_cons2]; simp⟩
theorem joinB_drop (c : UInt8) : ∀ (l : List (List UInt8)) (k : Nat), joinB [c] (l.drop k) <:+ joinB [c] l
 | l, 0 => by simp
 | [], k + 1 => by simp
 | a :: l, k + 1 => (joinB_drop c l k).trans (joinB_tl c a l)
theorem join_split (c : UInt8) : ∀ s, joinB [c] (splitB c s) = s
 | [] => rfl
 | x :: l => by
  have ih := join_split c l
  have hn := splitB_ne c l
  simp only [splitB]
  cases hs : splitB c l with
  | nil => rw [hs] at hn; simp at hn
  | cons h t =>
   rw [hs] at ih
   by_cases e : (x == c) = true
   ·rw [if_pos e, joinB_cons2, ih]; simp at e; simp [e]
   ·rw [if_neg e]
    simp only [joinB, List.cons_append] at ih ⊢
    rw [ih]
theorem sufN_of (rules : List (List UInt8)) (name : List UInt8) : suffixN rules name <:+ name := by
 unfold suffixN
 have := joinB_drop 46 (splitB 46 name) ((splitB 46 name).length - (matchN rules (splitB 46 name)).toNat)
 rwa [join_split] at this
theorem reg_of {rules : List (List UInt8)} {name : List UInt8} (h : (regB rules name).2.1 = true) : (regB rules name).1 <:+ name ∧ (suffixN rules name).length ≤ (regB rules name).1.length := by
 unfold regB at h ⊢
 have hl : 1 ≤ (splitB 46 name).length := by rw [splitB_len]; omega
 have b1 := matchN_bounds rules (splitB 46 name) hl
 split at h
 ·simp at h
 ·rename_i c
  split at h
  ·simp at h
  ·rename_i c2
   rw [if_neg c, if_neg c2]
   refine ⟨?_, ?_⟩
   ·have := joinB_drop 46 (splitB 46 name) ((splitB 46 name).length - (matchN rules (splitB 46 name) + 1).toNat)
    rwa [join_split] at this
   ·unfold suffixN
    have := join_drop [46] (splitB 46 name) 1 ((splitB 46 name).length - (matchN rules (splitB 46 name) + 1).toNat)
    rwa [show (splitB 46 name).length - (matchN rules (splitB 46 name) + 1).toNat + 1 = (splitB 46 name).length - (matchN rules (splitB 46 name)).toNat by omega] at this
theorem drop_suf {s n : List UInt8} (h : s <:+ n) : n.drop (n.length - s.length) = s := by
 obtain ⟨t, rfl⟩ := h
 simp
theorem relax_yes {rules : List (List UInt8)} {o : Origin} {d : List UInt8} (h : relaxE rules o d = 0) : o.opaq = false ∧ originOk o = true ∧ (o.host.kind : Int) = 1 ∧ behindB o.host.name d = true ∧ (d = o.host.name ∨ d ≠ sfx rules d) := by
 unfold relaxE at h
 split at h
 ·rename_i ok
  split at h
  ·simp at h
  ·split at h
   ·rename_i r
    unfold relaxOk at r
    simp only [Bool.and_eq_true, Bool.not_eq_true', beq_iff_eq] at r
    obtain ⟨⟨⟨r1, r2⟩, r3⟩, r4⟩ := r
    refine ⟨r1, ok, by simpa using r2, r3, ?_⟩
    split at r4
    ·left; assumption
    ·right
     simp only [Bool.and_eq_true, Bool.not_eq_true', beq_eq_false_iff_ne] at r4
     exact r4.2
   ·simp at h
 ·simp at h
theorem relax_is {rules : List (List UInt8)} {o : Origin} {d : List UInt8} (h : relaxE rules o d = 0) : relaxB rules o d = { o with domain := d, hasDomain := true } := by simp [relaxB, h]
theorem relax_ok {rules : List (List UInt8)} {o : Origin} {d : List UInt8} (h : relaxE rules o d = 0) : originOk { o with domain := d, hasDomain := true } = true := by
 obtain ⟨h1, h2, h3, h4, _⟩ := relax_yes h
 unfold originOk at h2 ⊢
 simp only [h1, Bool.false_eq_true, if_false] at h2 ⊢
 simp only [if_true, Bool.and_eq_true, h4, and_true]
 refine ⟨?_, by simp [h3]⟩
 split at h2
 ·simp only [Bool.and_eq_true] at h2; exact h2.1.1
 ·simp only [Bool.and_eq_true] at h2; exact h2.1
theorem relax_same {o : Origin} {d : List UInt8} (h : o.opaq = false) : sameO o { o with domain := d, hasDomain := true } = true := by
 rw [sameO_iff h]; simp [h]
def bare (o : Origin) : Origin := { scheme := o.scheme, host := o.host, port := o.port, hasPort := o.hasPort }
theorem relax_dom {o : Origin} {d : List UInt8} (h : o.opaq = false) : sameDom { o with domain := d, hasDomain := true } (bare o) = false := by
 simp [sameDom, bare, h]
end Go.AE.Fns
namespace Go.AE.Fns
open Go Go.AE Env
set_option maxRecDepth 100000
theorem owner_sl {n s : List UInt8} (h : s <:+ n) (H : AHeap) : fSlStr (.str n) (some (.int .i64 ((n.length : Int) - (s.length : Int)))) none H = some (.str s, H, .p) := by
 have hl := h.length_le
 rw [sl_from ⟨by omega, by omega⟩]
 rw [show ((n.length : Int) - (s.length : Int)).toNat = n.length - s.length by omega, drop_suf h]
set_option maxHeartbeats 4000000 in
theorem originOwner_ans {rules : List (List UInt8)} {r : AV} (hr : IsSl rules r) (hi : RulesIn rules) (name : List UInt8) (o : Origin) (ho : o.In) : ∃ H', E.Ans 379 [r, .str name, .agg o.cells] [] (.bool true) H' := by
 obtain ⟨v', H', hv, h⟩ : ∃ v' H', v' = AV.bool true ∧ E.Ans 379 [r, .str name, .agg o.cells] [] v' H' := by
  refine V379 (K := fun v' _ => v' = .bool true) ?_
  have b1 : newVarA [] (.agg o.cells) 0 = some (.ptr 0 0 18, [.cells o.cells 0 18 0], .a 0) := rfl
  have hs := fun H K => suffixV_c hr hi name H K
  have hg := fun H K => reg_c hr hi name H K
  by_cases c : askedN rules name = 0
  ·have hnl : name.length ≤ 4096 := by
    unfold askedN at c
    split at c
    ·omega
    ·split at c
     ·omega
     ·omega
   have hreg0 : (regB rules name).2.2 = 0 := by
    unfold regB
    rw [if_neg (by simpa using c)]
    split <;> rfl
   simp only [c, if_true] at hs
   have s1 := sufN_of rules name
   have sl1 := s1.length_le
   have q1 := owner_sl s1
   have d1 : decide (((suffixN rules name).length : Int) > (name.length : Int)) = false := decide_eq_false (by omega)
   have hsf : sfx rules name = suffixN rules name := by simp [sfx, c]
   have hrx := fun H K => relax_c hr hi o ho name (by omega) H K
   have hri := @reg_of rules name
   generalize suffixN rules name = s at *
   generalize hR : (regB rules name).1 = R at *
   generalize hI : (regB rules name).2.1 = I at *
   rw [hreg0] at hg
   have la : loadA [.cells o.cells 0 18 0] 18 true (.ptr 0 0 18) = some (.agg o.cells, [.cells o.cells 0 18 0], .r 0) := rfl
   have b2 : fAlloc [.bool false, .int .i64 0, .str [], .int .u8 0, .str [], .int .u32 0, .int .u16 0, .int .u16 0, .int .u16 0, .int .u16 0, .int .u16 0, .int .u16 0, .int .u16 0, .int .u16 0, .int .i64 0, .bool false, .str [], .bool false] 0 [.cells o.cells 0 18 0] = some (.ptr 1 0 18, [.cells o.cells 0 18 0, .cells (Origin.cells {}) 0 18 0], .a 1) := rfl
   have fin : ∀ (H0 : AHeap) (hH : H0 = [ABlk.cells o.cells 0 18 0, .cells (relaxB rules o name).cells 0 18 0]), True := fun _ _ => trivial
   have s2 : storeA [.cells o.cells 0 18 0, .cells (Origin.cells {}) 0 18 0] 18 (.ptr 1 0 18) (.agg (relaxB rules o name).cells) = some (undefA, [.cells o.cells 0 18 0, .cells (relaxB rules o name).cells 0 18 0], .w 1) := rfl
   have hq := origin_eqV
   have m0 : bldV [.bool false, .int .i64 0, .str [], .int .u8 0, .str [], .int .u32 0, .int .u16 0, .int .u16 0, .int .u16 0, .int .u16 0, .int .u16 0, .int .u16 0, .int .u16 0, .int .u16 0, .int .i64 0, .bool false, .str [], .bool false] [] = some (.agg (Origin.cells {})) := rfl
   by_cases re : relaxE rules o name = 0
   ·obtain ⟨y1, y2, y3, y4, y5⟩ := relax_yes re
    have hp := relax_is re
    have ok := relax_ok re
    have sm := relax_same (d := name) y1
    have dm := relax_dom (d := name) y1
    rw [hp] at hrx s2
    simp only [re] at hrx
    have pin : ({ o with domain := name, hasDomain := true } : Origin).In := ⟨ho.host, ho.scheme, by show name.length ≤ _; omega, ho.id, ho.port⟩
    have l16 : ∀ q : Origin, loadA [.cells o.cells 0 18 0, .cells q.cells 0 18 0] 1 false (.ptr 1 16 18) = some (.str q.domain, [.cells o.cells 0 18 0, .cells q.cells 0 18 0], .r 1) := fun _ => rfl
    have l17 : ∀ q : Origin, loadA [.cells o.cells 0 18 0, .cells q.cells 0 18 0] 1 false (.ptr 1 17 18) = some (.bool q.hasDomain, [.cells o.cells 0 18 0, .cells q.cells 0 18 0], .r 1) := fun _ => rfl
    have lp : ∀ q : Origin, loadA [.cells o.cells 0 18 0, .cells q.cells 0 18 0] 18 true (.ptr 1 0 18) = some (.agg q.cells, [.cells o.cells 0 18 0, .cells q.cells 0 18 0], .r 1) := fun _ => rfl
    have lo : ∀ q : Origin, loadA [.cells o.cells 0 18 0, .cells q.cells 0 18 0] 18 true (.ptr 0 0 18) = some (.agg o.cells, [.cells o.cells 0 18 0, .cells q.cells 0 18 0], .r 0) := fun _ => rfl
    have l4 : ∀ q : Origin, loadA [.cells o.cells 0 18 0, .cells q.cells 0 18 0] 1 false (.ptr 0 4 18) = some (.str o.host.name, [.cells o.cells 0 18 0, .cells q.cells 0 18 0], .r 0) := fun _ => rfl
    have l2 : ∀ q : Origin, loadA [.cells o.cells 0 18 0, .cells q.cells 0 18 0] 1 false (.ptr 0 2 18) = some (.str o.scheme, [.cells o.cells 0 18 0, .cells q.cells 0 18 0], .r 0) := fun _ => rfl
    have l3 : ∀ q : Origin, loadA [.cells o.cells 0 18 0, .cells q.cells 0 18 0] 11 true (.ptr 0 3 18) = some (.agg o.host.cells, [.cells o.cells 0 18 0, .cells q.cells 0 18 0], .r 0) := fun _ => rfl
    have l14 : ∀ q : Origin, loadA [.cells o.cells 0 18 0, .cells q.cells 0 18 0] 1 false (.ptr 0 14 18) = some (.int .i64 o.port, [.cells o.cells 0 18 0, .cells q.cells 0 18 0], .r 0) := fun _ => rfl
    have l15 : ∀ q : Origin, loadA [.cells o.cells 0 18 0, .cells q.cells 0 18 0] 1 false (.ptr 0 15 18) = some (.bool o.hasPort, [.cells o.cells 0 18 0, .cells q.cells 0 18 0], .r 0) := fun _ => rfl
    have mb : bldV [.bool false, .int .i64 0, .str [], .int .u8 0, .str [], .int .u32 0, .int .u16 0, .int .u16 0, .int .u16 0, .int .u16 0, .int .u16 0, .int .u16 0, .int .u16 0, .int .u16 0, .int .i64 0, .bool false, .str [], .bool false] [(2, 1, .str o.scheme), (3, 11, .agg o.host.cells), (14, 1, .int .i64 o.port), (15, 1, .bool o.hasPort)] = some (.agg (bare o).cells) := rfl
    have hc := fun H K => originCheck_c _ pin H K
    have hsm := fun H K => sameO_c o { o with domain := name, hasDomain := true } H K
    have hsd := fun H K => sameDom_c { o with domain := name, hasDomain := true } (bare o) H K
    have pd : ({ o with domain := name, hasDomain := true } : Origin).domain = name := rfl
    have ph : ({ o with domain := name, hasDomain := true } : Origin).hasDomain = true := rfl
    generalize ({ o with domain := name, hasDomain := true } : Origin) = p at *
    simp only [ok, if_true] at hc
    rw [sm] at hsm
    rw [dm] at hsd
    have l16' := l16 p
    have l17' := l17 p
    rw [pd] at l16'
    rw [ph] at l17'
    have fi : (name == o.host.name) = false → (name == s) = false := by
     intro h
     rcases y5 with y5 | y5
     ·simp [y5] at h
     ·rw [hsf] at y5; simpa using y5
    cases hI2 : I
    ·cases e : (name == o.host.name)
     ·have e2 := fi e
      simp (maxSteps := 100000000) (disch := omega) only [go_sem, Int.reduceBEq, Int.reduceBNe, Int.reduceLT, Int.reduceLE, Int.reduceAdd, Int.reduceSub, Int.reduceNeg, Nat.reduceLT, Nat.reduceLeDiff, Nat.reduceAdd, lives_c, b1, hs, hg, d1, q1, la, hrx, b2, s2, l16', l17', lp, lo, l4, l2, l3, l14, l15, mb, hc, hsm, hsd, e, e2, beq_self_eq_true, bne_self_eq_false, Nat.zero_add, hI2]
      rw [if_neg (by omega)]
      trivial
     ·simp (maxSteps := 100000000) (disch := omega) only [go_sem, Int.reduceBEq, Int.reduceBNe, Int.reduceLT, Int.reduceLE, Int.reduceAdd, Int.reduceSub, Int.reduceNeg, Nat.reduceLT, Nat.reduceLeDiff, Nat.reduceAdd, lives_c, b1, hs, hg, d1, q1, la, hrx, b2, s2, l16', l17', lp, lo, l4, l2, l3, l14, l15, mb, hc, hsm, hsd, e, beq_self_eq_true, bne_self_eq_false, Nat.zero_add, hI2]
      rw [if_neg (by omega)]
      trivial
    ·obtain ⟨r1, r2⟩ := hri hI2
     have rl := r1.length_le
     have q2 := owner_sl r1
     have d2 : decide ((R.length : Int) < (s.length : Int)) = false := decide_eq_false (by omega)
     have d3 : decide ((R.length : Int) > (name.length : Int)) = false := decide_eq_false (by omega)
     cases e : (name == o.host.name)
     ·have e2 := fi e
      simp (maxSteps := 100000000) (disch := omega) only [go_sem, Int.reduceBEq, Int.reduceBNe, Int.reduceLT, Int.reduceLE, Int.reduceAdd, Int.reduceSub, Int.reduceNeg, Nat.reduceLT, Nat.reduceLeDiff, Nat.reduceAdd, lives_c, b1, hs, hg, d1, d2, d3, q1, q2, la, hrx, b2, s2, l16', l17', lp, lo, l4, l2, l3, l14, l15, mb, hc, hsm, hsd, e, e2, beq_self_eq_true, bne_self_eq_false, Nat.zero_add, hI2]
      rw [if_neg (by omega), if_neg (by omega)]
      trivial
     ·simp (maxSteps := 100000000) (disch := omega) only [go_sem, Int.reduceBEq, Int.reduceBNe, Int.reduceLT, Int.reduceLE, Int.reduceAdd, Int.reduceSub, Int.reduceNeg, Nat.reduceLT, Nat.reduceLeDiff, Nat.reduceAdd, lives_c, b1, hs, hg, d1, d2, d3, q1, q2, la, hrx, b2, s2, l16', l17', lp, lo, l4, l2, l3, l14, l15, mb, hc, hsm, hsd, e, beq_self_eq_true, bne_self_eq_false, Nat.zero_add, hI2]
      rw [if_neg (by omega), if_neg (by omega)]
      trivial
   ·have e : (relaxE rules o name != 0) = true := by simp [re]
    have hp : relaxB rules o name = {} := by simp only [relaxB, if_neg re]
    rw [hp] at hrx s2
    have lp : loadA [.cells o.cells 0 18 0, .cells (Origin.cells {}) 0 18 0] 18 true (.ptr 1 0 18) = some (.agg (Origin.cells {}), [.cells o.cells 0 18 0, .cells (Origin.cells {}) 0 18 0], .r 1) := rfl
    have hq0 := @origin_eqV {} {} false
    simp only [Bool.false_eq_true, if_false, decide_true] at hq0
    cases hI2 : I
    ·simp (maxSteps := 100000000) (disch := omega) only [go_sem, Int.reduceBEq, Int.reduceBNe, Int.reduceLT, Int.reduceLE, Int.reduceAdd, Int.reduceSub, Int.reduceNeg, Nat.reduceLT, Nat.reduceLeDiff, Nat.reduceAdd, lives_c, b1, hs, hg, d1, q1, la, hrx, b2, s2, lp, m0, hq0, e, beq_self_eq_true, bne_self_eq_false, hI2]
     rw [if_neg (by omega)]
     trivial
    ·obtain ⟨r1, r2⟩ := hri hI2
     have rl := r1.length_le
     have q2 := owner_sl r1
     have d2 : decide ((R.length : Int) < (s.length : Int)) = false := decide_eq_false (by omega)
     have d3 : decide ((R.length : Int) > (name.length : Int)) = false := decide_eq_false (by omega)
     simp (maxSteps := 100000000) (disch := omega) only [go_sem, Int.reduceBEq, Int.reduceBNe, Int.reduceLT, Int.reduceLE, Int.reduceAdd, Int.reduceSub, Int.reduceNeg, Nat.reduceLT, Nat.reduceLeDiff, Nat.reduceAdd, lives_c, b1, hs, hg, d1, d2, d3, q1, q2, la, hrx, b2, s2, lp, m0, hq0, e, beq_self_eq_true, bne_self_eq_false, hI2]
     rw [if_neg (by omega), if_neg (by omega)]
     trivial
  ·have hreg : regB rules name = ([], false, askedN rules name) := by
    unfold regB
    rw [if_pos c]
   rw [hreg] at hg
   simp only [if_neg c] at hs
   have e1 : (askedN rules name != 0) = true := by simp [c]
   simp (maxSteps := 100000000) (disch := omega) only [go_sem, Int.reduceBEq, Int.reduceBNe, Int.reduceLT, Int.reduceLE, Int.reduceAdd, Int.reduceSub, Int.reduceNeg, Nat.reduceLT, Nat.reduceLeDiff, Nat.reduceAdd, lives_c, b1, hs, hg, e1, beq_self_eq_true]
 exact ⟨H', hv ▸ h⟩
end Go.AE.Fns
