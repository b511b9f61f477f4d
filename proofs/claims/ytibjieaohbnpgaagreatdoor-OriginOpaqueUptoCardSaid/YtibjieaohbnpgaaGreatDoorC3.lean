/- What the functions of origins answer, and the law over the evaluator. -/
import Derived.Test.YtibjieaohbnpgaaGreatDoorC2
import Derived.Test.YtibjieaohbnpgaaGreatDoorB4
set_option linter.all false
set_option linter.unusedSimpArgs false
set_option linter.unusedVariables false
set_option linter.unnecessarySimpa false
set_option linter.deprecated false
namespace Go.AE.Fns
open Go Go.AE Env
set_option maxRecDepth 100000
theorem shr_u32 {n m k : Nat} {k' : IntKind} (hm : m ≤ 32) (hk : 2 ^ m = k) : binA .shr (.int .u32 n) (.int k' m) = some (.int .u32 ((n / k : Nat) : Int)) := by
 rw [bin_shr (by omega), Int.toNat_natCast, show IntKind.u32.bits = 32 from rfl, Nat.min_eq_left hm, Int.fdiv_eq_ediv_of_nonneg _ (Int.pow_nonneg (by omega)), ← hk]
 simp
theorem and_u32 {n : Nat} (h : n < 2 ^ 32) : binA .and (.int .u32 n) (.int .u32 255) = some (.int .u32 ((n % 256 : Nat) : Int)) := by
 have e : (BitVec.ofInt 32 (n : Int) &&& BitVec.ofInt 32 255).toNat = n % 256 := by
  have h1 : (BitVec.ofInt 32 (n : Int)).toNat = n := by rw [BitVec.ofInt_natCast, BitVec.toNat_ofNat]; exact Nat.mod_eq_of_lt h
  have h2 : (BitVec.ofInt 32 255).toNat = 2 ^ 8 - 1 := rfl
  rw [BitVec.toNat_and, h1, h2, Nat.and_two_pow_sub_one_eq_mod]
 have : binA .and (.int .u32 n) (.int .u32 255) = some (.int .u32 (IntKind.u32.wrap (BitVec.ofInt 32 (n : Int) &&& BitVec.ofInt 32 255).toNat)) := by simp [binA]; rfl
 rw [this, e, wrapu32 (by omega)]
def quads (n : Nat) : List Nat := [n / 16777216 % 256, n / 65536 % 256, n / 256 % 256, n / 1 % 256]
def txt4 (n : Nat) : List UInt8 := joinB [46] ((quads n).map decN)
theorem decF_len : ∀ k n, (decF k n).length ≤ k
 | 0, _ => by simp [decF]
 | k + 1, n => by
  have := decF_len k (n / 10)
  simp only [decF]
  split
  ·simp
  ·simp; omega
theorem decN_len (n : Nat) : (decN n).length ≤ 20 := decF_len 20 n
theorem quad_step (n : Nat) (hn : n < 2 ^ 32) (m j : Nat) (hm : m ≤ 24) (hj : 2 ^ m = j) {l : List (List UInt8)} {o : AV} {H : AHeap} (ho : Row 0 0 H o (txts l)) (hl : l.length ≤ 4) {K0 : AV → AHeap → Prop} (h : ∀ o' H', Row 0 0 H' o' (txts (l ++ [decN (n / j % 256)])) → L229_0 (.int .u32 n) o' (.int .i64 ((m : Int) - 8)) H' K0) : L229_0 (.int .u32 n) o (i64 m) H K0 := by
 refine S229_0 fun _ => ?_
 have s1 := shr_u32 (n := n) (m := m) (k := j) (k' := .i64) (by omega) hj
 have h1 : n / j < 2 ^ 32 := Nat.lt_of_le_of_lt (Nat.div_le_self _ _) hn
 have s2 := and_u32 h1
 have hb : n / j % 256 < 256 := by omega
 have hi := fun H K => itoa_byte (n / j % 256) hb H K
 have c1 : ∀ H, convA H (.int .i64) (.int .u32 ((n / j % 256 : Nat) : Int)) = some (.int .i64 ((n / j % 256 : Nat) : Int), H, .p) := fun H => by rw [conv_i, wrap64 (by omega)]
 obtain ⟨o', H', p1, p2, _, _⟩ := ho.push (by omega) (.str (decN (n / j % 256))) 16 (by omega) (by rw [txts_len]; omega)
 have w1 : IntKind.i64.wrap ((m : Int) - 8) = (m : Int) - 8 := wrap64 (by omega)
 have d1 : decide ((0 : Int) ≤ (m : Int)) = true := by simp
 simp (disch := omega) only [go_sem, Int.reduceBEq, s1, s2, c1, hi, p1 true, w1, d1]
 refine h o' H' ?_
 have e : txts (l ++ [decN (n / j % 256)]) = txts l ++ [.str (decN (n / j % 256))] := by simp [txts]
 rw [e]
 exact p2
theorem text4_c (n : Nat) (hn : n < 2 ^ 32) (H : AHeap) (K : AV → AHeap → Kd → Prop) : E.C 229 [.int .u32 n] H K ↔ K (.str (txt4 n)) H .p := by
 refine C_by (V229 (K := fun v' _ => v' = .str (txt4 n)) ?_) rfl (by kernel_rfl) (fun _ => rfl)
 refine quad_step n hn 24 16777216 (by decide) rfl (l := []) .nil (by decide) fun o1 H1 r1 => ?_
 refine quad_step n hn 16 65536 (by decide) rfl r1 (by simp) fun o2 H2 r2 => ?_
 refine quad_step n hn 8 256 (by decide) rfl r2 (by simp) fun o3 H3 r3 => ?_
 refine quad_step n hn 0 1 (by decide) rfl r3 (by simp) fun o4 H4 r4 => ?_
 refine S229_0 fun _ => ?_
 have hx : ∀ k, (decN k).length ≤ 20 := decN_len
 obtain ⟨H5, kd, hc, _⟩ := joinRow r4 46 (by
  simp only [List.nil_append, List.cons_append, sumLen, List.map_cons, List.map_nil, List.sum_cons, List.sum_nil, List.length_cons, List.length_nil]
  have h1 := hx (n / 16777216 % 256)
  have h2 := hx (n / 65536 % 256)
  have h3 := hx (n / 256 % 256)
  have h4 := hx (n / 1 % 256)
  omega)
 simp (disch := omega) only [go_sem, Int.reduceBEq, hc]
 rfl
structure Host.In (h : Host) : Prop where
 name : h.name.length ≤ 2 ^ 29
 kind : h.kind < 256
 v4 : h.v4 < 2 ^ 32
 v6 : ∀ x ∈ h.v6, x < 65536
def hostTxt (h : Host) : List UInt8 := if h.kind = 2 then txt4 h.v4 else if h.kind = 3 then [91] ++ txt6 h.v6 ++ [93] else h.name
theorem txt6_len {l : List Nat} (hr : ∀ x ∈ l, x < 65536) (h8 : l.length = 8) : (txt6 l).length ≤ 100 := by
 have h1 := hexL_len hr
 have h2 := hexL_len (l := l.take (gapB l).1) fun x hx => hr x (List.mem_of_mem_take hx)
 have h3 := hexL_len (l := l.drop (gapB l).2) fun x hx => hr x (List.mem_of_mem_drop hx)
 rw [List.length_take] at h2
 rw [List.length_drop] at h3
 unfold txt6
 split
 ·simp
 ·split
  ·omega
  ·simp only [List.length_append, List.length_cons, List.length_nil]; omega
theorem hostText_c (h : Host) (hi : h.In) (H : AHeap) (K : AV → AHeap → Kd → Prop) : E.C 51 [.agg h.cells] H K ↔ K (.tuple [.str (if hostOk h then hostTxt h else []), i64 (if hostOk h then 0 else 18)]) H .p := by
 refine C_by (V51 (K := fun v' _ => v' = .tuple [.str (if hostOk h then hostTxt h else []), i64 (if hostOk h then 0 else 18)]) ?_) rfl (by kernel_rfl) (fun _ => rfl)
 have b1 : newVarA [] (.agg h.cells) 0 = some (.ptr 0 0 11, [.cells h.cells 0 11 0], .a 0) := rfl
 have l0 : loadA [.cells h.cells 0 11 0] 1 false (.ptr 0 0 11) = some (.int .u8 h.kind, [.cells h.cells 0 11 0], .r 0) := rfl
 have l1 : loadA [.cells h.cells 0 11 0] 1 false (.ptr 0 1 11) = some (.str h.name, [.cells h.cells 0 11 0], .r 0) := rfl
 have l2 : loadA [.cells h.cells 0 11 0] 1 false (.ptr 0 2 11) = some (.int .u32 h.v4, [.cells h.cells 0 11 0], .r 0) := rfl
 have l3 : loadA [.cells h.cells 0 11 0] 8 true (.ptr 0 3 11) = some (.agg (numsV h.v6), [.cells h.cells 0 11 0], .r 0) := rfl
 have la : loadA [.cells h.cells 0 11 0] 11 true (.ptr 0 0 11) = some (.agg h.cells, [.cells h.cells 0 11 0], .r 0) := rfl
 have hc := fun H K => hostCheck_c h hi.name H K
 have h4 := fun H K => text4_c h.v4 hi.v4 H K
 have h6 := fun H K => text6_c h.v6 rfl hi.v6 H K
 cases ho : hostOk h
 ·simp only [ho] at hc
  simp (disch := omega) only [go_sem, Int.reduceBEq, Int.reduceBNe, Int.reduceLT, Int.reduceLE, Int.reduceAdd, Int.reduceSub, Int.reduceNeg, Nat.reduceLT, Nat.reduceLeDiff, Nat.reduceAdd, b1, l0, l1, l2, l3, la, hc]
 ·simp only [ho] at hc
  unfold hostTxt
  by_cases k2 : h.kind = 2
  ·have e2 : ((h.kind : Int) == 2) = true := by rw [k2]; rfl
   simp only [if_pos k2]
   simp (disch := omega) only [go_sem, Int.reduceBEq, Int.reduceBNe, Int.reduceLT, Int.reduceLE, Int.reduceAdd, Int.reduceSub, Int.reduceNeg, Nat.reduceLT, Nat.reduceLeDiff, Nat.reduceAdd, b1, l0, l1, l2, l3, la, hc, e2, h4, Nat.zero_add]
  ·have e2 : ((h.kind : Int) == 2) = false := by rw [beq_eq_false_iff_ne]; omega
   simp only [if_neg k2]
   by_cases k3 : h.kind = 3
   ·have e3 : ((h.kind : Int) == 3) = true := by rw [k3]; rfl
    have hl := txt6_len hi.v6 rfl
    have a1 : binA .add (.str [91]) (.str (txt6 h.v6)) = some (.str ([91] ++ txt6 h.v6)) := bin_adds (by simp; omega)
    have a2 : binA .add (.str (91 :: txt6 h.v6)) (.str [93]) = some (.str (91 :: (txt6 h.v6 ++ [93]))) := bin_adds (by simp; omega)
    simp only [if_pos k3]
    simp (disch := omega) only [go_sem, Int.reduceBEq, Int.reduceBNe, Int.reduceLT, Int.reduceLE, Int.reduceAdd, Int.reduceSub, Int.reduceNeg, Nat.reduceLT, Nat.reduceLeDiff, Nat.reduceAdd, b1, l0, l1, l2, l3, la, hc, e2, e3, h6, Nat.zero_add, a1, a2]
   ·have e3 : ((h.kind : Int) == 3) = false := by rw [beq_eq_false_iff_ne]; omega
    simp only [if_neg k3]
    simp (disch := omega) only [go_sem, Int.reduceBEq, Int.reduceBNe, Int.reduceLT, Int.reduceLE, Int.reduceAdd, Int.reduceSub, Int.reduceNeg, Nat.reduceLT, Nat.reduceLeDiff, Nat.reduceAdd, b1, l0, l1, l2, l3, la, hc, e2, e3, Nat.zero_add]
end Go.AE.Fns
namespace Go.AE.Fns
open Go Go.AE Env
set_option maxRecDepth 100000
def specialB (s : List UInt8) : Int × Bool := if s = [102, 116, 112] then (21, true) else if s = [102, 105, 108, 101] then (0, true) else if s = [104, 116, 116, 112] then (80, true) else if s = [104, 116, 116, 112, 115] then (443, true) else if s = [119, 115] then (80, true) else if s = [119, 115, 115] then (443, true) else (0, false)
def spMap : List (AV × AV) := [(.str [102, 116, 112], i64 21), (.str [102, 105, 108, 101], i64 0), (.str [104, 116, 116, 112], i64 80), (.str [104, 116, 116, 112, 115], i64 443), (.str [119, 115], i64 80), (.str [119, 115, 115], i64 443)]
theorem special_c (s : List UInt8) (H : AHeap) (K : AV → AHeap → Kd → Prop) : E.C 116 [.str s] H K ↔ K (.tuple [i64 (specialB s).1, .bool (specialB s).2]) H .p := by
 refine C_by (V116 (K := fun v' _ => v' = .tuple [i64 (specialB s).1, .bool (specialB s).2]) ?_) rfl (by kernel_rfl) (fun _ => rfl)
 have m0 : fMkMap [] = some (.map 0, [.map []], .a 0) := rfl
 have m1 : fMapUpd .s (.map 0) (.str [102, 116, 112]) (.int .i64 21) [.map []] = some (undefA, [.map (spMap.take 1)], .l) := rfl
 have m2 : fMapUpd .s (.map 0) (.str [102, 105, 108, 101]) (.int .i64 0) [.map (spMap.take 1)] = some (undefA, [.map (spMap.take 2)], .l) := rfl
 have m3 : fMapUpd .s (.map 0) (.str [104, 116, 116, 112]) (.int .i64 80) [.map (spMap.take 2)] = some (undefA, [.map (spMap.take 3)], .l) := rfl
 have m4 : fMapUpd .s (.map 0) (.str [104, 116, 116, 112, 115]) (.int .i64 443) [.map (spMap.take 3)] = some (undefA, [.map (spMap.take 4)], .l) := rfl
 have m5 : fMapUpd .s (.map 0) (.str [119, 115]) (.int .i64 80) [.map (spMap.take 4)] = some (undefA, [.map (spMap.take 5)], .l) := rfl
 have m6 : fMapUpd .s (.map 0) (.str [119, 115, 115]) (.int .i64 443) [.map (spMap.take 5)] = some (undefA, [.map spMap], .l) := rfl
 have lk : fLookup .s (.int .i64 0) true (.map 0) (.str s) [.map spMap] = some (.tuple [i64 (specialB s).1, .bool (specialB s).2], [.map spMap], .r 0) := by
  have e : ∀ k : List UInt8, aEq .s (.str s) (.str k) = some (s == k) := fun _ => rfl
  unfold specialB
  simp only [fLookup, List.getElem?_cons_zero, ETy.plainKey, if_true, spMap, findA, e]
  by_cases c1 : s = [102, 116, 112]
  ·subst c1; rfl
  by_cases c2 : s = [102, 105, 108, 101]
  ·subst c2; rfl
  by_cases c3 : s = [104, 116, 116, 112]
  ·subst c3; rfl
  by_cases c4 : s = [104, 116, 116, 112, 115]
  ·subst c4; rfl
  by_cases c5 : s = [119, 115]
  ·subst c5; rfl
  by_cases c6 : s = [119, 115, 115]
  ·subst c6; rfl
  simp only [c1, c2, c3, c4, c5, c6, if_false, beq_eq_false_iff_ne.2 c1, beq_eq_false_iff_ne.2 c2, beq_eq_false_iff_ne.2 c3, beq_eq_false_iff_ne.2 c4, beq_eq_false_iff_ne.2 c5, beq_eq_false_iff_ne.2 c6]
  rfl
 simp (disch := omega) only [go_sem, Int.reduceBEq, m0, m1, m2, m3, m4, m5, m6, lk]
structure Origin where
 opaq : Bool := false
 id : Int := 0
 scheme : List UInt8 := []
 host : Host := { kind := 0 }
 port : Int := 0
 hasPort : Bool := false
 domain : List UInt8 := []
 hasDomain : Bool := false
 deriving DecidableEq
def Origin.cells (o : Origin) : List AV := [.bool o.opaq, i64 o.id, .str o.scheme] ++ o.host.cells ++ [i64 o.port, .bool o.hasPort, .str o.domain, .bool o.hasDomain]
abbrev originT : ETy := .st [(0, 1, false, .b), (1, 1, false, .i), (2, 1, false, .s), (3, 11, true, hostT), (14, 1, false, .i), (15, 1, false, .b), (16, 1, false, .s), (17, 1, false, .b)]
theorem origin_eq (a b : Origin) : aEq originT (.agg a.cells) (.agg b.cells) = some (decide (a = b)) := by
 have hh : aEq originT (.agg a.cells) (.agg b.cells) = some ((a.opaq == b.opaq) && ((a.id == b.id) && ((a.scheme == b.scheme) && (decide (a.host = b.host) && ((a.port == b.port) && ((a.hasPort == b.hasPort) && ((a.domain == b.domain) && ((a.hasDomain == b.hasDomain) && true)))))))) := by
  rw [aEq_st]
  exact aEqF_cons rfl rfl aEq_bb (aEqF_cons rfl rfl aEq_i (aEqF_cons rfl rfl aEq_s (aEqF_cons rfl rfl (host_eq _ _) (aEqF_cons rfl rfl aEq_i (aEqF_cons rfl rfl aEq_bb (aEqF_cons rfl rfl aEq_s (aEqF_cons rfl rfl aEq_bb aEqF_nil)))))))
 rw [hh]
 congr 1
 rw [Bool.eq_iff_iff]
 cases a; cases b
 simp only [Bool.and_eq_true, beq_iff_eq, decide_eq_true_eq, Origin.mk.injEq, and_true]
theorem origin_eqV (a b : Origin) {ng : Bool} : eqV ng originT (.agg a.cells) (.agg b.cells) = some (.bool (if ng then !decide (a = b) else decide (a = b))) := by
 unfold eqV
 rw [origin_eq]; rfl
structure Origin.In (o : Origin) : Prop where
 host : o.host.In
 scheme : o.scheme.length ≤ 2 ^ 29
 domain : o.domain.length ≤ 2 ^ 29
 id : -(2 ^ 63 : Int) ≤ o.id ∧ o.id < 2 ^ 63
 port : -(2 ^ 63 : Int) ≤ o.port ∧ o.port < 2 ^ 63
def originOk (o : Origin) : Bool :=
 if o.opaq then decide (o = { opaq := true, id := o.id })
 else
  let base := (o.id == 0) && schemes.contains o.scheme && hostOk o.host && (((o.host.kind : Int) == 1) || ((o.host.kind : Int) == 2) || ((o.host.kind : Int) == 3))
  let p := if o.hasPort then base && decide (0 ≤ o.port) && decide (o.port < 65536) && !(o.port == (specialB o.scheme).1) else base && (o.port == 0)
  if o.hasDomain then p && ((o.host.kind : Int) == 1) && behindB o.host.name o.domain else p && (o.domain == [])
theorem origin_free (o : Origin) : locFreeL o.cells = true := rfl
theorem originCheck_c (o : Origin) (hi : o.In) (H : AHeap) (K : AV → AHeap → Kd → Prop) : E.C 70 [.agg o.cells] H K ↔ K (i64 (if originOk o then 0 else 18)) H .p := by
 refine C_by (V70 (K := fun v' _ => v' = i64 (if originOk o then 0 else 18)) ?_) rfl (by kernel_rfl) (fun _ => rfl)
 have b1 : newVarA [] (.agg o.cells) 0 = some (.ptr 0 0 18, [.cells o.cells 0 18 0], .a 0) := rfl
 have la : loadA [.cells o.cells 0 18 0] 18 true (.ptr 0 0 18) = some (.agg o.cells, [.cells o.cells 0 18 0], .r 0) := rfl
 have l0 : loadA [.cells o.cells 0 18 0] 1 false (.ptr 0 0 18) = some (.bool o.opaq, [.cells o.cells 0 18 0], .r 0) := rfl
 have l1 : loadA [.cells o.cells 0 18 0] 1 false (.ptr 0 1 18) = some (.int .i64 o.id, [.cells o.cells 0 18 0], .r 0) := rfl
 have l2 : loadA [.cells o.cells 0 18 0] 1 false (.ptr 0 2 18) = some (.str o.scheme, [.cells o.cells 0 18 0], .r 0) := rfl
 have l3 : loadA [.cells o.cells 0 18 0] 1 false (.ptr 0 3 18) = some (.int .u8 (o.host.kind : Nat), [.cells o.cells 0 18 0], .r 0) := rfl
 have l4 : loadA [.cells o.cells 0 18 0] 1 false (.ptr 0 4 18) = some (.str o.host.name, [.cells o.cells 0 18 0], .r 0) := rfl
 have lh : loadA [.cells o.cells 0 18 0] 11 true (.ptr 0 3 18) = some (.agg o.host.cells, [.cells o.cells 0 18 0], .r 0) := rfl
 have l14 : loadA [.cells o.cells 0 18 0] 1 false (.ptr 0 14 18) = some (.int .i64 o.port, [.cells o.cells 0 18 0], .r 0) := rfl
 have l15 : loadA [.cells o.cells 0 18 0] 1 false (.ptr 0 15 18) = some (.bool o.hasPort, [.cells o.cells 0 18 0], .r 0) := rfl
 have l16 : loadA [.cells o.cells 0 18 0] 1 false (.ptr 0 16 18) = some (.str o.domain, [.cells o.cells 0 18 0], .r 0) := rfl
 have l17 : loadA [.cells o.cells 0 18 0] 1 false (.ptr 0 17 18) = some (.bool o.hasDomain, [.cells o.cells 0 18 0], .r 0) := rfl
 have m1 : ∀ n, bldV [.bool false, .int .i64 0, .str [], .int .u8 0, .str [], .int .u32 0, .int .u16 0, .int .u16 0, .int .u16 0, .int .u16 0, .int .u16 0, .int .u16 0, .int .u16 0, .int .u16 0, .int .i64 0, .bool false, .str [], .bool false] [(0, 1, .bool true), (1, 1, .int .i64 n)] = some (.agg (Origin.cells { opaq := true, id := n })) := fun _ => rfl
 have hq := origin_eqV
 have hc := fun H K => hostCheck_c o.host hi.host.name H K
 have hbh := fun H K => behind_c o.host.name o.domain (by have := hi.host.name; omega) (by have := hi.domain; omega) H K
 have hk : ∀ q : Bool, ((if q = true then (0 : Int) else 18) == 0) = q := fun q => by cases q <;> rfl
 have key : ∀ q : Bool, (if (!q) = true then AV.int .i64 18 = i64 (if q = true then 0 else 18) else AV.int .i64 0 = i64 (if q = true then 0 else 18)) := fun q => by cases q <;> rfl
 unfold originOk
 cases e0 : o.opaq
 ·cases e15 : o.hasPort
  ·cases e17 : o.hasDomain
   ·simp (disch := omega) only [go_sem, Int.reduceBEq, b1, la, l0, l1, l2, l3, l4, lh, l14, l15, l16, l17, m1, hq, hc, hk, special_c, tuple_c, containsK_c, hbh, Nat.zero_add, e0, e15, e17]
    exact key _
   ·simp (disch := omega) only [go_sem, Int.reduceBEq, b1, la, l0, l1, l2, l3, l4, lh, l14, l15, l16, l17, m1, hq, hc, hk, special_c, tuple_c, containsK_c, hbh, Nat.zero_add, e0, e15, e17]
    exact key _
  ·cases e17 : o.hasDomain
   ·simp (disch := omega) only [go_sem, Int.reduceBEq, b1, la, l0, l1, l2, l3, l4, lh, l14, l15, l16, l17, m1, hq, hc, hk, special_c, tuple_c, containsK_c, hbh, Nat.zero_add, e0, e15, e17]
    exact key _
   ·simp (disch := omega) only [go_sem, Int.reduceBEq, b1, la, l0, l1, l2, l3, l4, lh, l14, l15, l16, l17, m1, hq, hc, hk, special_c, tuple_c, containsK_c, hbh, Nat.zero_add, e0, e15, e17]
    exact key _
 ·simp (disch := omega) only [go_sem, Int.reduceBEq, b1, la, l0, l1, m1, hq, Nat.zero_add, e0]
  have keyp : ∀ (p : Prop) (_ : Decidable p), (if (!decide p) = true then AV.int .i64 18 = i64 (if p then 0 else 18) else AV.int .i64 0 = i64 (if p then 0 else 18)) := fun p i => by by_cases h : p <;> simp [h]
  first | exact key _ | exact keyp _ _
def sameO (a b : Origin) : Bool := if a.opaq || b.opaq then (a.opaq == b.opaq) && (a.id == b.id) else decide ({ a with domain := b.domain, hasDomain := b.hasDomain, id := b.id } = b)
def sameDom (a b : Origin) : Bool := if a.opaq || b.opaq then sameO a b else if a.hasDomain && b.hasDomain then (a.scheme == b.scheme) && (a.domain == b.domain) else (a.hasDomain == b.hasDomain) && sameO a b
theorem sameO_c (a b : Origin) (H : AHeap) (K : AV → AHeap → Kd → Prop) : E.C 236 [.agg a.cells, .agg b.cells] H K ↔ K (.bool (sameO a b)) H .p := by
 refine C_by (V236 (K := fun v' _ => v' = .bool (sameO a b)) ?_) rfl (by kernel_rfl) (fun _ => rfl)
 have b1 : newVarA [] (.agg a.cells) 0 = some (.ptr 0 0 18, [.cells a.cells 0 18 0], .a 0) := rfl
 have b2 : newVarA [.cells a.cells 0 18 0] (.agg b.cells) 0 = some (.ptr 1 0 18, [.cells a.cells 0 18 0, .cells b.cells 0 18 0], .a 1) := rfl
 generalize hH : [ABlk.cells a.cells 0 18 0, .cells b.cells 0 18 0] = H0 at b2
 have l00 : loadA H0 1 false (.ptr 0 0 18) = some (.bool a.opaq, H0, .r 0) := by subst hH; rfl
 have l01 : loadA H0 1 false (.ptr 0 1 18) = some (.int .i64 a.id, H0, .r 0) := by subst hH; rfl
 have l10 : loadA H0 1 false (.ptr 1 0 18) = some (.bool b.opaq, H0, .r 1) := by subst hH; rfl
 have l11 : loadA H0 1 false (.ptr 1 1 18) = some (.int .i64 b.id, H0, .r 1) := by subst hH; rfl
 have l1g : loadA H0 1 false (.ptr 1 16 18) = some (.str b.domain, H0, .r 1) := by subst hH; rfl
 have l1h : loadA H0 1 false (.ptr 1 17 18) = some (.bool b.hasDomain, H0, .r 1) := by subst hH; rfl
 have s1 : storeA H0 1 (.ptr 0 16 18) (.str b.domain) = some (undefA, [.cells (Origin.cells { a with domain := b.domain }) 0 18 0, .cells b.cells 0 18 0], .w 0) := by subst hH; rfl
 have s2 : storeA [.cells (Origin.cells { a with domain := b.domain }) 0 18 0, .cells b.cells 0 18 0] 1 (.ptr 0 17 18) (.bool b.hasDomain) = some (undefA, [.cells (Origin.cells { a with domain := b.domain, hasDomain := b.hasDomain }) 0 18 0, .cells b.cells 0 18 0], .w 0) := rfl
 have s3 : storeA [.cells (Origin.cells { a with domain := b.domain, hasDomain := b.hasDomain }) 0 18 0, .cells b.cells 0 18 0] 1 (.ptr 0 1 18) (.int .i64 b.id) = some (undefA, [.cells (Origin.cells { a with domain := b.domain, hasDomain := b.hasDomain, id := b.id }) 0 18 0, .cells b.cells 0 18 0], .w 0) := rfl
 have la : loadA [.cells (Origin.cells { a with domain := b.domain, hasDomain := b.hasDomain, id := b.id }) 0 18 0, .cells b.cells 0 18 0] 18 true (.ptr 0 0 18) = some (.agg (Origin.cells { a with domain := b.domain, hasDomain := b.hasDomain, id := b.id }), [.cells (Origin.cells { a with domain := b.domain, hasDomain := b.hasDomain, id := b.id }) 0 18 0, .cells b.cells 0 18 0], .r 0) := rfl
 have lb : loadA [.cells (Origin.cells { a with domain := b.domain, hasDomain := b.hasDomain, id := b.id }) 0 18 0, .cells b.cells 0 18 0] 18 true (.ptr 1 0 18) = some (.agg b.cells, [.cells (Origin.cells { a with domain := b.domain, hasDomain := b.hasDomain, id := b.id }) 0 18 0, .cells b.cells 0 18 0], .r 1) := rfl
 have hd : drawOk (drawn F236 0) [.p, .r 1, .p, .r 1, .p, .r 1, .p, .w 0, .p, .w 0, .p, .w 0] = true := by kernel_rfl
 have hq := origin_eqV
 cases e0 : a.opaq <;> cases e1 : b.opaq
 ·have hs : sameO a b = decide ({ a with domain := b.domain, hasDomain := b.hasDomain, id := b.id } = b) := by simp [sameO, e0, e1]
  rw [hs]
  rw [e0] at l00
  rw [e1] at l10
  simp (disch := omega) only [go_sem, Int.reduceBEq, b1, b2, l00, l01, l10, l11, l1g, l1h, s1, s2, s3, la, lb, hd, hq, Nat.zero_add]
 ·have hs : sameO a b = ((false == true) && (a.id == b.id)) := by simp [sameO, e0, e1]
  rw [hs]
  rw [e0] at l00
  rw [e1] at l10
  simp (disch := omega) only [go_sem, Int.reduceBEq, b1, b2, l00, l01, l10, l11, l1g, l1h, s1, s2, s3, la, lb, hd, hq, Nat.zero_add]
 ·have hs : sameO a b = ((true == false) && (a.id == b.id)) := by simp [sameO, e0, e1]
  rw [hs]
  rw [e0] at l00
  rw [e1] at l10
  simp (disch := omega) only [go_sem, Int.reduceBEq, b1, b2, l00, l01, l10, l11, l1g, l1h, s1, s2, s3, la, lb, hd, hq, Nat.zero_add]
 ·have hs : sameO a b = ((true == true) && (a.id == b.id)) := by simp [sameO, e0, e1]
  rw [hs]
  rw [e0] at l00
  rw [e1] at l10
  simp (disch := omega) only [go_sem, Int.reduceBEq, b1, b2, l00, l01, l10, l11, l1g, l1h, s1, s2, s3, la, lb, hd, hq, Nat.zero_add]
theorem sameDom_c (a b : Origin) (H : AHeap) (K : AV → AHeap → Kd → Prop) : E.C 237 [.agg a.cells, .agg b.cells] H K ↔ K (.bool (sameDom a b)) H .p := by
 refine C_by (V237 (K := fun v' _ => v' = .bool (sameDom a b)) ?_) rfl (by kernel_rfl) (fun _ => rfl)
 have b1 : newVarA [] (.agg a.cells) 0 = some (.ptr 0 0 18, [.cells a.cells 0 18 0], .a 0) := rfl
 have b2 : newVarA [.cells a.cells 0 18 0] (.agg b.cells) 0 = some (.ptr 1 0 18, [.cells a.cells 0 18 0, .cells b.cells 0 18 0], .a 1) := rfl
 generalize hH : [ABlk.cells a.cells 0 18 0, .cells b.cells 0 18 0] = H0 at b2
 have l00 : loadA H0 1 false (.ptr 0 0 18) = some (.bool a.opaq, H0, .r 0) := by subst hH; rfl
 have l10 : loadA H0 1 false (.ptr 1 0 18) = some (.bool b.opaq, H0, .r 1) := by subst hH; rfl
 have l02 : loadA H0 1 false (.ptr 0 2 18) = some (.str a.scheme, H0, .r 0) := by subst hH; rfl
 have l12 : loadA H0 1 false (.ptr 1 2 18) = some (.str b.scheme, H0, .r 1) := by subst hH; rfl
 have l0g : loadA H0 1 false (.ptr 0 16 18) = some (.str a.domain, H0, .r 0) := by subst hH; rfl
 have l0h : loadA H0 1 false (.ptr 0 17 18) = some (.bool a.hasDomain, H0, .r 0) := by subst hH; rfl
 have l1g : loadA H0 1 false (.ptr 1 16 18) = some (.str b.domain, H0, .r 1) := by subst hH; rfl
 have l1h : loadA H0 1 false (.ptr 1 17 18) = some (.bool b.hasDomain, H0, .r 1) := by subst hH; rfl
 have la : loadA H0 18 true (.ptr 0 0 18) = some (.agg a.cells, H0, .r 0) := by subst hH; rfl
 have lb : loadA H0 18 true (.ptr 1 0 18) = some (.agg b.cells, H0, .r 1) := by subst hH; rfl
 have hs := sameO_c
 unfold sameDom
 cases e0 : a.opaq <;> cases e1 : b.opaq <;> cases e2 : a.hasDomain <;> cases e3 : b.hasDomain
 all_goals (rw [e0] at l00; rw [e1] at l10; rw [e2] at l0h; rw [e3] at l1h)
 all_goals simp (disch := omega) only [go_sem, Int.reduceBEq, b1, b2, l00, l10, l02, l12, l0g, l0h, l1g, l1h, la, lb, hs, Nat.zero_add]
 all_goals (try rfl)
end Go.AE.Fns
namespace Go.AE.Fns
open Go Go.AE Env
set_option maxRecDepth 100000
structure RulesIn (rules : List (List UInt8)) : Prop where
 n : rules.length ≤ 2 ^ 31
 s : ∀ r ∈ rules, r.length ≤ 2 ^ 29
theorem IsSl.toH {rules : List (List UInt8)} {r : AV} (h : IsSl rules r) (H : AHeap) : IsSlH H rules r := by
 cases h with
 | lst ex => exact .lst ex
 | nil h => exact .nil h
theorem asked_c {rules : List (List UInt8)} {r : AV} (hr : IsSl rules r) (name : List UInt8) (H : AHeap) (K : AV → AHeap → Kd → Prop) : E.C 75 [r, .str name] H K ↔ K (i64 (askedN rules name)) H .p :=
 C_val (asked_ans hr name []) (by have := hr.free; simp [locFreeL, AV.locFree, this]) (by kernel_rfl) rfl
theorem match_c {rules : List (List UInt8)} {r : AV} (hr : IsSl rules r) (hi : RulesIn rules) (name : List (List UInt8)) (hn : name.length ≤ 2 ^ 31) (ex : Bool) (H : AHeap) (K : AV → AHeap → Kd → Prop) : E.C 76 [r, .lst (txts name) name.length 1 ex] H K ↔ K (i64 (matchN rules name)) H .p := by
 obtain ⟨X, h⟩ := match_ans name rules ex hn hi.n hi.s [] r (hr.toH [])
 have h1 := hr.free
 have h2 := (IsSl.lst (l := name) ex).free
 exact C_val h (by simp only [AV.locFree] at h2; simp [locFreeL, AV.locFree, h1, h2]) (by kernel_rfl) rfl
theorem suffixV_c {rules : List (List UInt8)} {r : AV} (hr : IsSl rules r) (hi : RulesIn rules) (name : List UInt8) (H : AHeap) (K : AV → AHeap → Kd → Prop) : E.C 73 [r, .str name] H K ↔ K (.tuple [.str (if askedN rules name = 0 then suffixN rules name else []), i64 (askedN rules name)]) H .p := by
 obtain ⟨X, h⟩ := suffix_ans rules name hi.n hi.s [] r (hr.toH [])
 have h1 := hr.free
 have e : (if askedN rules name = 0 then AV.tuple [.str (suffixN rules name), i64 0] else .tuple [.str [], i64 (askedN rules name)]) = .tuple [.str (if askedN rules name = 0 then suffixN rules name else []), i64 (askedN rules name)] := by
  split
  ·rename_i h; rw [h]
  ·rfl
 rw [e] at h
 exact C_val h (by simp [locFreeL, AV.locFree, h1]) (by kernel_rfl) rfl
def regB (rules : List (List UInt8)) (name : List UInt8) : List UInt8 × Bool × Int :=
 if askedN rules name ≠ 0 then ([], false, askedN rules name)
 else if ((splitB 46 name).length : Int) < matchN rules (splitB 46 name) + 1 then ([], false, 0)
 else (joinB [46] ((splitB 46 name).drop ((splitB 46 name).length - (matchN rules (splitB 46 name) + 1).toNat)), true, 0)
theorem reg_c {rules : List (List UInt8)} {r : AV} (hr : IsSl rules r) (hi : RulesIn rules) (name : List UInt8) (H : AHeap) (K : AV → AHeap → Kd → Prop) : E.C 72 [r, .str name] H K ↔ K (.tuple [.str (regB rules name).1, .bool (regB rules name).2.1, i64 (regB rules name).2.2]) H .p := by
 refine C_by (V72 (K := fun v' _ => v' = .tuple [.str (regB rules name).1, .bool (regB rules name).2.1, i64 (regB rules name).2.2]) ?_) (by have := hr.free; simp [locFreeL, AV.locFree, this]) (by kernel_rfl) fun _ => rfl
 have ha := fun H K => asked_c hr name H K
 unfold regB
 by_cases c : askedN rules name = 0
 ·have hnl : name.length ≤ 4096 := by
   unfold askedN at c
   split at c
   ·omega
   ·split at c
    ·omega
    ·omega
  have e1 : (askedN rules name != 0) = false := by simp [c]
  have sp := fun H K => split_c name 46 (by omega) H K
  have hcnt := count_le 46 name
  have hsl_len := splitB_len 46 name
  have hsl2 : sumLen (splitB 46 name) ≤ name.length := sumLen_split 46 name
  generalize hlb : splitB 46 name = lb at sp hsl_len hsl2 ⊢
  have hm := fun H K => match_c hr hi lb (by omega) true H K
  have hb := matchN_bounds rules lb (by omega)
  have w1 : IntKind.i64.wrap (matchN rules lb + 1) = matchN rules lb + 1 := wrap64 (by omega)
  simp only [c, ne_eq, not_true_eq_false, if_false]
  by_cases c2 : (lb.length : Int) < matchN rules lb + 1
  ·have d : decide ((lb.length : Int) < matchN rules lb + 1) = true := decide_eq_true c2
   simp only [if_pos c2]
   simp (disch := omega) only [go_sem, Int.reduceBEq, ha, e1, sp, hm, w1, d]
  ·have d : decide ((lb.length : Int) < matchN rules lb + 1) = false := decide_eq_false c2
   have w2 : IntKind.i64.wrap ((lb.length : Int) - (matchN rules lb + 1)) = ((lb.length - (matchN rules lb + 1).toNat : Nat) : Int) := by rw [wrap64] <;> omega
   have sl1 : sliceA 1 (.lst (txts lb) lb.length 1 true) (some (.int .i64 ((lb.length - (matchN rules lb + 1).toNat : Nat) : Int))) none none = some (.lst (txts (lb.drop (lb.length - (matchN rules lb + 1).toNat))) (lb.drop (lb.length - (matchN rules lb + 1).toNat)).length 1 true) := by
    have := slice_lst (cs := txts lb) (ex := true) (k := .i64) (l := lb.length - (matchN rules lb + 1).toNat) (n := lb.length) (by omega) (txts_len _)
    rw [this]
    simp [txts]
   have hsum : sumLen (lb.drop (lb.length - (matchN rules lb + 1).toNat)) ≤ sumLen lb := by
    unfold sumLen
    have := congrArg (fun l => (l.map List.length).sum) (List.take_append_drop (lb.length - (matchN rules lb + 1).toNat) lb)
    simp only [List.map_append, List.sum_append] at this
    omega
   have jn := fun H K => join_c (lb.drop (lb.length - (matchN rules lb + 1).toNat)) true 46 (by simp; omega) H K
   simp only [if_neg c2]
   simp (disch := omega) only [go_sem, Int.reduceBEq, ha, e1, sp, hm, w1, d, w2, sl1, jn]
 ·have e1 : (askedN rules name != 0) = true := by simp [c]
  simp only [c, ne_eq, not_false_eq_true, if_true]
  simp (disch := omega) only [go_sem, Int.reduceBEq, ha, e1]
structure Site where
 opaq : Bool := false
 id : Int := 0
 scheme : List UInt8 := []
 host : List UInt8 := []
 deriving DecidableEq
def Site.cells (s : Site) : List AV := [.bool s.opaq, i64 s.id, .str s.scheme, .str s.host]
theorem site_eqV (a b : Site) {ng : Bool} : eqV ng (.st [(0, 1, false, .b), (1, 1, false, .i), (2, 1, false, .s), (3, 1, false, .s)]) (.agg a.cells) (.agg b.cells) = some (.bool (if ng then !decide (a = b) else decide (a = b))) := by
 have hh : aEq (.st [(0, 1, false, .b), (1, 1, false, .i), (2, 1, false, .s), (3, 1, false, .s)]) (.agg a.cells) (.agg b.cells) = some ((a.opaq == b.opaq) && ((a.id == b.id) && ((a.scheme == b.scheme) && ((a.host == b.host) && true)))) := by
  rw [aEq_st]
  exact aEqF_cons rfl rfl aEq_bb (aEqF_cons rfl rfl aEq_i (aEqF_cons rfl rfl aEq_s (aEqF_cons rfl rfl aEq_s aEqF_nil)))
 have e : ((a.opaq == b.opaq) && ((a.id == b.id) && ((a.scheme == b.scheme) && ((a.host == b.host) && true)))) = decide (a = b) := by
  rw [Bool.eq_iff_iff]
  cases a; cases b
  simp only [Bool.and_eq_true, beq_iff_eq, decide_eq_true_eq, Site.mk.injEq, and_true]
 unfold eqV
 rw [hh, e]; rfl
def siteHost (rules : List (List UInt8)) (h : Host) : List UInt8 := if h.kind = 1 then (if (regB rules (hostTxt h)).2.1 then (regB rules (hostTxt h)).1 else hostTxt h) else hostTxt h
def siteE (rules : List (List UInt8)) (o : Origin) : Int := if originOk o then (if 256 < rules.length then 3 else 0) else 18
def siteB (rules : List (List UInt8)) (o : Origin) : Site := if siteE rules o ≠ 0 then {} else if o.opaq then { opaq := true, id := o.id } else { scheme := o.scheme, host := siteHost rules o.host }
theorem site_c {rules : List (List UInt8)} {r : AV} (hr : IsSl rules r) (hi : RulesIn rules) (o : Origin) (ho : o.In) (H : AHeap) (K : AV → AHeap → Kd → Prop) : E.C 239 [r, .agg o.cells] H K ↔ K (.tuple [.agg (siteB rules o).cells, i64 (siteE rules o)]) H .p := by
 refine C_by (V239 (K := fun v' _ => v' = .tuple [.agg (siteB rules o).cells, i64 (siteE rules o)]) ?_) (by have := hr.free; simp [locFreeL, AV.locFree, this, origin_free]) (by kernel_rfl) fun _ => rfl
 have b1 : newVarA [] (.agg o.cells) 0 = some (.ptr 0 0 18, [.cells o.cells 0 18 0], .a 0) := rfl
 have b2 : fAlloc [.bool false, .int .i64 0, .str [], .str []] 0 [.cells o.cells 0 18 0] = some (.ptr 1 0 4, [.cells o.cells 0 18 0, .cells (Site.cells {}) 0 4 0], .a 1) := rfl
 generalize hH : [ABlk.cells o.cells 0 18 0, .cells (Site.cells {}) 0 4 0] = H0 at b2
 have la : loadA H0 18 true (.ptr 0 0 18) = some (.agg o.cells, H0, .r 0) := by subst hH; rfl
 have l0 : loadA H0 1 false (.ptr 0 0 18) = some (.bool o.opaq, H0, .r 0) := by subst hH; rfl
 have l1 : loadA H0 1 false (.ptr 0 1 18) = some (.int .i64 o.id, H0, .r 0) := by subst hH; rfl
 have l2 : loadA H0 1 false (.ptr 0 2 18) = some (.str o.scheme, H0, .r 0) := by subst hH; rfl
 have l3 : loadA H0 1 false (.ptr 0 3 18) = some (.int .u8 (o.host.kind : Nat), H0, .r 0) := by subst hH; rfl
 have lh : loadA H0 11 true (.ptr 0 3 18) = some (.agg o.host.cells, H0, .r 0) := by subst hH; rfl
 have m0 : bldV [.bool false, .int .i64 0, .str [], .str []] [] = some (.agg (Site.cells {})) := rfl
 have m1 : ∀ n, bldV [.bool false, .int .i64 0, .str [], .str []] [(0, 1, .bool true), (1, 1, .int .i64 n)] = some (.agg (Site.cells { opaq := true, id := n })) := fun _ => rfl
 have m2 : ∀ s t, bldV [.bool false, .int .i64 0, .str [], .str []] [(2, 1, .str s), (3, 1, .str t)] = some (.agg (Site.cells { scheme := s, host := t })) := fun _ _ => rfl
 have st : ∀ s : Site, storeA H0 4 (.ptr 1 0 4) (.agg s.cells) = some (undefA, [.cells o.cells 0 18 0, .cells s.cells 0 4 0], .w 1) := fun s => by subst hH; rfl
 have ls : ∀ s : Site, loadA [.cells o.cells 0 18 0, .cells s.cells 0 4 0] 4 true (.ptr 1 0 4) = some (.agg s.cells, [.cells o.cells 0 18 0, .cells s.cells 0 4 0], .r 1) := fun s => rfl
 have hl := hr.len
 have hc := fun H K => originCheck_c o ho H K
 have ht := fun H K => hostText_c o.host ho.host H K
 have hg := fun H K => reg_c hr hi (hostTxt o.host) H K
 unfold siteB siteE
 cases ok : originOk o
 ·simp only [ok] at hc
  simp (disch := omega) only [go_sem, Int.reduceBEq, b1, b2, la, hc, m0, st, ls]
  rfl
 ·simp only [ok] at hc
  by_cases c : 256 < rules.length
  ·have d : decide ((256 : Int) < (rules.length : Int)) = true := by simp; omega
   simp only [if_pos c]
   simp (disch := omega) only [go_sem, Int.reduceBEq, b1, b2, la, hc, m0, st, ls, hl, d]
   rfl
  ·have d : decide ((256 : Int) < (rules.length : Int)) = false := by simp; omega
   simp only [if_neg c]
   cases e0 : o.opaq
   ·have hok : hostOk o.host = true := by
     unfold originOk at ok
     simp only [e0, Bool.false_eq_true, if_false] at ok
     cases hn : hostOk o.host
     ·simp only [hn, Bool.and_false, Bool.false_and, ite_self, Bool.false_eq_true] at ok
     ·rfl
    simp only [hok, if_true] at ht
    rw [e0] at l0
    unfold siteHost
    by_cases k1 : o.host.kind = 1
    ·have e1 : ((o.host.kind : Int) == 1) = true := by rw [k1]; rfl
     cases e2 : (regB rules (hostTxt o.host)).2.1
     ·rw [e2] at hg
      simp only [if_pos k1]
      simp (disch := omega) only [go_sem, Int.reduceBEq, b1, b2, la, hc, m0, st, ls, hl, d, l0, l1, l2, l3, lh, ht, hg, m1, m2, e1, Nat.zero_add]
      rfl
     ·rw [e2] at hg
      simp only [if_pos k1]
      simp (disch := omega) only [go_sem, Int.reduceBEq, b1, b2, la, hc, m0, st, ls, hl, d, l0, l1, l2, l3, lh, ht, hg, m1, m2, e1, Nat.zero_add]
      rfl
    ·have e1 : ((o.host.kind : Int) == 1) = false := by rw [beq_eq_false_iff_ne]; omega
     simp only [if_neg k1]
     simp (disch := omega) only [go_sem, Int.reduceBEq, b1, b2, la, hc, m0, st, ls, hl, d, l0, l1, l2, l3, lh, ht, m1, m2, e1, Nat.zero_add]
     rfl
   ·rw [e0] at l0
    simp (disch := omega) only [go_sem, Int.reduceBEq, b1, b2, la, hc, m0, st, ls, hl, d, l0, l1, m1, Nat.zero_add]
    rfl
def ssE (rules : List (List UInt8)) (a b : Origin) : Int := if siteE rules a ≠ 0 then siteE rules a else siteE rules b
def ssB (rules : List (List UInt8)) (a b : Origin) : Bool := decide (ssE rules a b = 0) && decide (siteB rules a = siteB rules b)
theorem sameSite_c {rules : List (List UInt8)} {r : AV} (hr : IsSl rules r) (hi : RulesIn rules) (a b : Origin) (ha : a.In) (hb : b.In) (H : AHeap) (K : AV → AHeap → Kd → Prop) : E.C 238 [r, .agg a.cells, .agg b.cells] H K ↔ K (.tuple [.bool (ssB rules a b), i64 (ssE rules a b)]) H .p := by
 refine C_by (V238 (K := fun v' _ => v' = .tuple [.bool (ssB rules a b), i64 (ssE rules a b)]) ?_) (by have := hr.free; simp [locFreeL, AV.locFree, this, origin_free]) (by kernel_rfl) fun _ => rfl
 have b1 : newVarA [] (.agg a.cells) 0 = some (.ptr 0 0 18, [.cells a.cells 0 18 0], .a 0) := rfl
 have b2 : newVarA [.cells a.cells 0 18 0] (.agg b.cells) 0 = some (.ptr 1 0 18, [.cells a.cells 0 18 0, .cells b.cells 0 18 0], .a 1) := rfl
 have la : loadA [.cells a.cells 0 18 0, .cells b.cells 0 18 0] 18 true (.ptr 0 0 18) = some (.agg a.cells, [.cells a.cells 0 18 0, .cells b.cells 0 18 0], .r 0) := rfl
 have sa := fun H K => site_c hr hi a ha H K
 have sb := fun H K => site_c hr hi b hb H K
 unfold ssB ssE
 generalize siteB rules a = x at *
 generalize siteE rules a = e at *
 generalize siteB rules b = y at *
 generalize siteE rules b = e' at *
 have a1 : fAlloc [.bool false, .int .i64 0, .str [], .str []] 0 [.cells a.cells 0 18 0, .cells b.cells 0 18 0] = some (.ptr 2 0 4, [.cells a.cells 0 18 0, .cells b.cells 0 18 0, .cells (Site.cells {}) 0 4 0], .a 2) := rfl
 have s1 : storeA [.cells a.cells 0 18 0, .cells b.cells 0 18 0, .cells (Site.cells {}) 0 4 0] 4 (.ptr 2 0 4) (.agg x.cells) = some (undefA, [.cells a.cells 0 18 0, .cells b.cells 0 18 0, .cells x.cells 0 4 0], .w 2) := rfl
 have lb : loadA [.cells a.cells 0 18 0, .cells b.cells 0 18 0, .cells x.cells 0 4 0] 18 true (.ptr 1 0 18) = some (.agg b.cells, [.cells a.cells 0 18 0, .cells b.cells 0 18 0, .cells x.cells 0 4 0], .r 1) := rfl
 have a2 : fAlloc [.bool false, .int .i64 0, .str [], .str []] 0 [.cells a.cells 0 18 0, .cells b.cells 0 18 0, .cells x.cells 0 4 0] = some (.ptr 3 0 4, [.cells a.cells 0 18 0, .cells b.cells 0 18 0, .cells x.cells 0 4 0, .cells (Site.cells {}) 0 4 0], .a 3) := rfl
 have s2 : storeA [.cells a.cells 0 18 0, .cells b.cells 0 18 0, .cells x.cells 0 4 0, .cells (Site.cells {}) 0 4 0] 4 (.ptr 3 0 4) (.agg y.cells) = some (undefA, [.cells a.cells 0 18 0, .cells b.cells 0 18 0, .cells x.cells 0 4 0, .cells y.cells 0 4 0], .w 3) := rfl
 have lx : loadA [.cells a.cells 0 18 0, .cells b.cells 0 18 0, .cells x.cells 0 4 0, .cells y.cells 0 4 0] 4 true (.ptr 2 0 4) = some (.agg x.cells, [.cells a.cells 0 18 0, .cells b.cells 0 18 0, .cells x.cells 0 4 0, .cells y.cells 0 4 0], .r 2) := rfl
 have ly : loadA [.cells a.cells 0 18 0, .cells b.cells 0 18 0, .cells x.cells 0 4 0, .cells y.cells 0 4 0] 4 true (.ptr 3 0 4) = some (.agg y.cells, [.cells a.cells 0 18 0, .cells b.cells 0 18 0, .cells x.cells 0 4 0, .cells y.cells 0 4 0], .r 3) := rfl
 have hq := site_eqV
 by_cases c1 : e = 0
 ·subst c1
  by_cases c2 : e' = 0
  ·subst c2
   simp (disch := omega) only [go_sem, Int.reduceBEq, b1, b2, la, sa, a1, s1, lb, sb, a2, s2, lx, ly, hq]
   rfl
  ·have d : (e' != 0) = true := by simp [c2]
   simp (disch := omega) only [go_sem, Int.reduceBEq, b1, b2, la, sa, a1, s1, lb, sb, a2, s2, lx, ly, hq, d]
   simp [c2]
 ·have d : (e != 0) = true := by simp [c1]
  simp (disch := omega) only [go_sem, Int.reduceBEq, b1, b2, la, sa, a1, s1, lb, sb, a2, s2, lx, ly, hq, d]
  simp [c1]
end Go.AE.Fns
namespace Go.AE.Fns
open Go Go.AE Env
set_option maxRecDepth 100000
def loopback : List UInt8 := [108, 111, 99, 97, 108, 104, 111, 115, 116]
def trustB (o : Origin) : Bool := ((o.scheme == [104, 116, 116, 112, 115]) || (o.scheme == [119, 115, 115])) || (if o.host.kind = 2 then (((o.host.v4 / 16777216 : Nat) : Int) == 127) else if o.host.kind = 3 then decide (o.host.v6 = [0, 0, 0, 0, 0, 0, 0, 1]) else if o.host.kind = 1 then behindB o.host.name loopback else false)
theorem trusted_c (o : Origin) (hi : o.In) (H : AHeap) (K : AV → AHeap → Kd → Prop) : E.C 240 [.agg o.cells] H K ↔ K (.tuple [.bool (originOk o && trustB o), i64 (if originOk o then 0 else 18)]) H .p := by
 refine C_by (V240 (K := fun v' _ => v' = .tuple [.bool (originOk o && trustB o), i64 (if originOk o then 0 else 18)]) ?_) rfl (by kernel_rfl) (fun _ => rfl)
 have b1 : newVarA [] (.agg o.cells) 0 = some (.ptr 0 0 18, [.cells o.cells 0 18 0], .a 0) := rfl
 have la : loadA [.cells o.cells 0 18 0] 18 true (.ptr 0 0 18) = some (.agg o.cells, [.cells o.cells 0 18 0], .r 0) := rfl
 have l2 : loadA [.cells o.cells 0 18 0] 1 false (.ptr 0 2 18) = some (.str o.scheme, [.cells o.cells 0 18 0], .r 0) := rfl
 have l3 : loadA [.cells o.cells 0 18 0] 1 false (.ptr 0 3 18) = some (.int .u8 (o.host.kind : Nat), [.cells o.cells 0 18 0], .r 0) := rfl
 have l4 : loadA [.cells o.cells 0 18 0] 1 false (.ptr 0 4 18) = some (.str o.host.name, [.cells o.cells 0 18 0], .r 0) := rfl
 have l5 : loadA [.cells o.cells 0 18 0] 1 false (.ptr 0 5 18) = some (.int .u32 (o.host.v4 : Nat), [.cells o.cells 0 18 0], .r 0) := rfl
 have l6 : loadA [.cells o.cells 0 18 0] 8 true (.ptr 0 6 18) = some (.agg (numsV o.host.v6), [.cells o.cells 0 18 0], .r 0) := rfl
 have z : bldV [.int .u16 0, .int .u16 0, .int .u16 0, .int .u16 0, .int .u16 0, .int .u16 0, .int .u16 0, .int .u16 0] [(7, 1, .int .u16 1)] = some (.agg (numsV [0, 0, 0, 0, 0, 0, 0, 1])) := rfl
 have q : eqV false v6T (.agg (numsV o.host.v6)) (.agg (numsV [0, 0, 0, 0, 0, 0, 0, 1])) = some (.bool (decide (o.host.v6 = [0, 0, 0, 0, 0, 0, 0, 1]))) := by unfold eqV; rw [nums_eq rfl rfl]; rfl
 have hc := fun H K => originCheck_c o hi H K
 have hs := shr_u32 (n := o.host.v4) (m := 24) (k := 16777216) (k' := .u64) (by decide) rfl
 have hb := fun H K => behind_c o.host.name loopback (by have := hi.host.name; omega) (by decide) H K
 rw [show loopback = [108, 111, 99, 97, 108, 104, 111, 115, 116] from rfl] at hb
 have hs' : binA .shr (.int .u32 (o.host.v4 : Nat)) (.int .u64 24) = some (.int .u32 ((o.host.v4 / 16777216 : Nat) : Int)) := hs
 cases ok : originOk o
 ·simp only [ok] at hc
  simp (disch := omega) only [go_sem, Int.reduceBEq, Int.reduceBNe, Int.reduceLT, Int.reduceLE, Int.reduceAdd, Int.reduceSub, Int.reduceNeg, Nat.reduceLT, Nat.reduceLeDiff, Nat.reduceAdd, b1, la, hc]
 ·simp only [ok] at hc
  unfold trustB
  rw [show loopback = [108, 111, 99, 97, 108, 104, 111, 115, 116] from rfl]
  by_cases k2 : o.host.kind = 2
  ·have e2 : ((o.host.kind : Int) == 2) = true := by rw [k2]; rfl
   simp only [if_pos k2]
   simp (disch := omega) only [go_sem, Int.reduceBEq, Int.reduceBNe, Int.reduceLT, Int.reduceLE, Int.reduceAdd, Int.reduceSub, Int.reduceNeg, Nat.reduceLT, Nat.reduceLeDiff, Nat.reduceAdd, b1, la, hc, l2, l3, l5, hs', e2, Nat.zero_add]
  by_cases k3 : o.host.kind = 3
  ·have e2 : ((o.host.kind : Int) == 2) = false := by rw [beq_eq_false_iff_ne]; omega
   have e3 : ((o.host.kind : Int) == 3) = true := by rw [k3]; rfl
   simp only [if_neg k2, if_pos k3]
   simp (disch := omega) only [go_sem, Int.reduceBEq, Int.reduceBNe, Int.reduceLT, Int.reduceLE, Int.reduceAdd, Int.reduceSub, Int.reduceNeg, Nat.reduceLT, Nat.reduceLeDiff, Nat.reduceAdd, b1, la, hc, l2, l3, l6, z, q, e2, e3, Nat.zero_add]
  by_cases k1 : o.host.kind = 1
  ·have e2 : ((o.host.kind : Int) == 2) = false := by rw [beq_eq_false_iff_ne]; omega
   have e3 : ((o.host.kind : Int) == 3) = false := by rw [beq_eq_false_iff_ne]; omega
   have e1 : ((o.host.kind : Int) == 1) = true := by rw [k1]; rfl
   simp only [if_neg k2, if_neg k3, if_pos k1]
   simp (disch := omega) only [go_sem, Int.reduceBEq, Int.reduceBNe, Int.reduceLT, Int.reduceLE, Int.reduceAdd, Int.reduceSub, Int.reduceNeg, Nat.reduceLT, Nat.reduceLeDiff, Nat.reduceAdd, b1, la, hc, l2, l3, l4, hb, e1, e2, e3, Nat.zero_add]
  have e1 : ((o.host.kind : Int) == 1) = false := by rw [beq_eq_false_iff_ne]; omega
  have e2 : ((o.host.kind : Int) == 2) = false := by rw [beq_eq_false_iff_ne]; omega
  have e3 : ((o.host.kind : Int) == 3) = false := by rw [beq_eq_false_iff_ne]; omega
  simp only [if_neg k2, if_neg k3, if_neg k1]
  simp (disch := omega) only [go_sem, Int.reduceBEq, Int.reduceBNe, Int.reduceLT, Int.reduceLE, Int.reduceAdd, Int.reduceSub, Int.reduceNeg, Nat.reduceLT, Nat.reduceLeDiff, Nat.reduceAdd, b1, la, hc, l2, l3, e1, e2, e3, Nat.zero_add]
def sfx (rules : List (List UInt8)) (n : List UInt8) : List UInt8 := if askedN rules n = 0 then suffixN rules n else []
def relaxOk (rules : List (List UInt8)) (o : Origin) (d : List UInt8) : Bool :=
  (!o.opaq && ((o.host.kind : Int) == 1) && behindB o.host.name d) && (if (d == o.host.name) = true then true else !(d == sfx rules o.host.name) && !(d == sfx rules d))
def relaxE (rules : List (List UInt8)) (o : Origin) (d : List UInt8) : Int := if originOk o then (if 256 < rules.length then 3 else if relaxOk rules o d then 0 else 21) else 18
def relaxB (rules : List (List UInt8)) (o : Origin) (d : List UInt8) : Origin := if relaxE rules o d = 0 then { o with domain := d, hasDomain := true } else {}
set_option maxHeartbeats 2000000 in
theorem relax_c {rules : List (List UInt8)} {r : AV} (hr : IsSl rules r) (hi : RulesIn rules) (o : Origin) (ho : o.In) (d : List UInt8) (hd : d.length ≤ 2 ^ 29) (H : AHeap) (K : AV → AHeap → Kd → Prop) : E.C 235 [r, .agg o.cells, .str d] H K ↔ K (.tuple [.agg (relaxB rules o d).cells, i64 (relaxE rules o d)]) H .p := by
 refine C_by (V235 (K := fun v' _ => v' = .tuple [.agg (relaxB rules o d).cells, i64 (relaxE rules o d)]) ?_) (by have := hr.free; simp [locFreeL, AV.locFree, this, origin_free]) (by kernel_rfl) fun _ => rfl
 have b1 : newVarA [] (.agg o.cells) 0 = some (.ptr 0 0 18, [.cells o.cells 0 18 0], .a 0) := rfl
 have b2 : fAlloc (Origin.cells {}) 0 [.cells o.cells 0 18 0] = some (.ptr 1 0 18, [.cells o.cells 0 18 0, .cells (Origin.cells {}) 0 18 0], .a 1) := rfl
 have b2' : fAlloc [.bool false, .int .i64 0, .str [], .int .u8 0, .str [], .int .u32 0, .int .u16 0, .int .u16 0, .int .u16 0, .int .u16 0, .int .u16 0, .int .u16 0, .int .u16 0, .int .u16 0, .int .i64 0, .bool false, .str [], .bool false] 0 [.cells o.cells 0 18 0] = some (.ptr 1 0 18, [.cells o.cells 0 18 0, .cells (Origin.cells {}) 0 18 0], .a 1) := b2
 have st0 : storeA [.cells o.cells 0 18 0, .cells (Origin.cells {}) 0 18 0] 18 (.ptr 1 0 18) (.agg (Origin.cells {})) = some (undefA, [.cells o.cells 0 18 0, .cells (Origin.cells {}) 0 18 0], .w 1) := rfl
 generalize hH : [ABlk.cells o.cells 0 18 0, .cells (Origin.cells {}) 0 18 0] = H0 at b2' st0
 have la : loadA H0 18 true (.ptr 0 0 18) = some (.agg o.cells, H0, .r 0) := by subst hH; rfl
 have lz : loadA H0 18 true (.ptr 1 0 18) = some (.agg (Origin.cells {}), H0, .r 1) := by subst hH; rfl
 have l0 : loadA H0 1 false (.ptr 0 0 18) = some (.bool o.opaq, H0, .r 0) := by subst hH; rfl
 have l3 : loadA H0 1 false (.ptr 0 3 18) = some (.int .u8 (o.host.kind : Nat), H0, .r 0) := by subst hH; rfl
 have l4 : loadA H0 1 false (.ptr 0 4 18) = some (.str o.host.name, H0, .r 0) := by subst hH; rfl
 have m0 : bldV [.bool false, .int .i64 0, .str [], .int .u8 0, .str [], .int .u32 0, .int .u16 0, .int .u16 0, .int .u16 0, .int .u16 0, .int .u16 0, .int .u16 0, .int .u16 0, .int .u16 0, .int .i64 0, .bool false, .str [], .bool false] [] = some (.agg (Origin.cells {})) := rfl
 have s1 : storeA H0 1 (.ptr 0 16 18) (.str d) = some (undefA, [.cells (Origin.cells { o with domain := d }) 0 18 0, .cells (Origin.cells {}) 0 18 0], .w 0) := by subst hH; rfl
 have s2 : storeA [.cells (Origin.cells { o with domain := d }) 0 18 0, .cells (Origin.cells {}) 0 18 0] 1 (.ptr 0 17 18) (.bool true) = some (undefA, [.cells (Origin.cells { o with domain := d, hasDomain := true }) 0 18 0, .cells (Origin.cells {}) 0 18 0], .w 0) := rfl
 generalize ho' : ({ o with domain := d, hasDomain := true } : Origin) = o' at s2
 have l7 : loadA [.cells (Origin.cells o') 0 18 0, .cells (Origin.cells {}) 0 18 0] 18 true (.ptr 0 0 18) = some (.agg (Origin.cells o'), [.cells (Origin.cells o') 0 18 0, .cells (Origin.cells {}) 0 18 0], .r 0) := rfl
 have s3 : storeA [.cells (Origin.cells o') 0 18 0, .cells (Origin.cells {}) 0 18 0] 18 (.ptr 1 0 18) (.agg (Origin.cells o')) = some (undefA, [.cells (Origin.cells o') 0 18 0, .cells (Origin.cells o') 0 18 0], .w 1) := rfl
 have l8 : loadA [.cells (Origin.cells o') 0 18 0, .cells (Origin.cells o') 0 18 0] 18 true (.ptr 1 0 18) = some (.agg (Origin.cells o'), [.cells (Origin.cells o') 0 18 0, .cells (Origin.cells o') 0 18 0], .r 1) := rfl
 have hl := hr.len
 have hc := fun H K => originCheck_c o ho H K
 have hb := fun H K => behind_c o.host.name d (by have := ho.host.name; omega) (by omega) H K
 have hs := fun n H K => suffixV_c hr hi n H K
 unfold relaxB relaxE
 rw [ho']
 cases ok : originOk o
 ·simp only [ok] at hc
  simp (disch := omega) only [go_sem, Int.reduceBEq, Int.reduceBNe, Int.reduceLT, Int.reduceLE, Int.reduceAdd, Int.reduceSub, Int.reduceNeg, Nat.reduceLT, Nat.reduceLeDiff, Nat.reduceAdd, b1, b2', la, hc, m0, st0, lz]
  rfl
 ·simp only [ok] at hc
  by_cases c : 256 < rules.length
  ·have dd : decide ((256 : Int) < (rules.length : Int)) = true := by simp; omega
   simp only [if_pos c]
   simp (disch := omega) only [go_sem, Int.reduceBEq, Int.reduceBNe, Int.reduceLT, Int.reduceLE, Int.reduceAdd, Int.reduceSub, Int.reduceNeg, Nat.reduceLT, Nat.reduceLeDiff, Nat.reduceAdd, b1, b2', la, hc, m0, st0, lz, hl, dd]
   rfl
  ·have dd : decide ((256 : Int) < (rules.length : Int)) = false := by simp; omega
   simp only [if_neg c]
   have hx : ∀ n, (if askedN rules n = 0 then suffixN rules n else []) = sfx rules n := fun _ => rfl
   simp only [hx] at hs
   cases e0 : o.opaq
   case true =>
    have rx : relaxOk rules o d = false := by simp [relaxOk, e0]
    simp only [e0] at l0
    simp only [rx]
    simp (disch := omega) only [go_sem, Int.reduceBEq, Int.reduceBNe, Int.reduceLT, Int.reduceLE, Int.reduceAdd, Int.reduceSub, Int.reduceNeg, Nat.reduceLT, Nat.reduceLeDiff, Nat.reduceAdd, b1, b2', la, hc, m0, st0, lz, hl, dd, l0, l3, l4, hb, hs, Nat.zero_add, s1, s2, l7, s3, l8]
    rfl
   simp only [e0] at l0
   cases e1 : ((o.host.kind : Int) == 1)
   case false =>
    have rx : relaxOk rules o d = false := by unfold relaxOk; rw [e0, e1]; rfl
    simp only [rx]
    simp (disch := omega) only [go_sem, Int.reduceBEq, Int.reduceBNe, Int.reduceLT, Int.reduceLE, Int.reduceAdd, Int.reduceSub, Int.reduceNeg, Nat.reduceLT, Nat.reduceLeDiff, Nat.reduceAdd, b1, b2', la, hc, m0, st0, lz, hl, dd, l0, l3, l4, hb, hs, Nat.zero_add, s1, s2, l7, s3, l8, e1]
    rfl
   cases e2 : behindB o.host.name d
   case false =>
    have rx : relaxOk rules o d = false := by unfold relaxOk; rw [e0, e1, e2]; rfl
    simp only [e2] at hb
    simp only [rx]
    simp (disch := omega) only [go_sem, Int.reduceBEq, Int.reduceBNe, Int.reduceLT, Int.reduceLE, Int.reduceAdd, Int.reduceSub, Int.reduceNeg, Nat.reduceLT, Nat.reduceLeDiff, Nat.reduceAdd, b1, b2', la, hc, m0, st0, lz, hl, dd, l0, l3, l4, hb, hs, Nat.zero_add, s1, s2, l7, s3, l8, e1]
    rfl
   simp only [e2] at hb
   cases e3 : (d == o.host.name)
   case true =>
    have rx : relaxOk rules o d = true := by unfold relaxOk; rw [e0, e1, e2, e3]; rfl
    simp only [rx]
    simp (disch := omega) only [go_sem, Int.reduceBEq, Int.reduceBNe, Int.reduceLT, Int.reduceLE, Int.reduceAdd, Int.reduceSub, Int.reduceNeg, Nat.reduceLT, Nat.reduceLeDiff, Nat.reduceAdd, b1, b2', la, hc, m0, st0, lz, hl, dd, l0, l3, l4, hb, hs, Nat.zero_add, s1, s2, l7, s3, l8, e1, e3]
   cases e4 : (d == sfx rules o.host.name)
   case true =>
    have rx : relaxOk rules o d = false := by unfold relaxOk; rw [e0, e1, e2, e3, e4]; rfl
    simp only [rx]
    simp (disch := omega) only [go_sem, Int.reduceBEq, Int.reduceBNe, Int.reduceLT, Int.reduceLE, Int.reduceAdd, Int.reduceSub, Int.reduceNeg, Nat.reduceLT, Nat.reduceLeDiff, Nat.reduceAdd, b1, b2', la, hc, m0, st0, lz, hl, dd, l0, l3, l4, hb, hs, Nat.zero_add, s1, s2, l7, s3, l8, e1, e3, e4]
    rfl
   cases e5 : (d == sfx rules d)
   case true =>
    have rx : relaxOk rules o d = false := by unfold relaxOk; rw [e0, e1, e2, e3, e4, e5]; rfl
    simp only [rx]
    simp (disch := omega) only [go_sem, Int.reduceBEq, Int.reduceBNe, Int.reduceLT, Int.reduceLE, Int.reduceAdd, Int.reduceSub, Int.reduceNeg, Nat.reduceLT, Nat.reduceLeDiff, Nat.reduceAdd, b1, b2', la, hc, m0, st0, lz, hl, dd, l0, l3, l4, hb, hs, Nat.zero_add, s1, s2, l7, s3, l8, e1, e3, e4, e5]
    rfl
   have rx : relaxOk rules o d = true := by unfold relaxOk; rw [e0, e1, e2, e3, e4, e5]; rfl
   simp only [rx]
   simp (disch := omega) only [go_sem, Int.reduceBEq, Int.reduceBNe, Int.reduceLT, Int.reduceLE, Int.reduceAdd, Int.reduceSub, Int.reduceNeg, Nat.reduceLT, Nat.reduceLeDiff, Nat.reduceAdd, b1, b2', la, hc, m0, st0, lz, hl, dd, l0, l3, l4, hb, hs, Nat.zero_add, s1, s2, l7, s3, l8, e1, e3, e4, e5]
end Go.AE.Fns
namespace Go.AE.Fns
open Go Go.AE Env
set_option maxRecDepth 100000
theorem sameO_iff {a b : Origin} (ha : a.opaq = false) : sameO a b = true ↔ b.opaq = false ∧ a.scheme = b.scheme ∧ a.host = b.host ∧ a.port = b.port ∧ a.hasPort = b.hasPort := by
 unfold sameO
 cases hb : b.opaq
 ·simp only [ha, Bool.or_self, Bool.false_eq_true, if_false, decide_eq_true_eq, true_and]
  cases a; cases b
  simp only at ha hb
  subst ha hb
  simp
 ·simp [ha]
theorem sameO_op {a b : Origin} (ha : a.opaq = true) : sameO a b = true ↔ b.opaq = true ∧ a.id = b.id := by
 unfold sameO
 simp only [ha, Bool.true_or, if_true, Bool.and_eq_true, beq_iff_eq]
 constructor
 ·rintro ⟨h1, h2⟩; exact ⟨h1.symm, h2⟩
 ·rintro ⟨h1, h2⟩; exact ⟨h1.symm, h2⟩
theorem bool_eq {a b : Bool} (h : a = true ↔ b = true) : a = b := by cases a <;> cases b <;> simp_all
theorem ssB_no {rules : List (List UInt8)} {a b : Origin} (h : ssE rules a b ≠ 0) : ssB rules a b = false := by simp [ssB, h]
theorem ssE_zero {rules : List (List UInt8)} {a b : Origin} : ssE rules a b = 0 ↔ siteE rules a = 0 ∧ siteE rules b = 0 := by
 unfold ssE
 split
 ·simp [*]
 ·rename_i h; simp at h; simp [h]
theorem site_same {rules : List (List UInt8)} {a b : Origin} (ha : siteE rules a = 0) (hb : siteE rules b = 0) (h : sameO a b = true) : siteB rules a = siteB rules b := by
 unfold siteB
 rw [ha, hb]
 simp only [ne_eq, not_true_eq_false, if_false]
 cases oa : a.opaq
 ·obtain ⟨ob, h1, h2, _⟩ := (sameO_iff oa).1 h
  simp [ob, h1, h2]
 ·obtain ⟨ob, h1⟩ := (sameO_op oa).1 h
  simp [ob, h1]
theorem ss_same {rules : List (List UInt8)} {a b : Origin} (h : ssE rules a b = 0) (hs : sameO a b = true) : ssB rules a b = true := by
 have := ssE_zero.1 h
 simp [ssB, h, site_same this.1 this.2 hs]
theorem lives_ans : ∃ Hl, E.Ans 47 [] [] (.bool true) Hl := by
 have h := r0
 unfold run at h
 rw [callsF_eq] at h
 cases hc : callsA lpT.get keep (hookA keep onceN once) 100000 false 47 [] [] with
 | none => rw [hc] at h; simp [isT] at h
 | some p =>
  obtain ⟨v, Hl⟩ := p
  rw [hc] at h
  unfold isT at h
  split at h
  ·rename_i heq
   simp at heq
   exact ⟨Hl, 100000, by show callsA E.lp E.keep E.hk 100000 false 47 [] [] = _; rw [← heq.1]; exact hc⟩
  ·simp at h
theorem lives_c (H : AHeap) (K : AV → AHeap → Kd → Prop) : E.C 47 [] H K ↔ K (.bool true) H .p := by
 obtain ⟨Hl, h⟩ := lives_ans
 exact C_by (v := .bool true) ⟨_, Hl, rfl, h⟩ rfl (by kernel_rfl) fun _ => rfl
end Go.AE.Fns
namespace Go.AE.Fns
open Go Go.AE Env
set_option maxRecDepth 100000
def opq (id : Int) : Origin := { opaq := true, id := id }
theorem opq_in {id : Int} (h : -(2 ^ 63 : Int) ≤ id ∧ id < 2 ^ 63) : (opq id).In := by
 have : (opq id).host.In := by constructor <;> simp [opq, Host.v6]
 exact ⟨this, by simp [opq], by simp [opq], h, by simp [opq]⟩
theorem opq_ok (id : Int) : originOk (opq id) = true := by simp [originOk, opq]
theorem textOpq (id : Int) (hi : -(2 ^ 63 : Int) ≤ id ∧ id < 2 ^ 63) (H : AHeap) (K : AV → AHeap → Kd → Prop) : E.C 74 [.agg (opq id).cells] H K ↔ K (.tuple [.str [110, 117, 108, 108], i64 0]) H .p := by
 refine C_by (V74 (K := fun v' _ => v' = .tuple [.str [110, 117, 108, 108], i64 0]) ?_) rfl (by kernel_rfl) (fun _ => rfl)
 have b1 : newVarA [] (.agg (opq id).cells) 0 = some (.ptr 0 0 18, [.cells (opq id).cells 0 18 0], .a 0) := rfl
 have la : loadA [.cells (opq id).cells 0 18 0] 18 true (.ptr 0 0 18) = some (.agg (opq id).cells, [.cells (opq id).cells 0 18 0], .r 0) := rfl
 have l0 : loadA [.cells (opq id).cells 0 18 0] 1 false (.ptr 0 0 18) = some (.bool true, [.cells (opq id).cells 0 18 0], .r 0) := rfl
 have hc := fun H K => originCheck_c (opq id) (opq_in hi) H K
 simp only [opq_ok] at hc
 simp (disch := omega) only [go_sem, Int.reduceBEq, Int.reduceBNe, Int.reduceLT, Int.reduceLE, Int.reduceAdd, Int.reduceSub, Int.reduceNeg, Nat.reduceLT, Nat.reduceLeDiff, Nat.reduceAdd, b1, la, hc, l0]
set_option maxHeartbeats 2000000 in
theorem originOpaque_ans {rules : List (List UInt8)} {r : AV} (hr : IsSl rules r) (hi : RulesIn rules) (id : Int) (hd : -(2 ^ 63 : Int) ≤ id ∧ id < 2 ^ 63) (o : Origin) (ho : o.In) : ∃ H', E.Ans 234 [r, i64 id, .agg o.cells] [] (.bool true) H' := by
 obtain ⟨v', H', hv, h⟩ : ∃ v' H', v' = AV.bool true ∧ E.Ans 234 [r, i64 id, .agg o.cells] [] v' H' := by
  refine V234 (K := fun v' _ => v' = .bool true) ?_
  have b1 : newVarA [] (.agg o.cells) 0 = some (.ptr 0 0 18, [.cells o.cells 0 18 0], .a 0) := rfl
  have b0 : bldV [.bool false, .int .i64 0, .str [], .int .u8 0, .str [], .int .u32 0, .int .u16 0, .int .u16 0, .int .u16 0, .int .u16 0, .int .u16 0, .int .u16 0, .int .u16 0, .int .u16 0, .int .i64 0, .bool false, .str [], .bool false] [(0, 1, (.bool true)), (1, 1, i64 id)] = some (.agg (opq id).cells) := rfl
  have b2 : fAlloc [.bool false, .int .i64 0, .str [], .int .u8 0, .str [], .int .u32 0, .int .u16 0, .int .u16 0, .int .u16 0, .int .u16 0, .int .u16 0, .int .u16 0, .int .u16 0, .int .u16 0, .int .i64 0, .bool false, .str [], .bool false] 0 [.cells o.cells 0 18 0] = some (.ptr 1 0 18, [.cells o.cells 0 18 0, .cells (Origin.cells {}) 0 18 0], .a 1) := rfl
  have s1 : storeA [.cells o.cells 0 18 0, .cells (Origin.cells {}) 0 18 0] 18 (.ptr 1 0 18) (.agg (opq id).cells) = some (undefA, [.cells o.cells 0 18 0, .cells (opq id).cells 0 18 0], .w 1) := rfl
  have b3 : fAlloc [.bool false, .int .i64 0, .str [], .int .u8 0, .str [], .int .u32 0, .int .u16 0, .int .u16 0, .int .u16 0, .int .u16 0, .int .u16 0, .int .u16 0, .int .u16 0, .int .u16 0, .int .i64 0, .bool false, .str [], .bool false] 0 [.cells o.cells 0 18 0, .cells (opq id).cells 0 18 0] = some (.ptr 2 0 18, [.cells o.cells 0 18 0, .cells (opq id).cells 0 18 0, .cells (Origin.cells {}) 0 18 0], .a 2) := rfl
  have re : relaxE rules (opq id) [97] ≠ 0 := by
   unfold relaxE
   rw [opq_ok]
   simp only [if_true]
   split
   ·omega
   ·simp [relaxOk, opq]
  have rb : relaxB rules (opq id) [97] = {} := by simp only [relaxB, if_neg re]
  have s2 : storeA [.cells o.cells 0 18 0, .cells (opq id).cells 0 18 0, .cells (Origin.cells {}) 0 18 0] 18 (.ptr 2 0 18) (.agg (Origin.cells {})) = some (undefA, [.cells o.cells 0 18 0, .cells (opq id).cells 0 18 0, .cells (Origin.cells {}) 0 18 0], .w 2) := rfl
  have lx : loadA [.cells o.cells 0 18 0, .cells (opq id).cells 0 18 0] 18 true (.ptr 1 0 18) = some (.agg (opq id).cells, [.cells o.cells 0 18 0, .cells (opq id).cells 0 18 0], .r 1) := rfl
  generalize hH : [ABlk.cells o.cells 0 18 0, .cells (opq id).cells 0 18 0, .cells (Origin.cells {}) 0 18 0] = H3 at b3 s2
  have l1 : loadA H3 18 true (.ptr 1 0 18) = some (.agg (opq id).cells, H3, .r 1) := by subst hH; rfl
  have l2 : loadA H3 18 true (.ptr 0 0 18) = some (.agg o.cells, H3, .r 0) := by subst hH; rfl
  have l3 : loadA H3 1 false (.ptr 0 0 18) = some (.bool o.opaq, H3, .r 0) := by subst hH; rfl
  have l4 : loadA H3 1 false (.ptr 0 1 18) = some (.int .i64 o.id, H3, .r 0) := by subst hH; rfl
  have hx := opq_in hd
  have hc := fun H K => originCheck_c (opq id) hx H K
  have ht := fun H K => trusted_c (opq id) hx H K
  have tb : trustB (opq id) = false := by simp [trustB, opq]
  simp only [opq_ok, tb, Bool.and_false, if_true] at hc ht
  have hrx := fun H K => relax_c hr hi (opq id) hx [97] (by decide) H K
  simp only [rb] at hrx
  have hn : (relaxE rules (opq id) [97] != 0) = true := by simp [re]
  have hne : (relaxE rules (opq id) [97] == 0) = false := by simp [re]
  have htx := fun H K => textOpq id hd H K
  have hss := fun H K => sameSite_c hr hi (opq id) o hx ho H K
  have hsm := fun H K => sameO_c (opq id) o H K
  have hsd := fun H K => sameDom_c (opq id) o H K
  have esd : sameDom (opq id) o = sameO (opq id) o := by simp [sameDom, opq]
  have eso : sameO (opq id) o = (o.opaq && (o.id == id)) := by
   unfold sameO opq
   simp only [Bool.true_or, if_true]
   rw [show (id == o.id) = (o.id == id) from Bool.beq_comm]; cases o.opaq <;> rfl
  have ess : ssE rules (opq id) o = 0 → ssB rules (opq id) o = sameO (opq id) o := by
   intro c
   apply bool_eq
   constructor
   ·intro h
    have h3 := ssE_zero.1 c
    unfold ssB at h
    rw [c] at h
    simp only [decide_true, Bool.true_and, decide_eq_true_eq] at h
    unfold siteB at h
    rw [h3.1, h3.2] at h
    simp only [ne_eq, not_true_eq_false, if_false] at h
    rw [eso]
    cases hq : o.opaq
    ·simp [hq, opq] at h
    ·simp [hq, opq] at h; simp [h]
   ·exact ss_same c
  have nul : ¬ (!(([110, 117, 108, 108] : List UInt8) == [110, 117, 108, 108])) = true := by decide
  simp (disch := omega) only [go_sem, Int.reduceBEq, Int.reduceBNe, Int.reduceLT, Int.reduceLE, Int.reduceAdd, Int.reduceSub, Int.reduceNeg, Nat.reduceLT, Nat.reduceLeDiff, Nat.reduceAdd, lives_c, b1, b0, b2, s1]
  simp (disch := omega) only [go_sem, Int.reduceBEq, Int.reduceBNe, Int.reduceLT, Int.reduceLE, Int.reduceAdd, Int.reduceSub, Int.reduceNeg, Nat.reduceLT, Nat.reduceLeDiff, Nat.reduceAdd, lx, htx, ht]
  simp (disch := omega) only [go_sem, Int.reduceBEq, Int.reduceBNe, Int.reduceLT, Int.reduceLE, Int.reduceAdd, Int.reduceSub, Int.reduceNeg, Nat.reduceLT, Nat.reduceLeDiff, Nat.reduceAdd, hrx, b3, s2]
  simp (disch := omega) only [go_sem, Int.reduceBEq, Int.reduceBNe, Int.reduceLT, Int.reduceLE, Int.reduceAdd, Int.reduceSub, Int.reduceNeg, Nat.reduceLT, Nat.reduceLeDiff, Nat.reduceAdd, l1, l2, hss, hc, hne, hn]
  by_cases c : ssE rules (opq id) o = 0
  ·simp only [ess c, esd, eso, c] at hss hsm hsd ⊢
   have cn : ((0 : Int) != 0) = false := rfl
   cases hq : o.opaq
   ·simp only [hq, Bool.false_and] at hss hsm hsd l3 ⊢
    simp (disch := omega) only [go_sem, Int.reduceBEq, Int.reduceBNe, Int.reduceLT, Int.reduceLE, Int.reduceAdd, Int.reduceSub, Int.reduceNeg, Nat.reduceLT, Nat.reduceLeDiff, Nat.reduceAdd, l1, l2, l3, l4, hc, hsm, hsd]
    clear b0 b1 b2 b3 hrx s1 s2 lx htx ht hss hsm hsd hc l1 l2 l3 l4 ess eso esd re rb hx hH
    rw [if_neg nul]; exact draw_reads (by rfl) (by kernel_rfl)
   ·simp only [hq, Bool.true_and] at hss hsm hsd l3 ⊢
    generalize hg : (o.id == id) = g at *
    simp (disch := omega) only [go_sem, Int.reduceBEq, Int.reduceBNe, Int.reduceLT, Int.reduceLE, Int.reduceAdd, Int.reduceSub, Int.reduceNeg, Nat.reduceLT, Nat.reduceLeDiff, Nat.reduceAdd, l1, l2, l3, l4, hc, hsm, hsd, hg]
    clear b0 b1 b2 b3 hrx s1 s2 lx htx ht hss hsm hsd hc l1 l2 l3 l4 ess eso esd re rb hx hH
    rw [if_neg nul]; exact draw_reads (by rfl) (by kernel_rfl)
  ·have cn : (ssE rules (opq id) o != 0) = true := by simp [c]
   have nb := ssB_no c
   simp only [nb]
   simp (disch := omega) only [go_sem, Int.reduceBEq, Int.reduceBNe, Int.reduceLT, Int.reduceLE, Int.reduceAdd, Int.reduceSub, Int.reduceNeg, Nat.reduceLT, Nat.reduceLeDiff, Nat.reduceAdd, cn]
   rw [if_neg nul]; trivial
 exact ⟨H', hv ▸ h⟩
end Go.AE.Fns
