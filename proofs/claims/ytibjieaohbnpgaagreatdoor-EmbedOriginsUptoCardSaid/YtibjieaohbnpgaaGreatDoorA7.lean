/- Laws of code, in formulas. -/
import Derived.Test.YtibjieaohbnpgaaGreatDoorA6
import Derived.Test.YtibjieaohbnpgaaGreatDoorA5
import Derived.Attr
set_option linter.all false
set_option linter.unusedSimpArgs false
set_option linter.unusedVariables false
set_option linter.unnecessarySimpa false
set_option linter.deprecated false
namespace Go.AE
open Go
def Opn (o : Option AV) (K : AV → Prop) : Prop := ∃ v, o = some v ∧ K v
@[simp] theorem Opn_some {v : AV} {K : AV → Prop} : Opn (some v) K ↔ K v := ⟨fun ⟨w, h1, h2⟩ => (by cases h1; exact h2), fun h => ⟨v, rfl, h⟩⟩
@[simp] theorem Opn_none {K : AV → Prop} : Opn none K ↔ False := ⟨fun ⟨w, h1, _⟩ => (by cases h1), False.elim⟩
@[congr] theorem Opn_congr {o o' : Option AV} {K : AV → Prop} (h : o = o') : Opn o K = Opn o' K := by rw [h]
def fillV : List AV → List (Nat × Nat × AV) → Option (List AV)
 | cs, [] => some cs
 | cs, (o, sz, x) :: l => if x.cells.length = sz ∧ o + sz ≤ cs.length ∧ 0 < sz then fillV (putCells cs o x.cells) l else none
noncomputable def evPF (t : TT) (ps : List (Nat × Nat × Opd)) : List (Nat × Nat × AV) := List.rec (motive := fun _ => List (Nat × Nat × AV)) [] (fun p _ ih => (p.1, p.2.1, evF p.2.2 t) :: ih) ps
theorem fill_eq {t : TT} {T : Tmps} (h : Tl t T) : ∀ (ps : List (Nat × Nat × Opd)) (cs : List AV), fillA T cs ps = fillV cs (evPF t ps)
 | [], _ => rfl
 | (o, s, x) :: l, cs => by
  show _ = fillV cs ((o, s, evF x t) :: evPF t l)
  simp only [fillA, fillV, h.ev]
  split
  ·exact fill_eq h l _
  ·rfl
def bldV (z : List AV) (ps : List (Nat × Nat × AV)) : Option AV := (fillV z ps).map .agg
def litV (z : List AV) (n sz : Nat) (ps : List (Nat × Nat × AV)) : Option AV := (fillV (repCells n z) ps).map fun cs => .lst cs n sz true
def eqV (ng : Bool) (t : ETy) (x y : AV) : Option AV := (aEq t x y).map fun b => .bool (if ng then !b else b)
def fMkMap (H : AHeap) : ARes := some (.map H.length, H ++ [.map []], .a H.length)
def exV (i : Nat) : AV → Option AV
 | .tuple vs => vs[i]?
 | _ => none
namespace Env
def IV (E : Env) (x : AV) (rows : List (Nat × Nat)) (args : List AV) (H : AHeap) (K : AV → AHeap → Kd → Prop) : Prop := match x with
 | .iface g v => match rowOfTag rows g with
  | some f => E.C f (v :: args) H K
  | none => False
 | _ => False
section
variable (E : Env) (H : AHeap) (K : AV → AHeap → Kd → Prop)
def dCall (t : TT) (args : List Opd) (c : LCallee) : Prop := match c with
 | .builtin b => Res (builtinA H b (mapF args t)) K
 | .fn f => E.C f (mapF args t) H K
 | .val x => CV E (evF x t) (mapF args t) H K
 | .invoke x rows => IV E (evF x t) rows (mapF args t) H K
noncomputable def D1 (op : LOp) (t : TT) : Prop :=
  LOp.rec (motive := fun _ => Prop)
    (fun x => K (evF x t) H .p)
    (fun c a b => Two (evF c t) (evF a t) (evF b t) fun v => K v H .p)
    (fun zero tag => Res (fAlloc zero tag H) K)
    (fun tag x => Res (newVarA H (evF x t) tag) K)
    (fun zero ps => Opn (bldV zero (evPF t ps)) fun v => K v H .p)
    (fun zero n sz ps => Opn (litV zero n sz (evPF t ps)) fun v => K v H .p)
    (fun sz ag x => Res (loadA H sz ag (evF x t)) K)
    (fun sz a x => Res (storeA H sz (evF a t) (evF x t)) K)
    (fun x => Res (fNilChk (evF x t) H) K)
    (fun op x y => Opn (binA op (evF x t) (evF y t)) fun v => K v H .p)
    (fun neg e x y => Opn (eqV neg e (evF x t) (evF y t)) fun v => K v H .p)
    (fun op x => Opn (unA op (evF x t)) fun v => K v H .p)
    (fun k x => Res (convA H k (evF x t)) K)
    (fun tag x => K (.iface tag (evF x t)) H .p)
    (fun id first captured => K (.func id (mapF first t) (mapF captured t)) H .p)
    (Res (fMkMap H) K)
    (fun zero sz bytes tag n c => Res (fMkSlice zero sz bytes tag (evF n t) (evF c t) H) K)
    (fun x lo hi => Res (fSlStr (evF x t) (evoF lo t) (evoF hi t) H) K)
    (fun sz x lo hi mx => Opn (sliceA sz (evF x t) (evoF lo t) (evoF hi t) (evoF mx t)) fun v => K v H .p)
    (fun len sz x lo hi mx => Res (fSlArr len sz (evF x t) (evoF lo t) (evoF hi t) (evoF mx t) H) K)
    (fun off x => Opn (addA off (evF x t)) fun v => K v H .p)
    (fun off sz ag x => Res (fField off sz ag (evF x t) H) K)
    (fun sz x i => Opn (idxAddrA sz (evF x t) (evF i t)) fun v => K v H .p)
    (fun len sz x i => Res (fIdxArrAddr len sz (evF x t) (evF i t) H) K)
    (fun x i => Res (fIdxStr (evF x t) (evF i t) H) K)
    (fun len sz ag x i => Res (fIdxArr len sz ag (evF x t) (evF i t) H) K)
    (fun k zero ok x i => Res (fLookup k zero ok (evF x t) (evF i t) H) K)
    (fun k m i x => Res (fMapUpd k (evF m t) (evF i t) (evF x t) H) K)
    (fun x => Res (fRangeStr (evF x t) H) K)
    (fun x => Res (fNextStr (evF x t) H) K)
    (fun x => Res (fRangeMap (evF x t) H) K)
    (fun x => Res (fNextMap (evF x t) H) K)
    (fun i x => Opn (exV i (evF x t)) fun v => K v H .p)
    (fun c args => dCall E H K t args c)
    False
    op
end
variable {E : Env}
theorem Opn_res {o : Option AV} {H : AHeap} {K : AV → AHeap → Kd → Prop} : Opn o (fun v => K v H .p) ↔ Res (pureV H o) K := by
 cases o with
 | none => simp
 | some v => simp
theorem D1_W1 {op : LOp} {t : TT} {T : Tmps} (ht : Tl t T) {H : AHeap} {K : AV → AHeap → Kd → Prop} (h : D1 E H K op t) : E.W1 op T H K := by
  cases op with
  | mv x => exact w_mv.2 (by rw [← ht.ev]; exact h)
  | pick c a b => exact w_pick.2 (by rw [← ht.ev, ← ht.ev, ← ht.ev]; exact h)
  | bin o x y => exact w_bin.2 (by rw [← ht.ev, ← ht.ev]; exact Opn_res.1 h)
  | eq ng e x y => exact w_eq.2 (by rw [← ht.ev, ← ht.ev]; exact Opn_res.1 h)
  | un o x => exact w_un.2 (by rw [← ht.ev]; exact Opn_res.1 h)
  | extract i x =>
    refine w_extract.2 ?_
    rw [← ht.ev]
    have h2 : Opn (exV i (evF x t)) fun v => K v H .p := h
    revert h2
    cases evF x t <;> intro h2 <;> first | (exact Opn_res.1 h2) | (simp [exV] at h2)
  | fieldAddr o x => exact w_fieldAddr.2 (by rw [← ht.ev]; exact Opn_res.1 h)
  | idxAddr sz x i => exact w_idxAddr.2 (by rw [← ht.ev, ← ht.ev]; exact Opn_res.1 h)
  | slSl sz x lo hi mx => exact w_slSl.2 (by rw [← ht.ev, ← ht.evo, ← ht.evo, ← ht.evo]; exact Opn_res.1 h)
  | build z ps => exact w_build.2 (by rw [fill_eq ht]; exact Opn_res.1 h)
  | lit z n sz ps => exact w_lit.2 (by rw [fill_eq ht]; exact Opn_res.1 h)
  | mkFunc i a b => exact w_mkFunc.2 (by rw [← ht.evs, ← ht.evs]; exact h)
  | mkIface g x => exact w_mkIface.2 (by rw [← ht.ev]; exact h)
  | load sz ag x => exact w_load.2 (by rw [← ht.ev]; exact h)
  | store sz a x => exact w_store.2 (by rw [← ht.ev, ← ht.ev]; exact h)
  | box g x => exact w_box.2 (by rw [← ht.ev]; exact h)
  | alloc z g => exact x_alloc.2 h
  | nilChk x => exact x_nilChk.2 (by rw [← ht.ev]; exact h)
  | conv k x => exact w_conv.2 (by rw [← ht.ev]; exact h)
  | mkMap => exact x_mkMap.2 h
  | mkSlice z s b g n c => exact x_mkSlice.2 (by rw [← ht.ev, ← ht.ev]; exact h)
  | slStr x lo hi => exact x_slStr.2 (by rw [← ht.ev, ← ht.evo, ← ht.evo]; exact h)
  | slArr len sz x lo hi mx => exact x_slArr.2 (by rw [← ht.ev, ← ht.evo, ← ht.evo, ← ht.evo]; exact h)
  | field o s ag x => exact x_field.2 (by rw [← ht.ev]; exact h)
  | idxArrAddr len sz x i => exact x_idxArrAddr.2 (by rw [← ht.ev, ← ht.ev]; exact h)
  | idxStr x i => exact x_idxStr.2 (by rw [← ht.ev, ← ht.ev]; exact h)
  | idxArr len sz ag x i => exact x_idxArr.2 (by rw [← ht.ev, ← ht.ev]; exact h)
  | lookup k z ok x i => exact x_lookup.2 (by rw [← ht.ev, ← ht.ev]; exact h)
  | mapUpd k m i x => exact x_mapUpd.2 (by rw [← ht.ev, ← ht.ev, ← ht.ev]; exact h)
  | rangeStr x => exact x_rangeStr.2 (by rw [← ht.ev]; exact h)
  | nextStr x => exact x_nextStr.2 (by rw [← ht.ev]; exact h)
  | rangeMap x =>
    have h2 : Res (fRangeMap (evF x t) H) K := h
    rw [ht.ev] at h2
    exact (W1_op fun _ => rfl).2 h2
  | nextMap x =>
    have h2 : Res (fNextMap (evF x t) H) K := h
    rw [ht.ev] at h2
    exact (W1_op fun _ => rfl).2 h2
  | call c args =>
    cases c with
    | builtin b => refine W1_builtin.2 ?_; rw [← ht.evs]; exact h
    | fn f => refine W1_fn.2 ?_; rw [← ht.evs]; exact h
    | val x => refine W1_val.2 ?_; rw [← ht.evs, ← ht.ev]; exact h
    | invoke x rows =>
      have h2 : IV E (evF x t) rows (mapF args t) H K := h
      rw [ht.ev, ht.evs] at h2
      unfold IV at h2
      split at h2
      · rename_i g v hx
        split at h2
        · rename_i f hr
          obtain ⟨n, w, H', k, h3, h4⟩ := h2
          exact ⟨n, w, H', k, by simp only [operA, hx, hr]; exact h3, h4⟩
        · exact h2.elim
      · exact h2.elim
  | fail => exact h.elim
def asgD : Option Nat → Nat
 | some d => 2 ^ d
 | none => 0
def asgO : List LOper → Nat
 | [] => 0
 | o :: l => asgD o.d ||| asgO l
end Env
def LCode.asg : LCode → Nat
 | .reg _ ops => Env.asgO ops
 | .seq a b => a.asg ||| b.asg
 | .cond _ a b => a.asg ||| b.asg
 | .block _ c => c.asg
 | .loop c => c.asg
 | _ => 0
namespace Env
variable {E : Env}
def Fr (m : Nat) (T T' : Tmps) : Prop := T'.length = T.length ∧ ∀ k, m.testBit k = false → gt T' k = gt T k
theorem Fr.refl {m : Nat} {T : Tmps} : Fr m T T := ⟨rfl, fun _ _ => rfl⟩
theorem Fr.trans {m m2 : Nat} {T T1 T2 : Tmps} (h : Fr m T T1) (h2 : Fr m2 T1 T2) : Fr (m ||| m2) T T2 :=
 ⟨h2.1.trans h.1, fun k hk => by simp only [Nat.testBit_or, Bool.or_eq_false_iff] at hk; rw [h2.2 k hk.2, h.2 k hk.1]⟩
theorem Fr.left {m m2 : Nat} {T T1 : Tmps} (h : Fr m T T1) : Fr (m ||| m2) T T1 :=
 ⟨h.1, fun k hk => by simp only [Nat.testBit_or, Bool.or_eq_false_iff] at hk; exact h.2 k hk.1⟩
theorem Fr.right {m m2 : Nat} {T T1 : Tmps} (h : Fr m2 T T1) : Fr (m ||| m2) T T1 :=
 ⟨h.1, fun k hk => by simp only [Nat.testBit_or, Bool.or_eq_false_iff] at hk; exact h.2 k hk.2⟩
theorem Fr.same {m : Nat} {T T1 T2 : Tmps} (h : Fr m T T1) (h2 : Fr m T1 T2) : Fr m T T2 := by
 have := h.trans h2
 rwa [Nat.or_self] at this
theorem Fr.put {d : Option Nat} {T : Tmps} {v : AV} : Fr (asgD d) T (putT T d v) := by
 cases d with
 | none => exact Fr.refl
 | some d =>
  refine ⟨by simp [putT], fun k hk => ?_⟩
  refine gp_ne ?_
  simp only [asgD] at hk
  rw [Nat.testBit_two_pow] at hk
  simpa using hk
theorem ops_frame {keep : Nat → Bool} {c : ACall} : ∀ {ops : List LOper} {T : Tmps} {H : AHeap} {r : Tmps × AHeap × List Kd}, opsA keep c ops T H = some r → Fr (asgO ops) T r.1
 | [], T, H, r, h => by simp [opsA] at h; subst h; exact Fr.refl
 | o :: l, T, H, r, h => by
  simp only [opsA] at h
  split at h
  ·split at h
   ·simp only [Option.map_eq_some_iff] at h
    obtain ⟨q, h1, rfl⟩ := h
    exact Fr.put.trans (ops_frame (r := q) h1)
   ·simp at h
  ·simp only [Option.map_eq_some_iff] at h
   obtain ⟨q, h1, rfl⟩ := h
   exact Fr.put.trans (ops_frame (r := q) h1)
  ·simp at h
theorem loop_frame {m : Nat} {b : Tmps → AHeap → ACodeRes} (h : ∀ T H e T' H', b T H = some (e, T', H') → Fr m T T') : ∀ {n : Nat} {T : Tmps} {H : AHeap} {e : AExit} {T' : Tmps} {H' : AHeap}, loopA b n T H = some (e, T', H') → Fr m T T'
 | 0, T, H, e, T', H', hr => by simp [loopA] at hr
 | n + 1, T, H, e, T', H', hr => by
  simp only [loopA] at hr
  cases hb : b T H with
  | none => rw [hb] at hr; simp at hr
  | some p =>
   rw [hb] at hr
   obtain ⟨e1, T1, H1⟩ := p
   have h1 := h _ _ _ _ _ hb
   cases e1 with
   | normal => exact h1.same (loop_frame h hr)
   | exit i => simp at hr; obtain ⟨rfl, rfl, rfl⟩ := hr; exact h1
   | ret => simp at hr; obtain ⟨rfl, rfl, rfl⟩ := hr; exact h1
theorem code_frame {keep : Nat → Bool} {c : ACall} {n : Nat} : ∀ (cd : LCode) {T : Tmps} {H : AHeap} {e : AExit} {T' : Tmps} {H' : AHeap}, codeA keep c n cd T H = some (e, T', H') → Fr cd.asg T T'
 | .skip, T, H, e, T', H', h => by simp [codeA] at h; obtain ⟨rfl, rfl, rfl⟩ := h; exact Fr.refl
 | .reg draw ops, T, H, e, T', H', h => by
  simp only [codeA] at h
  cases ho : opsA keep c ops T H with
  | none => rw [ho] at h; simp at h
  | some p =>
   rw [ho] at h
   have := ops_frame ho
   obtain ⟨T1, H1, ks⟩ := p
   simp only at h
   split at h
   ·simp at h
   ·simp at h; obtain ⟨rfl, rfl, rfl⟩ := h; exact this
 | .seq a b, T, H, e, T', H', h => by
  simp only [codeA] at h
  cases ha : codeA keep c n a T H with
  | none => rw [ha] at h; simp at h
  | some p =>
   rw [ha] at h
   obtain ⟨e1, T1, H1⟩ := p
   have h1 := code_frame a ha
   cases e1 with
   | normal => exact h1.trans (code_frame b h)
   | exit i => simp at h; obtain ⟨rfl, rfl, rfl⟩ := h; exact h1.left
   | ret => simp at h; obtain ⟨rfl, rfl, rfl⟩ := h; exact h1.left
 | .cond x a b, T, H, e, T', H', h => by
  simp only [codeA] at h
  split at h
  ·exact (code_frame a h).left
  ·exact (code_frame b h).right
  ·simp at h
 | .block id a, T, H, e, T', H', h => by
  simp only [codeA] at h
  cases ha : codeA keep c n a T H with
  | none => rw [ha] at h; simp at h
  | some p =>
   rw [ha] at h
   obtain ⟨e1, T1, H1⟩ := p
   have h1 := code_frame a ha
   cases e1 with
   | normal => simp at h; obtain ⟨rfl, rfl, rfl⟩ := h; exact h1
   | exit i =>
    simp only at h
    split at h
    ·simp at h; obtain ⟨rfl, rfl, rfl⟩ := h; exact h1
    ·simp at h; obtain ⟨rfl, rfl, rfl⟩ := h; exact h1
   | ret => simp at h; obtain ⟨rfl, rfl, rfl⟩ := h; exact h1
 | .loop a, T, H, e, T', H', h => by
  simp only [codeA] at h
  exact loop_frame (fun T H e T' H' h => code_frame a h) h
 | .exit i, T, H, e, T', H', h => by simp [codeA] at h; obtain ⟨rfl, rfl, rfl⟩ := h; exact Fr.refl
 | .ret, T, H, e, T', H', h => by simp [codeA] at h; obtain ⟨rfl, rfl, rfl⟩ := h; exact Fr.refl
 | .fail, T, H, e, T', H', h => by simp [codeA] at h
 | .rangeFunc f ps as bd, T, H, e, T', H', h => by
  simp only [codeA] at h
  split at h <;> try (simp at h; done)
  split at h <;> try (simp at h; done)
  split at h <;> try (simp at h; done)
  split at h <;> try (simp at h; done)
  split at h
  ·simp at h
  ·simp at h; obtain ⟨rfl, rfl, rfl⟩ := h; exact Fr.refl
theorem W_frame {c : LCode} {T : Tmps} {H : AHeap} {Q : AExit → Tmps → AHeap → Prop} (h : E.W c T H Q) : E.W c T H fun e T' H' => Fr c.asg T T' ∧ Q e T' H' := by
 obtain ⟨n, e, T', H', h1, h2⟩ := h
 exact ⟨n, e, T', H', h1, code_frame c h1, h2⟩
noncomputable def lkp (ys : List (Nat × AV)) (k : Nat) (v : AV) : AV := List.rec (motive := fun _ => AV) v (fun p _ ih => Bool.rec (motive := fun _ => AV) ih p.2 (Nat.beq p.1 k)) ys
noncomputable def mkO (m : Nat) (ys : List (Nat × AV)) (d : Nat → AV) (t : TT) : Nat → Nat → TT :=
  TT.rec (motive := fun _ => Nat → Nat → TT) (fun _ _ => .l)
    (fun v _ _ fa fb g s => .n (Bool.rec (motive := fun _ => AV) v (lkp ys g (d g)) (Nat.testBit m g)) (fa (Nat.add g s) (Nat.add s s)) (fb (Nat.add g (Nat.add s s)) (Nat.add s s))) t
noncomputable def mkE (ys : List (Nat × AV)) (d : Nat → AV) (n : Nat) : TT := mkO (2 ^ n - 1) ys d (mkF n 0 1 n) 0 1
theorem lkp_same {t : TT} : ∀ {ys : List (Nat × AV)}, (∀ p ∈ ys, p.2 = getF t p.1) → ∀ k, lkp ys k (getF t k) = getF t k
  | [], _, _ => rfl
  | (i, x) :: l, h, k => by
    show Bool.rec (motive := fun _ => AV) (lkp l k (getF t k)) x (Nat.beq i k) = _
    cases hb : Nat.beq i k with
    | true =>
      have : i = k := Nat.eq_of_beq_eq_true hb
      subst this
      exact h (i, x) (by simp)
    | false => exact lkp_same (fun p hp => h p (by simp [hp])) k
theorem mkO_get (m : Nat) (ys : List (Nat × AV)) (d : Nat → AV) : ∀ (t : TT) (g s k : Nat), (mkO m ys d t g s).getO k = (t.getO k).map fun v => if m.testBit (g + s * k) = true then lkp ys (g + s * k) (d (g + s * k)) else v
 | .l, g, s, k => rfl
 | .n v a b, g, s, 0 => by
  show some (Bool.rec (motive := fun _ => AV) v (lkp ys g (d g)) (Nat.testBit m g)) = _
  simp only [TT.getO, Nat.mul_zero, Nat.add_zero, Option.map_some]
  cases Nat.testBit m g <;> rfl
 | .n v a b, g, s, j + 1 => by
  show (TT.n _ (mkO m ys d a (g + s) (s + s)) (mkO m ys d b (g + (s + s)) (s + s))).getO (j + 1) = _
  simp only [TT.getO]
  rw [mkO_get m ys d a, mkO_get m ys d b]
  rcases Nat.mod_two_eq_zero_or_one j with h2 | h2
  ·rw [if_pos h2, if_pos h2]
   have e : g + s + (s + s) * (j / 2) = g + s * (j + 1) := by
    have hm : j = 2 * (j / 2) := by omega
    generalize j / 2 = q at hm
    subst hm
    rw [Nat.mul_add, Nat.add_mul, Nat.mul_left_comm, Nat.mul_one, Nat.two_mul]; omega
   rw [e]
  ·rw [if_neg (by omega), if_neg (by omega)]
   have e : g + (s + s) + (s + s) * (j / 2) = g + s * (j + 1) := by
    have hm : j = 2 * (j / 2) + 1 := by omega
    generalize j / 2 = q at hm
    subst hm
    rw [Nat.mul_add, Nat.mul_add, Nat.add_mul, Nat.mul_left_comm, Nat.mul_one, Nat.two_mul]; omega
   rw [e]
theorem mkO_eq {m : Nat} {ys : List (Nat × AV)} {t t' : TT} {T T' : Tmps} (ht : Tl t T) (ht' : Tl t' T') (hf : Fr m T T') (hy : ∀ p ∈ ys, p.2 = getF t' p.1) : Tl (mkO m ys (getF t') t 0 1) T' := by
 intro k
 rw [mkO_get, ht k, Nat.zero_add, Nat.one_mul, lkp_same hy]
 by_cases hk : k < T.length
 ·have hk' : k < T'.length := by rw [hf.1]; exact hk
  rw [List.getElem?_eq_getElem hk, List.getElem?_eq_getElem hk', Option.map_some]
  congr 1
  have e : getF t' k = T'[k] := by rw [ht'.get, List.getD_eq_getElem?_getD, List.getElem?_eq_getElem hk']; rfl
  cases hb : m.testBit k with
  | true => rw [if_pos rfl, e]
  | false =>
   rw [if_neg (by simp)]
   have := hf.2 k hb
   simp only [gt, List.getD_eq_getElem?_getD, List.getElem?_eq_getElem hk, List.getElem?_eq_getElem hk', Option.getD_some] at this
   exact this.symm
 ·rw [List.getElem?_eq_none (by omega), List.getElem?_eq_none (by rw [hf.1]; omega)]; rfl
theorem mkE_eq {ys : List (Nat × AV)} {t : TT} {T : Tmps} {n : Nat} (ht : Tl t T) (hn : T.length = n) (hy : ∀ p ∈ ys, p.2 = getF t p.1) : Tl (mkE ys (getF t) n) T := by
 intro k
 unfold mkE
 rw [mkO_get, mkF_eq _ _ _ _ _ (by omega) (by omega), Nat.zero_add, Nat.one_mul, lkp_same hy]
 by_cases hk : k < n
 ·rw [if_pos hk, Option.map_some, Nat.testBit_two_pow_sub_one, if_pos (by simpa using hk), ht.get, List.getD_eq_getElem?_getD, List.getElem?_eq_getElem (by omega)]; rfl
 ·rw [if_neg hk, List.getElem?_eq_none (by omega)]; rfl
theorem toLF_tl {ys : List (Nat × AV)} {d : Nat → AV} {n : Nat} : Tl (mkE ys d n) (toLF n (mkE ys d n)) := by
 intro k
 simp only [toLF, List.getElem?_map]
 by_cases hk : k < n
 ·rw [List.getElem?_range hk, Option.map_some]
  unfold mkE
  rw [mkO_get, mkF_eq _ _ _ _ _ (by omega) (by omega), Nat.zero_add, Nat.one_mul, if_pos hk]
  rfl
 ·rw [List.getElem?_eq_none (by simpa using hk)]
  unfold mkE
  rw [mkO_get, mkF_eq _ _ _ _ _ (by omega) (by omega), Nat.zero_add, Nat.one_mul, if_neg hk]
  rfl
end Env
end Go.AE
namespace Go.AE
open Go
abbrev LK := AExit → TT → AHeap → Prop
abbrev LHand := TT → AHeap → LK → Prop
inductive Plan where
 | done
 | one (r : Plan)
 | grp (n j : Nat) (w : Bool) (ks : List Nat) (inner r : Plan)
 deriving Inhabited
inductive Ann where
 | lf
 | reg (p : Plan)
 | seq (a b : Ann)
 | cut (ks : List Nat) (a b : Ann)
 | cond (a b : Ann)
 | block (a : Ann)
 | loop (h : LHand)
def J0 (f : AHeap → Prop) (g : (AHeap → Prop) → Prop) : Prop := g f
def J1 (f : AV → AHeap → Prop) (g : (AV → AHeap → Prop) → Prop) : Prop := g f
def J2 (f : AV → AV → AHeap → Prop) (g : (AV → AV → AHeap → Prop) → Prop) : Prop := g f
def J3 (f : AV → AV → AV → AHeap → Prop) (g : (AV → AV → AV → AHeap → Prop) → Prop) : Prop := g f
def J4 (f : AV → AV → AV → AV → AHeap → Prop) (g : (AV → AV → AV → AV → AHeap → Prop) → Prop) : Prop := g f
def J5 (f : AV → AV → AV → AV → AV → AHeap → Prop) (g : (AV → AV → AV → AV → AV → AHeap → Prop) → Prop) : Prop := g f
def J6 (f : AV → AV → AV → AV → AV → AV → AHeap → Prop) (g : (AV → AV → AV → AV → AV → AV → AHeap → Prop) → Prop) : Prop := g f
def Jk (f : AV → AHeap → Kd → Prop) (g : (AV → AHeap → Kd → Prop) → Prop) : Prop := g f
namespace Env
def JN : (ks : List Nat) → (List (Nat × AV) → AHeap → Prop) → ((TT → AHeap → Prop) → Prop) → Prop
 | [], f, g => J0 (fun H => f [] H) fun j => g fun _ H => j H
 | [a], f, g => J1 (fun x H => f [(a, x)] H) fun j => g fun T H => j (getF T a) H
 | [a, b], f, g => J2 (fun x y H => f [(a, x), (b, y)] H) fun j => g fun T H => j (getF T a) (getF T b) H
 | [a, b, c], f, g => J3 (fun x y z H => f [(a, x), (b, y), (c, z)] H) fun j => g fun T H => j (getF T a) (getF T b) (getF T c) H
 | [a, b, c, e], f, g => J4 (fun x y z u H => f [(a, x), (b, y), (c, z), (e, u)] H) fun j => g fun T H => j (getF T a) (getF T b) (getF T c) (getF T e) H
 | [a, b, c, e, i], f, g => J5 (fun x y z u v H => f [(a, x), (b, y), (c, z), (e, u), (i, v)] H) fun j => g fun T H => j (getF T a) (getF T b) (getF T c) (getF T e) (getF T i) H
 | [a, b, c, e, i, k], f, g => J6 (fun x y z u v w H => f [(a, x), (b, y), (c, z), (e, u), (i, v), (k, w)] H) fun j => g fun T H => j (getF T a) (getF T b) (getF T c) (getF T e) (getF T i) (getF T k) H
 | _, _, _ => False
theorem JN_eq : ∀ {ks : List Nat} {f : List (Nat × AV) → AHeap → Prop} {g : (TT → AHeap → Prop) → Prop}, JN ks f g → g fun T H => f (ks.map fun k => (k, getF T k)) H
 | [], _, _, h => h
 | [_], _, _, h => h
 | [_, _], _, _, h => h
 | [_, _, _], _, _, h => h
 | [_, _, _, _], _, _, h => h
 | [_, _, _, _, _], _, _, h => h
 | [_, _, _, _, _, _], _, _, h => h
 | _ :: _ :: _ :: _ :: _ :: _ :: _ :: _, _, _, h => h.elim
noncomputable def skipT (ops : List LOper) : TT → TT := List.rec (motive := fun _ => TT → TT) (fun t => t) (fun o _ ih t => ih (putF t o.d undefA)) ops
def skipL : List LOper → Tmps → Tmps
 | [], T => T
 | o :: l, T => skipL l (putT T o.d undefA)
def thenV (K : TT → AHeap → Prop) (Q : LK) : LK
 | .normal, t, H => K t H
 | e, t, H => Q e t H
noncomputable def DP (E : Env) (pl : Plan) : List LOper → TT → AHeap → (TT → AHeap → Prop) → Prop :=
  Plan.rec (motive := fun _ => List LOper → TT → AHeap → (TT → AHeap → Prop) → Prop)
    (fun ops t H K => match ops with | [] => K t H | _ => False)
    (fun _ ih ops t H K => match ops with
      | o :: l => D1 E H (fun v H' _ => ih l (putF t o.d v) H' K) o.op t
      | [] => False)
    (fun n j w ks _ _ fi fr ops t H K => JN ks (fun ys H' => ∀ d, fr (ops.drop n) (mkO (asgO (ops.take n)) ys d t 0 1) H' K)
      fun jj => Gd (getF t j) w (fi (ops.take n) t H jj) (jj (skipT (ops.take n) t) H)) pl
noncomputable def DO (E : Env) (ops : List LOper) : TT → AHeap → List Kd → (TT → AHeap → List Kd → Prop) → Prop :=
  List.rec (motive := fun _ => TT → AHeap → List Kd → (TT → AHeap → List Kd → Prop) → Prop)
    (fun t H ks K => K t H ks.reverse)
    (fun o _ ih t H ks K => match o.guard with
      | none => D1 E H (fun v H' k => ih (putF t o.d v) H' (k :: ks) K) o.op t
      | some (j, w) => Jk (fun v H' k => ih (putF t o.d v) H' (k :: ks) K) fun jj => Gd (getF t j) w (D1 E H jj o.op t) (jj undefA H .p)) ops
noncomputable def D (E : Env) (x : Ann) : LCode → TT → AHeap → LK → Prop :=
  Ann.rec (motive := fun _ => LCode → TT → AHeap → LK → Prop)
    (fun c t H Q => match c with
      | .skip => Q .normal t H
      | .exit i => Q (.exit i) t H
      | .ret => Q .ret t H
      | _ => False)
    (fun p c t H Q => match c with
      | .reg false ops => DP E p ops t H (Q .normal)
      | .reg true ops => DO E ops t H [] fun t' H' ks => drawOk ops ks = true ∧ Q .normal t' H'
      | _ => False)
    (fun _ _ fa fb c t H Q => match c with
      | .seq a b => fa a t H (thenV (fun t' H' => fb b t' H' Q) Q)
      | _ => False)
    (fun ks _ _ fa fb c t H Q => match c with
      | .seq a b => JN ks (fun ys H' => ∀ d, fb b (mkO a.asg ys d t 0 1) H' Q) fun j => fa a t H (thenV j Q)
      | _ => False)
    (fun _ _ fa fb c t H Q => match c with
      | .cond p a b => Pick (evF p t) (fa a t H Q) (fb b t H Q)
      | _ => False)
    (fun _ fa c t H Q => match c with
      | .block id a => fa a t H fun e t' H' => Q (if e = .exit id then .normal else e) t' H'
      | _ => False)
    (fun h c t H Q => match c with
      | .loop _ => h t H Q
      | _ => False) x
def gOk (S : List (Nat × Bool)) : Option (Nat × Bool) → Bool
 | none => true
 | some g => S.contains g
def dOk (S : List (Nat × Bool)) (d : Option Nat) : Bool := match d with
 | none => true
 | some d => S.all fun p => !(p.1 == d)
def skipOk (j : Nat) (w : Bool) : List Nat → List LOper → Bool
 | _, [] => true
 | seen, o :: l => (match o.guard with | none => false | some (i, v) => (i == j && v == w) || seen.contains i) && (match o.d with | none => true | some d => !(d == j)) && skipOk j w (match o.d with | none => seen | some d => d :: seen) l
def planOk : List (Nat × Bool) → Plan → List LOper → Bool
 | _, .done, ops => match ops with | [] => true | _ => false
 | S, .one r, ops => match ops with
  | o :: l => gOk S o.guard && dOk S o.d && planOk S r l
  | [] => false
 | S, .grp n j w _ inner r, ops => skipOk j w [] (ops.take n) && (ops.take n).all (fun o => dOk ((j, w) :: S) o.d) && planOk ((j, w) :: S) inner (ops.take n) && planOk S r (ops.drop n)
def annOk : Ann → LCode → Bool
 | .reg p, c => match c with
  | .reg false ops => planOk [] p ops
  | _ => true
 | .seq x y, c | .cut _ x y, c => match c with
  | .seq a b => annOk x a && annOk y b
  | _ => true
 | .cond x y, c => match c with
  | .cond _ a b => annOk x a && annOk y b
  | _ => true
 | .block x, c => match c with
  | .block _ a => annOk x a
  | _ => true
 | _, _ => true
variable {E : Env}
def LpOkV (E : Env) (n : Nat) (c : LCode) (h : LHand) : Prop := ∀ t T H Q, Tl t T → T.length = n → h t H Q → E.W c T H fun e T' H' => ∃ t', Tl t' T' ∧ Q e t' H'
def HOk (E : Env) (n : Nat) : Ann → LCode → Prop
 | .seq x y, c | .cut _ x y, c => match c with
  | .seq a b => HOk E n x a ∧ HOk E n y b
  | _ => True
 | .cond x y, c => match c with
  | .cond _ a b => HOk E n x a ∧ HOk E n y b
  | _ => True
 | .block x, c => match c with
  | .block _ a => HOk E n x a
  | _ => True
 | .loop h, c => match c with
  | .loop a => LpOkV E n (.loop a) h
  | _ => True
 | _, _ => True
def HL : Ann → LCode → List (LHand × LCode)
 | .seq x y, c | .cut _ x y, c => match c with
  | .seq a b => HL x a ++ HL y b
  | _ => []
 | .cond x y, c => match c with
  | .cond _ a b => HL x a ++ HL y b
  | _ => []
 | .block x, c => match c with
  | .block _ a => HL x a
  | _ => []
 | .loop h, c => [(h, c)]
 | _, _ => []
theorem HOk_of {n : Nat} : ∀ (x : Ann) {c : LCode}, (∀ p ∈ HL x c, LpOkV E n p.2 p.1) → HOk E n x c
  | .seq x y, c, h => by
    cases c with
    | seq a b => exact ⟨HOk_of x fun p hp => h p (List.mem_append_left _ hp), HOk_of y fun p hp => h p (List.mem_append_right _ hp)⟩
    | _ => trivial
  | .cut ks x y, c, h => by
    cases c with
    | seq a b => exact ⟨HOk_of x fun p hp => h p (List.mem_append_left _ hp), HOk_of y fun p hp => h p (List.mem_append_right _ hp)⟩
    | _ => trivial
  | .cond x y, c, h => by
    cases c with
    | cond q a b => exact ⟨HOk_of x fun p hp => h p (List.mem_append_left _ hp), HOk_of y fun p hp => h p (List.mem_append_right _ hp)⟩
    | _ => trivial
  | .block x, c, h => by
    cases c with
    | block i a => exact HOk_of x h
    | _ => trivial
  | .loop hd, c, h => by
    cases c with
    | loop a => exact h (hd, .loop a) (by simp [HL])
    | _ => trivial
  | .lf, c, _ => trivial
  | .reg _, c, _ => trivial
theorem HOk_by {n : Nat} {x : Ann} {c : LCode} {l : List (LHand × LCode)} (e : HL x c = l) (h : ∀ p ∈ l, LpOkV E n p.2 p.1) : HOk E n x c := HOk_of x (e ▸ h)
theorem WO.mono {ops : List LOper} {T : Tmps} {H : AHeap} {K K' : Tmps → AHeap → List Kd → Prop} (h : E.WO ops T H K) (hk : ∀ T' H' ks, K T' H' ks → K' T' H' ks) : E.WO ops T H K' := by
 obtain ⟨n, T', H', ks, h1, h2⟩ := h
 exact ⟨n, T', H', ks, h1, hk _ _ _ h2⟩
theorem WO_frame {ops : List LOper} {T : Tmps} {H : AHeap} {K : Tmps → AHeap → List Kd → Prop} (h : E.WO ops T H K) : E.WO ops T H fun T' H' ks => Fr (asgO ops) T T' ∧ K T' H' ks := by
 obtain ⟨n, T', H', ks, h1, h2⟩ := h
 exact ⟨n, T', H', ks, h1, ops_frame h1, h2⟩
theorem W1.mono {op : LOp} {T : Tmps} {H : AHeap} {K K' : AV → AHeap → Kd → Prop} (h : E.W1 op T H K) (hk : ∀ v H' k, K v H' k → K' v H' k) : E.W1 op T H K' := by
 obtain ⟨n, v, H', k, h1, h2⟩ := h
 exact ⟨n, v, H', k, h1, hk _ _ _ h2⟩
theorem WO_append : ∀ {l1 l2 : List LOper} {T : Tmps} {H : AHeap} {K : Tmps → AHeap → Prop}, E.WO l1 T H (fun T' H' _ => E.WO l2 T' H' fun T'' H'' _ => K T'' H'') → E.WO (l1 ++ l2) T H fun T' H' _ => K T' H'
 | [], l2, T, H, K, h => WO_nil.1 h
 | o :: l, l2, T, H, K, h => by
  rw [List.cons_append, WO_cons]
  have h2 := WO_cons.1 h
  unfold Guard at h2 ⊢
  split at h2
  ·exact h2.mono fun v H' k h3 => WO_append h3
  ·exact WO_append h2
  ·exact h2.elim
theorem skip_WO (j : Nat) (w : Bool) : ∀ {ops : List LOper} {seen : List Nat} {T : Tmps} {H : AHeap} {K : Tmps → AHeap → Prop}, skipOk j w seen ops = true → (∀ b, gt T j = .bool b → b ≠ w) → (gt T j = undefA ∨ ∃ b, gt T j = .bool b) → (∀ i ∈ seen, gt T i = undefA) → K (skipL ops T) H → E.WO ops T H fun T' H' _ => K T' H'
 | [], _, _, _, _, _, _, _, _, h => WO_nil.2 h
 | o :: l, seen, T, H, K, ho, hj, hj2, hs, h => by
  simp only [skipOk, Bool.and_eq_true] at ho
  obtain ⟨⟨h1, h2⟩, h3⟩ := ho
  rw [WO_cons]
  have hg : wantedA T o.guard = some false := by
   cases hgd : o.guard with
   | none => rw [hgd] at h1; simp at h1
   | some p =>
    obtain ⟨i, v⟩ := p
    rw [hgd] at h1
    simp only [Bool.or_eq_true, Bool.and_eq_true, beq_iff_eq, List.contains_iff_mem] at h1
    show (match gt T i with | .bool b => some (b == v) | .tuple [] => some false | _ => none) = some false
    rcases h1 with ⟨rfl, rfl⟩ | hm
    ·rcases hj2 with hu | ⟨b, hb⟩
     ·rw [hu]
     ·rw [hb]
      have := hj b hb
      simpa using this
    ·rw [hs i hm]
  unfold Guard
  simp only [hg]
  have hjp : gt (putT T o.d undefA) j = gt T j := by
   cases hd : o.d with
   | none => rfl
   | some d =>
    rw [hd] at h2
    exact gp_ne (by simpa using h2)
  refine skip_WO j w h3 (by rw [hjp]; exact hj) (by rw [hjp]; exact hj2) ?_ h
  intro i hi
  cases hd : o.d with
  | none => rw [hd] at hi; exact hs i hi
  | some d =>
   rw [hd] at hi
   by_cases e : d = i
   ·subst e
    by_cases hl : d < T.length
    ·exact gp_eq (by simpa using hl)
    ·simp [putT, gt, List.getD_eq_getElem?_getD, hl]
   ·rw [gp_ne (by simpa using e)]
    simp only [List.mem_cons] at hi
    rcases hi with rfl | hi
    ·exact absurd rfl e
    ·exact hs i hi
theorem S_put {S : List (Nat × Bool)} {T : Tmps} {d : Option Nat} {v : AV} (hd : dOk S d = true) (hS : ∀ p ∈ S, gt T p.1 = .bool p.2) : ∀ p ∈ S, gt (putT T d v) p.1 = .bool p.2 := by
 intro p hp
 cases d with
 | none => exact hS p hp
 | some d =>
  simp only [dOk, List.all_eq_true] at hd
  have e : p.1 ≠ d := by simpa using hd p hp
  rw [gp_ne (beq_false_of_ne (Ne.symm e))]
  exact hS p hp
theorem asg_dOk {S : List (Nat × Bool)} : ∀ {ops : List LOper}, ops.all (fun o => dOk S o.d) = true → ∀ p ∈ S, (asgO ops).testBit p.1 = false
 | [], _, p, _ => by simp [asgO]
 | o :: l, h, p, hp => by
  simp only [List.all_cons, Bool.and_eq_true] at h
  simp only [asgO, Nat.testBit_or, Bool.or_eq_false_iff]
  refine ⟨?_, asg_dOk h.2 p hp⟩
  cases hd : o.d with
  | none => simp [asgD]
  | some d =>
   have h1 := h.1
   rw [hd] at h1
   simp only [dOk, List.all_eq_true] at h1
   have e : p.1 ≠ d := by simpa using h1 p hp
   simp only [asgD, Nat.testBit_two_pow]
   exact decide_eq_false (Ne.symm e)
theorem skip_tl : ∀ {ops : List LOper} {t : TT} {T : Tmps}, Tl t T → Tl (skipT ops t) (skipL ops T)
 | [], _, _, h => h
 | o :: l, t, T, h => by
  have h2 : Tl (putF t o.d undefA) (putT T o.d undefA) := by
   cases o.d with
   | none => exact h
   | some d => exact h.set d undefA
  exact skip_tl (ops := l) h2
theorem put_tl {t : TT} {T : Tmps} (h : Tl t T) (d : Option Nat) (v : AV) : Tl (putF t d v) (putT T d v) := by
 cases d with
 | none => exact h
 | some d => exact h.set d v
theorem get_tl {t : TT} {T : Tmps} (h : Tl t T) (k : Nat) : getF t k = gt T k := h.get k
def Over (K : TT → AHeap → Prop) : Tmps → AHeap → Prop := fun T H => ∃ t, Tl t T ∧ K t H
theorem DP_WO : ∀ (pl : Plan) {S : List (Nat × Bool)} {ops : List LOper} {t : TT} {T : Tmps} {H : AHeap} {K : TT → AHeap → Prop}, Tl t T → planOk S pl ops = true → (∀ p ∈ S, gt T p.1 = .bool p.2) → DP E pl ops t H K → E.WO ops T H fun T' H' _ => Over K T' H'
 | .done, S, ops, t, T, H, K, ht, hp, hS, h => by
  cases ops with
  | nil => exact WO_nil.2 ⟨t, ht, h⟩
  | cons o l => simp [planOk] at hp
 | .one r, S, ops, t, T, H, K, ht, hp, hS, h => by
  cases ops with
  | nil => simp [planOk] at hp
  | cons o l =>
   simp only [planOk, Bool.and_eq_true] at hp
   obtain ⟨⟨h1, h2⟩, h3⟩ := hp
   rw [WO_cons]
   have hg : wantedA T o.guard = some true := by
    cases hgd : o.guard with
    | none => rfl
    | some p =>
     obtain ⟨i, v⟩ := p
     rw [hgd] at h1
     have hm : (i, v) ∈ S := by simpa [gOk] using h1
     have := hS _ hm
     show (match gt T i with | .bool b => some (b == v) | .tuple [] => some false | _ => none) = some true
     rw [this]
     simp
   unfold Guard
   simp only [hg]
   have h0 : D1 E H (fun v H' _ => DP E r l (putF t o.d v) H' K) o.op t := h
   exact (D1_W1 ht h0).mono fun v H' k h4 => DP_WO r (put_tl ht _ _) h3 (S_put h2 hS) h4
 | .grp n j w ks inner r, S, ops, t, T, H, K, ht, hp, hS, h => by
  simp only [planOk, Bool.and_eq_true] at hp
  obtain ⟨⟨⟨h1, h2⟩, h3⟩, h4⟩ := hp
  have h0 : JN ks (fun ys H' => ∀ d, DP E r (ops.drop n) (mkO (asgO (ops.take n)) ys d t 0 1) H' K) (fun jj => Gd (getF t j) w (DP E inner (ops.take n) t H jj) (jj (skipT (ops.take n) t) H)) := h
  have h5 := JN_eq h0
  rw [get_tl ht] at h5
  have hrest : ∀ T' H', Fr (asgO (ops.take n)) T T' → Over (fun t' H' => ∀ d, DP E r (ops.drop n) (mkO (asgO (ops.take n)) (ks.map fun k => (k, getF t' k)) d t 0 1) H' K) T' H' → E.WO (ops.drop n) T' H' fun T'' H'' _ => Over K T'' H'' := by
   intro T' H' hf ⟨t', ht', hd⟩
   have h6 := hd (getF t')
   refine DP_WO r (mkO_eq ht ht' hf (by simp)) h4 (fun p hp => ?_) h6
   rw [hf.2 _ (asg_dOk h2 p (List.mem_cons_of_mem _ hp))]
   exact hS p hp
  have hfin : E.WO (ops.take n) T H fun T' H' _ => E.WO (ops.drop n) T' H' fun T'' H'' _ => Over K T'' H'' := by
   have hw : E.WO (ops.take n) T H fun T' H' _ => Over (fun t' H' => ∀ d, DP E r (ops.drop n) (mkO (asgO (ops.take n)) (ks.map fun k => (k, getF t' k)) d t 0 1) H' K) T' H' := by
    revert h5
    generalize hv : gt T j = v
    intro h5
    unfold Gd at h5
    split at h5
    ·rename_i b
     by_cases hb : b = w
     ·subst hb
      refine DP_WO (S := (j, b) :: S) inner ht h3 ?_ (h5.1 rfl)
      intro p hp
      simp only [List.mem_cons] at hp
      rcases hp with rfl | hp
      ·exact hv
      ·exact hS p hp
     ·refine skip_WO j w (K := Over (fun t' H' => ∀ d, DP E r (ops.drop n) (mkO (asgO (ops.take n)) (ks.map fun k => (k, getF t' k)) d t 0 1) H' K)) h1 ?_ ?_ (by simp) ⟨_, skip_tl ht, h5.2 hb⟩
      ·intro b' hb'
       rw [hv] at hb'
       cases hb'
       exact hb
      ·exact .inr ⟨b, hv⟩
    ·refine skip_WO j w (K := Over (fun t' H' => ∀ d, DP E r (ops.drop n) (mkO (asgO (ops.take n)) (ks.map fun k => (k, getF t' k)) d t 0 1) H' K)) h1 ?_ ?_ (by simp) ⟨_, skip_tl ht, h5⟩
     ·intro b' hb'
      rw [hv] at hb'
      cases hb'
     ·exact .inl hv
    ·exact h5.elim
   exact (WO_frame hw).mono fun T' H' ks' ⟨hf, hd⟩ => hrest T' H' hf hd
  have := WO_append hfin
  rwa [List.take_append_drop] at this
theorem DO_WO : ∀ {ops : List LOper} {t : TT} {T : Tmps} {H : AHeap} {ks : List Kd} {K : TT → AHeap → List Kd → Prop}, Tl t T → DO E ops t H ks K → E.WO ops T H fun T' H' ks' => ∃ t', Tl t' T' ∧ K t' H' (ks.reverse ++ ks')
  | [], t, T, H, ks, K, ht, h => WO_nil.2 ⟨t, ht, by rw [List.append_nil]; exact h⟩
  | o :: l, t, T, H, ks, K, ht, h => by
    rw [WO_cons]
    have h0 : (match o.guard with
      | none => D1 E H (fun v H' k => DO E l (putF t o.d v) H' (k :: ks) K) o.op t
      | some (j, w) => Jk (fun v H' k => DO E l (putF t o.d v) H' (k :: ks) K) fun jj => Gd (getF t j) w (D1 E H jj o.op t) (jj undefA H .p)) := h
    have next : ∀ v H' k, DO E l (putF t o.d v) H' (k :: ks) K → E.WO l (putT T o.d v) H' fun T' H'' ks' => ∃ t', Tl t' T' ∧ K t' H'' (ks.reverse ++ k :: ks') := fun v H' k h2 =>
      (DO_WO (put_tl ht o.d v) h2).mono fun T' H'' ks' ⟨t', h3, h4⟩ => ⟨t', h3, by simpa using h4⟩
    cases hg : o.guard with
    | none =>
      rw [hg] at h0
      exact Guard_none.2 ((D1_W1 ht h0).mono fun v H' k h2 => next v H' k h2)
    | some p =>
      obtain ⟨j, w⟩ := p
      rw [hg] at h0
      have h2 : Gd (getF t j) w (D1 E H (fun v H' k => DO E l (putF t o.d v) H' (k :: ks) K) o.op t) (DO E l (putF t o.d undefA) H (.p :: ks) K) := h0
      rw [get_tl ht] at h2
      rw [Guard_gt]
      revert h2
      generalize gt T j = v
      unfold Gd
      intro h2
      split
      · exact ⟨fun e => (D1_W1 ht (h2.1 e)).mono fun v H' k h3 => next v H' k h3, fun e => next _ _ _ (h2.2 e)⟩
      · exact next _ _ _ h2
      · rename_i h3 h4
        split at h2
        · exact absurd rfl (h3 _)
        · exact absurd rfl h4
        · exact h2
theorem D_W (n : Nat) : ∀ (x : Ann) {c : LCode} {t : TT} {T : Tmps} {H : AHeap} {Q : LK}, Tl t T → annOk x c = true → HOk E n x c → T.length = n → D E x c t H Q → E.W c T H fun e T' H' => ∃ t', Tl t' T' ∧ Q e t' H'
  | .reg p, c, t, T, H, Q, ht, ha, hh, hn, h => by
    cases c with
    | reg dr ops =>
      cases dr with
      | false => exact W_reg.2 ((DP_WO p (S := []) ht ha (by simp) h).mono fun _ _ _ h => h)
      | true => exact W_draw.2 ((DO_WO ht h).mono fun _ _ _ ⟨t', h1, h2, h3⟩ => ⟨by simpa using h2, t', h1, h3⟩)
    | _ => exact h.elim
  | .seq x y, c, t, T, H, Q, ht, ha, hh, hn, h => by
    cases c with
    | seq a b =>
      simp only [annOk, Bool.and_eq_true] at ha
      refine W_seq.2 ((W_frame (D_W n x ht ha.1 hh.1 hn h)).mono fun e T' H' ⟨hf, t', ht', hq⟩ => ?_)
      cases e with
      | normal => exact D_W n y ht' ha.2 hh.2 (hf.1.trans hn) hq
      | exit i => exact ⟨t', ht', hq⟩
      | ret => exact ⟨t', ht', hq⟩
    | _ => exact h.elim
  | .cut ks x y, c, t, T, H, Q, ht, ha, hh, hn, h => by
    cases c with
    | seq a b =>
      simp only [annOk, Bool.and_eq_true] at ha
      have h0 : JN ks (fun ys H' => ∀ d, D E y b (mkO a.asg ys d t 0 1) H' Q) (fun j => D E x a t H (thenV j Q)) := h
      have h2 := JN_eq h0
      refine W_seq.2 ((W_frame (D_W n x ht ha.1 hh.1 hn h2)).mono fun e T' H' ⟨hf, t', ht', hq⟩ => ?_)
      cases e with
      | normal => exact D_W n y (mkO_eq ht ht' hf (by simp)) ha.2 hh.2 (hf.1.trans hn) (hq (getF t'))
      | exit i => exact ⟨t', ht', hq⟩
      | ret => exact ⟨t', ht', hq⟩
    | _ => exact h.elim
  | .cond x y, c, t, T, H, Q, ht, ha, hh, hn, h => by
    cases c with
    | cond p a b =>
      simp only [annOk, Bool.and_eq_true] at ha
      rw [W_cond, ← ht.ev]
      have h2 : Pick (evF p t) (D E x a t H Q) (D E y b t H Q) := h
      revert h2
      unfold Pick
      intro h2
      split
      · rename_i hv; rw [hv] at h2; exact D_W n x ht ha.1 hh.1 hn h2
      · rename_i hv; rw [hv] at h2; exact D_W n y ht ha.2 hh.2 hn h2
      · rename_i h3 h4
        split at h2
        · rename_i hv; exact absurd hv h3
        · rename_i hv; exact absurd hv h4
        · exact h2
    | _ => exact h.elim
  | .block x, c, t, T, H, Q, ht, ha, hh, hn, h => by
    cases c with
    | block id a => exact W_block.2 (D_W n x ht ha hh hn h)
    | _ => exact h.elim
  | .loop hd, c, t, T, H, Q, ht, ha, hh, hn, h => by
    cases c with
    | loop a => exact hh t T H Q ht hn h
    | _ => exact h.elim
  | .lf, c, t, T, H, Q, ht, ha, hh, hn, h => by
    cases c with
    | skip => exact W_skip.2 ⟨t, ht, h⟩
    | exit i => exact W_exit.2 ⟨t, ht, h⟩
    | ret => exact W_ret.2 ⟨t, ht, h⟩
    | _ => exact h.elim
noncomputable def rsV (t : TT) (H : AHeap) (K : AV → AHeap → Prop) : List AV → List LRes → Prop
 | acc, [] => K (tupA acc.reverse) H
 | acc, .t n :: l => rsV t H K (getF t n :: acc) l
 | acc, .cell a s g :: l => Res (loadA H s g (getF t a)) fun v _ _ => rsV t H K (v :: acc) l
noncomputable def finV (rs : List LRes) (K : AV → AHeap → Prop) : LK := fun e t H => match e with
 | .exit _ => False
 | _ => rsV t H K [] rs
theorem rsV_res {t : TT} {T : Tmps} (ht : Tl t T) {H : AHeap} {K : AV → AHeap → Prop} : ∀ {rs : List LRes} {acc : List AV}, rsV t H K acc rs → ∃ vs, resA T H rs = some vs ∧ K (tupA (acc.reverse ++ vs)) H
  | [], acc, h => ⟨[], rfl, by simpa [rsV] using h⟩
  | .t n :: l, acc, h => by
    obtain ⟨vs, h1, h2⟩ := rsV_res ht (rs := l) h
    exact ⟨getF t n :: vs, by simp [resA, h1, get_tl ht, gt], by simpa using h2⟩
  | .cell a s g :: l, acc, h => by
    obtain ⟨v, H', k, h1, h2⟩ := (h : Res (loadA H s g (getF t a)) fun v _ _ => rsV t H K (v :: acc) l)
    obtain ⟨vs, h3, h4⟩ := rsV_res ht (rs := l) h2
    rw [get_tl ht] at h1
    exact ⟨v :: vs, by simp only [resA]; rw [show T.getD a undefA = gt T a from rfl, h1]; simp [h3], by simpa using h4⟩
def bodyV : LFunc → LCode
 | .code _ _ _ c => c
 | _ => .skip
def lbody : LCode → LCode
 | .loop c => c
 | c => c
def isLoop : LCode → Bool
 | .loop _ => true
 | _ => false
def drawns : LCode → List (List LOper)
 | .reg true ops => [ops]
 | .seq a b => drawns a ++ drawns b
 | .cond _ a b => drawns a ++ drawns b
 | .block _ c => drawns c
 | .loop c => drawns c
 | _ => []
def drawn (f : LFunc) (i : Nat) : List LOper := (drawns (bodyV f)).getD i []
noncomputable def mkA (args : List AV) (nt : Nat) : TT := setAllF args (mkF nt 0 1 nt) 0
theorem mkA_tl {args : List AV} {nt : Nat} (h : args.length ≤ nt) : Tl (mkA args nt) (args ++ List.replicate (nt - args.length) undefA) := by
 have h1 : Tl (mkF nt 0 1 nt) (List.replicate nt undefA) := by
  intro k
  rw [mkF_eq _ _ _ _ _ (by omega) (by omega), Nat.zero_add, Nat.one_mul, List.getElem?_replicate]
 have key : ∀ (vs : List AV) (t : TT) (T : Tmps) (k : Nat), Tl t T → k + vs.length ≤ T.length → Tl (setAllF vs t k) (T.take k ++ vs ++ T.drop (k + vs.length)) := by
  intro vs
  induction vs with
  | nil => intro t T k ht hl; simpa [setAllF] using ht
  | cons v vs ih =>
   intro t T k ht hl
   have h2 := ih (setF t k v) (T.set k v) (k + 1) (ht.set k v) (by simp at hl ⊢; omega)
   have e : (T.set k v).take (k + 1) ++ vs ++ (T.set k v).drop (k + 1 + vs.length) = T.take k ++ v :: vs ++ T.drop (k + (v :: vs).length) := by
    have hk : k < T.length := by simp at hl; omega
    rw [List.take_add_one, List.take_set_of_le (Nat.le_refl _), List.getElem?_set_self hk, List.drop_set_of_lt (by omega)]
    simp [Nat.add_comm, Nat.add_left_comm]
   rw [e] at h2
   exact h2
 have := key args _ _ 0 h1 (by simpa using h)
 simpa [mkA] using this
theorem ans_of {f np nt : Nat} {rs : List LRes} {F : LFunc} {x : Ann} (hf : E.lp f = some F) (hF : F = .code np nt rs (bodyV F)) {args : List AV} (hl : args.length = np) (hn : np ≤ nt) {H : AHeap} {K : AV → AHeap → Prop}
    (ha : annOk x (bodyV F) = true) (hh : HOk E nt x (bodyV F)) (h : D E x (bodyV F) (mkA args nt) H (finV rs K)) : ∃ v H', K v H' ∧ E.Ans f args H v H' := by
  rw [hF] at hf
  subst hl
  have h2 := D_W nt x (mkA_tl hn) ha hh (by simp; omega) h
  obtain ⟨n, e, T, H2, h3, t, ht, h4⟩ := h2
  cases e with
  | exit i => exact h4.elim
  | normal =>
    obtain ⟨vs, h5, h6⟩ := rsV_res ht h4
    exact ⟨_, H2, h6, Ans_of hf rfl ⟨n, _, T, H2, h3, by simp, vs, h5, rfl, rfl⟩⟩
  | ret =>
    obtain ⟨vs, h5, h6⟩ := rsV_res ht h4
    exact ⟨_, H2, h6, Ans_of hf rfl ⟨n, _, T, H2, h3, by simp, vs, h5, rfl, rfl⟩⟩
def xq (l : List (Nat × (TT → AHeap → Prop))) (r : TT → AHeap → Prop) : LK := fun e T H => match e with
 | .exit i => fnd i T H l
 | .ret => r T H
 | .normal => False
where fnd (i : Nat) (T : TT) (H : AHeap) : List (Nat × (TT → AHeap → Prop)) → Prop
 | [] => False
 | (j, k) :: l => cond (Nat.beq j i) (k T H) (fnd i T H l)
theorem xq_ok {l : List (Nat × (TT → AHeap → Prop))} {r : TT → AHeap → Prop} {Q : Prop} {e : AExit} {T : TT} {H : AHeap} (hl : ∀ p ∈ l, e = .exit p.1 → p.2 T H → Q) (hr : e = .ret → r T H → Q) (h : xq l r e T H) : Q := by
 cases e with
 | normal => exact h.elim
 | ret => exact hr rfl h
 | exit i =>
  have h2 : xq.fnd i T H l := h
  clear h
  induction l with
  | nil => exact h2.elim
  | cons p l ih =>
   obtain ⟨j, k⟩ := p
   simp only [xq.fnd] at h2
   cases hb : Nat.beq j i with
   | true =>
    rw [hb] at h2
    have : j = i := Nat.eq_of_beq_eq_true hb
    subst this
    exact hl _ List.mem_cons_self rfl h2
   | false =>
    rw [hb] at h2
    exact ih (fun p hp => hl p (List.mem_cons_of_mem _ hp)) h2
def LoopV (E : Env) (c : LCode) (ys : List (Nat × AV)) (n : Nat) (H : AHeap) (Q : LK) : Prop := ∀ d : Nat → AV, E.W c (toLF n (mkE ys d n)) H fun e T' H' => ∃ t', Tl t' T' ∧ Q e t' H'
theorem tl_one {t : TT} {T T' : Tmps} (h : Tl t T) (h' : Tl t T') : T = T' := List.ext_getElem? fun k => by rw [← h k, ← h' k]
theorem loop_at {c : LCode} {n : Nat} {t : TT} {T : Tmps} {H : AHeap} {Q : LK} {ys : List (Nat × AV)} (ht : Tl t T) (hn : T.length = n) (hy : ∀ p ∈ ys, p.2 = getF t p.1) (h : LoopV E c ys n H Q) : E.W c T H fun e T' H' => ∃ t', Tl t' T' ∧ Q e t' H' := by
 have h1 := h (getF t)
 rwa [tl_one (toLF_tl (ys := ys) (d := getF t) (n := n)) (mkE_eq ht hn hy)] at h1
theorem hand_ok {c : LCode} {n m : Nat} {t : TT} {T : Tmps} {H : AHeap} {Q : LK} {ys : List (Nat × AV)} {l : List (Nat × (TT → AHeap → Prop))} {r : TT → AHeap → Prop} (ht : Tl t T) (hn : T.length = n) (hm : c.asg = m) (h : LoopV E c ys n H (xq l r)) (hy : ∀ p ∈ ys, p.2 = getF t p.1)
    (hl : ∀ p ∈ l, ∀ t' H', p.2 t' H' → ∃ ys', (∀ p ∈ ys', p.2 = getF t' p.1) ∧ ∀ d : Nat → AV, Q (.exit p.1) (mkO m ys' d t 0 1) H') (hr : ∀ t' H', r t' H' → ∃ ys', (∀ p ∈ ys', p.2 = getF t' p.1) ∧ ∀ d : Nat → AV, Q .ret (mkO m ys' d t 0 1) H') : E.W c T H fun e T' H' => ∃ t', Tl t' T' ∧ Q e t' H' := by
  subst hm
  refine (W_frame (loop_at ht hn hy h)).mono fun e T' H' ⟨hf, t', ht', hq⟩ => xq_ok (fun p hp he h2 => ?_) (fun he h2 => ?_) hq
  · obtain ⟨ys', h3, h4⟩ := hl p hp t' H' h2
    subst he
    exact ⟨_, mkO_eq ht ht' hf h3, h4 _⟩
  · obtain ⟨ys', h3, h4⟩ := hr t' H' h2
    subst he
    exact ⟨_, mkO_eq ht ht' hf h3, h4 _⟩
theorem all_nil {α : Type} {P : α → Prop} : ∀ p ∈ ([] : List α), P p := by simp
theorem all_cons {α : Type} {P : α → Prop} {a : α} {l : List α} (h : P a) (h2 : ∀ p ∈ l, P p) : ∀ p ∈ a :: l, P p := by
 intro p hp
 rcases List.mem_cons.1 hp with rfl | hp
 ·exact h
 ·exact h2 p hp
theorem step_of {c : LCode} {n : Nat} {x : Ann} {H : AHeap} {Q : LK} {ys : List (Nat × AV)} {back : TT → AHeap → Prop} (hc : isLoop c = true) (ha : annOk x (lbody c) = true) (hh : HOk E n x (lbody c))
    (hb : ∀ t' H', back t' H' → ∃ ys', (∀ p ∈ ys', p.2 = getF t' p.1) ∧ LoopV E c ys' n H' Q) (h : ∀ d, D E x (lbody c) (mkE ys d n) H (thenV back Q)) : LoopV E c ys n H Q := by
  intro d
  cases c with
  | loop c =>
    rw [W_loop]
    have hn : (toLF n (mkE ys d n)).length = n := by simp [toLF]
    refine (W_frame (D_W n x toLF_tl ha hh hn (h d))).mono fun e T' H' ⟨hf, t', ht', hq⟩ => ?_
    cases e with
    | normal =>
      obtain ⟨ys', h3, h4⟩ := hb t' H' hq
      exact loop_at ht' (hf.1.trans hn) h3 h4
    | exit i => exact ⟨t', ht', hq⟩
    | ret => exact ⟨t', ht', hq⟩
  | _ => simp [isLoop] at hc
theorem LoopV.mono {c : LCode} {ys : List (Nat × AV)} {n : Nat} {H : AHeap} {Q Q' : LK} (h : LoopV E c ys n H Q) (hq : ∀ e t H, Q e t H → Q' e t H) : LoopV E c ys n H Q' :=
 fun d => (h d).mono fun _ _ _ ⟨t', h1, h2⟩ => ⟨t', h1, hq _ _ _ h2⟩
end Env
end Go.AE
namespace Go.AE
open Go
namespace Env
variable {E : Env}
@[congr] theorem J1_congr {f : AV → AHeap → Prop} {g g' : (AV → AHeap → Prop) → Prop} (h : g = g') : J1 f g = J1 f g' := by rw [h]
theorem Pick_b {b : Bool} {A B : Prop} : Pick (.bool b) A B ↔ if b = true then A else B := by cases b <;> simp
theorem Gd_tb {b : Bool} {A B : Prop} : Gd (.bool b) true A B ↔ if b = true then A else B := by cases b <;> simp
theorem Gd_fb {b : Bool} {A B : Prop} : Gd (.bool b) false A B ↔ if b = true then B else A := by cases b <;> simp
theorem and_bb {b q : Bool} {i2 : Decidable (b = true)} {R : AV → AHeap → Prop} {H : AHeap} : J1 (fun x H => (Nat → AV) → Two (.bool b) x (.bool false) fun v => R v H) (fun j => @ite _ (b = true) i2 (j (.bool q) H) (j undefA H)) ↔ R (.bool (b && q)) H := by
 unfold J1
 cases b <;> simp [Bnd]
theorem and_bb' {b q : Bool} {i2 : Decidable (b = true)} {R : AV → AHeap → Prop} {H : AHeap} : J1 (fun x H => Two (.bool b) x (.bool false) fun v => R v H) (fun j => @ite _ (b = true) i2 (j (.bool q) H) (j undefA H)) ↔ R (.bool (b && q)) H := by
 unfold J1
 cases b <;> simp [Bnd]
theorem jor_b {b q : Bool} {i2 : Decidable (b = true)} {f : AV → AHeap → Prop} {H : AHeap} : J1 f (fun j => @ite _ (b = true) i2 (j (.bool true) H) (j (.bool q) H)) ↔ f (.bool (b || q)) H := by
 unfold J1
 cases b <;> simp
theorem J0_j {f : AHeap → Prop} {H : AHeap} : J0 f (fun j => j H) ↔ f H := Iff.rfl
theorem J1_j {f : AV → AHeap → Prop} {a : AV} {H : AHeap} : J1 f (fun j => j a H) ↔ f a H := Iff.rfl
theorem J2_j {f : AV → AV → AHeap → Prop} {a b : AV} {H : AHeap} : J2 f (fun j => j a b H) ↔ f a b H := Iff.rfl
theorem J3_j {f : AV → AV → AV → AHeap → Prop} {a b c : AV} {H : AHeap} : J3 f (fun j => j a b c H) ↔ f a b c H := Iff.rfl
theorem J4_j {f : AV → AV → AV → AV → AHeap → Prop} {a b c d : AV} {H : AHeap} : J4 f (fun j => j a b c d H) ↔ f a b c d H := Iff.rfl
theorem J5_j {f : AV → AV → AV → AV → AV → AHeap → Prop} {a b c d e : AV} {H : AHeap} : J5 f (fun j => j a b c d e H) ↔ f a b c d e H := Iff.rfl
theorem J6_j {f : AV → AV → AV → AV → AV → AV → AHeap → Prop} {a b c d e i : AV} {H : AHeap} : J6 f (fun j => j a b c d e i H) ↔ f a b c d e i H := Iff.rfl
theorem Jk_j {f : AV → AHeap → Kd → Prop} {a : AV} {k : Kd} {H : AHeap} : Jk f (fun j => j a H k) ↔ f a H k := Iff.rfl
theorem all_d {A : Prop} : ((Nat → AV) → A) ↔ A := ⟨fun h => h fun _ => .bad, fun h _ => h⟩
theorem eqV_s {ng : Bool} {a b : List UInt8} : eqV ng .s (.str a) (.str b) = some (.bool (if ng then !(a == b) else a == b)) := Eq.trans rfl rfl
theorem eqV_b {ng : Bool} {a b : Bool} : eqV ng .b (.bool a) (.bool b) = some (.bool (if ng then !(a == b) else a == b)) := Eq.trans rfl rfl
theorem eqV_pn {ng : Bool} {b o v : Nat} : eqV ng .p (.ptr b o v) .nilptr = some (.bool (if ng then true else false)) := by cases ng <;> rfl
theorem eqV_nn {ng : Bool} : eqV ng .p .nilptr .nilptr = some (.bool (if ng then false else true)) := by cases ng <;> rfl
theorem ex_0 {a : AV} {l : List AV} : exV 0 (.tuple (a :: l)) = some a := Eq.trans rfl rfl
theorem ex_1 {a b : AV} {l : List AV} : exV 1 (.tuple (a :: b :: l)) = some b := Eq.trans rfl rfl
theorem ex_2 {a b c : AV} {l : List AV} : exV 2 (.tuple (a :: b :: c :: l)) = some c := Eq.trans rfl rfl
theorem ex_3 {a b c d : AV} {l : List AV} : exV 3 (.tuple (a :: b :: c :: d :: l)) = some d := Eq.trans rfl rfl
theorem CV_func2 {f : Nat} {a b : List AV} {args : List AV} {H : AHeap} {K : AV → AHeap → Kd → Prop} : CV E (.func f a b) args H K ↔ E.C f (a ++ args ++ b) H K := Iff.rfl
end Env
end Go.AE
namespace Go.AE.Env
open Go
variable {E : Env}
theorem C_by {f : Nat} {args : List AV} {v : AV} (h : ∃ v' H', v' = v ∧ E.Ans f args [] v' H') (hl : locFreeL args = true) (hk : E.keep f = false) (hf : ∀ Hc, freeze Hc 1000000000 v = some v) {H : AHeap} {K : AV → AHeap → Kd → Prop} : E.C f args H K ↔ K v H .p := by
 obtain ⟨v', H', rfl, h⟩ := h
 exact C_val h hl hk (hf H')
end Go.AE.Env
open Go Go.AE Go.AE.Env in
attribute [go_sem] all_d Opn_some Opn_none Res_some Res_none Res_pure Res_pure_none Pick_true Pick_false Pick_b Gd_undef Gd_tt Gd_tf Gd_ft Gd_ff Gd_tb Gd_fb Two_true Two_false Bnd_eq J0_j J1_j J2_j J3_j J4_j J5_j J6_j Jk_j and_bb and_bb' jor_b CV_func2 List.nil_append List.cons_append List.append_nil bi_lenStr bi_lenSl bi_append len1i len0i len_str len_nil len_lst len_sl bin_lss bin_geq bin_eql bin_eqls bin_neqs bin_add un_not eqV_s eqV_b eqV_pn eqV_nn ex_0 ex_1 ex_2 ex_3 idx_str0 wrap64 nil_ptr add_ptr ite_true ite_false if_true if_false Bool.false_eq_true Bool.true_eq_false Bool.not_true Bool.not_false Bool.true_and Bool.and_true Bool.false_and Bool.and_false Bool.true_or Bool.or_true Bool.false_or Bool.or_false decide_true decide_false List.length_nil not_true_eq_false not_false_eq_true decide_eq_true_eq ge_iff_le gt_iff_lt Int.ofNat_le Int.ofNat_lt Int.toNat_natCast Int.toNat_sub sl_to
namespace Go.AE.Env
open Go
theorem cast_succ {n : Nat} : ((n : Nat) : Int) + 1 = ((n + 1 : Nat) : Int) := by simp
attribute [go_sem] cast_succ
end Go.AE.Env
namespace Go.AE.Env
open Go
theorem lit_i1 {z : AV} {k : IntKind} {a0 : Int} : litV [z] 1 1 [(0, 1, .int k a0)] = some (.lst [.int k a0] 1 1 true) := Eq.trans rfl rfl
theorem lit_i2 {z : AV} {k : IntKind} {a0 a1 : Int} : litV [z] 2 1 [(0, 1, .int k a0), (1, 1, .int k a1)] = some (.lst [.int k a0, .int k a1] 2 1 true) := Eq.trans rfl rfl
theorem lit_i3 {z : AV} {k : IntKind} {a0 a1 a2 : Int} : litV [z] 3 1 [(0, 1, .int k a0), (1, 1, .int k a1), (2, 1, .int k a2)] = some (.lst [.int k a0, .int k a1, .int k a2] 3 1 true) := Eq.trans rfl rfl
theorem lit_i4 {z : AV} {k : IntKind} {a0 a1 a2 a3 : Int} : litV [z] 4 1 [(0, 1, .int k a0), (1, 1, .int k a1), (2, 1, .int k a2), (3, 1, .int k a3)] = some (.lst [.int k a0, .int k a1, .int k a2, .int k a3] 4 1 true) := Eq.trans rfl rfl
theorem lit_i5 {z : AV} {k : IntKind} {a0 a1 a2 a3 a4 : Int} : litV [z] 5 1 [(0, 1, .int k a0), (1, 1, .int k a1), (2, 1, .int k a2), (3, 1, .int k a3), (4, 1, .int k a4)] = some (.lst [.int k a0, .int k a1, .int k a2, .int k a3, .int k a4] 5 1 true) := Eq.trans rfl rfl
theorem lit_i6 {z : AV} {k : IntKind} {a0 a1 a2 a3 a4 a5 : Int} : litV [z] 6 1 [(0, 1, .int k a0), (1, 1, .int k a1), (2, 1, .int k a2), (3, 1, .int k a3), (4, 1, .int k a4), (5, 1, .int k a5)] = some (.lst [.int k a0, .int k a1, .int k a2, .int k a3, .int k a4, .int k a5] 6 1 true) := Eq.trans rfl rfl
theorem lit_i7 {z : AV} {k : IntKind} {a0 a1 a2 a3 a4 a5 a6 : Int} : litV [z] 7 1 [(0, 1, .int k a0), (1, 1, .int k a1), (2, 1, .int k a2), (3, 1, .int k a3), (4, 1, .int k a4), (5, 1, .int k a5), (6, 1, .int k a6)] = some (.lst [.int k a0, .int k a1, .int k a2, .int k a3, .int k a4, .int k a5, .int k a6] 7 1 true) := Eq.trans rfl rfl
theorem lit_i8 {z : AV} {k : IntKind} {a0 a1 a2 a3 a4 a5 a6 a7 : Int} : litV [z] 8 1 [(0, 1, .int k a0), (1, 1, .int k a1), (2, 1, .int k a2), (3, 1, .int k a3), (4, 1, .int k a4), (5, 1, .int k a5), (6, 1, .int k a6), (7, 1, .int k a7)] = some (.lst [.int k a0, .int k a1, .int k a2, .int k a3, .int k a4, .int k a5, .int k a6, .int k a7] 8 1 true) := Eq.trans rfl rfl
theorem lit_i9 {z : AV} {k : IntKind} {a0 a1 a2 a3 a4 a5 a6 a7 a8 : Int} : litV [z] 9 1 [(0, 1, .int k a0), (1, 1, .int k a1), (2, 1, .int k a2), (3, 1, .int k a3), (4, 1, .int k a4), (5, 1, .int k a5), (6, 1, .int k a6), (7, 1, .int k a7), (8, 1, .int k a8)] = some (.lst [.int k a0, .int k a1, .int k a2, .int k a3, .int k a4, .int k a5, .int k a6, .int k a7, .int k a8] 9 1 true) := Eq.trans rfl rfl
theorem lit_i10 {z : AV} {k : IntKind} {a0 a1 a2 a3 a4 a5 a6 a7 a8 a9 : Int} : litV [z] 10 1 [(0, 1, .int k a0), (1, 1, .int k a1), (2, 1, .int k a2), (3, 1, .int k a3), (4, 1, .int k a4), (5, 1, .int k a5), (6, 1, .int k a6), (7, 1, .int k a7), (8, 1, .int k a8), (9, 1, .int k a9)] = some (.lst [.int k a0, .int k a1, .int k a2, .int k a3, .int k a4, .int k a5, .int k a6, .int k a7, .int k a8, .int k a9] 10 1 true) := Eq.trans rfl rfl
theorem lit_i11 {z : AV} {k : IntKind} {a0 a1 a2 a3 a4 a5 a6 a7 a8 a9 a10 : Int} : litV [z] 11 1 [(0, 1, .int k a0), (1, 1, .int k a1), (2, 1, .int k a2), (3, 1, .int k a3), (4, 1, .int k a4), (5, 1, .int k a5), (6, 1, .int k a6), (7, 1, .int k a7), (8, 1, .int k a8), (9, 1, .int k a9), (10, 1, .int k a10)] = some (.lst [.int k a0, .int k a1, .int k a2, .int k a3, .int k a4, .int k a5, .int k a6, .int k a7, .int k a8, .int k a9, .int k a10] 11 1 true) := Eq.trans rfl rfl
theorem lit_i12 {z : AV} {k : IntKind} {a0 a1 a2 a3 a4 a5 a6 a7 a8 a9 a10 a11 : Int} : litV [z] 12 1 [(0, 1, .int k a0), (1, 1, .int k a1), (2, 1, .int k a2), (3, 1, .int k a3), (4, 1, .int k a4), (5, 1, .int k a5), (6, 1, .int k a6), (7, 1, .int k a7), (8, 1, .int k a8), (9, 1, .int k a9), (10, 1, .int k a10), (11, 1, .int k a11)] = some (.lst [.int k a0, .int k a1, .int k a2, .int k a3, .int k a4, .int k a5, .int k a6, .int k a7, .int k a8, .int k a9, .int k a10, .int k a11] 12 1 true) := Eq.trans rfl rfl
theorem lit_s1 {z : AV} {a0 : List UInt8} : litV [z] 1 1 [(0, 1, .str a0)] = some (.lst [.str a0] 1 1 true) := Eq.trans rfl rfl
theorem lit_s2 {z : AV} {a0 a1 : List UInt8} : litV [z] 2 1 [(0, 1, .str a0), (1, 1, .str a1)] = some (.lst [.str a0, .str a1] 2 1 true) := Eq.trans rfl rfl
theorem lit_s3 {z : AV} {a0 a1 a2 : List UInt8} : litV [z] 3 1 [(0, 1, .str a0), (1, 1, .str a1), (2, 1, .str a2)] = some (.lst [.str a0, .str a1, .str a2] 3 1 true) := Eq.trans rfl rfl
theorem lit_s4 {z : AV} {a0 a1 a2 a3 : List UInt8} : litV [z] 4 1 [(0, 1, .str a0), (1, 1, .str a1), (2, 1, .str a2), (3, 1, .str a3)] = some (.lst [.str a0, .str a1, .str a2, .str a3] 4 1 true) := Eq.trans rfl rfl
theorem lit_s5 {z : AV} {a0 a1 a2 a3 a4 : List UInt8} : litV [z] 5 1 [(0, 1, .str a0), (1, 1, .str a1), (2, 1, .str a2), (3, 1, .str a3), (4, 1, .str a4)] = some (.lst [.str a0, .str a1, .str a2, .str a3, .str a4] 5 1 true) := Eq.trans rfl rfl
theorem lit_s6 {z : AV} {a0 a1 a2 a3 a4 a5 : List UInt8} : litV [z] 6 1 [(0, 1, .str a0), (1, 1, .str a1), (2, 1, .str a2), (3, 1, .str a3), (4, 1, .str a4), (5, 1, .str a5)] = some (.lst [.str a0, .str a1, .str a2, .str a3, .str a4, .str a5] 6 1 true) := Eq.trans rfl rfl
theorem lit_s7 {z : AV} {a0 a1 a2 a3 a4 a5 a6 : List UInt8} : litV [z] 7 1 [(0, 1, .str a0), (1, 1, .str a1), (2, 1, .str a2), (3, 1, .str a3), (4, 1, .str a4), (5, 1, .str a5), (6, 1, .str a6)] = some (.lst [.str a0, .str a1, .str a2, .str a3, .str a4, .str a5, .str a6] 7 1 true) := Eq.trans rfl rfl
theorem lit_s8 {z : AV} {a0 a1 a2 a3 a4 a5 a6 a7 : List UInt8} : litV [z] 8 1 [(0, 1, .str a0), (1, 1, .str a1), (2, 1, .str a2), (3, 1, .str a3), (4, 1, .str a4), (5, 1, .str a5), (6, 1, .str a6), (7, 1, .str a7)] = some (.lst [.str a0, .str a1, .str a2, .str a3, .str a4, .str a5, .str a6, .str a7] 8 1 true) := Eq.trans rfl rfl
theorem lit_s9 {z : AV} {a0 a1 a2 a3 a4 a5 a6 a7 a8 : List UInt8} : litV [z] 9 1 [(0, 1, .str a0), (1, 1, .str a1), (2, 1, .str a2), (3, 1, .str a3), (4, 1, .str a4), (5, 1, .str a5), (6, 1, .str a6), (7, 1, .str a7), (8, 1, .str a8)] = some (.lst [.str a0, .str a1, .str a2, .str a3, .str a4, .str a5, .str a6, .str a7, .str a8] 9 1 true) := Eq.trans rfl rfl
theorem lit_s10 {z : AV} {a0 a1 a2 a3 a4 a5 a6 a7 a8 a9 : List UInt8} : litV [z] 10 1 [(0, 1, .str a0), (1, 1, .str a1), (2, 1, .str a2), (3, 1, .str a3), (4, 1, .str a4), (5, 1, .str a5), (6, 1, .str a6), (7, 1, .str a7), (8, 1, .str a8), (9, 1, .str a9)] = some (.lst [.str a0, .str a1, .str a2, .str a3, .str a4, .str a5, .str a6, .str a7, .str a8, .str a9] 10 1 true) := Eq.trans rfl rfl
theorem lit_f1 {z : AV} {a0 : Nat} {pa0 qa0 : List AV} : litV [z] 1 1 [(0, 1, .func a0 pa0 qa0)] = some (.lst [.func a0 pa0 qa0] 1 1 true) := Eq.trans rfl rfl
theorem lit_f2 {z : AV} {a0 a1 : Nat} {pa0 qa0 pa1 qa1 : List AV} : litV [z] 2 1 [(0, 1, .func a0 pa0 qa0), (1, 1, .func a1 pa1 qa1)] = some (.lst [.func a0 pa0 qa0, .func a1 pa1 qa1] 2 1 true) := Eq.trans rfl rfl
theorem lit_f3 {z : AV} {a0 a1 a2 : Nat} {pa0 qa0 pa1 qa1 pa2 qa2 : List AV} : litV [z] 3 1 [(0, 1, .func a0 pa0 qa0), (1, 1, .func a1 pa1 qa1), (2, 1, .func a2 pa2 qa2)] = some (.lst [.func a0 pa0 qa0, .func a1 pa1 qa1, .func a2 pa2 qa2] 3 1 true) := Eq.trans rfl rfl
theorem lit_f4 {z : AV} {a0 a1 a2 a3 : Nat} {pa0 qa0 pa1 qa1 pa2 qa2 pa3 qa3 : List AV} : litV [z] 4 1 [(0, 1, .func a0 pa0 qa0), (1, 1, .func a1 pa1 qa1), (2, 1, .func a2 pa2 qa2), (3, 1, .func a3 pa3 qa3)] = some (.lst [.func a0 pa0 qa0, .func a1 pa1 qa1, .func a2 pa2 qa2, .func a3 pa3 qa3] 4 1 true) := Eq.trans rfl rfl
theorem lit_f5 {z : AV} {a0 a1 a2 a3 a4 : Nat} {pa0 qa0 pa1 qa1 pa2 qa2 pa3 qa3 pa4 qa4 : List AV} : litV [z] 5 1 [(0, 1, .func a0 pa0 qa0), (1, 1, .func a1 pa1 qa1), (2, 1, .func a2 pa2 qa2), (3, 1, .func a3 pa3 qa3), (4, 1, .func a4 pa4 qa4)] = some (.lst [.func a0 pa0 qa0, .func a1 pa1 qa1, .func a2 pa2 qa2, .func a3 pa3 qa3, .func a4 pa4 qa4] 5 1 true) := Eq.trans rfl rfl
attribute [go_sem] lit_i1 lit_i2 lit_i3 lit_i4 lit_i5 lit_i6 lit_i7 lit_i8 lit_i9 lit_i10 lit_i11 lit_i12 lit_s1 lit_s2 lit_s3 lit_s4 lit_s5 lit_s6 lit_s7 lit_s8 lit_s9 lit_s10 lit_f1 lit_f2 lit_f3 lit_f4 lit_f5
end Go.AE.Env
namespace Go.AE.Env
open Go
theorem conv_i {H : AHeap} {k k' : IntKind} {n : Int} : convA H (.int k) (.int k' n) = some (.int k (k.wrap n), H, .p) := Eq.trans rfl rfl
attribute [go_sem] conv_i true_and and_true and_self Int.cast_ofNat_Int
end Go.AE.Env
namespace Go.AE.Env
open Go
end Go.AE.Env
namespace Go.AE.Env
open Go
end Go.AE.Env
namespace Go.AE.Env
open Go
variable {E : Env}
end Go.AE.Env
namespace Go.AE.Env
open Go
theorem idx_str1 {a b : UInt8} {s : List UInt8} {k : IntKind} {H : AHeap} : fIdxStr (.str (a :: b :: s)) (.int k 1) H = some (.int .u8 b.toNat, H, .p) := Eq.trans rfl rfl
theorem eqV_if {ng n : Bool} {t : List (Nat × ETy)} {g : Nat} {v : AV} : eqV ng (.ifc n t) (.iface g v) .nilIface = some (.bool (if ng then true else false)) := by cases ng <;> rfl
theorem eqV_nif {ng : Bool} {t : List (Nat × ETy)} : eqV ng (.ifc true t) .nilIface .nilIface = some (.bool (if ng then false else true)) := by cases ng <;> rfl
attribute [go_sem] idx_str1 eqV_if eqV_nif
end Go.AE.Env
namespace Go.AE.Env
open Go
theorem J0_c {f : AHeap → Prop} {A : Prop} : J0 f (fun _ => A) ↔ A := Iff.rfl
theorem J1_c {f : AV → AHeap → Prop} {A : Prop} : J1 f (fun _ => A) ↔ A := Iff.rfl
theorem J2_c {f : AV → AV → AHeap → Prop} {A : Prop} : J2 f (fun _ => A) ↔ A := Iff.rfl
theorem J3_c {f : AV → AV → AV → AHeap → Prop} {A : Prop} : J3 f (fun _ => A) ↔ A := Iff.rfl
theorem J4_c {f : AV → AV → AV → AV → AHeap → Prop} {A : Prop} : J4 f (fun _ => A) ↔ A := Iff.rfl
theorem J5_c {f : AV → AV → AV → AV → AV → AHeap → Prop} {A : Prop} : J5 f (fun _ => A) ↔ A := Iff.rfl
theorem J6_c {f : AV → AV → AV → AV → AV → AV → AHeap → Prop} {A : Prop} : J6 f (fun _ => A) ↔ A := Iff.rfl
attribute [go_sem] J0_c J1_c J2_c J3_c J4_c J5_c J6_c
end Go.AE.Env
namespace Go.AE.Env
open Go
theorem beq_selfB {b : Bool} : (b == b) = true := by cases b <;> rfl
attribute [go_sem] beq_selfB
end Go.AE.Env
