/- The evaluator for the kernel. -/
import Derived.Test.YtibjieaohbnpgaaGreatDoorA1
import Derived.Test.YtibjieaohbnpgaaGreatDoorA4
set_option linter.all false
set_option linter.unusedSimpArgs false
set_option linter.unusedVariables false
set_option linter.unnecessarySimpa false
set_option linter.deprecated false
namespace Go.AE
inductive TT where
 | l
 | n (v : AV) (a b : TT)
def TT.getO : TT → Nat → Option AV
 | .l, _ => none
 | .n v _ _, 0 => some v
 | .n _ a b, m + 1 => if m % 2 = 0 then a.getO (m / 2) else b.getO (m / 2)
noncomputable def getF (t : TT) : Nat → AV :=
  TT.rec (motive := fun _ => Nat → AV) (fun _ => undefA)
    (fun v _ _ ga gb k => Nat.rec (motive := fun _ => AV) v (fun m _ => Bool.rec (motive := fun _ => AV) (gb (Nat.div m 2)) (ga (Nat.div m 2)) (Nat.beq (Nat.mod m 2) 0)) k) t
noncomputable def setF (t : TT) : Nat → AV → TT :=
  TT.rec (motive := fun _ => Nat → AV → TT) (fun _ _ => .l)
    (fun v a b ga gb k w => Nat.rec (motive := fun _ => TT) (.n w a b) (fun m _ => Bool.rec (motive := fun _ => TT) (.n v a (gb (Nat.div m 2) w)) (.n v (ga (Nat.div m 2) w) b) (Nat.beq (Nat.mod m 2) 0)) k) t
noncomputable def mkF (fuel : Nat) : Nat → Nat → Nat → TT :=
  Nat.rec (motive := fun _ => Nat → Nat → Nat → TT) (fun _ _ _ => .l)
    (fun _ ih g s L => Bool.rec (motive := fun _ => TT) (.n undefA (ih (Nat.add g s) (Nat.add s s) L) (ih (Nat.add g (Nat.add s s)) (Nat.add s s) L)) .l (Nat.ble L g)) fuel
noncomputable def setAllF (vs : List AV) : TT → Nat → TT :=
 List.rec (motive := fun _ => TT → Nat → TT) (fun t _ => t) (fun v _ ih t k => ih (setF t k v) (Nat.succ k)) vs
def Tl (t : TT) (T : Tmps) : Prop := ∀ k, t.getO k = T[k]?
theorem getF_eq : ∀ (t : TT) (k : Nat), getF t k = (t.getO k).getD undefA
 | .l, k => rfl
 | .n v a b, 0 => rfl
 | .n v a b, m + 1 => by
  show Bool.rec (motive := fun _ => AV) (getF b (m / 2)) (getF a (m / 2)) (Nat.beq (m % 2) 0) = _
  simp only [TT.getO]
  rw [getF_eq a, getF_eq b]
  rcases Nat.mod_two_eq_zero_or_one m with h | h <;> rw [h] <;> rfl
theorem setF_eq : ∀ (t : TT) (k : Nat) (w : AV) (j : Nat), (setF t k w).getO j = if j = k then (t.getO k).map fun _ => w else t.getO j
 | .l, k, w, j => by simp [setF, TT.getO]
 | .n v a b, 0, w, j => by
  cases j with
  | zero => rfl
  | succ j => rfl
 | .n v a b, m + 1, w, j => by
  show (Bool.rec (motive := fun _ => TT) (.n v a (setF b (m / 2) w)) (.n v (setF a (m / 2) w) b) (Nat.beq (m % 2) 0)).getO j = _
  rcases Nat.mod_two_eq_zero_or_one m with h | h
  ·rw [h]
   show (TT.n v (setF a (m / 2) w) b).getO j = _
   cases j with
   | zero => simp [TT.getO]
   | succ j =>
    simp only [TT.getO, Nat.add_right_cancel_iff, h, if_true]
    rw [setF_eq a]
    by_cases e : j = m
    ·subst e; simp [h]
    ·rw [if_neg e]
     split
     ·rename_i h2
      rw [if_neg (by omega)]
     ·rfl
  ·rw [h]
   show (TT.n v a (setF b (m / 2) w)).getO j = _
   cases j with
   | zero => simp [TT.getO]
   | succ j =>
    simp only [TT.getO, Nat.add_right_cancel_iff, h]
    rw [setF_eq b]
    by_cases e : j = m
    ·subst e; simp [h]
    ·rw [if_neg e]
     split
     ·rfl
     ·rename_i h2
      rw [if_neg (by omega)]
theorem Tl.get {t : TT} {T : Tmps} (h : Tl t T) (k : Nat) : getF t k = T.getD k undefA := by
 rw [getF_eq, h k, List.getD_eq_getElem?_getD]
theorem Tl.set {t : TT} {T : Tmps} (h : Tl t T) (k : Nat) (v : AV) : Tl (setF t k v) (T.set k v) := by
 intro j
 rw [setF_eq, List.getElem?_set, h j, h k]
 by_cases e : j = k
 ·subst e
  by_cases hl : j < T.length <;> simp [hl]
 ·rw [if_neg e, if_neg (fun h => e h.symm)]
theorem mkF_eq : ∀ (fuel g s L k : Nat), 0 < s → L ≤ fuel + g → (mkF fuel g s L).getO k = if g + s * k < L then some undefA else none
  | 0, g, s, L, k, hs, h => by
    have : ¬ g + s * k < L := by have := Nat.le_add_right g (s * k); omega
    rw [if_neg this]; rfl
  | fuel + 1, g, s, L, k, hs, h => by
    show (Bool.rec (motive := fun _ => TT) (.n undefA (mkF fuel (g + s) (s + s) L) (mkF fuel (g + (s + s)) (s + s) L)) .l (Nat.ble L g)).getO k = _
    by_cases hl : L ≤ g
    · have : Nat.ble L g = true := Nat.ble_eq_true_of_le hl
      rw [this]
      have : ¬ g + s * k < L := by have := Nat.le_add_right g (s * k); omega
      rw [if_neg this]; rfl
    · have : Nat.ble L g = false := by
        cases hb : Nat.ble L g with
        | false => rfl
        | true => exact absurd (Nat.le_of_ble_eq_true hb) hl
      rw [this]
      show (TT.n undefA (mkF fuel (g + s) (s + s) L) (mkF fuel (g + (s + s)) (s + s) L)).getO k = _
      cases k with
      | zero => simp only [TT.getO, Nat.mul_zero, Nat.add_zero]; rw [if_pos (by omega)]
      | succ m =>
        simp only [TT.getO]
        rw [mkF_eq fuel _ _ _ _ (by omega) (by omega), mkF_eq fuel _ _ _ _ (by omega) (by omega)]
        rcases Nat.mod_two_eq_zero_or_one m with h2 | h2
        · rw [if_pos h2]
          have e : s * (m + 1) = s + (s + s) * (m / 2) := by
            have hm : m = 2 * (m / 2) := by omega
            generalize m / 2 = q at hm
            subst hm
            rw [Nat.mul_succ, ← Nat.mul_assoc, Nat.mul_two]; omega
          rw [e, Nat.add_assoc]
        · rw [if_neg (by omega)]
          have e : s * (m + 1) = (s + s) + (s + s) * (m / 2) := by
            have hm : m = 2 * (m / 2) + 1 := by omega
            generalize m / 2 = q at hm
            subst hm
            rw [Nat.mul_succ, Nat.mul_succ, ← Nat.mul_assoc, Nat.mul_two]; omega
          rw [e, Nat.add_assoc]
theorem Tl.mk (n : Nat) : Tl (mkF n 0 1 n) (List.replicate n undefA) := by
 intro k
 rw [mkF_eq n 0 1 n k (by omega) (by omega), List.getElem?_replicate]
 simp
theorem setAll_ok : ∀ (vs : List AV) (t : TT) (pre post : List AV), vs.length ≤ post.length → Tl t (pre ++ post) → Tl (setAllF vs t pre.length) (pre ++ vs ++ post.drop vs.length)
 | [], t, pre, post, _, h => by simpa [setAllF] using h
 | v :: vs, t, pre, [], hl, h => by simp at hl
 | v :: vs, t, pre, p :: post, hl, h => by
  have h1 := h.set pre.length v
  have h2 := setAll_ok vs (setF t pre.length v) (pre ++ [v]) post (by simpa using hl) (by simpa using h1)
  simpa [setAllF] using h2
noncomputable def startF (nt : Nat) (args : List AV) : TT := setAllF args (mkF nt 0 1 nt) 0
theorem Tl.start {args : List AV} {nt : Nat} (h : args.length ≤ nt) : Tl (startF nt args) (args ++ List.replicate (nt - args.length) undefA) := by
 have := setAll_ok args (mkF nt 0 1 nt) [] (List.replicate nt undefA) (by simpa using h) (by simpa using Tl.mk nt)
 simpa [startF] using this
noncomputable def evF (x : Opd) (t : TT) : AV := Opd.rec (motive := fun _ => AV) (fun n => getF t n) (fun v => v) (fun i => .func i [] []) x
noncomputable def mapF (xs : List Opd) (t : TT) : List AV := List.rec (motive := fun _ => List AV) [] (fun x _ ih => evF x t :: ih) xs
noncomputable def evoF (x : Option Opd) (t : TT) : Option AV := Option.rec (motive := fun _ => Option AV) none (fun x => some (evF x t)) x
def fillF (x : AV) (o sz : Nat) (k : List AV → Option (List AV)) (cs : List AV) : Option (List AV) :=
 if x.cells.length = sz ∧ o + sz ≤ cs.length ∧ 0 < sz then k (putCells cs o x.cells) else none
noncomputable def fillsF (ps : List (Nat × Nat × Opd)) (t : TT) : List AV → Option (List AV) :=
 List.rec (motive := fun _ => List AV → Option (List AV)) (fun cs => some cs) (fun p _ ih cs => fillF (evF p.2.2 t) p.1 p.2.1 ih cs) ps
section
variable {t : TT} {T : Tmps}
theorem Tl.ev (h : Tl t T) : ∀ x : Opd, evF x t = ev T x
 | .t n => h.get n
 | .c _ => rfl
 | .f _ => rfl
theorem Tl.evs (h : Tl t T) : ∀ xs : List Opd, mapF xs t = xs.map (AE.ev T)
 | [] => rfl
 | x :: xs => by
  show evF x t :: mapF xs t = _
  rw [h.ev, h.evs]; rfl
theorem Tl.evo (h : Tl t T) : ∀ x : Option Opd, evoF x t = AE.evo T x
 | none => rfl
 | some x => by
  show some (evF x t) = _
  rw [h.ev]; rfl
theorem Tl.fills (h : Tl t T) : ∀ (ps : List (Nat × Nat × Opd)) (cs : List AV), fillsF ps t cs = fillA T cs ps
 | [], _ => rfl
 | (o, sz, x) :: ps, cs => by
  show fillF (evF x t) o sz (fillsF ps t) cs = _
  rw [h.ev]
  simp only [fillF, fillA]
  split
  ·exact h.fills ps _
  ·rfl
end
def fPick (c a b : AV) (H : AHeap) : ARes := match c with
 | .bool c => pureV H (some (if c then a else b))
 | _ => none
def fAlloc (zero : List AV) (tag : Nat) (H : AHeap) : ARes := if zero.length = 0 then none else some (.ptr H.length 0 zero.length, H ++ [.cells zero tag zero.length 0], .a H.length)
def fNilChk (x : AV) (H : AHeap) : ARes := match x with
 | .ptr b o v => pureV H (some (.ptr b o v))
 | .elt cs o => pureV H (some (.elt cs o))
 | .iface t v => pureV H (some (.iface t v))
 | .func f a b => pureV H (some (.func f a b))
 | _ => none
def fEq (neg : Bool) (t : ETy) (x y : AV) (H : AHeap) : ARes := pureV H ((aEq t x y).map fun b => .bool (if neg then !b else b))
def fMkSlice (zero : List AV) (sz bytes tag : Nat) (n c : AV) (H : AHeap) : ARes := match asI n, asI c with
  | some n, some c =>
   if 0 ≤ n ∧ n ≤ c ∧ c * bytes ≤ 2 ^ 40 ∧ 0 < bytes ∧ 0 < sz then
    some (.sl H.length 0 n.toNat sz (n.toNat * sz) (some c.toNat), H ++ [.cells (repCells n.toNat zero) tag (n.toNat * sz) 0], .a H.length)
   else none
  | _, _ => none
def fSlStr (x : AV) (lo hi : Option AV) (H : AHeap) : ARes := match x with
  | .str s => match bounds s.length lo hi with
   | some (l, h) => pureV H (some (.str ((s.take h).drop l)))
   | none => none
  | _ => none
def fSlArr (len sz : Nat) (x : AV) (lo hi mx : Option AV) (H : AHeap) : ARes := match x, bounds len lo hi with
  | .ptr b o v, some (l, h) =>
   if mx.isSome then none
   else if (match H[b]? with | some (.cells _ _ wv st) => decide (st < 2 ∧ wv ≤ v ∧ o + len * sz ≤ v) | _ => false) then
    some (.sl b (o + l * sz) (h - l) sz v (some (len - l)), H, .r b)
   else none
  | _, _ => none
def fField (off sz : Nat) (ag : Bool) (x : AV) (H : AHeap) : ARes := match x with
  | .agg cs => pureV H (part cs off sz ag)
  | _ => none
def fIdxArrAddr (len sz : Nat) (x i : AV) (H : AHeap) : ARes := match asI i with
  | some i => if 0 ≤ i ∧ i < len then pureV H (addA (i.toNat * sz) x) else none
  | none => none
def fIdxStr (x i : AV) (H : AHeap) : ARes := match x, asI i with
  | .str s, some i => if 0 ≤ i then pureV H (s[i.toNat]?.map fun b => .int .u8 b.toNat) else none
  | _, _ => none
def fIdxArr (len sz : Nat) (ag : Bool) (x i : AV) (H : AHeap) : ARes := match x, asI i with
  | .agg cs, some i => if 0 ≤ i ∧ i < len then pureV H (part cs (i.toNat * sz) sz ag) else none
  | _, _ => none
def fLookup (k : ETy) (zero : AV) (ok : Bool) (x i : AV) (H : AHeap) : ARes :=
  let out (r : Option (Nat × AV)) : AV :=
   let v := match r with | some (_, v) => v | none => zero
   if ok then .tuple [v, .bool r.isSome] else v
  match x with
  | .nilmap => pureV H ((findA k i [] 0).map out)
  | .map b => match H[b]? with
   | some (.map es) => if k.plainKey then readV H b ((findA k i es 0).map out) else none
   | _ => none
  | _ => none
def fMapUpd (k : ETy) (m i x : AV) (H : AHeap) : ARes := match m with
  | .map b => match H[b]? with
   | some (.map es) => if k.plainKey then match findA k i es 0 with
     | some (some (j, _)) => some (undefA, H.set b (.map (es.set j (i, x))), .l)
     | some none => some (undefA, H.set b (.map (es ++ [(i, x)])), .l)
     | none => none
    else none
   | _ => none
  | _ => none
def fRangeStr (x : AV) (H : AHeap) : ARes := match x with
  | .str s => some (.ptr H.length 0 0, H ++ [.iter s 0], .a H.length)
  | _ => none
def fNextStr (x : AV) (H : AHeap) : ARes := match x with
  | .ptr b 0 0 => match H[b]? with
   | some (.iter s pos) =>
    if pos < s.length then
     let cw := utf8Dec s pos
     some (.tuple [.bool true, .int .i64 pos, .int .i32 cw.1], H.set b (.iter s (pos + cw.2)), .l)
    else some (.tuple [.bool false], H, .l)
   | _ => none
  | _ => none
def fRangeMap (x : AV) (H : AHeap) : ARes := match x with
  | .map m => match H[m]? with
   | some (.map _) => some (.ptr H.length 0 0, H ++ [.miter m], .l)
   | _ => none
  | _ => none
def fNextMap (x : AV) (H : AHeap) : ARes := match x with
  | .ptr b 0 0 => match H[b]? with
   | some (.miter m) => match H[m]? with
    | some (.map []) => some (.tuple [.bool false], H, .l)
    | _ => none
   | _ => none
  | _ => none
def fExtract (i : Nat) (x : AV) (H : AHeap) : ARes := match x with
  | .tuple vs => pureV H vs[i]?
  | _ => none
def fCallV (keep : Nat → Bool) (call : ACall) (x : AV) (args : List AV) (H : AHeap) : ARes := match x with
  | .func f first captured => callA keep call f (first ++ args ++ captured) H
  | .yld b => (call true b args H).map fun (v, H') => (v, H', .c H H')
  | _ => none
def fInvoke (keep : Nat → Bool) (call : ACall) (rows : List (Nat × Nat)) (x : AV) (args : List AV) (H : AHeap) : ARes := match x with
  | .iface g v => match rowOfTag rows g with
   | some f => callA keep call f (v :: args) H
   | none => none
  | _ => none
noncomputable def fCall (keep : Nat → Bool) (call : ACall) (c : LCallee) (args : List Opd) (t : TT) (H : AHeap) : ARes :=
 LCallee.rec (motive := fun _ => ARes) (fun b => builtinA H b (mapF args t)) (fun f => callA keep call f (mapF args t) H) (fun x => fCallV keep call (evF x t) (mapF args t) H) (fun x rows => fInvoke keep call rows (evF x t) (mapF args t) H) c
noncomputable def operF (keep : Nat → Bool) (call : ACall) (op : LOp) : TT → AHeap → ARes :=
  LOp.rec (motive := fun _ => TT → AHeap → ARes)
    (fun x t H => pureV H (some (evF x t)))
    (fun c a b t H => fPick (evF c t) (evF a t) (evF b t) H)
    (fun zero tag _ H => fAlloc zero tag H)
    (fun tag x t H => newVarA H (evF x t) tag)
    (fun zero ps t H => pureV H ((fillsF ps t zero).map .agg))
    (fun zero n sz ps t H => pureV H ((fillsF ps t (repCells n zero)).map fun cs => .lst cs n sz true))
    (fun sz ag x t H => loadA H sz ag (evF x t))
    (fun sz a x t H => storeA H sz (evF a t) (evF x t))
    (fun x t H => fNilChk (evF x t) H)
    (fun op x y t H => pureV H (binA op (evF x t) (evF y t)))
    (fun neg e x y t H => fEq neg e (evF x t) (evF y t) H)
    (fun op x t H => pureV H (unA op (evF x t)))
    (fun k x t H => convA H k (evF x t))
    (fun tag x t H => pureV H (some (.iface tag (evF x t))))
    (fun id first captured t H => pureV H (some (.func id (mapF first t) (mapF captured t))))
    (fun _ H => some (.map H.length, H ++ [.map []], .a H.length))
    (fun zero sz bytes tag n c t H => fMkSlice zero sz bytes tag (evF n t) (evF c t) H)
    (fun x lo hi t H => fSlStr (evF x t) (evoF lo t) (evoF hi t) H)
    (fun sz x lo hi mx t H => pureV H (sliceA sz (evF x t) (evoF lo t) (evoF hi t) (evoF mx t)))
    (fun len sz x lo hi mx t H => fSlArr len sz (evF x t) (evoF lo t) (evoF hi t) (evoF mx t) H)
    (fun off x t H => pureV H (addA off (evF x t)))
    (fun off sz ag x t H => fField off sz ag (evF x t) H)
    (fun sz x i t H => pureV H (idxAddrA sz (evF x t) (evF i t)))
    (fun len sz x i t H => fIdxArrAddr len sz (evF x t) (evF i t) H)
    (fun x i t H => fIdxStr (evF x t) (evF i t) H)
    (fun len sz ag x i t H => fIdxArr len sz ag (evF x t) (evF i t) H)
    (fun k zero ok x i t H => fLookup k zero ok (evF x t) (evF i t) H)
    (fun k m i x t H => fMapUpd k (evF m t) (evF i t) (evF x t) H)
    (fun x t H => fRangeStr (evF x t) H)
    (fun x t H => fNextStr (evF x t) H)
    (fun x t H => fRangeMap (evF x t) H)
    (fun x t H => fNextMap (evF x t) H)
    (fun i x t H => fExtract i (evF x t) H)
    (fun c args t H => fCall keep call c args t H)
    (fun _ _ => none)
    op
theorem operF_eq {keep : Nat → Bool} {call : ACall} {t : TT} {T : Tmps} (h : Tl t T) (H : AHeap) (op : LOp) : operF keep call op t H = operA keep call T H op := by
 cases op with
 | call c args =>
  cases c with
  | builtin b => show builtinA H b (mapF args t) = _; rw [h.evs]; rfl
  | fn f => show callA keep call f (mapF args t) H = _; rw [h.evs]; rfl
  | val x => show fCallV keep call (evF x t) (mapF args t) H = _; rw [h.evs, h.ev]; rfl
  | invoke x rows => show fInvoke keep call rows (evF x t) (mapF args t) H = _; rw [h.evs, h.ev]; rfl
 | build z ps => show pureV H ((fillsF ps t z).map .agg) = _; rw [h.fills]; rfl
 | lit z n sz ps => show pureV H ((fillsF ps t (repCells n z)).map fun cs => .lst cs n sz true) = _; rw [h.fills]; rfl
 | _ => simp only [operF, h.ev, h.evs, h.evo]; rfl
end Go.AE
namespace Go.AE
abbrev FRes := Option (AExit × TT × AHeap)
noncomputable def putF (t : TT) (d : Option Nat) (v : AV) : TT := Option.rec (motive := fun _ => TT) t (fun d => setF t d v) d
noncomputable def guardF (g : Option (Nat × Bool)) (t : TT) (yes no : FRes) : FRes :=
 Option.rec (motive := fun _ => FRes) yes (fun p => match getF t p.1 with
  | .bool b => Bool.rec (motive := fun _ => FRes) no yes (b == p.2)
  | .tuple [] => no
  | _ => none) g
def thenF (r : ARes) (k : AV → AHeap → Kd → FRes) : FRes := match r with
 | some (v, H, kd) => k v H kd
 | none => none
noncomputable def opsF (keep : Nat → Bool) (call : ACall) (ops : List LOper) : TT → AHeap → FRes :=
  List.rec (motive := fun _ => TT → AHeap → FRes) (fun t H => some (.normal, t, H))
    (fun o _ ih t H => guardF o.guard t (thenF (operF keep call o.op t H) fun v H' _ => ih (putF t o.d v) H') (ih (putF t o.d undefA) H)) ops
noncomputable def opsFd (keep : Nat → Bool) (call : ACall) (all ops : List LOper) : TT → AHeap → List Kd → FRes :=
  List.rec (motive := fun _ => TT → AHeap → List Kd → FRes) (fun t H ks => Bool.rec (motive := fun _ => FRes) none (some (.normal, t, H)) (drawOk all ks.reverse))
    (fun o _ ih t H ks => guardF o.guard t (thenF (operF keep call o.op t H) fun v H' kd => ih (putF t o.d v) H' (kd :: ks)) (ih (putF t o.d undefA) H (.p :: ks))) ops
def toLF (n : Nat) (t : TT) : List AV := (List.range n).map fun k => (t.getO k).getD undefA
def seqF (r : FRes) (k : TT → AHeap → FRes) : FRes := match r with
 | some (.normal, t, H) => k t H
 | r => r
def blockF (id : Nat) (r : FRes) : FRes := match r with
 | some (.exit i, t, H) => if i = id then some (.normal, t, H) else some (.exit i, t, H)
 | r => r
noncomputable def loopF (body : TT → AHeap → FRes) (n : Nat) : TT → AHeap → FRes :=
 Nat.rec (motive := fun _ => TT → AHeap → FRes) (fun _ _ => none) (fun _ ih t H => seqF (body t H) ih) n
noncomputable def condF (c : AV) (a b : FRes) : FRes := match c with
 | .bool c => Bool.rec (motive := fun _ => FRes) b a c
 | _ => none
def rangeF (nt : Nat) (keep : Nat → Bool) (call : ACall) (f : AV) (ps : List Nat) (as bd : LCode) (t : TT) (H : AHeap) : FRes := match f with
 | .func g first captured => if keep g = false then none else match call false g (first ++ [.yld H.length] ++ captured) (H ++ [.loop 0 none (toLF nt t) ps as bd]) with
   | some (_, H2) => match H2[H.length]? with
    | some (.loop st pd T' ps' as' bd') => if st = 1 then none else some (pd.getD .normal, t, H2.set H.length (.loop 3 pd T' ps' as' bd'))
    | _ => none
   | none => none
 | _ => none
noncomputable def codeF (nt : Nat) (keep : Nat → Bool) (call : ACall) (n : Nat) (c : LCode) : TT → AHeap → FRes :=
  LCode.rec (motive := fun _ => TT → AHeap → FRes)
    (fun t H => some (.normal, t, H))
    (fun draw ops => Bool.rec (motive := fun _ => TT → AHeap → FRes) (opsF keep call ops) (fun t H => opsFd keep call ops ops t H []) draw)
    (fun _ _ fa fb t H => seqF (fa t H) fb)
    (fun c _ _ fa fb t H => condF (evF c t) (fa t H) (fb t H))
    (fun id _ f t H => blockF id (f t H))
    (fun _ f => loopF f n)
    (fun id t H => some (.exit id, t, H))
    (fun t H => some (.ret, t, H))
    (fun _ _ => none)
    (fun f ps as bd _ _ t H => rangeF nt keep call (evF f t) ps as bd t H)
    c
structure Tn (nt : Nat) (t : TT) (T : Tmps) : Prop where
 l : Tl t T
 n : T.length = nt
theorem Tn.put {nt : Nat} {t : TT} {T : Tmps} (h : Tn nt t T) (d : Option Nat) (v : AV) : Tn nt (putF t d v) (putT T d v) := by
  cases d with
  | none => exact h
  | some d => exact ⟨h.l.set d v, by simp [putT, h.n]⟩
theorem Tn.toL {nt : Nat} {t : TT} {T : Tmps} (h : Tn nt t T) : toLF nt t = T := by
 refine List.ext_getElem? fun i => ?_
 simp only [toLF, List.getElem?_map]
 by_cases hi : i < nt
 ·have : i < T.length := by rw [h.n]; exact hi
  rw [List.getElem?_range hi, Option.map_some, h.l i, List.getElem?_eq_getElem this]; rfl
 ·rw [List.getElem?_eq_none (by simpa using hi), List.getElem?_eq_none (by rw [h.n]; omega)]; rfl
def Rl (nt : Nat) : FRes → ACodeRes → Prop
 | some (e, t, H), some (e', T, H') => e = e' ∧ Tn nt t T ∧ H = H'
 | none, none => True
 | _, _ => False
theorem guard_eq {nt : Nat} {t : TT} {T : Tmps} (h : Tn nt t T) (g : Option (Nat × Bool)) (yes no : FRes) : guardF g t yes no = match wantedA T g with | some true => yes | some false => no | none => none := by
 cases g with
 | none => rfl
 | some p =>
  obtain ⟨k, w⟩ := p
  show (match getF t k with
   | .bool b => Bool.rec (motive := fun _ => FRes) no yes (b == w)
   | .tuple [] => no
   | _ => none) = _
  rw [h.l.get k]
  simp only [wantedA]
  generalize T.getD k undefA = v
  split
  ·rename_i b
   simp only
   cases (b == w) <;> rfl
  ·rfl
  ·rename_i h1 h2
   split
   ·rename_i hq
    split at hq
    ·rename_i b _; exact absurd rfl (h1 _)
    ·exact absurd rfl h2
    ·simp at hq
   ·rename_i hq
    split at hq
    ·rename_i b _; exact absurd rfl (h1 _)
    ·exact absurd rfl h2
    ·simp at hq
   ·rfl
theorem ops_eq {nt : Nat} {keep : Nat → Bool} {call : ACall} : ∀ (ops : List LOper) (t : TT) (T : Tmps) (H : AHeap), Tn nt t T → Rl nt (opsF keep call ops t H) (match opsA keep call ops T H with | some (T', H', _) => some (.normal, T', H') | none => none)
 | [], t, T, H, h => ⟨rfl, h, rfl⟩
 | o :: l, t, T, H, h => by
  show Rl nt (guardF o.guard t (thenF (operF keep call o.op t H) fun v H' _ => opsF keep call l (putF t o.d v) H') (opsF keep call l (putF t o.d undefA) H)) _
  rw [guard_eq h, operF_eq h.l]
  simp only [opsA]
  split
  ·rename_i hw
   simp only [hw]
   cases hop : operA keep call T H o.op with
   | none => trivial
   | some r =>
    obtain ⟨v, H1, kd⟩ := r
    have := ops_eq (keep := keep) (call := call) l (putF t o.d v) (putT T o.d v) H1 (h.put o.d v)
    simp only [thenF]
    cases hr : opsA keep call l (putT T o.d v) H1 with
    | none => rw [hr] at this; exact this
    | some r => rw [hr] at this; exact this
  ·rename_i hw
   simp only [hw]
   have := ops_eq (keep := keep) (call := call) l (putF t o.d undefA) (putT T o.d undefA) H (h.put o.d undefA)
   cases hr : opsA keep call l (putT T o.d undefA) H with
   | none => rw [hr] at this; exact this
   | some r => rw [hr] at this; exact this
  ·rename_i hw
   simp only [hw]
   trivial
theorem opsd_eq {nt : Nat} {keep : Nat → Bool} {call : ACall} {all : List LOper} : ∀ (ops : List LOper) (t : TT) (T : Tmps) (H : AHeap) (ks : List Kd), Tn nt t T →
  Rl nt (opsFd keep call all ops t H ks) (match opsA keep call ops T H with | some (T', H', ks') => if drawOk all (ks.reverse ++ ks') then some (.normal, T', H') else none | none => none)
 | [], t, T, H, ks, h => by
  show Rl nt (Bool.rec (motive := fun _ => FRes) none (some (.normal, t, H)) (drawOk all ks.reverse)) _
  simp only [opsA, List.append_nil]
  cases drawOk all ks.reverse with
  | true => exact ⟨rfl, h, rfl⟩
  | false => trivial
 | o :: l, t, T, H, ks, h => by
  show Rl nt (guardF o.guard t (thenF (operF keep call o.op t H) fun v H' kd => opsFd keep call all l (putF t o.d v) H' (kd :: ks)) (opsFd keep call all l (putF t o.d undefA) H (.p :: ks))) _
  rw [guard_eq h, operF_eq h.l]
  simp only [opsA]
  split
  ·rename_i hw
   simp only [hw]
   cases hop : operA keep call T H o.op with
   | none => trivial
   | some r =>
    obtain ⟨v, H1, kd⟩ := r
    have := opsd_eq (keep := keep) (call := call) (all := all) l (putF t o.d v) (putT T o.d v) H1 (kd :: ks) (h.put o.d v)
    simp only [thenF]
    cases hr : opsA keep call l (putT T o.d v) H1 with
    | none => rw [hr] at this; exact this
    | some r => rw [hr] at this; simpa using this
  ·rename_i hw
   simp only [hw]
   have := opsd_eq (keep := keep) (call := call) (all := all) l (putF t o.d undefA) (putT T o.d undefA) H (.p :: ks) (h.put o.d undefA)
   cases hr : opsA keep call l (putT T o.d undefA) H with
   | none => rw [hr] at this; exact this
   | some r => rw [hr] at this; simpa using this
  ·rename_i hw
   simp only [hw]
   trivial
theorem code_eq {nt : Nat} {keep : Nat → Bool} {call : ACall} {n : Nat} : ∀ (c : LCode) (t : TT) (T : Tmps) (H : AHeap), Tn nt t T → Rl nt (codeF nt keep call n c t H) (codeA keep call n c T H)
 | .skip, t, T, H, h => ⟨rfl, h, rfl⟩
 | .reg false ops, t, T, H, h => by
  have := ops_eq (keep := keep) (call := call) ops t T H h
  show Rl nt (opsF keep call ops t H) _
  simp only [codeA, Bool.false_and, Bool.false_eq_true, if_false]
  exact this
 | .reg true ops, t, T, H, h => by
  have := opsd_eq (keep := keep) (call := call) (all := ops) ops t T H [] h
  show Rl nt (opsFd keep call ops ops t H []) _
  simp only [codeA, Bool.true_and]
  cases hr : opsA keep call ops T H with
  | none => rw [hr] at this; exact this
  | some r =>
   rw [hr] at this
   simp only [List.reverse_nil, List.nil_append] at this ⊢
   cases hd : drawOk ops r.2.2 <;> simpa [hd] using this
 | .seq a b, t, T, H, h => by
  have h1 := code_eq (keep := keep) (call := call) (n := n) a t T H h
  show Rl nt (seqF (codeF nt keep call n a t H) (codeF nt keep call n b)) _
  simp only [codeA]
  generalize codeF nt keep call n a t H = x at h1
  generalize codeA keep call n a T H = y at h1
  rcases x with _ | ⟨e, t1, H1⟩ <;> rcases y with _ | ⟨e', T1, H1'⟩ <;> simp only [Rl] at h1
  ·trivial
  ·obtain ⟨rfl, h2, rfl⟩ := h1
   cases e with
   | normal => exact code_eq b t1 T1 H1 h2
   | exit i => exact ⟨rfl, h2, rfl⟩
   | ret => exact ⟨rfl, h2, rfl⟩
 | .cond c a b, t, T, H, h => by
  show Rl nt (condF (evF c t) (codeF nt keep call n a t H) (codeF nt keep call n b t H)) _
  rw [h.l.ev]
  simp only [codeA, condF]
  cases ev T c with
  | bool q =>
   cases q with
   | true => exact code_eq a t T H h
   | false => exact code_eq b t T H h
  | _ => trivial
 | .block id c, t, T, H, h => by
  have h1 := code_eq (keep := keep) (call := call) (n := n) c t T H h
  show Rl nt (blockF id (codeF nt keep call n c t H)) _
  simp only [codeA]
  generalize codeF nt keep call n c t H = x at h1
  generalize codeA keep call n c T H = y at h1
  rcases x with _ | ⟨e, t1, H1⟩ <;> rcases y with _ | ⟨e', T1, H1'⟩ <;> simp only [Rl] at h1
  ·trivial
  ·obtain ⟨rfl, h2, rfl⟩ := h1
   cases e with
   | normal => exact ⟨rfl, h2, rfl⟩
   | ret => exact ⟨rfl, h2, rfl⟩
   | exit i =>
    simp only [blockF]
    split
    ·exact ⟨rfl, h2, rfl⟩
    ·exact ⟨rfl, h2, rfl⟩
 | .loop c, t, T, H, h => by
  show Rl nt (loopF (codeF nt keep call n c) n t H) _
  simp only [codeA]
  have key : ∀ m t T H, Tn nt t T → Rl nt (loopF (codeF nt keep call n c) m t H) (loopA (codeA keep call n c) m T H) := by
   intro m
   induction m with
   | zero => intro t T H _; trivial
   | succ m ih =>
    intro t T H h
    have h1 := code_eq (keep := keep) (call := call) (n := n) c t T H h
    show Rl nt (seqF (codeF nt keep call n c t H) (loopF (codeF nt keep call n c) m)) _
    simp only [loopA]
    generalize codeF nt keep call n c t H = x at h1
    generalize codeA keep call n c T H = y at h1
    rcases x with _ | ⟨e, t1, H1⟩ <;> rcases y with _ | ⟨e', T1, H1'⟩ <;> simp only [Rl] at h1
    ·trivial
    ·obtain ⟨rfl, h2, rfl⟩ := h1
     cases e with
     | normal => exact ih t1 T1 H1 h2
     | exit i => exact ⟨rfl, h2, rfl⟩
     | ret => exact ⟨rfl, h2, rfl⟩
  exact key n t T H h
 | .exit id, t, T, H, h => ⟨rfl, h, rfl⟩
 | .ret, t, T, H, h => ⟨rfl, h, rfl⟩
 | .fail, t, T, H, h => trivial
 | .rangeFunc f ps as bd, t, T, H, h => by
  show Rl nt (rangeF nt keep call (evF f t) ps as bd t H) _
  rw [h.l.ev]
  simp only [codeA, rangeF, h.toL]
  cases ev T f with
  | func g first captured =>
   simp only
   split
   ·trivial
   ·cases call false g (first ++ [.yld H.length] ++ captured) (H ++ [.loop 0 none T ps as bd]) with
    | none => trivial
    | some r =>
     obtain ⟨v, H2⟩ := r
     simp only
     cases H2[H.length]? with
     | none => trivial
     | some k =>
      cases k with
      | loop st pd T' ps' as' bd' =>
       simp only
       split
       ·trivial
       ·exact ⟨rfl, h, rfl⟩
      | _ => trivial
  | _ => trivial
noncomputable def codeLF (keep : Nat → Bool) (call : ACall) (n : Nat) (c : LCode) (T : Tmps) (H : AHeap) : ACodeRes :=
 match codeF T.length keep call n c (startF T.length T) H with
 | some (e, t, H') => some (e, toLF T.length t, H')
 | none => none
theorem codeLF_eq (keep : Nat → Bool) (call : ACall) (n : Nat) : codeLF keep call n = codeA keep call n := by
 funext c T H
 have h0 : Tn T.length (startF T.length T) T := ⟨by simpa using Tl.start (args := T) (nt := T.length) (Nat.le_refl _), rfl⟩
 have := code_eq (keep := keep) (call := call) (n := n) c _ _ H h0
 unfold codeLF
 generalize codeF T.length keep call n c (startF T.length T) H = x at this
 generalize codeA keep call n c T H = y at this
 rcases x with _ | ⟨e, t1, H1⟩ <;> rcases y with _ | ⟨e', T1, H1'⟩ <;> simp only [Rl] at this
 ·rfl
 ·obtain ⟨rfl, h2, rfl⟩ := this
  simp only [h2.toL]
noncomputable def resF (t : TT) (H : AHeap) (rs : List LRes) : Option (List AV) :=
 List.rec (motive := fun _ => Option (List AV)) (some []) (fun r _ ih => LRes.rec (motive := fun _ => Option (List AV)) (fun n => ih.map (getF t n :: ·)) (fun a sz ag => match loadA H sz ag (getF t a) with
  | some (v, _, _) => ih.map (v :: ·)
  | none => none) r) rs
theorem res_eq {t : TT} {T : Tmps} (h : Tl t T) (H : AHeap) : ∀ rs, resF t H rs = resA T H rs
 | [] => rfl
 | .t n :: l => by
  show (resF t H l).map (getF t n :: ·) = _
  rw [res_eq h H l, h.get]; rfl
 | .cell a sz ag :: l => by
  show (match loadA H sz ag (getF t a) with
   | some (v, _, _) => (resF t H l).map (v :: ·)
   | none => none) = _
  rw [res_eq h H l, h.get]; rfl
def doneF (r : FRes) (k : TT → AHeap → Option (AV × AHeap)) : Option (AV × AHeap) := match r with
 | some (.exit _, _, _) => none
 | some (_, t, H) => k t H
 | none => none
noncomputable def callsF (lp : Nat → Option LFunc) (keep : Nat → Bool) (hk : ACall → Nat → List AV → AHeap → Option (AV × AHeap)) (n : Nat) : ACall :=
  Nat.rec (motive := fun _ => ACall) (fun _ _ _ _ => none)
    (fun n ih y => Bool.rec (motive := fun _ => Nat → List AV → AHeap → Option (AV × AHeap))
      (fun f args H => match lp f with
        | some (.code np nt results body) => if args.length = np ∧ np ≤ nt then doneF (codeF nt keep ih n body (startF nt args) H) fun t H' => (resF t H' results).map fun vs => (tupA vs, H') else
            if args.length = np then match codeA keep ih n body (args ++ List.replicate (nt - np) undefA) H with
              | some (.exit _, _, _) => none
              | some (_, T, H') => (resA T H' results).map fun vs => (tupA vs, H')
              | none => none
            else none
        | some (.ext e) => extA e args H
        | none => hk ih f args H)
      (fun b args H => roundA (codeLF keep ih n) b args H) y) n
theorem callsF_eq (lp : Nat → Option LFunc) (keep : Nat → Bool) (hk : ACall → Nat → List AV → AHeap → Option (AV × AHeap)) : ∀ n, callsF lp keep hk n = callsA lp keep hk n
 | 0 => by funext y f args H; simp only [callsA]; rfl
 | n + 1 => by
  have ih := callsF_eq lp keep hk n
  funext y f args H
  cases y with
  | true =>
   show roundA (codeLF keep (callsF lp keep hk n) n) f args H = _
   rw [ih, codeLF_eq]; simp only [callsA]
  | false =>
   show (match lp f with
    | some (.code np nt results body) => if args.length = np ∧ np ≤ nt then doneF (codeF nt keep (callsF lp keep hk n) n body (startF nt args) H) fun t H' => (resF t H' results).map fun vs => (tupA vs, H') else
      if args.length = np then match codeA keep (callsF lp keep hk n) n body (args ++ List.replicate (nt - np) undefA) H with
       | some (.exit _, _, _) => none
       | some (_, T, H') => (resA T H' results).map fun vs => (tupA vs, H')
       | none => none
      else none
    | some (.ext e) => extA e args H
    | none => hk (callsF lp keep hk n) f args H) = _
   rw [ih]
   simp only [callsA]
   cases lp f with
   | none => rfl
   | some g =>
    cases g with
    | ext e => rfl
    | code np nt rs body =>
     simp only
     split
     ·rename_i hc
      obtain ⟨h1, h2⟩ := hc
      rw [if_pos h1]
      subst h1
      have h0 : Tn nt (startF nt args) (args ++ List.replicate (nt - args.length) undefA) := ⟨Tl.start h2, by simp; omega⟩
      have := code_eq (keep := keep) (call := callsA lp keep hk n) (n := n) body _ _ H h0
      generalize codeF nt keep (callsA lp keep hk n) n body (startF nt args) H = x at this
      generalize codeA keep (callsA lp keep hk n) n body (args ++ List.replicate (nt - args.length) undefA) H = y at this
      rcases x with _ | ⟨e, t1, H1⟩ <;> rcases y with _ | ⟨e', T1, H1'⟩ <;> simp only [Rl] at this
      ·rfl
      ·obtain ⟨rfl, h3, rfl⟩ := this
       cases e with
       | normal => simp only [doneF, res_eq h3.l]
       | exit i => rfl
       | ret => simp only [doneF, res_eq h3.l]
     ·rfl
end Go.AE
namespace Go.AE
open Go
inductive NT (α : Type) where
 | l
 | n (k : Nat) (v : α) (a b : NT α)
noncomputable def NT.get {α : Type} (t : NT α) : Nat → Option α :=
  NT.rec (motive := fun _ => Nat → Option α) (fun _ => none)
    (fun k v _ _ ga gb i => Bool.rec (motive := fun _ => Option α) (Bool.rec (motive := fun _ => Option α) (gb i) (ga i) (Nat.blt i k)) (some v) (Nat.beq i k)) t
def NT.All {α : Type} (p : Nat → α → Prop) : NT α → Prop
 | .l => True
 | .n k v a b => p k v ∧ a.All p ∧ b.All p
def NT.all {α : Type} (p : Nat → α → Bool) : NT α → Bool
 | .l => true
 | .n k v a b => p k v && a.all p && b.all p
theorem NT.get_all {α : Type} {p : Nat → α → Prop} : ∀ {t : NT α} {i : Nat} {v : α}, t.All p → t.get i = some v → p i v
 | .l, _, _, _, h => by cases h
 | .n k w a b, i, v, hp, h => by
  obtain ⟨h1, h2, h3⟩ := hp
  have h' : Bool.rec (motive := fun _ => Option α) (Bool.rec (motive := fun _ => Option α) (b.get i) (a.get i) (Nat.blt i k)) (some w) (Nat.beq i k) = some v := h
  cases hb : Nat.beq i k with
  | true =>
   rw [hb] at h'
   cases h'
   rw [Nat.eq_of_beq_eq_true hb]; exact h1
  | false =>
   rw [hb] at h'
   cases hc : Nat.blt i k with
   | true => rw [hc] at h'; exact NT.get_all h2 h'
   | false => rw [hc] at h'; exact NT.get_all h3 h'
theorem NT.all_All {α : Type} {p : Nat → α → Bool} : ∀ {t : NT α}, t.all p = true → t.All fun k v => p k v = true
 | .l, _ => trivial
 | .n k v a b, h => by
  simp only [NT.all, Bool.and_eq_true] at h
  exact ⟨h.1.1, NT.all_All h.1.2, NT.all_All h.2⟩
noncomputable def backB (t : NT Nat) (f i : Nat) : Bool := match t.get i with
 | some g => Nat.beq g f
 | none => false
theorem NT.All.imp {α : Type} {p q : Nat → α → Prop} (h : ∀ k v, p k v → q k v) : ∀ {t : NT α}, t.All p → t.All q
 | .l, _ => trivial
 | .n k v _ _, hp => ⟨h k v hp.1, NT.All.imp h hp.2.1, NT.All.imp h hp.2.2⟩
theorem back_of {s t : NT Nat} (h : s.all (backB t) = true) : s.All fun f i => t.get i = some f :=
  (NT.all_All h).imp fun f i hb => by
    unfold backB at hb
    split at hb
    · rename_i g hg
      rw [hg, Nat.eq_of_beq_eq_true hb]
    · simp at hb
theorem reckonStruct_desc {info : TypeId → Option TypeInfo} {fs : Array Field} {i : TypeInfo} (h : Made.reckonStruct info fs = some i) : ∃ out, i.desc = .struct out := by
 unfold Made.reckonStruct at h
 simp only [bind, Option.bind_eq_some_iff] at h
 obtain ⟨r, _, h⟩ := h
 split at h <;> (simp only [pure, Option.some.injEq] at h; subst h; exact ⟨_, rfl⟩)
theorem reckon_desc {info : TypeId → Option TypeInfo} {d : TypeDesc} {i : TypeInfo} (h : Made.reckon info d = some i) : (∀ k, i.desc ≠ .int k) ∧ ∀ n u, i.desc ≠ .named n u := by
  unfold Made.reckon at h
  cases d <;> simp only [bind, pure, Option.bind_eq_some_iff, reduceCtorEq] at h
  case struct fs =>
    obtain ⟨out, ho⟩ := reckonStruct_desc h
    exact ⟨fun k => by rw [ho]; simp, fun n u => by rw [ho]; simp⟩
  case pointer e =>
    obtain ⟨j, _, h⟩ := h
    split at h <;> try (simp at h; done)
    · split at h
      · simp at h
      · simp only [Option.bind_eq_some_iff, Option.some.injEq] at h
        obtain ⟨_, _, rfl⟩ := h
        exact ⟨fun k => by simp [Made.word], fun n u => by simp [Made.word]⟩
    · simp only [Option.bind_eq_some_iff, Option.some.injEq] at h
      obtain ⟨_, _, rfl⟩ := h
      exact ⟨fun k => by simp [Made.word], fun n u => by simp [Made.word]⟩
  all_goals
    simp only [Option.bind_eq_some_iff, Option.some.injEq] at h
    first
      | (obtain ⟨_, _, _, _, _, _, _, _, rfl⟩ := h; exact ⟨fun k => by simp [Made.word], fun n u => by simp [Made.word]⟩)
      | (obtain ⟨_, _, _, _, rfl⟩ := h; exact ⟨fun k => by simp [Made.word], fun n u => by simp [Made.word]⟩)
      | (obtain ⟨_, ⟨_, _, _⟩, _, _, rfl⟩ := h; exact ⟨fun k => by simp [Made.word], fun n u => by simp [Made.word]⟩)
      | (obtain ⟨_, ⟨_, _, rfl⟩⟩ := h; exact ⟨fun k => by simp [Made.word], fun n u => by simp [Made.word]⟩)
      | (obtain ⟨_, _, rfl⟩ := h; exact ⟨fun k => by simp [Made.word], fun n u => by simp [Made.word]⟩)
theorem made_desc {T : Tables} : ∀ {f t i}, Made.infoAt T f t = some i → ¬ t < T.types.size → (∀ k, i.desc ≠ .int k) ∧ ∀ n u, i.desc ≠ .named n u
 | 0, t, i, h, _ => by simp [Made.infoAt] at h
 | f + 1, t, i, h, ht => by
  simp only [Made.infoAt, if_neg ht, Option.bind_eq_some_iff] at h
  obtain ⟨d, _, h⟩ := h
  exact reckon_desc h
def isU8 : TypeDesc → Bool
 | .int .u8 => true
 | _ => false
def named? : TypeDesc → Option TypeId
 | .named _ u => some u
 | _ => none
def u8ok (P : Program) : Bool := P.types.toList.all fun i => i.size == 1 || match named? i.desc with
 | some u => match P.info? u with
  | some j => !isU8 j.desc
  | none => true
 | none => !isU8 i.desc
theorem isU8_eq {d : TypeDesc} : isU8 d = true ↔ d = .int .u8 := by
 unfold isU8
 split
 ·simp
 ·rename_i h
  simp; exact h
theorem named_eq {d : TypeDesc} {u : TypeId} : named? d = some u ↔ ∃ n, d = .named n u := by
 unfold named?
 split <;> simp
 rename_i h
 exact fun n e => h n u e
theorem u8_of {P : Program} (h : u8ok P = true) (t : TypeId) (ht : P.underlying t = some (.int .u8)) : P.cellsOf t = 1 := by
 unfold Program.underlying at ht
 by_cases hlt : t < P.types.size
 ·have hi : P.info? t = P.types[t]? := by simp [Tables.info?, hlt]
  have hg : P.types[t]? = some P.types[t] := Array.getElem?_eq_getElem hlt
  have hm : P.types[t] ∈ P.types.toList := by simp
  have := List.all_eq_true.1 h _ hm
  simp only [Bool.or_eq_true, beq_iff_eq] at this
  rcases this with h1 | h1
  ·simp [Program.cellsOf, hi, hg, h1]
  ·exfalso
   rw [hi, hg] at ht
   generalize P.types[t] = i at ht h1
   cases hd : named? i.desc with
   | some u =>
    rw [hd] at h1
    obtain ⟨n, hn⟩ := named_eq.1 hd
    obtain ⟨d, str, sz, by_, hp, al, fa, z, cp, ms⟩ := i
    simp only at hn; subst hn
    simp only [Option.map_eq_some_iff] at ht
    obtain ⟨j, hj, hjd⟩ := ht
    simp only [hj] at h1
    simp [isU8_eq.2 hjd] at h1
   | none =>
    rw [hd] at h1
    split at ht
    ·rename_i n u _ _ _ _ _ _ _ _ _ heq
     simp at heq; subst heq
     simp [named?] at hd
    ·rename_i heq
     simp at heq; subst heq
     simp at ht
     simp [isU8_eq.2 ht] at h1
    ·simp at ht
 ·exfalso
  cases hi : P.info? t with
  | none => simp [hi] at ht
  | some i =>
   have hq : Made.infoAt P.toTables Made.depth t = some i := by simpa [Tables.info?, hlt] using hi
   obtain ⟨h1, h2⟩ := made_desc hq hlt
   rw [hi] at ht
   split at ht
   ·rename_i n u _ _ _ _ _ _ _ _ _ heq
    simp at heq; subst heq
    exact h2 _ _ rfl
   ·rename_i heq
    simp at heq; subst heq
    simp at ht
    exact h1 _ ht
   ·simp at ht
def bldOk (P : Program) (b : TypeId) : Bool := P.types.toList.zipIdx.all fun (i, k) => !(i.str == "strings.Builder") || k == b
theorem bld_of {P : Program} {b : TypeId} (h : bldOk P b = true) (t u : TypeId) (ht : tagA P t = 2) (hu : tagA P u = 2) : t = u := by
 have key : ∀ t, tagA P t = 2 → t = b := by
  intro t ht
  unfold tagA at ht
  split at ht <;> try (simp at ht; done)
  split at ht <;> try (simp at ht; done)
  rename_i hc
  simp only [Bool.and_eq_true, decide_eq_true_eq] at hc
  obtain ⟨hlt, hs⟩ := hc
  have hi : P.info? t = some P.types[t] := by simp [Tables.info?, hlt]
  rw [hi] at hs
  simp only [Option.any_some, beq_iff_eq] at hs
  have hm : (P.types[t], t) ∈ P.types.toList.zipIdx := by
   rw [List.mem_zipIdx_iff_getElem?]; simp [hlt]
  have := List.all_eq_true.1 h _ hm
  simpa [hs] using this
 rw [key t ht, key u hu]
def rowsOf : List (String × List (Nat × Nat)) → String → List (Nat × Nat)
 | [], _ => []
 | (n, l) :: r, s => if n = s then l else rowsOf r s
def RowOk (P : Program) (untag fid : NT Nat) (name : String) (p : Nat × Nat) : Prop :=
 ∃ t f, untag.get p.1 = some t ∧ fid.get p.2 = some f ∧ ∀ (v : Value) (w : World), (method (P.types.size + Made.depth) t v name).run P w = .ok (f, v) w
def RowsOk (P : Program) (untag fid : NT Nat) (name : String) : List (Nat × Nat) → Prop
 | [] => True
 | p :: l => RowOk P untag fid name p ∧ RowsOk P untag fid name l
def TableOk (P : Program) (untag fid : NT Nat) : List (String × List (Nat × Nat)) → Prop
 | [] => True
 | (n, l) :: r => RowsOk P untag fid n l ∧ TableOk P untag fid r
theorem RowsOk.get {P : Program} {untag fid : NT Nat} {name : String} : ∀ {l : List (Nat × Nat)} {p : Nat × Nat}, RowsOk P untag fid name l → p ∈ l → RowOk P untag fid name p
 | q :: l, p, h, hp => by
  rcases List.mem_cons.1 hp with rfl | hp
  ·exact h.1
  ·exact RowsOk.get h.2 hp
theorem TableOk.get {P : Program} {untag fid : NT Nat} : ∀ {r : List (String × List (Nat × Nat))} {name : String} {p : Nat × Nat}, TableOk P untag fid r → p ∈ rowsOf r name → RowOk P untag fid name p
 | (n, l) :: r, name, p, h, hp => by
  simp only [rowsOf] at hp
  split at hp
  ·rename_i e; subst e; exact h.1.get hp
  ·exact TableOk.get h.2 hp
structure SeatT where
 id : NT Nat
 fid : NT Nat
 tag : NT Nat
 untag : NT Nat
 rows : List (String × List (Nat × Nat))
 gl : NT AV
 ifs : List TypeId
noncomputable def SeatT.ties (s : SeatT) : Ties := { idOf := s.id.get, tagOf := s.tag.get, gl := s.gl.get, ifTys := s.ifs, rows := rowsOf s.rows }
structure SeatOk (P : Program) (s : SeatT) (bld : TypeId) : Prop where
 id : s.id.All fun f i => s.fid.get i = some f
 tag : s.tag.All fun t g => s.untag.get g = some t
 gl : s.gl.All fun _ v => v.locFree = true
 rows : TableOk P s.untag s.fid s.rows
 u8 : u8ok P = true
 bld : bldOk P bld = true
noncomputable def ctxOf (P : Program) (s : SeatT) (bld : TypeId) (h : SeatOk P s bld) : Ctx where
 P := P
 τ := s.ties
 fid i := (s.fid.get i).getD 0
 fidOk f i hi := by rw [NT.get_all h.id hi]; rfl
 glFree g v hg := NT.get_all h.gl hg
 tagInj t u g ht hu := by
  have h1 := NT.get_all h.tag ht
  have h2 := NT.get_all h.tag hu
  rw [h1] at h2; exact Option.some.inj h2
 u8 := u8_of h.u8
 bld := bld_of h.bld
 meth name g i t hm ht v w := by
  obtain ⟨t', f, h1, h2, h3⟩ := TableOk.get h.rows hm
  have h4 := NT.get_all h.tag ht
  rw [h1] at h4
  obtain rfl := Option.some.inj h4
  rw [h2]; exact h3 v w
def Tied (C : Ctx) (keep : Nat → Bool) (i : Nat) (f : LFunc) : Prop :=
  (∃ fn, C.P.funcs[C.fid i]? = some fn ∧ (fn.name == "runtime.NumGoroutine") = false ∧ lowFunc C.P C.τ fn = some f ∧ (∀ e, f ≠ .ext e)) ∨ ∃ e, f = .ext e ∧ keep i = false ∧ ExtSound C i e
theorem lp_of {C : Ctx} {keep : Nat → Bool} {t : NT LFunc} (h : t.All (Tied C keep)) : LpOk C keep t.get where
 keep i e hi := by
  rcases NT.get_all h hi with ⟨_, _, _, _, h1⟩ | ⟨_, _, h1, _⟩
  ·exact absurd rfl (h1 e)
  ·exact h1
 code i np nt rs body hi := by
  rcases NT.get_all h hi with ⟨fn, h1, h2, h3, _⟩ | ⟨_, h1, _⟩
  ·obtain ⟨c, g1, g2, g3, g4, g5⟩ := low_code_of h3
   exact ⟨fn, c, h1, g1, by simpa using h2, g2, g3, g4, g5⟩
  ·cases h1
 ext i e hi := by
  rcases NT.get_all h hi with ⟨_, _, _, _, h1⟩ | ⟨e', h1, _, h2⟩
  ·exact absurd rfl (h1 e)
  ·cases h1; exact h2
def hookA (keep : Nat → Bool) (once : Nat) (o : OnceT) (call : ACall) (f : Nat) (args : List AV) (H : AHeap) : Option (AV × AHeap) :=
 if f = once then onceA o keep call args H else none
theorem hook_of {C : Ctx} {keep : Nat → Bool} {lp : Nat → Option LFunc} {once : Nat} {o : OnceT} (h : OnceOk C lp o once) : HookSound C keep lp (hookA keep once o) := by
 intro call hcall hdef f args H v H' hk φ N W xs hH hl
 unfold hookA at hk
 split at hk
 ·rename_i e; subst e
  exact .inl (once_sound h hcall hdef hk hH hl)
 ·simp at hk
theorem ext_makeNoZero1 {C : Ctx} {i : Nat} {ps rs : Array TypeId} {t e : TypeId} (hf : ExtFn C.P (C.fid i) (Extern.BytealgMakeNoZero.makeNoZero ps rs)) (hr : rs[0]? = some t) (ht : C.P.underlying t = some (.slice e)) (hg : tagA C.P e = 1) :
  ExtSound C i (.makeNoZero 1) := hg ▸ ext_makeNoZero hf hr ht
end Go.AE
namespace Go.AE.S
open Go Go.AE
abbrev o (d : Nat) (x : LOp) : LOper := ⟨some d, x, none, []⟩
abbrev v (x : LOp) : LOper := ⟨none, x, none, []⟩
abbrev g (d j : Nat) (x : LOp) : LOper := ⟨some d, x, some (j, true), []⟩
abbrev n (d j : Nat) (x : LOp) : LOper := ⟨some d, x, some (j, false), []⟩
abbrev m (d x : Nat) : LOper := ⟨some d, .mv (.t x), none, []⟩
abbrev mg (d j x : Nat) : LOper := ⟨some d, .mv (.t x), some (j, true), []⟩
abbrev mn (d j x : Nat) : LOper := ⟨some d, .mv (.t x), some (j, false), []⟩
abbrev t (n : Nat) : Opd := .t n
abbrev c (v : AV) : Opd := .c v
abbrev i (n : Int) : Opd := .c (.int .i64 n)
abbrev u (n : Int) : Opd := .c (.int .u8 n)
abbrev b (q : BinOp) (x y : Nat) : LOp := .bin q (.t x) (.t y)
abbrev bc (q : BinOp) (x : Nat) (y : AV) : LOp := .bin q (.t x) (.c y)
abbrev l (x : Nat) : LOp := .load 1 false (.t x)
abbrev la (s x : Nat) : LOp := .load s true (.t x)
abbrev w (a x : Nat) : LOper := ⟨none, .store 1 (.t a) (.t x), none, []⟩
abbrev fa (k x : Nat) : LOp := .fieldAddr k (.t x)
abbrev ia (s x y : Nat) : LOp := .idxAddr s (.t x) (.t y)
abbrev e (k x : Nat) : LOp := .extract k (.t x)
abbrev nc (x : Nat) : LOp := .nilChk (.t x)
abbrev no (x : Nat) : LOp := .un .not (.t x)
abbrev cf (f : Nat) (xs : List Nat) : LOp := .call (.fn f) (xs.map .t)
abbrev ln (x : Nat) : LOp := .call (.builtin .lenSl) [.t x]
abbrev lt (x : Nat) : LOp := .call (.builtin .lenStr) [.t x]
abbrev r (os : List LOper) : LCode := .reg false os
abbrev q (x y : LCode) : LCode := .seq x y
abbrev d (k : Nat) (x y : LCode) : LCode := .cond (.t k) x y
abbrev k (n : Nat) (x : LCode) : LCode := .block n x
abbrev p (x : LCode) : LCode := .loop x
abbrev ff : Opd := .c (.bool false)
abbrev tt : Opd := .c (.bool true)
abbrev ee : Opd := .c (.str [])
abbrev ns : Opd := .c .nilsl
abbrev I (n : Int) : AV := .int .i64 n
abbrev U (n : Int) : AV := .int .u8 n
abbrev a (d : Nat) (x : LOp) (l : List Nat) : LOper := ⟨some d, x, none, l⟩
abbrev po (x y : Nat) : LOp := .pick (.t x) (.c (.bool true)) (.t y)
abbrev pa (x y : Nat) : LOp := .pick (.t x) (.t y) (.c (.bool false))
abbrev R (n : Nat) (x : AV) : List AV := List.replicate n x
end Go.AE.S
