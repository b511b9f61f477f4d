/- The evaluator for the kernel, laws of code, from the evaluator to a row. -/
import Derived.Test.YtnblehjhpjfilaaGreatDoorA1
import Derived.Test.YtnblehjhpjfilaaGreatDoorA4
import Derived.Carry
import Derived.OpenShut
import Derived.Deep.Strs
import Derived.RowKit
set_option linter.all false
set_option linter.unusedSimpArgs false
set_option linter.unusedVariables false
set_option linter.unnecessarySimpa false
set_option linter.deprecated false
/-
  THE SAME EVALUATOR, WRITTEN FOR LEAN's KERNEL: slots in a tree, recursions by the recursors themselves.
-/
namespace Go.AE

/-- slots: number 0 at the root, then the odd ones, then the even ones -/
inductive TT where
  | l
  | n (v : AV) (a b : TT)

def TT.getO : TT → Nat → Option AV
  | .l, _ => none
  | .n v _ _, 0 => some v
  | .n _ a b, m + 1 => if m % 2 = 0 then a.getO (m / 2) else b.getO (m / 2)

noncomputable def getF (t : TT) : Nat → AV :=
  TT.rec (motive := fun _ => Nat → AV) (fun _ => undefA)
    (fun v _ _ ga gb k => Nat.rec (motive := fun _ => AV) v (fun m _ => Bool.rec (motive := fun _ => AV) (gb (Nat.div m 2)) (ga (Nat.div m 2)) (Nat.beq (Nat.mod m 2) 0)) k) t

noncomputable def setF (t : TT) : Nat → AV → TT :=
  TT.rec (motive := fun _ => Nat → AV → TT) (fun _ _ => .l)
    (fun v a b ga gb k w => Nat.rec (motive := fun _ => TT) (.n w a b) (fun m _ => Bool.rec (motive := fun _ => TT) (.n v a (gb (Nat.div m 2) w)) (.n v (ga (Nat.div m 2) w) b) (Nat.beq (Nat.mod m 2) 0)) k) t

noncomputable def mkF (fuel : Nat) : Nat → Nat → Nat → TT :=
  Nat.rec (motive := fun _ => Nat → Nat → Nat → TT) (fun _ _ _ => .l)
    (fun _ ih g s L => Bool.rec (motive := fun _ => TT) (.n undefA (ih (Nat.add g s) (Nat.add s s) L) (ih (Nat.add g (Nat.add s s)) (Nat.add s s) L)) .l (Nat.ble L g)) fuel

noncomputable def setAllF (vs : List AV) : TT → Nat → TT :=
  List.rec (motive := fun _ => TT → Nat → TT) (fun t _ => t) (fun v _ ih t k => ih (setF t k v) (Nat.succ k)) vs

/-- the slots of a list -/
def Tl (t : TT) (T : Tmps) : Prop := ∀ k, t.getO k = T[k]?

theorem getF_eq : ∀ (t : TT) (k : Nat), getF t k = (t.getO k).getD undefA
  | .l, k => rfl
  | .n v a b, 0 => rfl
  | .n v a b, m + 1 => by
    show Bool.rec (motive := fun _ => AV) (getF b (m / 2)) (getF a (m / 2)) (Nat.beq (m % 2) 0) = _
    simp only [TT.getO]
    rw [getF_eq a, getF_eq b]
    rcases Nat.mod_two_eq_zero_or_one m with h | h <;> rw [h] <;> rfl

theorem setF_eq : ∀ (t : TT) (k : Nat) (w : AV) (j : Nat), (setF t k w).getO j = if j = k then (t.getO k).map fun _ => w else t.getO j
  | .l, k, w, j => by simp [setF, TT.getO]
  | .n v a b, 0, w, j => by
    cases j with
    | zero => rfl
    | succ j => rfl
  | .n v a b, m + 1, w, j => by
    show (Bool.rec (motive := fun _ => TT) (.n v a (setF b (m / 2) w)) (.n v (setF a (m / 2) w) b) (Nat.beq (m % 2) 0)).getO j = _
    rcases Nat.mod_two_eq_zero_or_one m with h | h
    · rw [h]
      show (TT.n v (setF a (m / 2) w) b).getO j = _
      cases j with
      | zero => simp [TT.getO]
      | succ j =>
        simp only [TT.getO, Nat.add_right_cancel_iff, h, if_true]
        rw [setF_eq a]
        by_cases e : j = m
        · subst e; simp [h]
        · rw [if_neg e]
          split
          · rename_i h2
            rw [if_neg (by omega)]
          · rfl
    · rw [h]
      show (TT.n v a (setF b (m / 2) w)).getO j = _
      cases j with
      | zero => simp [TT.getO]
      | succ j =>
        simp only [TT.getO, Nat.add_right_cancel_iff, h]
        rw [setF_eq b]
        by_cases e : j = m
        · subst e; simp [h]
        · rw [if_neg e]
          split
          · rfl
          · rename_i h2
            rw [if_neg (by omega)]

theorem Tl.get {t : TT} {T : Tmps} (h : Tl t T) (k : Nat) : getF t k = T.getD k undefA := by
  rw [getF_eq, h k, List.getD_eq_getElem?_getD]

theorem Tl.set {t : TT} {T : Tmps} (h : Tl t T) (k : Nat) (v : AV) : Tl (setF t k v) (T.set k v) := by
  intro j
  rw [setF_eq, List.getElem?_set, h j, h k]
  by_cases e : j = k
  · subst e
    by_cases hl : j < T.length <;> simp [hl]
  · rw [if_neg e, if_neg (fun h => e h.symm)]

theorem mkF_eq : ∀ (fuel g s L k : Nat), 0 < s → L ≤ fuel + g → (mkF fuel g s L).getO k = if g + s * k < L then some undefA else none
  | 0, g, s, L, k, hs, h => by
    have : ¬ g + s * k < L := by have := Nat.le_add_right g (s * k); omega
    rw [if_neg this]; rfl
  | fuel + 1, g, s, L, k, hs, h => by
    show (Bool.rec (motive := fun _ => TT) (.n undefA (mkF fuel (g + s) (s + s) L) (mkF fuel (g + (s + s)) (s + s) L)) .l (Nat.ble L g)).getO k = _
    by_cases hl : L ≤ g
    · have : Nat.ble L g = true := Nat.ble_eq_true_of_le hl
      rw [this]
      have : ¬ g + s * k < L := by have := Nat.le_add_right g (s * k); omega
      rw [if_neg this]; rfl
    · have : Nat.ble L g = false := by
        cases hb : Nat.ble L g with
        | false => rfl
        | true => exact absurd (Nat.le_of_ble_eq_true hb) hl
      rw [this]
      show (TT.n undefA (mkF fuel (g + s) (s + s) L) (mkF fuel (g + (s + s)) (s + s) L)).getO k = _
      cases k with
      | zero => simp only [TT.getO, Nat.mul_zero, Nat.add_zero]; rw [if_pos (by omega)]
      | succ m =>
        simp only [TT.getO]
        rw [mkF_eq fuel _ _ _ _ (by omega) (by omega), mkF_eq fuel _ _ _ _ (by omega) (by omega)]
        rcases Nat.mod_two_eq_zero_or_one m with h2 | h2
        · rw [if_pos h2]
          have e : s * (m + 1) = s + (s + s) * (m / 2) := by
            have hm : m = 2 * (m / 2) := by omega
            generalize m / 2 = q at hm
            subst hm
            rw [Nat.mul_succ, ← Nat.mul_assoc, Nat.mul_two]; omega
          rw [e, Nat.add_assoc]
        · rw [if_neg (by omega)]
          have e : s * (m + 1) = (s + s) + (s + s) * (m / 2) := by
            have hm : m = 2 * (m / 2) + 1 := by omega
            generalize m / 2 = q at hm
            subst hm
            rw [Nat.mul_succ, Nat.mul_succ, ← Nat.mul_assoc, Nat.mul_two]; omega
          rw [e, Nat.add_assoc]

theorem Tl.mk (n : Nat) : Tl (mkF n 0 1 n) (List.replicate n undefA) := by
  intro k
  rw [mkF_eq n 0 1 n k (by omega) (by omega), List.getElem?_replicate]
  simp

theorem setAll_ok : ∀ (vs : List AV) (t : TT) (pre post : List AV), vs.length ≤ post.length → Tl t (pre ++ post) → Tl (setAllF vs t pre.length) (pre ++ vs ++ post.drop vs.length)
  | [], t, pre, post, _, h => by simpa [setAllF] using h
  | v :: vs, t, pre, [], hl, h => by simp at hl
  | v :: vs, t, pre, p :: post, hl, h => by
    have h1 := h.set pre.length v
    have h2 := setAll_ok vs (setF t pre.length v) (pre ++ [v]) post (by simpa using hl) (by simpa using h1)
    simpa [setAllF] using h2

noncomputable def startF (nt : Nat) (args : List AV) : TT := setAllF args (mkF nt 0 1 nt) 0

theorem Tl.start {args : List AV} {nt : Nat} (h : args.length ≤ nt) : Tl (startF nt args) (args ++ List.replicate (nt - args.length) undefA) := by
  have := setAll_ok args (mkF nt 0 1 nt) [] (List.replicate nt undefA) (by simpa using h) (by simpa using Tl.mk nt)
  simpa [startF] using this

/- ---------------------------------------------------------------- operations -/
noncomputable def evF (x : Opd) (t : TT) : AV := Opd.rec (motive := fun _ => AV) (fun n => getF t n) (fun v => v) (fun i => .func i [] []) x
noncomputable def mapF (xs : List Opd) (t : TT) : List AV := List.rec (motive := fun _ => List AV) [] (fun x _ ih => evF x t :: ih) xs
noncomputable def evoF (x : Option Opd) (t : TT) : Option AV := Option.rec (motive := fun _ => Option AV) none (fun x => some (evF x t)) x
def fillF (x : AV) (o sz : Nat) (k : List AV → Option (List AV)) (cs : List AV) : Option (List AV) :=
  if x.cells.length = sz ∧ o + sz ≤ cs.length ∧ 0 < sz then k (putCells cs o x.cells) else none
noncomputable def fillsF (ps : List (Nat × Nat × Opd)) (t : TT) : List AV → Option (List AV) :=
  List.rec (motive := fun _ => List AV → Option (List AV)) (fun cs => some cs) (fun p _ ih cs => fillF (evF p.2.2 t) p.1 p.2.1 ih cs) ps

section
variable {t : TT} {T : Tmps}
theorem Tl.ev (h : Tl t T) : ∀ x : Opd, evF x t = ev T x
  | .t n => h.get n
  | .c _ => rfl
  | .f _ => rfl
theorem Tl.evs (h : Tl t T) : ∀ xs : List Opd, mapF xs t = xs.map (AE.ev T)
  | [] => rfl
  | x :: xs => by
    show evF x t :: mapF xs t = _
    rw [h.ev, h.evs]; rfl
theorem Tl.evo (h : Tl t T) : ∀ x : Option Opd, evoF x t = AE.evo T x
  | none => rfl
  | some x => by
    show some (evF x t) = _
    rw [h.ev]; rfl
theorem Tl.fills (h : Tl t T) : ∀ (ps : List (Nat × Nat × Opd)) (cs : List AV), fillsF ps t cs = fillA T cs ps
  | [], _ => rfl
  | (o, sz, x) :: ps, cs => by
    show fillF (evF x t) o sz (fillsF ps t) cs = _
    rw [h.ev]
    simp only [fillF, fillA]
    split
    · exact h.fills ps _
    · rfl
end

def fPick (c a b : AV) (H : AHeap) : ARes := match c with
  | .bool c => pureV H (some (if c then a else b))
  | _ => none
def fAlloc (zero : List AV) (tag : Nat) (H : AHeap) : ARes := if zero.length = 0 then none else some (.ptr H.length 0 zero.length, H ++ [.cells zero tag zero.length 0], .a H.length)
def fNilChk (x : AV) (H : AHeap) : ARes := match x with
  | .ptr b o v => pureV H (some (.ptr b o v))
  | .elt cs o => pureV H (some (.elt cs o))
  | .iface t v => pureV H (some (.iface t v))
  | .func f a b => pureV H (some (.func f a b))
  | _ => none
def fEq (neg : Bool) (t : ETy) (x y : AV) (H : AHeap) : ARes := pureV H ((aEq t x y).map fun b => .bool (if neg then !b else b))
def fMkSlice (zero : List AV) (sz bytes tag : Nat) (n c : AV) (H : AHeap) : ARes := match asI n, asI c with
    | some n, some c =>
      if 0 ≤ n ∧ n ≤ c ∧ c * bytes ≤ 2 ^ 40 ∧ 0 < bytes ∧ 0 < sz then
        some (.sl H.length 0 n.toNat sz (n.toNat * sz) (some c.toNat), H ++ [.cells (repCells n.toNat zero) tag (n.toNat * sz) 0], .a H.length)
      else none
    | _, _ => none
def fSlStr (x : AV) (lo hi : Option AV) (H : AHeap) : ARes := match x with
    | .str s => match bounds s.length lo hi with
      | some (l, h) => pureV H (some (.str ((s.take h).drop l)))
      | none => none
    | _ => none
def fSlArr (len sz : Nat) (x : AV) (lo hi mx : Option AV) (H : AHeap) : ARes := match x, bounds len lo hi with
    | .ptr b o v, some (l, h) =>
      if mx.isSome then none
      else if (match H[b]? with | some (.cells _ _ wv st) => decide (st < 2 ∧ wv ≤ v ∧ o + len * sz ≤ v) | _ => false) then
        some (.sl b (o + l * sz) (h - l) sz v (some (len - l)), H, .r b)
      else none
    | _, _ => none
def fField (off sz : Nat) (ag : Bool) (x : AV) (H : AHeap) : ARes := match x with
    | .agg cs => pureV H (part cs off sz ag)
    | _ => none
def fIdxArrAddr (len sz : Nat) (x i : AV) (H : AHeap) : ARes := match asI i with
    | some i => if 0 ≤ i ∧ i < len then pureV H (addA (i.toNat * sz) x) else none
    | none => none
def fIdxStr (x i : AV) (H : AHeap) : ARes := match x, asI i with
    | .str s, some i => if 0 ≤ i then pureV H (s[i.toNat]?.map fun b => .int .u8 b.toNat) else none
    | _, _ => none
def fIdxArr (len sz : Nat) (ag : Bool) (x i : AV) (H : AHeap) : ARes := match x, asI i with
    | .agg cs, some i => if 0 ≤ i ∧ i < len then pureV H (part cs (i.toNat * sz) sz ag) else none
    | _, _ => none
def fLookup (k : ETy) (zero : AV) (ok : Bool) (x i : AV) (H : AHeap) : ARes :=
    let out (r : Option (Nat × AV)) : AV :=
      let v := match r with | some (_, v) => v | none => zero
      if ok then .tuple [v, .bool r.isSome] else v
    match x with
    | .nilmap => pureV H ((findA k i [] 0).map out)
    | .map b => match H[b]? with
      | some (.map es) => if k.plainKey then readV H b ((findA k i es 0).map out) else none
      | _ => none
    | _ => none
def fMapUpd (k : ETy) (m i x : AV) (H : AHeap) : ARes := match m with
    | .map b => match H[b]? with
      | some (.map es) => if k.plainKey then match findA k i es 0 with
          | some (some (j, _)) => some (undefA, H.set b (.map (es.set j (i, x))), .l)
          | some none => some (undefA, H.set b (.map (es ++ [(i, x)])), .l)
          | none => none
        else none
      | _ => none
    | _ => none
def fRangeStr (x : AV) (H : AHeap) : ARes := match x with
    | .str s => some (.ptr H.length 0 0, H ++ [.iter s 0], .a H.length)
    | _ => none
def fNextStr (x : AV) (H : AHeap) : ARes := match x with
    | .ptr b 0 0 => match H[b]? with
      | some (.iter s pos) =>
        if pos < s.length then
          let cw := utf8Dec s pos
          some (.tuple [.bool true, .int .i64 pos, .int .i32 cw.1], H.set b (.iter s (pos + cw.2)), .l)
        else some (.tuple [.bool false], H, .l)
      | _ => none
    | _ => none
def fRangeMap (x : AV) (H : AHeap) : ARes := match x with
    | .map m => match H[m]? with
      | some (.map _) => some (.ptr H.length 0 0, H ++ [.miter m], .l)
      | _ => none
    | _ => none
def fNextMap (x : AV) (H : AHeap) : ARes := match x with
    | .ptr b 0 0 => match H[b]? with
      | some (.miter m) => match H[m]? with
        | some (.map []) => some (.tuple [.bool false], H, .l)
        | _ => none
      | _ => none
    | _ => none
def fExtract (i : Nat) (x : AV) (H : AHeap) : ARes := match x with
    | .tuple vs => pureV H vs[i]?
    | _ => none

def fCallV (keep : Nat → Bool) (call : ACall) (x : AV) (args : List AV) (H : AHeap) : ARes := match x with
    | .func f first captured => callA keep call f (first ++ args ++ captured) H
    | .yld b => (call true b args H).map fun (v, H') => (v, H', .c H H')
    | _ => none
def fInvoke (keep : Nat → Bool) (call : ACall) (rows : List (Nat × Nat)) (x : AV) (args : List AV) (H : AHeap) : ARes := match x with
    | .iface g v => match rowOfTag rows g with
      | some f => callA keep call f (v :: args) H
      | none => none
    | _ => none
noncomputable def fCall (keep : Nat → Bool) (call : ACall) (c : LCallee) (args : List Opd) (t : TT) (H : AHeap) : ARes :=
  LCallee.rec (motive := fun _ => ARes) (fun b => builtinA H b (mapF args t)) (fun f => callA keep call f (mapF args t) H) (fun x => fCallV keep call (evF x t) (mapF args t) H) (fun x rows => fInvoke keep call rows (evF x t) (mapF args t) H) c

noncomputable def operF (keep : Nat → Bool) (call : ACall) (op : LOp) : TT → AHeap → ARes :=
  LOp.rec (motive := fun _ => TT → AHeap → ARes)
    (fun x t H => pureV H (some (evF x t)))
    (fun c a b t H => fPick (evF c t) (evF a t) (evF b t) H)
    (fun zero tag _ H => fAlloc zero tag H)
    (fun tag x t H => newVarA H (evF x t) tag)
    (fun zero ps t H => pureV H ((fillsF ps t zero).map .agg))
    (fun zero n sz ps t H => pureV H ((fillsF ps t (repCells n zero)).map fun cs => .lst cs n sz true))
    (fun sz ag x t H => loadA H sz ag (evF x t))
    (fun sz a x t H => storeA H sz (evF a t) (evF x t))
    (fun x t H => fNilChk (evF x t) H)
    (fun op x y t H => pureV H (binA op (evF x t) (evF y t)))
    (fun neg e x y t H => fEq neg e (evF x t) (evF y t) H)
    (fun op x t H => pureV H (unA op (evF x t)))
    (fun k x t H => convA H k (evF x t))
    (fun tag x t H => pureV H (some (.iface tag (evF x t))))
    (fun id first captured t H => pureV H (some (.func id (mapF first t) (mapF captured t))))
    (fun _ H => some (.map H.length, H ++ [.map []], .a H.length))
    (fun zero sz bytes tag n c t H => fMkSlice zero sz bytes tag (evF n t) (evF c t) H)
    (fun x lo hi t H => fSlStr (evF x t) (evoF lo t) (evoF hi t) H)
    (fun sz x lo hi mx t H => pureV H (sliceA sz (evF x t) (evoF lo t) (evoF hi t) (evoF mx t)))
    (fun len sz x lo hi mx t H => fSlArr len sz (evF x t) (evoF lo t) (evoF hi t) (evoF mx t) H)
    (fun off x t H => pureV H (addA off (evF x t)))
    (fun off sz ag x t H => fField off sz ag (evF x t) H)
    (fun sz x i t H => pureV H (idxAddrA sz (evF x t) (evF i t)))
    (fun len sz x i t H => fIdxArrAddr len sz (evF x t) (evF i t) H)
    (fun x i t H => fIdxStr (evF x t) (evF i t) H)
    (fun len sz ag x i t H => fIdxArr len sz ag (evF x t) (evF i t) H)
    (fun k zero ok x i t H => fLookup k zero ok (evF x t) (evF i t) H)
    (fun k m i x t H => fMapUpd k (evF m t) (evF i t) (evF x t) H)
    (fun x t H => fRangeStr (evF x t) H)
    (fun x t H => fNextStr (evF x t) H)
    (fun x t H => fRangeMap (evF x t) H)
    (fun x t H => fNextMap (evF x t) H)
    (fun i x t H => fExtract i (evF x t) H)
    (fun c args t H => fCall keep call c args t H)
    (fun _ _ => none)
    op

theorem operF_eq {keep : Nat → Bool} {call : ACall} {t : TT} {T : Tmps} (h : Tl t T) (H : AHeap) (op : LOp) : operF keep call op t H = operA keep call T H op := by
  cases op with
  | call c args =>
    cases c with
    | builtin b => show builtinA H b (mapF args t) = _; rw [h.evs]; rfl
    | fn f => show callA keep call f (mapF args t) H = _; rw [h.evs]; rfl
    | val x => show fCallV keep call (evF x t) (mapF args t) H = _; rw [h.evs, h.ev]; rfl
    | invoke x rows => show fInvoke keep call rows (evF x t) (mapF args t) H = _; rw [h.evs, h.ev]; rfl
  | build z ps => show pureV H ((fillsF ps t z).map .agg) = _; rw [h.fills]; rfl
  | lit z n sz ps => show pureV H ((fillsF ps t (repCells n z)).map fun cs => .lst cs n sz true) = _; rw [h.fills]; rfl
  | _ => simp only [operF, h.ev, h.evs, h.evo]; rfl
end Go.AE
/-
  THE FAST EVALUATOR, part 2: regions, code, calls; it is AE.
-/
namespace Go.AE

abbrev FRes := Option (AExit × TT × AHeap)

noncomputable def putF (t : TT) (d : Option Nat) (v : AV) : TT := Option.rec (motive := fun _ => TT) t (fun d => setF t d v) d
noncomputable def guardF (g : Option (Nat × Bool)) (t : TT) (yes no : FRes) : FRes :=
  Option.rec (motive := fun _ => FRes) yes (fun p => match getF t p.1 with
    | .bool b => Bool.rec (motive := fun _ => FRes) no yes (b == p.2)
    | .tuple [] => no
    | _ => none) g
def thenF (r : ARes) (k : AV → AHeap → Kd → FRes) : FRes := match r with
  | some (v, H, kd) => k v H kd
  | none => none

/-- a region whose order is the text's -/
noncomputable def opsF (keep : Nat → Bool) (call : ACall) (ops : List LOper) : TT → AHeap → FRes :=
  List.rec (motive := fun _ => TT → AHeap → FRes) (fun t H => some (.normal, t, H))
    (fun o _ ih t H => guardF o.guard t (thenF (operF keep call o.op t H) fun v H' _ => ih (putF t o.d v) H') (ih (putF t o.d undefA) H)) ops

/-- .. whose order is drawn -/
noncomputable def opsFd (keep : Nat → Bool) (call : ACall) (all ops : List LOper) : TT → AHeap → List Kd → FRes :=
  List.rec (motive := fun _ => TT → AHeap → List Kd → FRes) (fun t H ks => Bool.rec (motive := fun _ => FRes) none (some (.normal, t, H)) (drawOk all ks.reverse))
    (fun o _ ih t H ks => guardF o.guard t (thenF (operF keep call o.op t H) fun v H' kd => ih (putF t o.d v) H' (kd :: ks)) (ih (putF t o.d undefA) H (.p :: ks))) ops

def toLF (n : Nat) (t : TT) : List AV := (List.range n).map fun k => (t.getO k).getD undefA

def seqF (r : FRes) (k : TT → AHeap → FRes) : FRes := match r with
  | some (.normal, t, H) => k t H
  | r => r
def blockF (id : Nat) (r : FRes) : FRes := match r with
  | some (.exit i, t, H) => if i = id then some (.normal, t, H) else some (.exit i, t, H)
  | r => r
noncomputable def loopF (body : TT → AHeap → FRes) (n : Nat) : TT → AHeap → FRes :=
  Nat.rec (motive := fun _ => TT → AHeap → FRes) (fun _ _ => none) (fun _ ih t H => seqF (body t H) ih) n
noncomputable def condF (c : AV) (a b : FRes) : FRes := match c with
  | .bool c => Bool.rec (motive := fun _ => FRes) b a c
  | _ => none
def rangeF (nt : Nat) (keep : Nat → Bool) (call : ACall) (f : AV) (ps : List Nat) (as bd : LCode) (t : TT) (H : AHeap) : FRes := match f with
  | .func g first captured => if keep g = false then none else match call false g (first ++ [.yld H.length] ++ captured) (H ++ [.loop 0 none (toLF nt t) ps as bd]) with
      | some (_, H2) => match H2[H.length]? with
        | some (.loop st pd T' ps' as' bd') => if st = 1 then none else some (pd.getD .normal, t, H2.set H.length (.loop 3 pd T' ps' as' bd'))
        | _ => none
      | none => none
  | _ => none

noncomputable def codeF (nt : Nat) (keep : Nat → Bool) (call : ACall) (n : Nat) (c : LCode) : TT → AHeap → FRes :=
  LCode.rec (motive := fun _ => TT → AHeap → FRes)
    (fun t H => some (.normal, t, H))
    (fun draw ops => Bool.rec (motive := fun _ => TT → AHeap → FRes) (opsF keep call ops) (fun t H => opsFd keep call ops ops t H []) draw)
    (fun _ _ fa fb t H => seqF (fa t H) fb)
    (fun c _ _ fa fb t H => condF (evF c t) (fa t H) (fb t H))
    (fun id _ f t H => blockF id (f t H))
    (fun _ f => loopF f n)
    (fun id t H => some (.exit id, t, H))
    (fun t H => some (.ret, t, H))
    (fun _ _ => none)
    (fun f ps as bd _ _ t H => rangeF nt keep call (evF f t) ps as bd t H)
    c

structure Tn (nt : Nat) (t : TT) (T : Tmps) : Prop where
  l : Tl t T
  n : T.length = nt

theorem Tn.put {nt : Nat} {t : TT} {T : Tmps} (h : Tn nt t T) (d : Option Nat) (v : AV) : Tn nt (putF t d v) (putT T d v) := by
  cases d with
  | none => exact h
  | some d => exact ⟨h.l.set d v, by simp [putT, h.n]⟩

theorem Tn.toL {nt : Nat} {t : TT} {T : Tmps} (h : Tn nt t T) : toLF nt t = T := by
  refine List.ext_getElem? fun i => ?_
  simp only [toLF, List.getElem?_map]
  by_cases hi : i < nt
  · have : i < T.length := by rw [h.n]; exact hi
    rw [List.getElem?_range hi, Option.map_some, h.l i, List.getElem?_eq_getElem this]; rfl
  · rw [List.getElem?_eq_none (by simpa using hi), List.getElem?_eq_none (by rw [h.n]; omega)]; rfl

/-- what the fast evaluator's answer has to do with AE's -/
def Rl (nt : Nat) : FRes → ACodeRes → Prop
  | some (e, t, H), some (e', T, H') => e = e' ∧ Tn nt t T ∧ H = H'
  | none, none => True
  | _, _ => False

theorem guard_eq {nt : Nat} {t : TT} {T : Tmps} (h : Tn nt t T) (g : Option (Nat × Bool)) (yes no : FRes) : guardF g t yes no = match wantedA T g with | some true => yes | some false => no | none => none := by
  cases g with
  | none => rfl
  | some p =>
    obtain ⟨k, w⟩ := p
    show (match getF t k with
      | .bool b => Bool.rec (motive := fun _ => FRes) no yes (b == w)
      | .tuple [] => no
      | _ => none) = _
    rw [h.l.get k]
    simp only [wantedA]
    generalize T.getD k undefA = v
    split
    · rename_i b
      simp only
      cases (b == w) <;> rfl
    · rfl
    · rename_i h1 h2
      split
      · rename_i hq
        split at hq
        · rename_i b _; exact absurd rfl (h1 _)
        · exact absurd rfl h2
        · simp at hq
      · rename_i hq
        split at hq
        · rename_i b _; exact absurd rfl (h1 _)
        · exact absurd rfl h2
        · simp at hq
      · rfl

theorem ops_eq {nt : Nat} {keep : Nat → Bool} {call : ACall} : ∀ (ops : List LOper) (t : TT) (T : Tmps) (H : AHeap), Tn nt t T → Rl nt (opsF keep call ops t H) (match opsA keep call ops T H with | some (T', H', _) => some (.normal, T', H') | none => none)
  | [], t, T, H, h => ⟨rfl, h, rfl⟩
  | o :: l, t, T, H, h => by
    show Rl nt (guardF o.guard t (thenF (operF keep call o.op t H) fun v H' _ => opsF keep call l (putF t o.d v) H') (opsF keep call l (putF t o.d undefA) H)) _
    rw [guard_eq h, operF_eq h.l]
    simp only [opsA]
    split
    · rename_i hw
      simp only [hw]
      cases hop : operA keep call T H o.op with
      | none => trivial
      | some r =>
        obtain ⟨v, H1, kd⟩ := r
        have := ops_eq (keep := keep) (call := call) l (putF t o.d v) (putT T o.d v) H1 (h.put o.d v)
        simp only [thenF]
        cases hr : opsA keep call l (putT T o.d v) H1 with
        | none => rw [hr] at this; exact this
        | some r => rw [hr] at this; exact this
    · rename_i hw
      simp only [hw]
      have := ops_eq (keep := keep) (call := call) l (putF t o.d undefA) (putT T o.d undefA) H (h.put o.d undefA)
      cases hr : opsA keep call l (putT T o.d undefA) H with
      | none => rw [hr] at this; exact this
      | some r => rw [hr] at this; exact this
    · rename_i hw
      simp only [hw]
      trivial

theorem opsd_eq {nt : Nat} {keep : Nat → Bool} {call : ACall} {all : List LOper} : ∀ (ops : List LOper) (t : TT) (T : Tmps) (H : AHeap) (ks : List Kd), Tn nt t T →
    Rl nt (opsFd keep call all ops t H ks) (match opsA keep call ops T H with | some (T', H', ks') => if drawOk all (ks.reverse ++ ks') then some (.normal, T', H') else none | none => none)
  | [], t, T, H, ks, h => by
    show Rl nt (Bool.rec (motive := fun _ => FRes) none (some (.normal, t, H)) (drawOk all ks.reverse)) _
    simp only [opsA, List.append_nil]
    cases drawOk all ks.reverse with
    | true => exact ⟨rfl, h, rfl⟩
    | false => trivial
  | o :: l, t, T, H, ks, h => by
    show Rl nt (guardF o.guard t (thenF (operF keep call o.op t H) fun v H' kd => opsFd keep call all l (putF t o.d v) H' (kd :: ks)) (opsFd keep call all l (putF t o.d undefA) H (.p :: ks))) _
    rw [guard_eq h, operF_eq h.l]
    simp only [opsA]
    split
    · rename_i hw
      simp only [hw]
      cases hop : operA keep call T H o.op with
      | none => trivial
      | some r =>
        obtain ⟨v, H1, kd⟩ := r
        have := opsd_eq (keep := keep) (call := call) (all := all) l (putF t o.d v) (putT T o.d v) H1 (kd :: ks) (h.put o.d v)
        simp only [thenF]
        cases hr : opsA keep call l (putT T o.d v) H1 with
        | none => rw [hr] at this; exact this
        | some r => rw [hr] at this; simpa using this
    · rename_i hw
      simp only [hw]
      have := opsd_eq (keep := keep) (call := call) (all := all) l (putF t o.d undefA) (putT T o.d undefA) H (.p :: ks) (h.put o.d undefA)
      cases hr : opsA keep call l (putT T o.d undefA) H with
      | none => rw [hr] at this; exact this
      | some r => rw [hr] at this; simpa using this
    · rename_i hw
      simp only [hw]
      trivial

theorem code_eq {nt : Nat} {keep : Nat → Bool} {call : ACall} {n : Nat} : ∀ (c : LCode) (t : TT) (T : Tmps) (H : AHeap), Tn nt t T → Rl nt (codeF nt keep call n c t H) (codeA keep call n c T H)
  | .skip, t, T, H, h => ⟨rfl, h, rfl⟩
  | .reg false ops, t, T, H, h => by
    have := ops_eq (keep := keep) (call := call) ops t T H h
    show Rl nt (opsF keep call ops t H) _
    simp only [codeA, Bool.false_and, Bool.false_eq_true, if_false]
    exact this
  | .reg true ops, t, T, H, h => by
    have := opsd_eq (keep := keep) (call := call) (all := ops) ops t T H [] h
    show Rl nt (opsFd keep call ops ops t H []) _
    simp only [codeA, Bool.true_and]
    cases hr : opsA keep call ops T H with
    | none => rw [hr] at this; exact this
    | some r =>
      rw [hr] at this
      simp only [List.reverse_nil, List.nil_append] at this ⊢
      cases hd : drawOk ops r.2.2 <;> simpa [hd] using this
  | .seq a b, t, T, H, h => by
    have h1 := code_eq (keep := keep) (call := call) (n := n) a t T H h
    show Rl nt (seqF (codeF nt keep call n a t H) (codeF nt keep call n b)) _
    simp only [codeA]
    generalize codeF nt keep call n a t H = x at h1
    generalize codeA keep call n a T H = y at h1
    rcases x with _ | ⟨e, t1, H1⟩ <;> rcases y with _ | ⟨e', T1, H1'⟩ <;> simp only [Rl] at h1
    · trivial
    · obtain ⟨rfl, h2, rfl⟩ := h1
      cases e with
      | normal => exact code_eq b t1 T1 H1 h2
      | exit i => exact ⟨rfl, h2, rfl⟩
      | ret => exact ⟨rfl, h2, rfl⟩
  | .cond c a b, t, T, H, h => by
    show Rl nt (condF (evF c t) (codeF nt keep call n a t H) (codeF nt keep call n b t H)) _
    rw [h.l.ev]
    simp only [codeA, condF]
    cases ev T c with
    | bool q =>
      cases q with
      | true => exact code_eq a t T H h
      | false => exact code_eq b t T H h
    | _ => trivial
  | .block id c, t, T, H, h => by
    have h1 := code_eq (keep := keep) (call := call) (n := n) c t T H h
    show Rl nt (blockF id (codeF nt keep call n c t H)) _
    simp only [codeA]
    generalize codeF nt keep call n c t H = x at h1
    generalize codeA keep call n c T H = y at h1
    rcases x with _ | ⟨e, t1, H1⟩ <;> rcases y with _ | ⟨e', T1, H1'⟩ <;> simp only [Rl] at h1
    · trivial
    · obtain ⟨rfl, h2, rfl⟩ := h1
      cases e with
      | normal => exact ⟨rfl, h2, rfl⟩
      | ret => exact ⟨rfl, h2, rfl⟩
      | exit i =>
        simp only [blockF]
        split
        · exact ⟨rfl, h2, rfl⟩
        · exact ⟨rfl, h2, rfl⟩
  | .loop c, t, T, H, h => by
    show Rl nt (loopF (codeF nt keep call n c) n t H) _
    simp only [codeA]
    have key : ∀ m t T H, Tn nt t T → Rl nt (loopF (codeF nt keep call n c) m t H) (loopA (codeA keep call n c) m T H) := by
      intro m
      induction m with
      | zero => intro t T H _; trivial
      | succ m ih =>
        intro t T H h
        have h1 := code_eq (keep := keep) (call := call) (n := n) c t T H h
        show Rl nt (seqF (codeF nt keep call n c t H) (loopF (codeF nt keep call n c) m)) _
        simp only [loopA]
        generalize codeF nt keep call n c t H = x at h1
        generalize codeA keep call n c T H = y at h1
        rcases x with _ | ⟨e, t1, H1⟩ <;> rcases y with _ | ⟨e', T1, H1'⟩ <;> simp only [Rl] at h1
        · trivial
        · obtain ⟨rfl, h2, rfl⟩ := h1
          cases e with
          | normal => exact ih t1 T1 H1 h2
          | exit i => exact ⟨rfl, h2, rfl⟩
          | ret => exact ⟨rfl, h2, rfl⟩
    exact key n t T H h
  | .exit id, t, T, H, h => ⟨rfl, h, rfl⟩
  | .ret, t, T, H, h => ⟨rfl, h, rfl⟩
  | .fail, t, T, H, h => trivial
  | .rangeFunc f ps as bd, t, T, H, h => by
    show Rl nt (rangeF nt keep call (evF f t) ps as bd t H) _
    rw [h.l.ev]
    simp only [codeA, rangeF, h.toL]
    cases ev T f with
    | func g first captured =>
      simp only
      split
      · trivial
      · cases call false g (first ++ [.yld H.length] ++ captured) (H ++ [.loop 0 none T ps as bd]) with
        | none => trivial
        | some r =>
          obtain ⟨v, H2⟩ := r
          simp only
          cases H2[H.length]? with
          | none => trivial
          | some k =>
            cases k with
            | loop st pd T' ps' as' bd' =>
              simp only
              split
              · trivial
              · exact ⟨rfl, h, rfl⟩
            | _ => trivial
    | _ => trivial

/-- code over the slots of a list -/
noncomputable def codeLF (keep : Nat → Bool) (call : ACall) (n : Nat) (c : LCode) (T : Tmps) (H : AHeap) : ACodeRes :=
  match codeF T.length keep call n c (startF T.length T) H with
  | some (e, t, H') => some (e, toLF T.length t, H')
  | none => none

theorem codeLF_eq (keep : Nat → Bool) (call : ACall) (n : Nat) : codeLF keep call n = codeA keep call n := by
  funext c T H
  have h0 : Tn T.length (startF T.length T) T := ⟨by simpa using Tl.start (args := T) (nt := T.length) (Nat.le_refl _), rfl⟩
  have := code_eq (keep := keep) (call := call) (n := n) c _ _ H h0
  unfold codeLF
  generalize codeF T.length keep call n c (startF T.length T) H = x at this
  generalize codeA keep call n c T H = y at this
  rcases x with _ | ⟨e, t1, H1⟩ <;> rcases y with _ | ⟨e', T1, H1'⟩ <;> simp only [Rl] at this
  · rfl
  · obtain ⟨rfl, h2, rfl⟩ := this
    simp only [h2.toL]

noncomputable def resF (t : TT) (H : AHeap) (rs : List LRes) : Option (List AV) :=
  List.rec (motive := fun _ => Option (List AV)) (some []) (fun r _ ih => LRes.rec (motive := fun _ => Option (List AV)) (fun n => ih.map (getF t n :: ·)) (fun a sz ag => match loadA H sz ag (getF t a) with
    | some (v, _, _) => ih.map (v :: ·)
    | none => none) r) rs

theorem res_eq {t : TT} {T : Tmps} (h : Tl t T) (H : AHeap) : ∀ rs, resF t H rs = resA T H rs
  | [] => rfl
  | .t n :: l => by
    show (resF t H l).map (getF t n :: ·) = _
    rw [res_eq h H l, h.get]; rfl
  | .cell a sz ag :: l => by
    show (match loadA H sz ag (getF t a) with
      | some (v, _, _) => (resF t H l).map (v :: ·)
      | none => none) = _
    rw [res_eq h H l, h.get]; rfl

def doneF (r : FRes) (k : TT → AHeap → Option (AV × AHeap)) : Option (AV × AHeap) := match r with
  | some (.exit _, _, _) => none
  | some (_, t, H) => k t H
  | none => none

noncomputable def callsF (lp : Nat → Option LFunc) (keep : Nat → Bool) (hk : ACall → Nat → List AV → AHeap → Option (AV × AHeap)) (n : Nat) : ACall :=
  Nat.rec (motive := fun _ => ACall) (fun _ _ _ _ => none)
    (fun n ih y => Bool.rec (motive := fun _ => Nat → List AV → AHeap → Option (AV × AHeap))
      (fun f args H => match lp f with
        | some (.code np nt results body) => if args.length = np ∧ np ≤ nt then doneF (codeF nt keep ih n body (startF nt args) H) fun t H' => (resF t H' results).map fun vs => (tupA vs, H') else
            if args.length = np then match codeA keep ih n body (args ++ List.replicate (nt - np) undefA) H with
              | some (.exit _, _, _) => none
              | some (_, T, H') => (resA T H' results).map fun vs => (tupA vs, H')
              | none => none
            else none
        | some (.ext e) => extA e args H
        | none => hk ih f args H)
      (fun b args H => roundA (codeLF keep ih n) b args H) y) n

theorem callsF_eq (lp : Nat → Option LFunc) (keep : Nat → Bool) (hk : ACall → Nat → List AV → AHeap → Option (AV × AHeap)) : ∀ n, callsF lp keep hk n = callsA lp keep hk n
  | 0 => by funext y f args H; simp only [callsA]; rfl
  | n + 1 => by
    have ih := callsF_eq lp keep hk n
    funext y f args H
    cases y with
    | true =>
      show roundA (codeLF keep (callsF lp keep hk n) n) f args H = _
      rw [ih, codeLF_eq]; simp only [callsA]
    | false =>
      show (match lp f with
        | some (.code np nt results body) => if args.length = np ∧ np ≤ nt then doneF (codeF nt keep (callsF lp keep hk n) n body (startF nt args) H) fun t H' => (resF t H' results).map fun vs => (tupA vs, H') else
            if args.length = np then match codeA keep (callsF lp keep hk n) n body (args ++ List.replicate (nt - np) undefA) H with
              | some (.exit _, _, _) => none
              | some (_, T, H') => (resA T H' results).map fun vs => (tupA vs, H')
              | none => none
            else none
        | some (.ext e) => extA e args H
        | none => hk (callsF lp keep hk n) f args H) = _
      rw [ih]
      simp only [callsA]
      cases lp f with
      | none => rfl
      | some g =>
        cases g with
        | ext e => rfl
        | code np nt rs body =>
          simp only
          split
          · rename_i hc
            obtain ⟨h1, h2⟩ := hc
            rw [if_pos h1]
            subst h1
            have h0 : Tn nt (startF nt args) (args ++ List.replicate (nt - args.length) undefA) := ⟨Tl.start h2, by simp; omega⟩
            have := code_eq (keep := keep) (call := callsA lp keep hk n) (n := n) body _ _ H h0
            generalize codeF nt keep (callsA lp keep hk n) n body (startF nt args) H = x at this
            generalize codeA keep (callsA lp keep hk n) n body (args ++ List.replicate (nt - args.length) undefA) H = y at this
            rcases x with _ | ⟨e, t1, H1⟩ <;> rcases y with _ | ⟨e', T1, H1'⟩ <;> simp only [Rl] at this
            · rfl
            · obtain ⟨rfl, h3, rfl⟩ := this
              cases e with
              | normal => simp only [doneF, res_eq h3.l]
              | exit i => rfl
              | ret => simp only [doneF, res_eq h3.l]
          · rfl
end Go.AE
/-
  A SEAT'S TIES: tables by number, and what is to be checked of a program function by function.
-/
namespace Go.AE
open Go

/-- tables: from numbers to numbers, from numbers to functions -/
inductive NT (α : Type) where
  | l
  | n (k : Nat) (v : α) (a b : NT α)

noncomputable def NT.get {α : Type} (t : NT α) : Nat → Option α :=
  NT.rec (motive := fun _ => Nat → Option α) (fun _ => none)
    (fun k v _ _ ga gb i => Bool.rec (motive := fun _ => Option α) (Bool.rec (motive := fun _ => Option α) (gb i) (ga i) (Nat.blt i k)) (some v) (Nat.beq i k)) t

def NT.All {α : Type} (p : Nat → α → Prop) : NT α → Prop
  | .l => True
  | .n k v a b => p k v ∧ a.All p ∧ b.All p

def NT.all {α : Type} (p : Nat → α → Bool) : NT α → Bool
  | .l => true
  | .n k v a b => p k v && a.all p && b.all p

theorem NT.get_all {α : Type} {p : Nat → α → Prop} : ∀ {t : NT α} {i : Nat} {v : α}, t.All p → t.get i = some v → p i v
  | .l, _, _, _, h => by cases h
  | .n k w a b, i, v, hp, h => by
    obtain ⟨h1, h2, h3⟩ := hp
    have h' : Bool.rec (motive := fun _ => Option α) (Bool.rec (motive := fun _ => Option α) (b.get i) (a.get i) (Nat.blt i k)) (some w) (Nat.beq i k) = some v := h
    cases hb : Nat.beq i k with
    | true =>
      rw [hb] at h'
      cases h'
      rw [Nat.eq_of_beq_eq_true hb]; exact h1
    | false =>
      rw [hb] at h'
      cases hc : Nat.blt i k with
      | true => rw [hc] at h'; exact NT.get_all h2 h'
      | false => rw [hc] at h'; exact NT.get_all h3 h'

theorem NT.all_All {α : Type} {p : Nat → α → Bool} : ∀ {t : NT α}, t.all p = true → t.All fun k v => p k v = true
  | .l, _ => trivial
  | .n k v a b, h => by
    simp only [NT.all, Bool.and_eq_true] at h
    exact ⟨h.1.1, NT.all_All h.1.2, NT.all_All h.2⟩

noncomputable def backB (t : NT Nat) (f i : Nat) : Bool := match t.get i with
  | some g => Nat.beq g f
  | none => false
theorem NT.All.imp {α : Type} {p q : Nat → α → Prop} (h : ∀ k v, p k v → q k v) : ∀ {t : NT α}, t.All p → t.All q
  | .l, _ => trivial
  | .n k v _ _, hp => ⟨h k v hp.1, NT.All.imp h hp.2.1, NT.All.imp h hp.2.2⟩
theorem back_of {s t : NT Nat} (h : s.all (backB t) = true) : s.All fun f i => t.get i = some f :=
  (NT.all_All h).imp fun f i hb => by
    unfold backB at hb
    split at hb
    · rename_i g hg
      rw [hg, Nat.eq_of_beq_eq_true hb]
    · simp at hb

theorem reckonStruct_desc {info : TypeId → Option TypeInfo} {fs : Array Field} {i : TypeInfo} (h : Made.reckonStruct info fs = some i) : ∃ out, i.desc = .struct out := by
  unfold Made.reckonStruct at h
  simp only [bind, Option.bind_eq_some_iff] at h
  obtain ⟨r, _, h⟩ := h
  split at h <;> (simp only [pure, Option.some.injEq] at h; subst h; exact ⟨_, rfl⟩)

theorem reckon_desc {info : TypeId → Option TypeInfo} {d : TypeDesc} {i : TypeInfo} (h : Made.reckon info d = some i) : (∀ k, i.desc ≠ .int k) ∧ ∀ n u, i.desc ≠ .named n u := by
  unfold Made.reckon at h
  cases d <;> simp only [bind, pure, Option.bind_eq_some_iff, reduceCtorEq] at h
  case struct fs =>
    obtain ⟨out, ho⟩ := reckonStruct_desc h
    exact ⟨fun k => by rw [ho]; simp, fun n u => by rw [ho]; simp⟩
  case pointer e =>
    obtain ⟨j, _, h⟩ := h
    split at h <;> try (simp at h; done)
    · split at h
      · simp at h
      · simp only [Option.bind_eq_some_iff, Option.some.injEq] at h
        obtain ⟨_, _, rfl⟩ := h
        exact ⟨fun k => by simp [Made.word], fun n u => by simp [Made.word]⟩
    · simp only [Option.bind_eq_some_iff, Option.some.injEq] at h
      obtain ⟨_, _, rfl⟩ := h
      exact ⟨fun k => by simp [Made.word], fun n u => by simp [Made.word]⟩
  all_goals
    simp only [Option.bind_eq_some_iff, Option.some.injEq] at h
    first
      | (obtain ⟨_, _, _, _, _, _, _, _, rfl⟩ := h; exact ⟨fun k => by simp [Made.word], fun n u => by simp [Made.word]⟩)
      | (obtain ⟨_, _, _, _, rfl⟩ := h; exact ⟨fun k => by simp [Made.word], fun n u => by simp [Made.word]⟩)
      | (obtain ⟨_, ⟨_, _, _⟩, _, _, rfl⟩ := h; exact ⟨fun k => by simp [Made.word], fun n u => by simp [Made.word]⟩)
      | (obtain ⟨_, ⟨_, _, rfl⟩⟩ := h; exact ⟨fun k => by simp [Made.word], fun n u => by simp [Made.word]⟩)
      | (obtain ⟨_, _, rfl⟩ := h; exact ⟨fun k => by simp [Made.word], fun n u => by simp [Made.word]⟩)

theorem made_desc {T : Tables} : ∀ {f t i}, Made.infoAt T f t = some i → ¬ t < T.types.size → (∀ k, i.desc ≠ .int k) ∧ ∀ n u, i.desc ≠ .named n u
  | 0, t, i, h, _ => by simp [Made.infoAt] at h
  | f + 1, t, i, h, ht => by
    simp only [Made.infoAt, if_neg ht, Option.bind_eq_some_iff] at h
    obtain ⟨d, _, h⟩ := h
    exact reckon_desc h

def isU8 : TypeDesc → Bool
  | .int .u8 => true
  | _ => false
def named? : TypeDesc → Option TypeId
  | .named _ u => some u
  | _ => none
/-- what is one byte, by its name or without, is one cell -/
def u8ok (P : Program) : Bool := P.types.toList.all fun i => i.size == 1 || match named? i.desc with
  | some u => match P.info? u with
    | some j => !isU8 j.desc
    | none => true
  | none => !isU8 i.desc

theorem isU8_eq {d : TypeDesc} : isU8 d = true ↔ d = .int .u8 := by
  unfold isU8
  split
  · simp
  · rename_i h
    simp; exact h
theorem named_eq {d : TypeDesc} {u : TypeId} : named? d = some u ↔ ∃ n, d = .named n u := by
  unfold named?
  split <;> simp
  rename_i h
  exact fun n e => h n u e

theorem u8_of {P : Program} (h : u8ok P = true) (t : TypeId) (ht : P.underlying t = some (.int .u8)) : P.cellsOf t = 1 := by
  unfold Program.underlying at ht
  by_cases hlt : t < P.types.size
  · have hi : P.info? t = P.types[t]? := by simp [Tables.info?, hlt]
    have hg : P.types[t]? = some P.types[t] := Array.getElem?_eq_getElem hlt
    have hm : P.types[t] ∈ P.types.toList := by simp
    have := List.all_eq_true.1 h _ hm
    simp only [Bool.or_eq_true, beq_iff_eq] at this
    rcases this with h1 | h1
    · simp [Program.cellsOf, hi, hg, h1]
    · exfalso
      rw [hi, hg] at ht
      generalize P.types[t] = i at ht h1
      cases hd : named? i.desc with
      | some u =>
        rw [hd] at h1
        obtain ⟨n, hn⟩ := named_eq.1 hd
        obtain ⟨d, str, sz, by_, hp, al, fa, z, cp, ms⟩ := i
        simp only at hn; subst hn
        simp only [Option.map_eq_some_iff] at ht
        obtain ⟨j, hj, hjd⟩ := ht
        simp only [hj] at h1
        simp [isU8_eq.2 hjd] at h1
      | none =>
        rw [hd] at h1
        split at ht
        · rename_i n u _ _ _ _ _ _ _ _ _ heq
          simp at heq; subst heq
          simp [named?] at hd
        · rename_i heq
          simp at heq; subst heq
          simp at ht
          simp [isU8_eq.2 ht] at h1
        · simp at ht
  · exfalso
    cases hi : P.info? t with
    | none => simp [hi] at ht
    | some i =>
      have hq : Made.infoAt P.toTables Made.depth t = some i := by simpa [Tables.info?, hlt] using hi
      obtain ⟨h1, h2⟩ := made_desc hq hlt
      rw [hi] at ht
      split at ht
      · rename_i n u _ _ _ _ _ _ _ _ _ heq
        simp at heq; subst heq
        exact h2 _ _ rfl
      · rename_i heq
        simp at heq; subst heq
        simp at ht
        exact h1 _ ht
      · simp at ht

/-- there is one strings.Builder alone -/
def bldOk (P : Program) (b : TypeId) : Bool := P.types.toList.zipIdx.all fun (i, k) => !(i.str == "strings.Builder") || k == b

theorem bld_of {P : Program} {b : TypeId} (h : bldOk P b = true) (t u : TypeId) (ht : tagA P t = 2) (hu : tagA P u = 2) : t = u := by
  have key : ∀ t, tagA P t = 2 → t = b := by
    intro t ht
    unfold tagA at ht
    split at ht <;> try (simp at ht; done)
    split at ht <;> try (simp at ht; done)
    rename_i hc
    simp only [Bool.and_eq_true, decide_eq_true_eq] at hc
    obtain ⟨hlt, hs⟩ := hc
    have hi : P.info? t = some P.types[t] := by simp [Tables.info?, hlt]
    rw [hi] at hs
    simp only [Option.any_some, beq_iff_eq] at hs
    have hm : (P.types[t], t) ∈ P.types.toList.zipIdx := by
      rw [List.mem_zipIdx_iff_getElem?]; simp [hlt]
    have := List.all_eq_true.1 h _ hm
    simpa [hs] using this
  rw [key t ht, key u hu]

def rowsOf : List (String × List (Nat × Nat)) → String → List (Nat × Nat)
  | [], _ => []
  | (n, l) :: r, s => if n = s then l else rowsOf r s

/-- one row: the method of a tag's type -/
def RowOk (P : Program) (untag fid : NT Nat) (name : String) (p : Nat × Nat) : Prop :=
  ∃ t f, untag.get p.1 = some t ∧ fid.get p.2 = some f ∧ ∀ (v : Value) (w : World), (method (P.types.size + Made.depth) t v name).run P w = .ok (f, v) w
def RowsOk (P : Program) (untag fid : NT Nat) (name : String) : List (Nat × Nat) → Prop
  | [] => True
  | p :: l => RowOk P untag fid name p ∧ RowsOk P untag fid name l
def TableOk (P : Program) (untag fid : NT Nat) : List (String × List (Nat × Nat)) → Prop
  | [] => True
  | (n, l) :: r => RowsOk P untag fid n l ∧ TableOk P untag fid r

theorem RowsOk.get {P : Program} {untag fid : NT Nat} {name : String} : ∀ {l : List (Nat × Nat)} {p : Nat × Nat}, RowsOk P untag fid name l → p ∈ l → RowOk P untag fid name p
  | q :: l, p, h, hp => by
    rcases List.mem_cons.1 hp with rfl | hp
    · exact h.1
    · exact RowsOk.get h.2 hp
theorem TableOk.get {P : Program} {untag fid : NT Nat} : ∀ {r : List (String × List (Nat × Nat))} {name : String} {p : Nat × Nat}, TableOk P untag fid r → p ∈ rowsOf r name → RowOk P untag fid name p
  | (n, l) :: r, name, p, h, hp => by
    simp only [rowsOf] at hp
    split at hp
    · rename_i e; subst e; exact h.1.get hp
    · exact TableOk.get h.2 hp

/-- the tables of a seat -/
structure SeatT where
  id : NT Nat
  fid : NT Nat
  tag : NT Nat
  untag : NT Nat
  rows : List (String × List (Nat × Nat))
  gl : NT AV

noncomputable def SeatT.ties (s : SeatT) : Ties := { idOf := s.id.get, tagOf := s.tag.get, gl := s.gl.get, ifTys := [], rows := rowsOf s.rows }

structure SeatOk (P : Program) (s : SeatT) (bld : TypeId) : Prop where
  id : s.id.All fun f i => s.fid.get i = some f
  tag : s.tag.All fun t g => s.untag.get g = some t
  gl : s.gl.All fun _ v => v.locFree = true
  rows : TableOk P s.untag s.fid s.rows
  u8 : u8ok P = true
  bld : bldOk P bld = true

noncomputable def ctxOf (P : Program) (s : SeatT) (bld : TypeId) (h : SeatOk P s bld) : Ctx where
  P := P
  τ := s.ties
  fid i := (s.fid.get i).getD 0
  fidOk f i hi := by rw [NT.get_all h.id hi]; rfl
  glFree g v hg := NT.get_all h.gl hg
  tagInj t u g ht hu := by
    have h1 := NT.get_all h.tag ht
    have h2 := NT.get_all h.tag hu
    rw [h1] at h2; exact Option.some.inj h2
  u8 := u8_of h.u8
  bld := bld_of h.bld
  meth name g i t hm ht v w := by
    obtain ⟨t', f, h1, h2, h3⟩ := TableOk.get h.rows hm
    have h4 := NT.get_all h.tag ht
    rw [h1] at h4
    obtain rfl := Option.some.inj h4
    rw [h2]; exact h3 v w

/-- what is to be checked of a function -/
def Tied (C : Ctx) (keep : Nat → Bool) (i : Nat) (f : LFunc) : Prop :=
  (∃ fn, C.P.funcs[C.fid i]? = some fn ∧ (fn.name == "runtime.NumGoroutine") = false ∧ lowFunc C.P C.τ fn = some f ∧ (∀ e, f ≠ .ext e)) ∨ ∃ e, f = .ext e ∧ keep i = false ∧ ExtSound C i e

theorem lp_of {C : Ctx} {keep : Nat → Bool} {t : NT LFunc} (h : t.All (Tied C keep)) : LpOk C keep t.get where
  keep i e hi := by
    rcases NT.get_all h hi with ⟨_, _, _, _, h1⟩ | ⟨_, _, h1, _⟩
    · exact absurd rfl (h1 e)
    · exact h1
  code i np nt rs body hi := by
    rcases NT.get_all h hi with ⟨fn, h1, h2, h3, _⟩ | ⟨_, h1, _⟩
    · obtain ⟨c, g1, g2, g3, g4, g5⟩ := low_code_of h3
      exact ⟨fn, c, h1, g1, by simpa using h2, g2, g3, g4, g5⟩
    · cases h1
  ext i e hi := by
    rcases NT.get_all h hi with ⟨_, _, _, _, h1⟩ | ⟨e', h1, _, h2⟩
    · exact absurd rfl (h1 e)
    · cases h1; exact h2

/-- one function alone is answered for by a contract of its own -/
def hookA (keep : Nat → Bool) (once : Nat) (o : OnceT) (call : ACall) (f : Nat) (args : List AV) (H : AHeap) : Option (AV × AHeap) :=
  if f = once then onceA o keep call args H else none

theorem hook_of {C : Ctx} {keep : Nat → Bool} {lp : Nat → Option LFunc} {once : Nat} {o : OnceT} (h : OnceOk C lp o once) : HookSound C keep lp (hookA keep once o) := by
  intro call hcall hdef f args H v H' hk φ N W xs hH hl
  unfold hookA at hk
  split at hk
  · rename_i e; subst e
    exact .inl (once_sound h hcall hdef hk hH hl)
  · simp at hk

theorem ext_makeNoZero1 {C : Ctx} {i : Nat} {ps rs : Array TypeId} {t e : TypeId} (hf : ExtFn C.P (C.fid i) (Extern.BytealgMakeNoZero.makeNoZero ps rs)) (hr : rs[0]? = some t) (ht : C.P.underlying t = some (.slice e)) (hg : tagA C.P e = 1) :
    ExtSound C i (.makeNoZero 1) := hg ▸ ext_makeNoZero hf hr ht
end Go.AE
/-
  LAWS OF AE's CODE, without fuel: what a piece of code comes to, read backwards.
-/
namespace Go.AE

/-- every answer of the one is the other's -/
def ALe (c c' : ACall) : Prop := ∀ y f args H r, c y f args H = some r → c' y f args H = some r

abbrev AHook := ACall → Nat → List AV → AHeap → Option (AV × AHeap)

structure Env where
  lp : Nat → Option LFunc
  keep : Nat → Bool
  hk : AHook
  mono : ∀ {c c'}, ALe c c' → ∀ f args H r, hk c f args H = some r → hk c' f args H = some r

theorem callA_mono {keep : Nat → Bool} {c c' : ACall} (h : ALe c c') {f : Nat} {args : List AV} {H : AHeap} {r : AV × AHeap × Kd} (hr : callA keep c f args H = some r) : callA keep c' f args H = some r := by
  unfold callA at hr ⊢
  split
  · rename_i hl
    rw [if_pos hl] at hr
    cases hc : c false f args [] with
    | none => rw [hc] at hr; simp at hr
    | some p => rw [hc] at hr; rw [h _ _ _ _ _ hc]; exact hr
  · rename_i hl
    rw [if_neg hl] at hr
    simp only [Option.map_eq_some_iff] at hr ⊢
    obtain ⟨p, h1, h2⟩ := hr
    exact ⟨p, h _ _ _ _ _ h1, h2⟩

theorem operA_mono {keep : Nat → Bool} {c c' : ACall} (h : ALe c c') {T : Tmps} {H : AHeap} {op : LOp} {r : AV × AHeap × Kd} (hr : operA keep c T H op = some r) : operA keep c' T H op = some r := by
  cases op with
  | call cl args =>
    cases cl with
    | builtin b => exact hr
    | fn f => exact callA_mono h hr
    | val x =>
      simp only [operA] at hr ⊢
      cases hx : ev T x with
      | func f a b => rw [hx] at hr; exact callA_mono h hr
      | yld b =>
        rw [hx] at hr
        simp only [Option.map_eq_some_iff] at hr ⊢
        obtain ⟨p, h1, h2⟩ := hr
        exact ⟨p, h _ _ _ _ _ h1, h2⟩
      | _ => rw [hx] at hr; simp at hr
    | invoke x rows =>
      simp only [operA] at hr ⊢
      cases hx : ev T x with
      | iface g v =>
        rw [hx] at hr
        simp only at hr ⊢
        cases hg : rowOfTag rows g with
        | none => rw [hg] at hr; simp at hr
        | some f => rw [hg] at hr; exact callA_mono h hr
      | _ => rw [hx] at hr; simp at hr
  | _ => exact hr

theorem opsA_mono {keep : Nat → Bool} {c c' : ACall} (h : ALe c c') : ∀ {ops : List LOper} {T : Tmps} {H : AHeap} {r : Tmps × AHeap × List Kd}, opsA keep c ops T H = some r → opsA keep c' ops T H = some r
  | [], _, _, _, hr => hr
  | o :: l, T, H, r, hr => by
    simp only [opsA] at hr ⊢
    split
    · rename_i hw
      simp only [hw] at hr
      cases ho : operA keep c T H o.op with
      | none => rw [ho] at hr; simp at hr
      | some p =>
        rw [ho] at hr; rw [operA_mono h ho]
        simp only [Option.map_eq_some_iff] at hr ⊢
        obtain ⟨q, h1, h2⟩ := hr
        exact ⟨q, opsA_mono h h1, h2⟩
    · rename_i hw
      simp only [hw] at hr
      simp only [Option.map_eq_some_iff] at hr ⊢
      obtain ⟨q, h1, h2⟩ := hr
      exact ⟨q, opsA_mono h h1, h2⟩
    · rename_i hw
      simp only [hw] at hr; simp at hr

theorem loopA_mono {b b' : Tmps → AHeap → ACodeRes} (h : ∀ T H r, b T H = some r → b' T H = some r) : ∀ {n m : Nat} {T : Tmps} {H : AHeap} {r : AExit × Tmps × AHeap}, n ≤ m → loopA b n T H = some r → loopA b' m T H = some r
  | 0, _, _, _, _, _, hr => by simp [loopA] at hr
  | n + 1, 0, _, _, _, hnm, _ => by omega
  | n + 1, m + 1, T, H, r, hnm, hr => by
    simp only [loopA] at hr ⊢
    cases hb : b T H with
    | none => rw [hb] at hr; simp at hr
    | some p =>
      rw [hb] at hr; rw [h _ _ _ hb]
      obtain ⟨e, T1, H1⟩ := p
      cases e with
      | normal => exact loopA_mono h (by omega) hr
      | exit i => exact hr
      | ret => exact hr

theorem codeA_mono {keep : Nat → Bool} {c c' : ACall} (h : ALe c c') {n m : Nat} (hnm : n ≤ m) : ∀ (cd : LCode) {T : Tmps} {H : AHeap} {r : AExit × Tmps × AHeap}, codeA keep c n cd T H = some r → codeA keep c' m cd T H = some r
  | .skip, _, _, _, hr => hr
  | .reg draw ops, T, H, r, hr => by
    simp only [codeA] at hr ⊢
    cases ho : opsA keep c ops T H with
    | none => rw [ho] at hr; simp at hr
    | some p => rw [ho] at hr; rw [opsA_mono h ho]; exact hr
  | .seq a b, T, H, r, hr => by
    simp only [codeA] at hr ⊢
    cases ha : codeA keep c n a T H with
    | none => rw [ha] at hr; simp at hr
    | some p =>
      rw [ha] at hr; rw [codeA_mono h hnm a ha]
      obtain ⟨e, T1, H1⟩ := p
      cases e with
      | normal => exact codeA_mono h hnm b hr
      | exit i => exact hr
      | ret => exact hr
  | .cond x a b, T, H, r, hr => by
    simp only [codeA] at hr ⊢
    split
    · rename_i hb; rw [hb] at hr; exact codeA_mono h hnm a hr
    · rename_i hb; rw [hb] at hr; exact codeA_mono h hnm b hr
    · rename_i h1 h2
      split at hr
      · rename_i hb; exact absurd hb h1
      · rename_i hb; exact absurd hb h2
      · exact hr
  | .block id a, T, H, r, hr => by
    simp only [codeA] at hr ⊢
    cases ha : codeA keep c n a T H with
    | none => rw [ha] at hr; simp at hr
    | some p => rw [ha] at hr; rw [codeA_mono h hnm a ha]; exact hr
  | .loop a, T, H, r, hr => by
    simp only [codeA] at hr ⊢
    exact loopA_mono (fun T H r hr => codeA_mono h hnm a hr) hnm hr
  | .exit _, _, _, _, hr => hr
  | .ret, _, _, _, hr => hr
  | .fail, _, _, _, hr => by simp [codeA] at hr
  | .rangeFunc f ps as bd, T, H, r, hr => by
    simp only [codeA] at hr ⊢
    cases hx : ev T f with
    | func g a b =>
      rw [hx] at hr
      simp only at hr ⊢
      split
      · rename_i hk; rw [if_pos hk] at hr; exact hr
      · rename_i hk
        rw [if_neg hk] at hr
        cases hc : c false g (a ++ [.yld H.length] ++ b) (H ++ [.loop 0 none T ps as bd]) with
        | none => rw [hc] at hr; simp at hr
        | some p => rw [hc] at hr; rw [h _ _ _ _ _ hc]; exact hr
    | _ => rw [hx] at hr; simp at hr

theorem roundA_mono {c c' : LCode → Tmps → AHeap → ACodeRes} (h : ∀ cd T H r, c cd T H = some r → c' cd T H = some r) {b : Nat} {args : List AV} {H : AHeap} {r : AV × AHeap} (hr : roundA c b args H = some r) : roundA c' b args H = some r := by
  unfold roundA at hr ⊢
  split at hr <;> try (simp at hr; done)
  split at hr <;> try (simp at hr; done)
  rename_i hlen
  rw [if_pos hlen]
  split at hr <;> try (simp at hr; done)
  rename_i h1
  rw [h _ _ _ _ h1]
  simp only
  split at hr <;> try (simp at hr; done)
  rename_i h2
  split at hr <;> try (simp at hr; done)
  rename_i h3
  rw [h _ _ _ _ h3]
  exact hr

namespace Env
variable (E : Env)
def call (n : Nat) : ACall := callsA E.lp E.keep E.hk n

theorem call_step : ∀ n, ALe (E.call n) (E.call (n + 1))
  | 0 => fun y f args H r hr => by simp [call, callsA] at hr
  | n + 1 => by
    have ih := call_step n
    intro y f args H r hr
    cases y with
    | true =>
      simp only [call, callsA] at hr ⊢
      exact roundA_mono (fun cd T H r hr => codeA_mono ih (Nat.le_succ n) cd hr) hr
    | false =>
      simp only [call, callsA] at hr ⊢
      split at hr
      · rename_i np nt rs body _
        split at hr <;> try (simp at hr; done)
        rename_i hlen
        rw [if_pos hlen]
        cases hc : codeA E.keep (E.call n) n body (args ++ List.replicate (nt - np) undefA) H with
        | none => rw [show callsA E.lp E.keep E.hk n = E.call n from rfl, hc] at hr; simp at hr
        | some p =>
          rw [show callsA E.lp E.keep E.hk n = E.call n from rfl, hc] at hr
          have := codeA_mono ih (Nat.le_succ n) body hc
          rw [show callsA E.lp E.keep E.hk (n + 1) = E.call (n + 1) from rfl, this]
          exact hr
      · exact hr
      · exact E.mono ih _ _ _ _ hr

theorem call_le {n m : Nat} (h : n ≤ m) : ALe (E.call n) (E.call m) := by
  induction h with
  | refl => exact fun _ _ _ _ _ h => h
  | step _ ih => exact fun y f a H r hr => E.call_step _ y f a H r (ih y f a H r hr)

def code (n : Nat) (c : LCode) (T : Tmps) (H : AHeap) : ACodeRes := codeA E.keep (E.call n) n c T H
theorem code_le {n m : Nat} (h : n ≤ m) {c : LCode} {T : Tmps} {H : AHeap} {r : AExit × Tmps × AHeap} (hr : E.code n c T H = some r) : E.code m c T H = some r := codeA_mono (E.call_le h) h c hr

/-- what a piece of code comes to -/
def W (c : LCode) (T : Tmps) (H : AHeap) (Q : AExit → Tmps → AHeap → Prop) : Prop := ∃ n e T' H', E.code n c T H = some (e, T', H') ∧ Q e T' H'
/-- .. some operations (K: their kinds) -/
def WO (ops : List LOper) (T : Tmps) (H : AHeap) (K : Tmps → AHeap → List Kd → Prop) : Prop := ∃ n T' H' ks, opsA E.keep (E.call n) ops T H = some (T', H', ks) ∧ K T' H' ks
/-- .. one -/
def W1 (op : LOp) (T : Tmps) (H : AHeap) (K : AV → AHeap → Kd → Prop) : Prop := ∃ n v H' k, operA E.keep (E.call n) T H op = some (v, H', k) ∧ K v H' k
/-- .. a call in an operation -/
def C (f : Nat) (args : List AV) (H : AHeap) (K : AV → AHeap → Kd → Prop) : Prop := ∃ n v H' k, callA E.keep (E.call n) f args H = some (v, H', k) ∧ K v H' k
/-- what a call answers -/
def Ans (f : Nat) (args : List AV) (H : AHeap) (v : AV) (H' : AHeap) : Prop := ∃ n, E.call n false f args H = some (v, H')

variable {E}
theorem W.mono {c : LCode} {T : Tmps} {H : AHeap} {Q Q' : AExit → Tmps → AHeap → Prop} (h : E.W c T H Q) (hq : ∀ e T' H', Q e T' H' → Q' e T' H') : E.W c T H Q' := by
  obtain ⟨n, e, T', H', h1, h2⟩ := h
  exact ⟨n, e, T', H', h1, hq _ _ _ h2⟩

theorem W_skip {T : Tmps} {H : AHeap} {Q : AExit → Tmps → AHeap → Prop} : E.W .skip T H Q ↔ Q .normal T H :=
  ⟨fun ⟨n, e, T', H', h1, h2⟩ => by simp [code, codeA] at h1; obtain ⟨rfl, rfl, rfl⟩ := h1; exact h2, fun h => ⟨0, _, _, _, rfl, h⟩⟩
theorem W_ret {T : Tmps} {H : AHeap} {Q : AExit → Tmps → AHeap → Prop} : E.W .ret T H Q ↔ Q .ret T H :=
  ⟨fun ⟨n, e, T', H', h1, h2⟩ => by simp [code, codeA] at h1; obtain ⟨rfl, rfl, rfl⟩ := h1; exact h2, fun h => ⟨0, _, _, _, rfl, h⟩⟩
theorem W_exit {i : Nat} {T : Tmps} {H : AHeap} {Q : AExit → Tmps → AHeap → Prop} : E.W (.exit i) T H Q ↔ Q (.exit i) T H :=
  ⟨fun ⟨n, e, T', H', h1, h2⟩ => by simp [code, codeA] at h1; obtain ⟨rfl, rfl, rfl⟩ := h1; exact h2, fun h => ⟨0, _, _, _, rfl, h⟩⟩

/-- what comes behind: only where a piece ends normally -/
def andThen (K : Tmps → AHeap → Prop) (Q : AExit → Tmps → AHeap → Prop) : AExit → Tmps → AHeap → Prop
  | .normal, T, H => K T H
  | e, T, H => Q e T H
@[simp] theorem andThen_normal {K : Tmps → AHeap → Prop} {Q : AExit → Tmps → AHeap → Prop} {T : Tmps} {H : AHeap} : andThen K Q .normal T H = K T H := rfl
@[simp] theorem andThen_exit {K : Tmps → AHeap → Prop} {Q : AExit → Tmps → AHeap → Prop} {T : Tmps} {H : AHeap} {i : Nat} : andThen K Q (.exit i) T H = Q (.exit i) T H := rfl
@[simp] theorem andThen_ret {K : Tmps → AHeap → Prop} {Q : AExit → Tmps → AHeap → Prop} {T : Tmps} {H : AHeap} : andThen K Q .ret T H = Q .ret T H := rfl

theorem W_seq {a b : LCode} {T : Tmps} {H : AHeap} {Q : AExit → Tmps → AHeap → Prop} : E.W (.seq a b) T H Q ↔ E.W a T H (andThen (fun T' H' => E.W b T' H' Q) Q) := by
  constructor
  · rintro ⟨n, e, T', H', h1, h2⟩
    simp only [code, codeA] at h1
    cases ha : codeA E.keep (E.call n) n a T H with
    | none => rw [ha] at h1; simp at h1
    | some p =>
      obtain ⟨e1, T1, H1⟩ := p
      rw [ha] at h1
      refine ⟨n, e1, T1, H1, ha, ?_⟩
      cases e1 with
      | normal => exact ⟨n, e, T', H', h1, h2⟩
      | exit i => simp at h1; obtain ⟨rfl, rfl, rfl⟩ := h1; exact h2
      | ret => simp at h1; obtain ⟨rfl, rfl, rfl⟩ := h1; exact h2
  · rintro ⟨n, e1, T1, H1, ha, hq⟩
    cases e1 with
    | normal =>
      obtain ⟨m, e, T', H', h1, h2⟩ := hq
      refine ⟨max n m, e, T', H', ?_, h2⟩
      have := E.code_le (Nat.le_max_left n m) ha
      simp only [code, codeA] at this ⊢
      rw [this]
      exact E.code_le (Nat.le_max_right n m) h1
    | exit i => exact ⟨n, _, _, _, by simp only [code, codeA] at ha ⊢; rw [ha], hq⟩
    | ret => exact ⟨n, _, _, _, by simp only [code, codeA] at ha ⊢; rw [ha], hq⟩

/-- a choice -/
def Pick (c : AV) (A B : Prop) : Prop := match c with
  | .bool true => A
  | .bool false => B
  | _ => False
@[simp] theorem Pick_true {A B : Prop} : Pick (.bool true) A B = A := rfl
@[simp] theorem Pick_false {A B : Prop} : Pick (.bool false) A B = B := rfl
theorem Pick_dec {p : Prop} [Decidable p] {A B : Prop} : Pick (.bool (decide p)) A B ↔ (p → A) ∧ (¬ p → B) := by
  by_cases h : p <;> simp [h]

theorem W_cond {c : Opd} {a b : LCode} {T : Tmps} {H : AHeap} {Q : AExit → Tmps → AHeap → Prop} : E.W (.cond c a b) T H Q ↔ Pick (ev T c) (E.W a T H Q) (E.W b T H Q) := by
  unfold W code
  simp only [codeA]
  cases ev T c with
  | bool q => cases q <;> exact Iff.rfl
  | _ => simp [Pick]

theorem W_block {id : Nat} {c : LCode} {T : Tmps} {H : AHeap} {Q : AExit → Tmps → AHeap → Prop} : E.W (.block id c) T H Q ↔ E.W c T H (fun e T' H' => Q (if e = .exit id then .normal else e) T' H') := by
  constructor
  · rintro ⟨n, e, T', H', h1, h2⟩
    simp only [code, codeA] at h1
    cases ha : codeA E.keep (E.call n) n c T H with
    | none => rw [ha] at h1; simp at h1
    | some p =>
      obtain ⟨e1, T1, H1⟩ := p
      rw [ha] at h1
      refine ⟨n, e1, T1, H1, ha, ?_⟩
      cases e1 with
      | normal => simp at h1; obtain ⟨rfl, rfl, rfl⟩ := h1; exact h2
      | ret => simp at h1; obtain ⟨rfl, rfl, rfl⟩ := h1; exact h2
      | exit i =>
        simp only at h1
        by_cases hi : i = id
        · rw [if_pos hi] at h1; simp at h1; obtain ⟨rfl, rfl, rfl⟩ := h1
          rw [if_pos (by rw [hi])]; exact h2
        · rw [if_neg hi] at h1; simp at h1; obtain ⟨rfl, rfl, rfl⟩ := h1
          rw [if_neg (by simpa using hi)]; exact h2
  · rintro ⟨n, e1, T1, H1, ha, hq⟩
    refine ⟨n, _, T1, H1, ?_, hq⟩
    simp only [code, codeA] at ha ⊢
    rw [ha]
    cases e1 with
    | normal => rfl
    | ret => rfl
    | exit i =>
      simp only
      by_cases hi : i = id
      · rw [if_pos hi, if_pos (by rw [hi])]
      · rw [if_neg hi, if_neg (by simpa using hi)]

theorem W_loop {c : LCode} {T : Tmps} {H : AHeap} {Q : AExit → Tmps → AHeap → Prop} : E.W (.loop c) T H Q ↔ E.W c T H (andThen (fun T' H' => E.W (.loop c) T' H' Q) Q) := by
  constructor
  · rintro ⟨n, e, T', H', h1, h2⟩
    simp only [code, codeA] at h1
    cases n with
    | zero => simp [loopA] at h1
    | succ n =>
      simp only [loopA] at h1
      cases ha : codeA E.keep (E.call (n + 1)) (n + 1) c T H with
      | none => rw [ha] at h1; simp at h1
      | some p =>
        obtain ⟨e1, T1, H1⟩ := p
        rw [ha] at h1
        refine ⟨n + 1, e1, T1, H1, ha, ?_⟩
        cases e1 with
        | normal =>
          refine ⟨n + 1, e, T', H', ?_, h2⟩
          simp only [code, codeA]
          exact loopA_mono (fun _ _ _ h => h) (Nat.le_succ n) h1
        | exit i => simp at h1; obtain ⟨rfl, rfl, rfl⟩ := h1; exact h2
        | ret => simp at h1; obtain ⟨rfl, rfl, rfl⟩ := h1; exact h2
  · rintro ⟨n, e1, T1, H1, ha, hq⟩
    cases e1 with
    | normal =>
      obtain ⟨m, e, T', H', h1, h2⟩ := hq
      refine ⟨max n m + 1, e, T', H', ?_, h2⟩
      have h3 := E.code_le (Nat.le_trans (Nat.le_max_left n m) (Nat.le_succ _)) ha
      simp only [code, codeA] at h1 h3 ⊢
      simp only [loopA]
      rw [h3]
      exact loopA_mono (fun T H r h => codeA_mono (E.call_le (by omega)) (by omega) c h) (Nat.le_max_right n m) h1
    | exit i => 
      refine ⟨n + 1, _, _, _, ?_, hq⟩
      have h3 := E.code_le (Nat.le_succ n) ha
      simp only [code, codeA] at h3 ⊢
      simp only [loopA]
      rw [h3]
    | ret =>
      refine ⟨n + 1, _, _, _, ?_, hq⟩
      have h3 := E.code_le (Nat.le_succ n) ha
      simp only [code, codeA] at h3 ⊢
      simp only [loopA]
      rw [h3]

theorem W_reg {ops : List LOper} {T : Tmps} {H : AHeap} {Q : AExit → Tmps → AHeap → Prop} : E.W (.reg false ops) T H Q ↔ E.WO ops T H (fun T' H' _ => Q .normal T' H') := by
  constructor
  · rintro ⟨n, e, T', H', h1, h2⟩
    simp only [code, codeA, Bool.false_and, Bool.false_eq_true, if_false] at h1
    cases ho : opsA E.keep (E.call n) ops T H with
    | none => rw [ho] at h1; simp at h1
    | some p =>
      rw [ho] at h1; simp at h1
      obtain ⟨rfl, rfl, rfl⟩ := h1
      exact ⟨n, _, _, _, ho, h2⟩
  · rintro ⟨n, T', H', ks, h1, h2⟩
    exact ⟨n, _, _, _, by simp [code, codeA, h1], h2⟩

theorem W_draw {ops : List LOper} {T : Tmps} {H : AHeap} {Q : AExit → Tmps → AHeap → Prop} : E.W (.reg true ops) T H Q ↔ E.WO ops T H (fun T' H' ks => drawOk ops ks = true ∧ Q .normal T' H') := by
  constructor
  · rintro ⟨n, e, T', H', h1, h2⟩
    simp only [code, codeA, Bool.true_and] at h1
    cases ho : opsA E.keep (E.call n) ops T H with
    | none => rw [ho] at h1; simp at h1
    | some p =>
      rw [ho] at h1
      cases hd : drawOk ops p.2.2 with
      | false => simp [hd] at h1
      | true =>
        simp [hd] at h1
        obtain ⟨rfl, rfl, rfl⟩ := h1
        exact ⟨n, _, _, _, ho, hd, h2⟩
  · rintro ⟨n, T', H', ks, h1, h2, h3⟩
    exact ⟨n, _, _, _, by simp [code, codeA, h1, h2], h3⟩

theorem WO_nil {T : Tmps} {H : AHeap} {K : Tmps → AHeap → List Kd → Prop} : E.WO [] T H K ↔ K T H [] :=
  ⟨fun ⟨n, T', H', ks, h1, h2⟩ => by simp [opsA] at h1; obtain ⟨rfl, rfl, rfl⟩ := h1; exact h2, fun h => ⟨0, _, _, _, rfl, h⟩⟩

/-- is an operation to be done? -/
def Guard (T : Tmps) (g : Option (Nat × Bool)) (A B : Prop) : Prop := match wantedA T g with
  | some true => A
  | some false => B
  | none => False
theorem Guard_none {T : Tmps} {A B : Prop} : Guard T none A B ↔ A := Iff.rfl
theorem Guard_some {T : Tmps} {j : Nat} {w : Bool} {A B : Prop} : Guard T (some (j, w)) A B ↔ (match T.getD j undefA with | .bool b => (b = w → A) ∧ (b ≠ w → B) | .tuple [] => B | _ => False) := by
  unfold Guard wantedA
  simp only
  generalize T.getD j undefA = v
  split
  · rename_i h
    split at h
    · rename_i b; simp at h; subst h; simp
    · simp at h
    · simp at h
  · rename_i h
    split at h
    · rename_i b; simp at h
      simp [h]
    · simp
    · simp at h
  · rename_i h
    split at h
    · simp at h
    · simp at h
    · rename_i h1 h2
      simp

theorem WO_cons {o : LOper} {l : List LOper} {T : Tmps} {H : AHeap} {K : Tmps → AHeap → List Kd → Prop} : E.WO (o :: l) T H K ↔
    Guard T o.guard (E.W1 o.op T H fun v H' k => E.WO l (putT T o.d v) H' fun T' H'' ks => K T' H'' (k :: ks)) (E.WO l (putT T o.d undefA) H fun T' H'' ks => K T' H'' (.p :: ks)) := by
  unfold Guard
  constructor
  · rintro ⟨n, T', H', ks, h1, h2⟩
    simp only [opsA] at h1
    split
    · rename_i hw
      simp only [hw] at h1
      cases ho : operA E.keep (E.call n) T H o.op with
      | none => rw [ho] at h1; simp at h1
      | some p =>
        rw [ho] at h1
        simp only [Option.map_eq_some_iff, Prod.mk.injEq] at h1
        obtain ⟨⟨T1, H1, ks1⟩, h3, rfl, rfl, rfl⟩ := h1
        exact ⟨n, _, _, _, ho, n, _, _, _, h3, h2⟩
    · rename_i hw
      simp only [hw, Option.map_eq_some_iff, Prod.mk.injEq] at h1
      obtain ⟨⟨T1, H1, ks1⟩, h3, rfl, rfl, rfl⟩ := h1
      exact ⟨n, _, _, _, h3, h2⟩
    · rename_i hw
      simp [hw] at h1
  · intro h
    split at h
    · rename_i hw
      obtain ⟨n, v, H1, k, h1, m, T', H', ks, h2, h3⟩ := h
      refine ⟨max n m, T', H', k :: ks, ?_, h3⟩
      simp only [opsA, hw]
      rw [operA_mono (E.call_le (Nat.le_max_left n m)) h1]
      simp only
      rw [opsA_mono (E.call_le (Nat.le_max_right n m)) h2]
      rfl
    · rename_i hw
      obtain ⟨n, T', H', ks, h1, h2⟩ := h
      exact ⟨n, T', H', .p :: ks, by simp [opsA, hw, h1], h2⟩
    · exact h.elim

/-- what an operation that is no call of a function comes to -/
def Res (r : ARes) (K : AV → AHeap → Kd → Prop) : Prop := ∃ v H k, r = some (v, H, k) ∧ K v H k
@[simp] theorem Res_some {v : AV} {H : AHeap} {k : Kd} {K : AV → AHeap → Kd → Prop} : Res (some (v, H, k)) K ↔ K v H k :=
  ⟨fun ⟨v, H, k, h1, h2⟩ => by simp at h1; obtain ⟨rfl, rfl, rfl⟩ := h1; exact h2, fun h => ⟨v, H, k, rfl, h⟩⟩
@[simp] theorem Res_none {K : AV → AHeap → Kd → Prop} : Res none K ↔ False := ⟨fun ⟨v, H, k, h1, h2⟩ => by simp at h1, False.elim⟩
@[simp] theorem Res_pure {v : AV} {H : AHeap} {K : AV → AHeap → Kd → Prop} : Res (pureV H (some v)) K ↔ K v H .p := Res_some
@[simp] theorem Res_pure_none {H : AHeap} {K : AV → AHeap → Kd → Prop} : Res (pureV H none) K ↔ False := Res_none
@[simp] theorem Res_read {v : AV} {H : AHeap} {b : Nat} {K : AV → AHeap → Kd → Prop} : Res (readV H b (some v)) K ↔ K v H (.r b) := Res_some
@[simp] theorem Res_read_none {H : AHeap} {b : Nat} {K : AV → AHeap → Kd → Prop} : Res (readV H b none) K ↔ False := Res_none
theorem Res_ite {p : Prop} [Decidable p] {r s : ARes} {K : AV → AHeap → Kd → Prop} : Res (if p then r else s) K ↔ (p → Res r K) ∧ (¬ p → Res s K) := by by_cases h : p <;> simp [h]

theorem W1_op {op : LOp} {T : Tmps} {H : AHeap} {K : AV → AHeap → Kd → Prop} (h : ∀ c, operA E.keep c T H op = opA T H op) : E.W1 op T H K ↔ Res (opA T H op) K :=
  ⟨fun ⟨n, v, H', k, h1, h2⟩ => ⟨v, H', k, by rw [← h]; exact h1, h2⟩, fun ⟨v, H', k, h1, h2⟩ => ⟨0, v, H', k, by rw [h]; exact h1, h2⟩⟩

theorem W1_fn {f : Nat} {args : List Opd} {T : Tmps} {H : AHeap} {K : AV → AHeap → Kd → Prop} : E.W1 (.call (.fn f) args) T H K ↔ E.C f (args.map (ev T)) H K := Iff.rfl
theorem W1_builtin {b : LBuiltin} {args : List Opd} {T : Tmps} {H : AHeap} {K : AV → AHeap → Kd → Prop} : E.W1 (.call (.builtin b) args) T H K ↔ Res (builtinA H b (args.map (ev T))) K :=
  ⟨fun ⟨n, v, H', k, h1, h2⟩ => ⟨v, H', k, h1, h2⟩, fun ⟨v, H', k, h1, h2⟩ => ⟨0, v, H', k, h1, h2⟩⟩
/-- a call of a value -/
def CV (E : Env) (x : AV) (args : List AV) (H : AHeap) (K : AV → AHeap → Kd → Prop) : Prop := match x with
  | .func f first captured => E.C f (first ++ args ++ captured) H K
  | .yld b => ∃ n v H', E.call n true b args H = some (v, H') ∧ K v H' (.c H H')
  | _ => False
@[simp] theorem CV_func {f : Nat} {a b : List AV} {args : List AV} {H : AHeap} {K : AV → AHeap → Kd → Prop} : CV E (.func f a b) args H K = E.C f (a ++ args ++ b) H K := rfl
theorem W1_val {x : Opd} {args : List Opd} {T : Tmps} {H : AHeap} {K : AV → AHeap → Kd → Prop} : E.W1 (.call (.val x) args) T H K ↔ CV E (ev T x) (args.map (ev T)) H K := by
  unfold W1 CV
  simp only [operA]
  cases ev T x with
  | func f a b => exact Iff.rfl
  | yld b =>
    constructor
    · rintro ⟨n, v, H', k, h1, h2⟩
      simp only [Option.map_eq_some_iff, Prod.mk.injEq] at h1
      obtain ⟨⟨v1, H1⟩, h3, rfl, rfl, rfl⟩ := h1
      exact ⟨n, _, _, h3, h2⟩
    · rintro ⟨n, v, H', h1, h2⟩
      exact ⟨n, v, H', _, by simp [h1], h2⟩
  | _ => simp

/-- a call's answer is one alone -/
theorem C_iff {f : Nat} {args : List AV} {H : AHeap} {v : AV} {H' : AHeap} {k : Kd} (h : ∃ n, callA E.keep (E.call n) f args H = some (v, H', k)) {K : AV → AHeap → Kd → Prop} : E.C f args H K ↔ K v H' k := by
  obtain ⟨n, hn⟩ := h
  constructor
  · rintro ⟨m, v1, H1, k1, h1, h2⟩
    have e1 := callA_mono (E.call_le (Nat.le_max_left n m)) hn
    have e2 := callA_mono (E.call_le (Nat.le_max_right n m)) h1
    rw [e1] at e2; simp at e2
    obtain ⟨rfl, rfl, rfl⟩ := e2; exact h2
  · intro h2; exact ⟨n, v, H', k, hn, h2⟩

/-- over values alone, the answer a value alone -/
theorem C_pure {f : Nat} {args : List AV} {v v' : AV} {Hc : AHeap} (hl : locFreeL args = true) (h : E.Ans f args [] v Hc) (hk : E.keep f = false) (hf : freeze Hc 1000000000 v = some v') {H : AHeap} {K : AV → AHeap → Kd → Prop} : E.C f args H K ↔ K v' H .p := by
  obtain ⟨n, hn⟩ := h
  exact C_iff ⟨n, by simp [callA, hl, hn, hk, hf]⟩
/-- .. the answer laid behind -/
theorem C_laid {f : Nat} {args : List AV} {v : AV} {Hc : AHeap} (hl : locFreeL args = true) (h : E.Ans f args [] v Hc) (hk : E.keep f = true ∨ freeze Hc 1000000000 v = none) {H : AHeap} {K : AV → AHeap → Kd → Prop} : E.C f args H K ↔ K (v.shift H.length) (H ++ Hc.map (·.shift H.length)) (.a H.length) := by
  obtain ⟨n, hn⟩ := h
  refine C_iff ⟨n, ?_⟩
  rcases hk with hk | hk
  · simp [callA, hl, hn, hk]
  · simp [callA, hl, hn, hk]
/-- .. in the caller's own heap -/
theorem C_shared {f : Nat} {args : List AV} {v : AV} {H H' : AHeap} (hl : locFreeL args = false) (h : E.Ans f args H v H') {K : AV → AHeap → Kd → Prop} : E.C f args H K ↔ K v H' (.c H H') := by
  obtain ⟨n, hn⟩ := h
  exact C_iff ⟨n, by simp [callA, hl, hn]⟩

/-- a function's answer, out of its body's -/
theorem Ans_of {f np nt : Nat} {rs : List LRes} {body : LCode} (hf : E.lp f = some (.code np nt rs body)) {args : List AV} (hl : args.length = np) {H : AHeap} {v : AV} {H' : AHeap}
    (h : E.W body (args ++ List.replicate (nt - np) undefA) H fun e T H2 => (∀ i, e ≠ .exit i) ∧ ∃ vs, resA T H2 rs = some vs ∧ v = tupA vs ∧ H' = H2) : E.Ans f args H v H' := by
  obtain ⟨n, e, T, H2, h1, h2, vs, h3, rfl, rfl⟩ := h
  refine ⟨n + 1, ?_⟩
  simp only [call, callsA, hf, hl, if_true]
  simp only [code, call] at h1
  rw [h1]
  cases e with
  | exit i => exact absurd rfl (h2 i)
  | normal => simp [h3]
  | ret => simp [h3]
end Env
end Go.AE
/-
  LAWS OF AE's CODE, part 2: operations; what simp works with.
-/
namespace Go.AE
/-- the loops of a piece of code, of a function -/
def LCode.loops : LCode → List LCode
  | .loop c => .loop c :: c.loops
  | .seq a b => a.loops ++ b.loops
  | .cond _ a b => a.loops ++ b.loops
  | .block _ c => c.loops
  | .rangeFunc _ _ a b => a.loops ++ b.loops
  | _ => []
def LFunc.loop (f : LFunc) (i : Nat) : LCode := match f with
  | .code _ _ _ c => c.loops.getD i .skip
  | _ => .skip

namespace Env
variable {E : Env}

def gt (T : Tmps) (k : Nat) : AV := T.getD k undefA
theorem gt_ne {T : Tmps} {d k : Nat} {v : AV} (h : (d == k) = false) : gt (T.set d v) k = gt T k := by
  replace h : d ≠ k := by simpa using h
  simp [gt, List.getD_eq_getElem?_getD, List.getElem?_set, h]
theorem gt_eq {T : Tmps} {d : Nat} {v : AV} (h : decide (d < T.length) = true) : gt (T.set d v) d = v := by
  replace h : d < T.length := by simpa using h
  simp [gt, List.getD_eq_getElem?_getD, h]
theorem ev_t {T : Tmps} {n : Nat} : ev T (.t n) = gt T n := Eq.trans rfl rfl
theorem ev_c {T : Tmps} {v : AV} : ev T (.c v) = v := Eq.trans rfl rfl
theorem ev_f {T : Tmps} {i : Nat} : ev T (.f i) = .func i [] [] := Eq.trans rfl rfl
theorem evo_s {T : Tmps} {x : Opd} : evo T (some x) = some (ev T x) := Eq.trans rfl rfl
theorem evo_n {T : Tmps} : evo T none = none := Eq.trans rfl rfl
theorem putT_s {T : Tmps} {d : Nat} {v : AV} : putT T (some d) v = T.set d v := rfl
theorem putT_n {T : Tmps} {v : AV} : putT T none v = T := rfl

theorem gp_ne {T : Tmps} {d k : Nat} {v : AV} (h : (d == k) = false) : gt (putT T (some d) v) k = gt T k := gt_ne h
theorem gp_eq {T : Tmps} {d : Nat} {v : AV} (h : decide (d < T.length) = true) : gt (putT T (some d) v) d = v := gt_eq h
theorem gp_none {T : Tmps} {k : Nat} {v : AV} : gt (putT T none v) k = gt T k := Eq.trans rfl rfl
theorem len_put {T : Tmps} {d : Option Nat} {v : AV} : List.length (putT T d v) = T.length := by cases d <;> simp [putT]

/-- a value, to be seen first -/
def Bnd (v : AV) (K : AV → Prop) : Prop := K v
theorem Bnd_eq {v : AV} {K : AV → Prop} : Bnd v K = K v := rfl
@[congr] theorem Bnd_congr {v v' : AV} {K : AV → Prop} (h : v = v') : Bnd v K = Bnd v' K := by rw [h]
@[congr] theorem andThen_congr {e e' : AExit} {K : Tmps → AHeap → Prop} {Q : AExit → Tmps → AHeap → Prop} {T : Tmps} {H : AHeap} (h : e = e') : andThen K Q e T H = andThen K Q e' T H := by rw [h]
@[congr] theorem Res_congr {r r' : ARes} {K : AV → AHeap → Kd → Prop} (h : r = r') : Res r K = Res r' K := by rw [h]
@[congr] theorem Pick_congr {c c' : AV} {A B : Prop} (h : c = c') : Pick c A B = Pick c' A B := by rw [h]
@[congr] theorem CV_congr {x x' : AV} {args args' : List AV} {H : AHeap} {K : AV → AHeap → Kd → Prop} (h : x = x') (h2 : args = args') : CV E x args H K = CV E x' args' H K := by rw [h, h2]
@[congr] theorem C_congr {f : Nat} {args args' : List AV} {H H' : AHeap} {K : AV → AHeap → Kd → Prop} (h : args = args') (h2 : H = H') : E.C f args H K = E.C f args' H' K := by rw [h, h2]

/-- a guarded operation -/
def Gd (c : AV) (w : Bool) (A B : Prop) : Prop := match c with
  | .bool b => (b = w → A) ∧ (b ≠ w → B)
  | .tuple [] => B
  | _ => False
theorem Guard_gt {T : Tmps} {j : Nat} {w : Bool} {A B : Prop} : Guard T (some (j, w)) A B ↔ Gd (gt T j) w A B := Guard_some
@[congr] theorem Gd_congr {c c' : AV} {w : Bool} {A B : Prop} (h : c = c') : Gd c w A B = Gd c' w A B := by rw [h]
@[simp] theorem Gd_undef {w : Bool} {A B : Prop} : Gd (.tuple []) w A B ↔ B := Iff.rfl
@[simp] theorem Gd_tt {A B : Prop} : Gd (.bool true) true A B ↔ A := by simp [Gd]
@[simp] theorem Gd_tf {A B : Prop} : Gd (.bool true) false A B ↔ B := by simp [Gd]
@[simp] theorem Gd_ft {A B : Prop} : Gd (.bool false) true A B ↔ B := by simp [Gd]
@[simp] theorem Gd_ff {A B : Prop} : Gd (.bool false) false A B ↔ A := by simp [Gd]

theorem WO_step {d : Option Nat} {op : LOp} {g : Option (Nat × Bool)} {a : List Nat} {l : List LOper} {T : Tmps} {H : AHeap} {K : Tmps → AHeap → List Kd → Prop} : E.WO (⟨d, op, g, a⟩ :: l) T H K ↔
    Guard T g (E.W1 op T H fun v H' k => E.WO l (putT T d v) H' fun T' H'' ks => K T' H'' (k :: ks)) (E.WO l (putT T d undefA) H fun T' H'' ks => K T' H'' (.p :: ks)) := WO_cons

section
variable {T : Tmps} {H : AHeap} {K : AV → AHeap → Kd → Prop} {x y z : Opd}
theorem w_mv : E.W1 (.mv x) T H K ↔ Bnd (ev T x) fun v => K v H .p := (W1_op fun _ => rfl).trans Res_pure
/-- one of two -/
def Two (c a b : AV) (K : AV → Prop) : Prop := match c with
  | .bool c => Bnd (if c then a else b) K
  | _ => False
@[congr] theorem Two_congr {c c' a b : AV} {K : AV → Prop} (h : c = c') : Two c a b K = Two c' a b K := by rw [h]
@[simp] theorem Two_true {a b : AV} {K : AV → Prop} : Two (.bool true) a b K ↔ Bnd a K := Iff.rfl
@[simp] theorem Two_false {a b : AV} {K : AV → Prop} : Two (.bool false) a b K ↔ Bnd b K := Iff.rfl
theorem w_pick {c : Opd} : E.W1 (.pick c x y) T H K ↔ Two (ev T c) (ev T x) (ev T y) fun v => K v H .p := by
  refine (W1_op fun _ => rfl).trans ?_
  simp only [opA, Two, Bnd]
  cases ev T c <;> simp
theorem w_bin {op : BinOp} : E.W1 (.bin op x y) T H K ↔ Res (pureV H (binA op (ev T x) (ev T y))) K := W1_op fun _ => rfl
theorem w_un {op : UnOp} : E.W1 (.un op x) T H K ↔ Res (pureV H (unA op (ev T x))) K := W1_op fun _ => rfl
theorem w_eq {ng : Bool} {t : ETy} : E.W1 (.eq ng t x y) T H K ↔ Res (pureV H ((aEq t (ev T x) (ev T y)).map fun b => .bool (if ng then !b else b))) K := W1_op fun _ => rfl
theorem w_extract {i : Nat} : E.W1 (.extract i x) T H K ↔ Res (match ev T x with | .tuple vs => pureV H vs[i]? | _ => none) K := W1_op fun _ => rfl
theorem w_load {sz : Nat} {ag : Bool} : E.W1 (.load sz ag x) T H K ↔ Res (loadA H sz ag (ev T x)) K := W1_op fun _ => rfl
theorem w_store {sz : Nat} : E.W1 (.store sz x y) T H K ↔ Res (storeA H sz (ev T x) (ev T y)) K := W1_op fun _ => rfl
theorem w_op {op : LOp} (h : ∀ c, operA E.keep c T H op = opA T H op) : E.W1 op T H K ↔ Res (opA T H op) K := W1_op h
theorem w_slStr {lo hi : Option Opd} : E.W1 (.slStr x lo hi) T H K ↔ Res (opA T H (.slStr x lo hi)) K := W1_op fun _ => rfl
theorem w_slSl {sz : Nat} {lo hi mx : Option Opd} : E.W1 (.slSl sz x lo hi mx) T H K ↔ Res (pureV H (sliceA sz (ev T x) (evo T lo) (evo T hi) (evo T mx))) K := W1_op fun _ => rfl
theorem w_idxAddr {sz : Nat} : E.W1 (.idxAddr sz x y) T H K ↔ Res (pureV H (idxAddrA sz (ev T x) (ev T y))) K := W1_op fun _ => rfl
theorem w_idxStr : E.W1 (.idxStr x y) T H K ↔ Res (opA T H (.idxStr x y)) K := W1_op fun _ => rfl
theorem w_fieldAddr {o : Nat} : E.W1 (.fieldAddr o x) T H K ↔ Res (pureV H (addA o (ev T x))) K := W1_op fun _ => rfl
theorem w_field {o sz : Nat} {ag : Bool} : E.W1 (.field o sz ag x) T H K ↔ Res (opA T H (.field o sz ag x)) K := W1_op fun _ => rfl
theorem w_box {g : Nat} : E.W1 (.box g x) T H K ↔ Res (newVarA H (ev T x) g) K := W1_op fun _ => rfl
theorem w_alloc {zs : List AV} {g : Nat} : E.W1 (.alloc zs g) T H K ↔ Res (opA T H (.alloc zs g)) K := W1_op fun _ => rfl
theorem w_build {zs : List AV} {ps : List (Nat × Nat × Opd)} : E.W1 (.build zs ps) T H K ↔ Res (pureV H ((fillA T zs ps).map .agg)) K := W1_op fun _ => rfl
theorem w_lit {zs : List AV} {n sz : Nat} {ps : List (Nat × Nat × Opd)} : E.W1 (.lit zs n sz ps) T H K ↔ Res (pureV H ((fillA T (repCells n zs) ps).map fun cs => .lst cs n sz true)) K := W1_op fun _ => rfl
theorem w_mkFunc {i : Nat} {a b : List Opd} : E.W1 (.mkFunc i a b) T H K ↔ Bnd (.func i (a.map (ev T)) (b.map (ev T))) fun v => K v H .p := (W1_op fun _ => rfl).trans Res_pure
theorem w_mkSlice {zs : List AV} {sz by_ g : Nat} : E.W1 (.mkSlice zs sz by_ g x y) T H K ↔ Res (opA T H (.mkSlice zs sz by_ g x y)) K := W1_op fun _ => rfl
theorem w_nilChk : E.W1 (.nilChk x) T H K ↔ Res (opA T H (.nilChk x)) K := W1_op fun _ => rfl
theorem w_conv {k : LConv} : E.W1 (.conv k x) T H K ↔ Res (convA H k (ev T x)) K := W1_op fun _ => rfl
theorem w_mkIface {g : Nat} : E.W1 (.mkIface g x) T H K ↔ Bnd (.iface g (ev T x)) fun v => K v H .p := (W1_op fun _ => rfl).trans Res_pure
end

section
variable {H : AHeap}
theorem len_str {s : List UInt8} : lenA H .lenStr (.str s) = some (.int .i64 s.length, H, .p) := Eq.trans rfl rfl
theorem len_str1 {c : UInt8} : lenA H .lenStr (.str [c]) = some (.int .i64 1, H, .p) := Eq.trans rfl rfl
theorem len1i {c : UInt8} : ((List.length [c] : Nat) : Int) = 1 := Eq.trans rfl rfl
theorem len0i : ((List.length ([] : List UInt8) : Nat) : Int) = 0 := Eq.trans rfl rfl
theorem len_str0 : lenA H .lenStr (.str []) = some (.int .i64 0, H, .p) := Eq.trans rfl rfl
theorem len_nil : lenA H .lenSl .nilsl = some (.int .i64 0, H, .p) := Eq.trans rfl rfl
theorem len_lst {cs : List AV} {n sz : Nat} {ex : Bool} : lenA H .lenSl (.lst cs n sz ex) = some (.int .i64 n, H, .p) := Eq.trans rfl rfl
theorem len_sl {b o n sz v : Nat} {c : Option Nat} : lenA H .lenSl (.sl b o n sz v c) = some (.int .i64 n, H, .p) := Eq.trans rfl rfl
theorem bi_len {x : AV} {b : LBuiltin} (hb : b = .lenStr ∨ b = .lenSl) : builtinA H b [x] = lenA H b x := by rcases hb with rfl | rfl <;> rfl
theorem bi_lenStr {x : AV} : builtinA H .lenStr [x] = lenA H .lenStr x := Eq.trans rfl rfl
theorem bi_lenSl {x : AV} : builtinA H .lenSl [x] = lenA H .lenSl x := Eq.trans rfl rfl
theorem bi_append {sz b g : Nat} {z : List AV} {x y : AV} : builtinA H (.append sz b g z) [x, y] = appendA H sz b g x y := Eq.trans rfl rfl
theorem bin_gtr {k : IntKind} {a b : Int} : binA .gtr (.int k a) (.int k b) = some (.bool (decide (a > b))) := by simp [binA]
theorem bin_lss {k : IntKind} {a b : Int} : binA .lss (.int k a) (.int k b) = some (.bool (decide (a < b))) := by simp [binA]
theorem bin_leq {k : IntKind} {a b : Int} : binA .leq (.int k a) (.int k b) = some (.bool (decide (a ≤ b))) := by simp [binA]
theorem bin_geq {k : IntKind} {a b : Int} : binA .geq (.int k a) (.int k b) = some (.bool (decide (a ≥ b))) := by simp [binA]
theorem bin_eql {k : IntKind} {a b : Int} : binA .eql (.int k a) (.int k b) = some (.bool (a == b)) := by simp [binA]
theorem bin_neq {k : IntKind} {a b : Int} : binA .neq (.int k a) (.int k b) = some (.bool (a != b)) := by simp [binA]
theorem bin_eqls {a b : List UInt8} : binA .eql (.str a) (.str b) = some (.bool (a == b)) := Eq.trans rfl rfl
theorem bin_neqs {a b : List UInt8} : binA .neq (.str a) (.str b) = some (.bool !(a == b)) := Eq.trans rfl rfl
theorem bin_add {k : IntKind} {a b : Int} : binA .add (.int k a) (.int k b) = some (.int k (k.wrap (a + b))) := by simp [binA]
theorem bin_sub {k : IntKind} {a b : Int} : binA .sub (.int k a) (.int k b) = some (.int k (k.wrap (a - b))) := by simp [binA]
theorem wrap64 {a : Int} (h : -(2 ^ 63 : Int) ≤ a ∧ a < 2 ^ 63) : IntKind.i64.wrap a = a := by
  show (if (true && decide (a % (2 ^ 64 : Int) ≥ (2 ^ 63 : Int))) = true then a % (2 ^ 64 : Int) - (2 ^ 64 : Int) else a % (2 ^ 64 : Int)) = a
  simp only [Bool.true_and, decide_eq_true_eq]
  split <;> omega
theorem un_not {b : Bool} : unA .not (.bool b) = some (.bool !b) := Eq.trans rfl rfl
end

theorem x_slStr {T : Tmps} {H : AHeap} {K : AV → AHeap → Kd → Prop} {x : Opd} {lo hi : Option Opd} : E.W1 (.slStr x lo hi) T H K ↔ Res (fSlStr (ev T x) (evo T lo) (evo T hi) H) K := w_slStr
theorem x_idxStr {T : Tmps} {H : AHeap} {K : AV → AHeap → Kd → Prop} {x y : Opd} : E.W1 (.idxStr x y) T H K ↔ Res (fIdxStr (ev T x) (ev T y) H) K := w_idxStr
theorem x_field {T : Tmps} {H : AHeap} {K : AV → AHeap → Kd → Prop} {x : Opd} {o sz : Nat} {ag : Bool} : E.W1 (.field o sz ag x) T H K ↔ Res (fField o sz ag (ev T x) H) K := w_field
theorem x_alloc {T : Tmps} {H : AHeap} {K : AV → AHeap → Kd → Prop} {zs : List AV} {g : Nat} : E.W1 (.alloc zs g) T H K ↔ Res (fAlloc zs g H) K := w_alloc
theorem x_mkSlice {T : Tmps} {H : AHeap} {K : AV → AHeap → Kd → Prop} {x y : Opd} {zs : List AV} {sz by_ g : Nat} : E.W1 (.mkSlice zs sz by_ g x y) T H K ↔ Res (fMkSlice zs sz by_ g (ev T x) (ev T y) H) K := w_mkSlice
theorem x_nilChk {T : Tmps} {H : AHeap} {K : AV → AHeap → Kd → Prop} {x : Opd} : E.W1 (.nilChk x) T H K ↔ Res (fNilChk (ev T x) H) K := w_nilChk
theorem sl_to {s : List UInt8} {k : IntKind} {h : Int} {H : AHeap} (hh : 0 ≤ h ∧ h ≤ s.length) : fSlStr (.str s) none (some (.int k h)) H = some (.str (s.take h.toNat), H, .p) := by
  have h2 : (0 : Int) ≤ 0 ∧ 0 ≤ h ∧ h ≤ s.length := ⟨by omega, hh⟩
  simp only [fSlStr, bounds, loI, hiI, asI, if_pos h2]
  rfl
theorem sl_from {s : List UInt8} {k : IntKind} {l : Int} {H : AHeap} (hh : 0 ≤ l ∧ l ≤ s.length) : fSlStr (.str s) (some (.int k l)) none H = some (.str (s.drop l.toNat), H, .p) := by
  have h2 : 0 ≤ l ∧ l ≤ s.length ∧ (s.length : Int) ≤ s.length := ⟨hh.1, hh.2, by omega⟩
  simp only [fSlStr, bounds, loI, hiI, asI, if_pos h2]
  simp [pureV]
theorem idx_str {s : List UInt8} {k : IntKind} {i : Nat} {H : AHeap} (h : i < s.length) : fIdxStr (.str s) (.int k i) H = some (.int .u8 (s[i]).toNat, H, .p) := by
  simp [fIdxStr, asI, pureV, h]
theorem idx_str0 {c : UInt8} {s : List UInt8} {k : IntKind} {H : AHeap} : fIdxStr (.str (c :: s)) (.int k 0) H = some (.int .u8 c.toNat, H, .p) := Eq.trans rfl rfl

theorem mkSl {z : AV} {by_ g : Nat} {k : IntKind} {n : Nat} {H : AHeap} (hb : n * by_ ≤ 2 ^ 40) (hp : 0 < by_) : fMkSlice [z] 1 by_ g (.int k n) (.int k n) H = some (.sl H.length 0 n 1 n (some n), H ++ [.cells (List.replicate n z) g n 0], .a H.length) := by
  have e : ∀ n, repCells n [z] = List.replicate n z := by
    intro n
    induction n with
    | zero => rfl
    | succ n ih => simp [repCells, ih, List.replicate_succ]
  have hc : (0 : Int) ≤ n ∧ (n : Int) ≤ n ∧ (n : Int) * by_ ≤ 2 ^ 40 ∧ 0 < by_ ∧ 0 < 1 := ⟨by omega, by omega, by exact_mod_cast hb, hp, by omega⟩
  simp only [fMkSlice, asI, if_pos hc, Int.toNat_natCast, e, Nat.mul_one]
theorem idxA_sl {b o n v i : Nat} {c : Option Nat} {k : IntKind} (h : i < n) : idxAddrA 1 (.sl b o n 1 v c) (.int k i) = some (.ptr b (o + i) v) := by
  simp [idxAddrA, asI, h]
theorem idxA_lst {cs : List AV} {n i : Nat} {ex : Bool} {k : IntKind} (h : i < n) : idxAddrA 1 (.lst cs n 1 ex) (.int k i) = some (.elt cs i) := by
  simp [idxAddrA, asI, h]
theorem store_one {cs : List AV} {g wv i n : Nat} {x : AV} (hx : x.cells = [x]) (hn : n = cs.length) (hi : i < n) {H : AHeap} {b : Nat} (hb : H[b]? = some (.cells cs g wv 0)) : storeA H 1 (.ptr b i n) x = some (undefA, H.set b (.cells (cs.set i x) g n 0), .w b) := by
  have h2 : i + 1 ≤ n := by omega
  simp [storeA, hx, storeCellsA, hb, hn ▸ h2, ← hn, putCells, h2]
theorem slice_to {b o n v : Nat} {c : Option Nat} {k : IntKind} {h : Nat} (hh : h ≤ n) : sliceA 1 (.sl b o n 1 v c) none (some (.int k h)) none = some (.sl b o h 1 v c) := by
  simp [sliceA, bounds, loI, hiI, asI, hh]
theorem slice_lst {cs : List AV} {n : Nat} {ex : Bool} {k : IntKind} {l : Nat} (hl : l ≤ n) (hn : cs.length = n) : sliceA 1 (.lst cs n 1 ex) (some (.int k l)) none none = some (.lst (cs.drop l) (n - l) 1 ex) := by
  simp [sliceA, bounds, loI, hiI, asI, hl]
  rw [List.take_of_length_le (by simp; omega)]

theorem load_at {H : AHeap} {b o v : Nat} {cs : List AV} {g wv st : Nat} {x : AV} (hb : H[b]? = some (.cells cs g wv st)) (h1 : st < 2) (h2 : wv ≤ v) (h3 : v ≤ cs.length) (h4 : o + 1 ≤ v) (hx : cs[o]? = some x) : loadA H 1 false (.ptr b o v) = some (x, H, .r b) := by
  have hc : st < 2 ∧ wv ≤ v ∧ v ≤ cs.length ∧ o + 1 ≤ v := ⟨h1, h2, h3, h4⟩
  simp only [loadA, hb, if_pos hc, part, Bool.false_eq_true, if_false, hx, readV, Option.map_some]
theorem load_elt {H : AHeap} {o : Nat} {cs : List AV} {x : AV} (hx : cs[o]? = some x) : loadA H 1 false (.elt cs o) = some (x, H, .p) := by
  simp only [loadA, part, Bool.false_eq_true, if_false, hx, pureV, Option.map_some]
theorem nil_ptr {H : AHeap} {b o v : Nat} : fNilChk (.ptr b o v) H = some (.ptr b o v, H, .p) := Eq.trans rfl rfl
theorem add_ptr {b o v k : Nat} : addA k (.ptr b o v) = some (.ptr b (o + k) v) := Eq.trans rfl rfl
theorem eq_pn {b o v : Nat} : aEq .p (.ptr b o v) .nilptr = some false := Eq.trans rfl rfl
theorem eq_nn : aEq .p .nilptr .nilptr = some true := Eq.trans rfl rfl
theorem eq_pp {b o v : Nat} : aEq .p (.ptr b o v) (.ptr b o v) = some true := by simp [aEq, eqPlain]
theorem alloc_eq {zs : List AV} {g : Nat} {H : AHeap} (h : zs ≠ []) : fAlloc zs g H = some (.ptr H.length 0 zs.length, H ++ [.cells zs g zs.length 0], .a H.length) := by
  have : zs.length ≠ 0 := by simpa using h
  simp only [fAlloc, if_neg this]

/-- a call over values alone, its answer one that holds nothing of the heap -/
theorem C_val {f : Nat} {args : List AV} {v : AV} {Hc : AHeap} (h : E.Ans f args [] v Hc) (hl : locFreeL args = true) (hk : E.keep f = false) (hf : freeze Hc 1000000000 v = some v) {H : AHeap} {K : AV → AHeap → Kd → Prop} : E.C f args H K ↔ K v H .p := C_pure hl h hk hf

/-- a function is left -/
def Fin (rs : List LRes) (v : AV) (H' : AHeap) : AExit → Tmps → AHeap → Prop := fun e T H2 => (∀ i, e ≠ .exit i) ∧ ∃ vs, resA T H2 rs = some vs ∧ v = tupA vs ∧ H' = H2

theorem resA_t {T : Tmps} {H : AHeap} {n : Nat} {l : List LRes} : resA T H (.t n :: l) = (resA T H l).map (gt T n :: ·) := rfl
theorem resA_nil {T : Tmps} {H : AHeap} : resA T H [] = some [] := rfl
theorem Fin1 {n : Nat} {v : AV} {H' : AHeap} {T : Tmps} {H2 : AHeap} : Fin [.t n] v H' .ret T H2 ↔ v = gt T n ∧ H' = H2 := by simp [Fin, resA_t, resA_nil, tupA]
theorem Fin2 {n m : Nat} {v : AV} {H' : AHeap} {T : Tmps} {H2 : AHeap} : Fin [.t n, .t m] v H' .ret T H2 ↔ v = .tuple [gt T n, gt T m] ∧ H' = H2 := by simp [Fin, resA_t, resA_nil, tupA]
theorem Fin0 {v : AV} {H' : AHeap} {T : Tmps} {H2 : AHeap} : Fin [] v H' .ret T H2 ↔ v = .tuple [] ∧ H' = H2 := by simp [Fin, resA_nil, tupA]
theorem Fin0n {v : AV} {H' : AHeap} {T : Tmps} {H2 : AHeap} : Fin [] v H' .normal T H2 ↔ v = .tuple [] ∧ H' = H2 := by simp [Fin, resA_nil, tupA]

/-- .. whatever the heap is then -/
def FinV (rs : List LRes) (v : AV) : AExit → Tmps → AHeap → Prop := fun e T H2 => Fin rs v H2 e T H2
theorem FinV1 {n : Nat} {v : AV} {T : Tmps} {H2 : AHeap} : FinV [.t n] v .ret T H2 ↔ v = gt T n := by simp [FinV, Fin1]
theorem FinV2 {n m : Nat} {v : AV} {T : Tmps} {H2 : AHeap} : FinV [.t n, .t m] v .ret T H2 ↔ v = .tuple [gt T n, gt T m] := by simp [FinV, Fin2]
theorem AnsV_of {f np nt : Nat} {rs : List LRes} {body : LCode} (hf : E.lp f = some (.code np nt rs body)) {args : List AV} (hl : args.length = np) {H : AHeap} {v : AV}
    (h : E.W body (args ++ List.replicate (nt - np) undefA) H (FinV rs v)) : ∃ H', E.Ans f args H v H' := by
  obtain ⟨n, e, T, H2, h1, h2⟩ := h
  exact ⟨H2, Ans_of hf hl ⟨n, e, T, H2, h1, h2⟩⟩
theorem AnsV1 {f nt : Nat} {F : LFunc} {rs : List LRes} {body : LCode} (hf : E.lp f = some F) (hF : F = .code 1 nt rs body) (hn : 1 ≤ nt) {a : AV} {H : AHeap} {v : AV}
    (h : ∀ T : Tmps, T.length = nt → gt T 0 = a → E.W body T H (FinV rs v)) : ∃ H', E.Ans f [a] H v H' :=
  AnsV_of (hF ▸ hf) rfl (h _ (by simp; omega) rfl)
theorem AnsV2 {f nt : Nat} {F : LFunc} {rs : List LRes} {body : LCode} (hf : E.lp f = some F) (hF : F = .code 2 nt rs body) (hn : 2 ≤ nt) {a b : AV} {H : AHeap} {v : AV}
    (h : ∀ T : Tmps, T.length = nt → gt T 0 = a → gt T 1 = b → E.W body T H (FinV rs v)) : ∃ H', E.Ans f [a, b] H v H' :=
  AnsV_of (hF ▸ hf) rfl (h _ (by simp; omega) rfl rfl)
theorem AnsV3 {f nt : Nat} {F : LFunc} {rs : List LRes} {body : LCode} (hf : E.lp f = some F) (hF : F = .code 3 nt rs body) (hn : 3 ≤ nt) {a b c : AV} {H : AHeap} {v : AV}
    (h : ∀ T : Tmps, T.length = nt → gt T 0 = a → gt T 1 = b → gt T 2 = c → E.W body T H (FinV rs v)) : ∃ H', E.Ans f [a, b, c] H v H' :=
  AnsV_of (hF ▸ hf) rfl (h _ (by simp; omega) rfl rfl rfl)

/-- .. the heap, and something behind it -/
def FinX (H : AHeap) (rs : List LRes) (v : AV) : AExit → Tmps → AHeap → Prop := fun e T H2 => Fin rs v H2 e T H2 ∧ ∃ X, H2 = H ++ X
theorem FinX1 {H : AHeap} {n : Nat} {v : AV} {T : Tmps} {H2 : AHeap} : FinX H [.t n] v .ret T H2 ↔ v = gt T n ∧ ∃ X, H2 = H ++ X := by simp [FinX, Fin1]
theorem FinX2 {H : AHeap} {n m : Nat} {v : AV} {T : Tmps} {H2 : AHeap} : FinX H [.t n, .t m] v .ret T H2 ↔ v = .tuple [gt T n, gt T m] ∧ ∃ X, H2 = H ++ X := by simp [FinX, Fin2]
theorem AnsX_of {f np nt : Nat} {rs : List LRes} {body : LCode} (hf : E.lp f = some (.code np nt rs body)) {args : List AV} (hl : args.length = np) {H : AHeap} {v : AV}
    (h : E.W body (args ++ List.replicate (nt - np) undefA) H (FinX H rs v)) : ∃ X, E.Ans f args H v (H ++ X) := by
  obtain ⟨n, e, T, H2, h1, h2, X, rfl⟩ := h
  exact ⟨X, Ans_of hf hl ⟨n, e, T, H ++ X, h1, h2⟩⟩
theorem AnsX2 {f nt : Nat} {F : LFunc} {rs : List LRes} {body : LCode} (hf : E.lp f = some F) (hF : F = .code 2 nt rs body) (hn : 2 ≤ nt) {a b : AV} {H : AHeap} {v : AV}
    (h : ∀ T : Tmps, T.length = nt → gt T 0 = a → gt T 1 = b → E.W body T H (FinX H rs v)) : ∃ X, E.Ans f [a, b] H v (H ++ X) :=
  AnsX_of (hF ▸ hf) rfl (h _ (by simp; omega) rfl rfl)
theorem AnsX3 {f nt : Nat} {F : LFunc} {rs : List LRes} {body : LCode} (hf : E.lp f = some F) (hF : F = .code 3 nt rs body) (hn : 3 ≤ nt) {a b c : AV} {H : AHeap} {v : AV}
    (h : ∀ T : Tmps, T.length = nt → gt T 0 = a → gt T 1 = b → gt T 2 = c → E.W body T H (FinX H rs v)) : ∃ X, E.Ans f [a, b, c] H v (H ++ X) :=
  AnsX_of (hF ▸ hf) rfl (h _ (by simp; omega) rfl rfl rfl)

theorem Ans0 {f nt : Nat} {F : LFunc} {rs : List LRes} {body : LCode} (hf : E.lp f = some F) (hF : F = .code 0 nt rs body) {H : AHeap} {v : AV} {H' : AHeap}
    (h : ∀ T : Tmps, T.length = nt → E.W body T H (Fin rs v H')) : E.Ans f [] H v H' :=
  Ans_of (hF ▸ hf) rfl (h _ (by simp))
theorem Ans1 {f nt : Nat} {F : LFunc} {rs : List LRes} {body : LCode} (hf : E.lp f = some F) (hF : F = .code 1 nt rs body) (hn : 1 ≤ nt) {a : AV} {H : AHeap} {v : AV} {H' : AHeap}
    (h : ∀ T : Tmps, T.length = nt → gt T 0 = a → E.W body T H (Fin rs v H')) : E.Ans f [a] H v H' :=
  Ans_of (hF ▸ hf) rfl (h _ (by simp; omega) rfl)
theorem Ans2 {f nt : Nat} {F : LFunc} {rs : List LRes} {body : LCode} (hf : E.lp f = some F) (hF : F = .code 2 nt rs body) (hn : 2 ≤ nt) {a b : AV} {H : AHeap} {v : AV} {H' : AHeap}
    (h : ∀ T : Tmps, T.length = nt → gt T 0 = a → gt T 1 = b → E.W body T H (Fin rs v H')) : E.Ans f [a, b] H v H' :=
  Ans_of (hF ▸ hf) rfl (h _ (by simp; omega) rfl rfl)
theorem Ans3 {f nt : Nat} {F : LFunc} {rs : List LRes} {body : LCode} (hf : E.lp f = some F) (hF : F = .code 3 nt rs body) (hn : 3 ≤ nt) {a b c : AV} {H : AHeap} {v : AV} {H' : AHeap}
    (h : ∀ T : Tmps, T.length = nt → gt T 0 = a → gt T 1 = b → gt T 2 = c → E.W body T H (Fin rs v H')) : E.Ans f [a, b, c] H v H' :=
  Ans_of (hF ▸ hf) rfl (h _ (by simp; omega) rfl rfl rfl)
theorem Ans4 {f nt : Nat} {F : LFunc} {rs : List LRes} {body : LCode} (hf : E.lp f = some F) (hF : F = .code 4 nt rs body) (hn : 4 ≤ nt) {a b c d : AV} {H : AHeap} {v : AV} {H' : AHeap}
    (h : ∀ T : Tmps, T.length = nt → gt T 0 = a → gt T 1 = b → gt T 2 = c → gt T 3 = d → E.W body T H (Fin rs v H')) : E.Ans f [a, b, c, d] H v H' :=
  Ans_of (hF ▸ hf) rfl (h _ (by simp; omega) rfl rfl rfl rfl)

/-- a row of the model's own -/
theorem Ans_ext {f : Nat} {e : LExt} (hf : E.lp f = some (.ext e)) {args : List AV} {H : AHeap} {v : AV} {H' : AHeap} (h : extA e args H = some (v, H')) : E.Ans f args H v H' :=
  ⟨1, by simp [call, callsA, hf, h]⟩
end Env

theorem onceA_mono {o : OnceT} {keep : Nat → Bool} {c c' : ACall} (h : ALe c c') {args : List AV} {H : AHeap} {r : AV × AHeap} (hr : onceA o keep c args H = some r) : onceA o keep c' args H = some r := by
  unfold onceA at hr ⊢
  split at hr <;> try (simp at hr; done)
  rename_i hl
  rw [if_pos hl]
  split at hr <;> try (simp at hr; done)
  rename_i h0
  rw [opsA_mono h h0]; simp only
  split at hr <;> try (simp at hr; done)
  rename_i h1
  rw [opsA_mono h h1]; simp only
  split at hr <;> try (simp at hr; done)
  rename_i h2
  rw [opsA_mono h h2]; simp only
  split at hr <;> try (simp at hr; done)
  · rename_i hb
    split at hr <;> try (simp at hr; done)
    rename_i h3
    rw [opsA_mono h h3]; simp only
    split at hr <;> try (simp at hr; done)
    rename_i h4
    rw [opsA_mono h h4]; simp only
    split at hr <;> try (simp at hr; done)
    rename_i h5
    rw [h _ _ _ _ _ h5]; simp only
    split at hr <;> try (simp at hr; done)
    rename_i h6
    rw [h _ _ _ _ _ h6]
    exact hr
  · rename_i hb
    split at hr <;> try (simp at hr; done)
    rename_i h3
    rw [h _ _ _ _ _ h3]
    exact hr

theorem hookA_mono {o : OnceT} {keep : Nat → Bool} {once : Nat} {c c' : ACall} (h : ALe c c') (f : Nat) (args : List AV) (H : AHeap) (r : AV × AHeap) (hr : hookA keep once o c f args H = some r) : hookA keep once o c' f args H = some r := by
  unfold hookA at hr ⊢
  split
  · rename_i e; rw [if_pos e] at hr; exact onceA_mono h hr
  · rename_i e; rw [if_neg e] at hr; exact hr

/-- the environment of a program's lowered functions -/
noncomputable def envOf (t : NT LFunc) (keep : Nat → Bool) (once : Nat) (o : OnceT) : Env := ⟨t.get, keep, hookA keep once o, fun h => hookA_mono h⟩
end Go.AE
/-
  FROM AE TO A ROW: what is handed to a call; what is left behind it.
-/
namespace Go.AE
open Go
variable {C : Ctx}

/-- nothing is known of the heap yet -/
theorem HRel.start {W : World} (hg : ∀ g v, C.τ.gl g = some v → VRel C loc0 (fun _ => False) W v (.pointer (some ⟨g, 0, none⟩))) : HRel C loc0 (fun _ => False) [] W where
  blk b k h := by simp at h
  dom b v x h := by simp [loc0] at h
  inj b v b' v' x x' h := by simp [loc0] at h
  nN B h := absurd h (not_mut0 B)
  nS B h := h.elim
  gl := hg

/-- a call of a function with a body -/
theorem calls_top {keep : Nat → Bool} {call : ACall} (hs : CallSound C keep call) {f : Nat} {fn : Func} (hfn : C.P.funcs[C.fid f]? = some fn) (hb : fn.body.isSome = true) (hname : (fn.name == "runtime.NumGoroutine") = false) {args : List AV} {v : AV} {H' : AHeap} (h : call false f args [] = some (v, H'))
    {W : World} (hH : HRel C loc0 (fun _ => False) [] W) {xs : List Value} (hl : LRel C loc0 (fun _ => False) W args xs) : Calls C.P (C.fid f) xs.toArray W (Answer C (fun _ => False) loc0 W v H') := by
  rcases hs.fn f args [] v H' h loc0 (fun _ => False) W xs hH hl with ⟨_, _, _, _, h1⟩ | ⟨fn', x, W', φ', _, h1, h2, _⟩
  · exact h1
  · exfalso
    have hb' : fn.body ≠ none := by intro hq; simp [hq] at hb
    have hn : fn.name ≠ "runtime.NumGoroutine" := by simpa using hname
    simp [callFunc, hfn, hn, hb'] at h2

/-- nothing that was there has turned -/
theorem Ext.kept {W W' : World} {φ' : Loc} (h : Ext loc0 φ' W W') (may : MemPlace → Prop) : W.keptBut W' may := by
  refine ⟨h.os, h.output, fun i hi => ?_⟩
  rw [h.keep i hi (not_mut0 i)]
  split <;> simp_all
theorem Ext.same {W W' : World} {φ' : Loc} (h : Ext loc0 φ' W W') {p : MemPlace} (hp : p.block < W.heap.size) : W.sameAt W' p := by
  cases p with
  | cell b o => exact World.cell?_of_block (w := W) (h.keep b hp (not_mut0 b))
  | map b => exact h.keep b hp (not_mut0 b)

section
variable {H : Type} {enc : TypeId × Value → H} {P : Program}
open Go.ChangeShapes Go.RowKit
theorem trodAll_stays (hl : laidOutB P = true) {W W' : World} {sp' : Nat → Bool} : ∀ {ts : List TypeId} {vs : List Value} {ds : List (DataW H)} {ps : List MemPlace}, (∀ t ∈ ts, P.readableRec t = true ∧ t < P.types.size) →
    DataW.TrodAll enc P W 0 (fun _ => true) true ts vs ds ps → (∀ p ∈ ps, W.sameAt W' p) → (∀ p ∈ ps, sp' p.block = true) → DataW.TrodAll enc P W' 0 sp' true ts vs ds ps
  | [], [], [], _, _, h, _, _ => h
  | t :: ts, v :: vs, d :: ds, ps, ht, h, h1, h2 => by
    obtain ⟨p, q, g1, g2, rfl⟩ := h
    obtain ⟨k1, k2⟩ := ht t (by simp)
    exact ⟨p, q, WideElems.Trod_stays hl k1 k2 g1 (fun x hx => h1 x (by simp [hx])) (fun x hx => h2 x (by simp [hx])), trodAll_stays hl (fun t' ht' => ht t' (by simp [ht'])) g2 (fun x hx => h1 x (by simp [hx])) (fun x hx => h2 x (by simp [hx])), rfl⟩
  | [], _ :: _, _, _, _, h, _, _ => h.elim
  | [], [], _ :: _, _, _, h, _, _ => h.elim
  | _ :: _, [], _, _, _, h, _, _ => h.elim
  | _ :: _, _ :: _, [], _, _, h, _, _ => h.elim

/-- the arguments read as they did, the answer is true -/
theorem post_true (hl : laidOutB C.P = true) {f : Func} {s : ChangeSpec} {t : TypeId} (hrt : f.resultTypes = #[t]) (ht : C.P.underlying t = some .bool) (hpar : ∀ t ∈ f.params.toList, C.P.readableRec t = true ∧ t < C.P.types.size) (hvars : s.vars = [])
    {W W' : World} {args : Array Value} {ds gs : List (DataW H)} {before : List MemPlace} (hW : DataW.Whole enc C.P f.params.toList s.vars false W args.toList ds gs before) (hfn : s.fn H (ds ++ gs) = { results := [.lit (.bool true)], args := ds })
    {e : Ending} {H' : AHeap} (ha : Answer C (fun _ => False) loc0 W (.bool true) H' e W') : ∃ v, e = .returned v ∧ s.post enc C.P f false true false false W args v W' := by
  obtain ⟨x, φ', rfl, _, hx, hE⟩ := ha
  cases hx
  have hlt : ∀ p ∈ before, p.block < W.heap.size := hW.lt
  have hW' := hW
  obtain ⟨p, q, hA, hV, rfl, hfz, hnd⟩ := hW
  rw [hvars] at hV
  obtain ⟨rfl, rfl⟩ := trodVars_none hV
  simp only [List.append_nil] at *
  have hargs := trodAll_stays (sp' := fun b => decide (b < W.heap.size)) hl hpar hA (fun x hx => hE.same (hlt x hx)) (fun x hx => by simpa using hlt x hx)
  refine ⟨_, rfl, ds, [], p, [], p, [], hW', ?_, ?_, ?_, hE.kept _, fun h => by cases h⟩
  · rw [List.append_nil, hfn, hrt]
    exact ⟨[], [], shut_bool ht true, trodAll_mk0, rfl⟩
  · rw [List.append_nil, hfn]; exact hargs
  · rw [List.append_nil, hfn, hvars]; rfl
end

theorem str_rel {φ : Loc} {N : Nat → Prop} {W : World} (s : ByteArray) : VRel C φ N W (.str s.data.toList) (.string s) := by
  have := VRel.str (C := C) (φ := φ) (N := N) (W := W) s.data.toList
  simpa using this

theorem addr_add_plain (a : Addr) (h : a.spot = none) (i : Nat) : a.add i = ⟨a.block, a.off + i, none⟩ := by
  obtain ⟨b, o, s⟩ := a
  simp only at h
  subst h
  exact WideShapes.add_plain b o i

/-- texts that stand in elder memory -/
theorem strs_rel {W : World} {a : Addr} {len cap : Nat} {Sx : Nat → ByteArray} (hle : len ≤ cap) (hc : ∀ i, i < len → W.cell? (a.add i) = some (.string (Sx i))) :
    VRel C loc0 (fun _ => False) W (.lst ((List.range len).map fun i => .str (Sx i).data.toList) len 1 false) (.slice (some a) len cap) := by
  have hsp : 0 < len → a.spot = none ∧ a.block < W.heap.size := by
    intro hpos
    have h0 := hc 0 hpos
    have ha : a.add 0 = a := by simp [Addr.add]
    rw [ha] at h0
    unfold World.cell? at h0
    cases hb : W.heap[a.block]? with
    | none => rw [hb] at h0; simp at h0
    | some o =>
      rw [hb] at h0
      refine ⟨?_, ?_⟩
      · cases o <;> simp at h0
        exact h0.1
      · rcases Nat.lt_or_ge a.block W.heap.size with h | h
        · exact h
        · simp [Array.getElem?_eq_none h] at hb
  refine .lst (fun i => .string (Sx i)) (by simp) hle (fun h => by cases h) (fun hne => ?_) ?_ (fun i hi => ?_) (fun i hi => ?_)
  · have hpos : 0 < len := by
      rcases Nat.eq_zero_or_pos len with h | h
      · subst h; simp at hne
      · exact h
    exact ⟨(hsp hpos).1, (hsp hpos).2, not_mut0 _, fun h => h⟩
  · refine rowOk.iff.2 fun w hw => ?_
    simp at hw
    obtain ⟨i, _, rfl⟩ := hw
    rfl
  · simp at hi
    have := hc i hi
    rwa [addr_add_plain a (hsp (by omega)).1 i] at this
  · simp at hi
    have : ((List.range len).map fun i => AV.str (Sx i).data.toList).getD i .bad = .str (Sx i).data.toList := by simp [List.getD_eq_getElem?_getD, hi]
    rw [this]
    exact str_rel (Sx i)
end Go.AE
