/- What the functions of hosts answer. -/
import Derived.Test.YtibjieaohbnpgaaGreatDoorC1
import Derived.Test.YtibjieaohbnpgaaGreatDoorB5
import Derived.Test.YtibjieaohbnpgaaGreatDoorA7
set_option linter.all false
set_option linter.unusedSimpArgs false
set_option linter.unusedVariables false
set_option linter.unnecessarySimpa false
set_option linter.deprecated false
namespace Go.AE.Fns
open Go Go.AE Env
set_option maxRecDepth 100000
def Same (n : Nat) (H H' : AHeap) : Prop := ∀ j, j < n → H'[j]? = H[j]?
theorem Same.refl {n : Nat} {H : AHeap} : Same n H H := fun _ _ => rfl
theorem Same.trans {n : Nat} {H H1 H2 : AHeap} (h : Same n H H1) (h2 : Same n H1 H2) : Same n H H2 := fun j hj => (h2 j hj).trans (h j hj)
theorem Same.set {n q : Nat} {H : AHeap} {k : ABlk} (h : n ≤ q) : Same n H (H.set q k) := fun j hj => by rw [List.getElem?_set_ne (by omega)]
theorem Same.app {n : Nat} {H X : AHeap} (h : n ≤ H.length) : Same n H (H ++ X) := fun j hj => by rw [List.getElem?_append_left (by omega)]
inductive BufN (n : Nat) (H : AHeap) (q : Nat) : AV → List UInt8 → Prop where
 | nil : BufN n H q .nilsl []
 | grown {b N : Nat} (hq : b ≠ q) (hn : n ≤ b) (hb : H[b]? = some (.cells (List.replicate N .bad) 1 N 0)) (hN : 0 < N) : BufN n H q (.sl b 0 0 1 N none) []
 | row {b : Nat} {s : List UInt8} {wv : Nat} (hq : b ≠ q) (hn : n ≤ b) (hb : H[b]? = some (.cells (bytesV s) 1 wv 0)) (hw : wv ≤ s.length) (hs : s ≠ []) : BufN n H q (.sl b 0 s.length 1 s.length none) s
theorem BufN.one {n : Nat} {H : AHeap} {q : Nat} {buf : AV} {s : List UInt8} (h : BufN n H q buf s) : buf.cells = [buf] := by cases h <;> rfl
theorem BufN.put {n : Nat} {H : AHeap} {q : Nat} {buf : AV} {s : List UInt8} {k : ABlk} (h : BufN n H q buf s) : BufN n (H.set q k) q buf s := by
  cases h with
  | nil => exact .nil
  | grown hq hn hb hN => exact .grown hq hn (by rw [List.getElem?_set_ne (fun e => hq e.symm)]; exact hb) hN
  | row hq hn hb hw hs => exact .row hq hn (by rw [List.getElem?_set_ne (fun e => hq e.symm)]; exact hb) hw hs
end Go.AE.Fns
namespace Go.AE.Fns
open Go Go.AE Env
set_option maxRecDepth 100000
end Go.AE.Fns
namespace Go.AE.Fns
open Go Go.AE Env
set_option maxRecDepth 100000
end Go.AE.Fns
namespace Go.AE.Fns
open Go Go.AE Env
set_option maxRecDepth 100000
end Go.AE.Fns
namespace Go.AE.Fns
open Go Go.AE Env
set_option maxRecDepth 100000
structure Host where
 kind : Nat
 name : List UInt8 := []
 v4 : Nat := 0
 b0 : Nat := 0
 b1 : Nat := 0
 b2 : Nat := 0
 b3 : Nat := 0
 b4 : Nat := 0
 b5 : Nat := 0
 b6 : Nat := 0
 b7 : Nat := 0
 deriving DecidableEq
def Host.v6 (h : Host) : List Nat := [h.b0, h.b1, h.b2, h.b3, h.b4, h.b5, h.b6, h.b7]
def Host.cells (h : Host) : List AV := [.int .u8 (h.kind : Nat), .str h.name, .int .u32 (h.v4 : Nat), .int .u16 (h.b0 : Nat), .int .u16 (h.b1 : Nat), .int .u16 (h.b2 : Nat), .int .u16 (h.b3 : Nat), .int .u16 (h.b4 : Nat), .int .u16 (h.b5 : Nat), .int .u16 (h.b6 : Nat), .int .u16 (h.b7 : Nat)]
abbrev v6T : ETy := .st [(0, 1, false, .i), (1, 1, false, .i), (2, 1, false, .i), (3, 1, false, .i), (4, 1, false, .i), (5, 1, false, .i), (6, 1, false, .i), (7, 1, false, .i)]
abbrev hostT : ETy := .st [(0, 1, false, .i), (1, 1, false, .s), (2, 1, false, .i), (3, 8, true, v6T)]
theorem aEq_i {k : IntKind} {a b : Int} : aEq .i (.int k a) (.int k b) = some (a == b) := by simp [aEq, eqPlain]
theorem aEq_s {a b : List UInt8} : aEq .s (.str a) (.str b) = some (a == b) := Eq.trans rfl rfl
theorem aEq_bb {a b : Bool} : aEq .b (.bool a) (.bool b) = some (a == b) := Eq.trans rfl rfl
theorem aEqF_cons {o sz : Nat} {ag : Bool} {e : ETy} {fs : List (Nat × Nat × Bool × ETy)} {xs ys : List AV} {x y : AV} {p q : Bool} (hx : part xs o sz ag = some x) (hy : part ys o sz ag = some y) (he : aEq e x y = some p) (hf : aEqF fs xs ys = some q) : aEqF ((o, sz, ag, e) :: fs) xs ys = some (p && q) := by
 simp only [aEqF, hx, hy, he]
 cases p <;> simp [hf]
theorem aEqF_nil {xs ys : List AV} : aEqF [] xs ys = some true := Eq.trans rfl rfl
theorem aEq_st {fs : List (Nat × Nat × Bool × ETy)} {xs ys : List AV} : aEq (.st fs) (.agg xs) (.agg ys) = aEqF fs xs ys := Eq.trans rfl rfl
theorem host_eq (h g : Host) : aEq hostT (.agg h.cells) (.agg g.cells) = some (decide (h = g)) := by
 have h6 : aEq v6T (.agg [.int .u16 h.b0, .int .u16 h.b1, .int .u16 h.b2, .int .u16 h.b3, .int .u16 h.b4, .int .u16 h.b5, .int .u16 h.b6, .int .u16 h.b7]) (.agg [.int .u16 g.b0, .int .u16 g.b1, .int .u16 g.b2, .int .u16 g.b3, .int .u16 g.b4, .int .u16 g.b5, .int .u16 g.b6, .int .u16 g.b7]) = some ((h.b0 : Int) == g.b0 && ((h.b1 : Int) == g.b1 && ((h.b2 : Int) == g.b2 && ((h.b3 : Int) == g.b3 && ((h.b4 : Int) == g.b4 && ((h.b5 : Int) == g.b5 && ((h.b6 : Int) == g.b6 && ((h.b7 : Int) == g.b7 && true)))))))) := by
  rw [aEq_st]
  exact aEqF_cons rfl rfl aEq_i (aEqF_cons rfl rfl aEq_i (aEqF_cons rfl rfl aEq_i (aEqF_cons rfl rfl aEq_i (aEqF_cons rfl rfl aEq_i (aEqF_cons rfl rfl aEq_i (aEqF_cons rfl rfl aEq_i (aEqF_cons rfl rfl aEq_i aEqF_nil)))))))
 have hh : aEq hostT (.agg h.cells) (.agg g.cells) = some ((h.kind : Int) == g.kind && (h.name == g.name && ((h.v4 : Int) == g.v4 && (((h.b0 : Int) == g.b0 && ((h.b1 : Int) == g.b1 && ((h.b2 : Int) == g.b2 && ((h.b3 : Int) == g.b3 && ((h.b4 : Int) == g.b4 && ((h.b5 : Int) == g.b5 && ((h.b6 : Int) == g.b6 && ((h.b7 : Int) == g.b7 && true)))))))) && true)))) := by
  rw [aEq_st]
  exact aEqF_cons rfl rfl aEq_i (aEqF_cons rfl rfl aEq_s (aEqF_cons rfl rfl aEq_i (aEqF_cons rfl rfl h6 aEqF_nil)))
 rw [hh]
 congr 1
 rw [Bool.eq_iff_iff]
 cases h; cases g
 simp only [Bool.and_eq_true, beq_iff_eq, decide_eq_true_eq, Host.mk.injEq, and_true, Int.natCast_inj]
end Go.AE.Fns
namespace Go.AE.Fns
open Go Go.AE Env
set_option maxRecDepth 100000
inductive Vw (n : Nat) (H : AHeap) : AV → List AV → Prop where
 | lst {l : List AV} (ex : Bool) : Vw n H (.lst l l.length 1 ex) l
 | nil : Vw n H .nilsl []
 | sl {b o v : Nat} {cap : Option Nat} {l cs : List AV} {g wv st : Nat} (hn : b < n) (hb : H[b]? = some (.cells cs g wv st)) (h1 : st < 2) (h2 : wv ≤ v) (h3 : v ≤ cs.length) (h4 : o + l.length ≤ v) (h5 : ∀ i (h : i < l.length), cs[o + i]? = some l[i]) : Vw n H (.sl b o l.length 1 v cap) l
theorem Vw.len {n : Nat} {H : AHeap} {r : AV} {l : List AV} (h : Vw n H r l) (H' : AHeap) : lenA H' .lenSl r = some (.int .i64 l.length, H', .p) := by cases h <;> rfl
theorem Vw.get {n : Nat} {H : AHeap} {r : AV} {l : List AV} (h : Vw n H r l) {i : Nat} (hi : i < l.length) : ∃ a kd, idxAddrA 1 r (.int .i64 i) = some a ∧ loadA H 1 false a = some (l[i], H, kd) := by
  cases h with
  | lst ex => exact ⟨_, _, idxA_lst hi, load_elt (List.getElem?_eq_getElem hi)⟩
  | nil => simp at hi
  | sl hn hb h1 h2 h3 h4 h5 => exact ⟨_, _, idxA_sl hi, load_at hb h1 h2 h3 (by omega) (h5 i hi)⟩
theorem Vw.same {n : Nat} {H H' : AHeap} {r : AV} {l : List AV} (h : Vw n H r l) (hs : Same n H H') : Vw n H' r l := by
  cases h with
  | lst ex => exact .lst ex
  | nil => exact .nil
  | sl hn hb h1 h2 h3 h4 h5 => exact .sl hn (by rw [hs _ hn]; exact hb) h1 h2 h3 h4 h5
theorem Vw.from {n : Nat} {H : AHeap} {r : AV} {l : List AV} (h : Vw n H r l) {k : Nat} (hk : k ≤ l.length) : ∃ r', sliceA 1 r (some (.int .i64 k)) none none = some r' ∧ Vw n H r' (l.drop k) := by
  cases h with
  | lst ex =>
    have hb : bounds l.length (some (.int .i64 (k : Int))) none = some (k, l.length) := by simp [bounds, loI, hiI, asI, hk]
    refine ⟨.lst (l.drop k) (l.length - k) 1 (ex && l.length == l.length), ?_, ?_⟩
    · simp only [sliceA, hb, if_true, Nat.mul_one]
      rw [List.take_of_length_le (by simp)]
      rfl
    · have := @Vw.lst n H (l.drop k) (ex && l.length == l.length)
      rwa [List.length_drop] at this
  | nil =>
    have : k = 0 := by simpa using hk
    subst this
    exact ⟨.nilsl, rfl, .nil⟩
  | @sl b o v cap _ cs g wv st hn hb h1 h2 h3 h4 h5 =>
    have hbd : bounds l.length (some (.int .i64 (k : Int))) none = some (k, l.length) := by simp [bounds, loI, hiI, asI, hk]
    refine ⟨.sl b (o + k) (l.length - k) 1 v (cap.map (· - k)), ?_, ?_⟩
    · simp only [sliceA, hbd, if_true, Nat.mul_one]
      rfl
    · have := @Vw.sl n H b (o + k) v (cap.map (· - k)) (l.drop k) cs g wv st hn hb h1 h2 h3 (by simp; omega) (fun i hi => by
        rw [List.getElem_drop, Nat.add_assoc]
        exact h5 (k + i) (by simp at hi; omega))
      rwa [List.length_drop] at this
end Go.AE.Fns
namespace Go.AE.Fns
open Go Go.AE Env
set_option maxRecDepth 100000
end Go.AE.Fns
namespace Go.AE.Fns
open Go Go.AE Env
set_option maxRecDepth 100000
inductive Row (n g : Nat) (H : AHeap) : AV → List AV → Prop where
 | nil : Row n g H .nilsl []
 | sl {b : Nat} {cs : List AV} {wv : Nat} (hn : n ≤ b) (hb : H[b]? = some (.cells cs g wv 0)) (hw : wv ≤ cs.length) (hne : cs ≠ []) : Row n g H (.sl b 0 cs.length 1 cs.length none) cs
theorem Row.len {n g : Nat} {H : AHeap} {r : AV} {l : List AV} (h : Row n g H r l) (H' : AHeap) : lenA H' .lenSl r = some (.int .i64 l.length, H', .p) := by cases h <;> rfl
theorem Row.push {n g : Nat} {H : AHeap} {r : AV} {l : List AV} (h : Row n g H r l) (hn : n ≤ H.length) (x : AV) (by_ : Nat) (hb0 : 0 < by_) (hl : (l.length + 1) * by_ ≤ 2 ^ 40) : ∃ r' H', (∀ ex, appendA H 1 by_ g r (.lst [x] 1 1 ex) = some (r', H', .l)) ∧ Row n g H' r' (l ++ [x]) ∧ Same n H H' ∧ n ≤ H'.length := by
 have hcell : ∀ ex, cellsIn H 1 (.lst [x] 1 1 ex) = some (1, [x]) := fun ex => by simp [cellsIn]
 cases h with
 | nil =>
  refine ⟨.sl H.length 0 1 1 1 none, H ++ [.cells [x] g 1 0], fun ex => ?_, ?_, Same.app hn, by simp; omega⟩
  ·have h3 : by_ ≤ 1099511627776 := by simp at hl; omega
   simp [appendA, hcell, hb0, h3]
  ·exact Row.sl (cs := [x]) (wv := 1) hn (by simp) (by simp) (by simp)
 | @sl b _ wv hnb hb hw hne =>
  refine ⟨.sl b 0 (l.length + 1) 1 (l ++ [x]).length none, H.set b (.cells (l ++ [x]) g wv 0), fun ex => ?_, ?_, Same.set hnb, by simp; omega⟩
  ·have h3 : (l.length + 1) * by_ ≤ 1099511627776 := by omega
   simp [appendA, hcell, hb, hw, hb0, h3]
  ·have e : l.length + 1 = (l ++ [x]).length := by simp
   rw [e]
   exact Row.sl (cs := l ++ [x]) (wv := wv) hnb (by simp [lt_of_at hb]) (by simp; omega) (by simp)
end Go.AE.Fns
namespace Go.AE.Fns
open Go Go.AE Env
set_option maxRecDepth 100000
end Go.AE.Fns
