/- What the functions of hosts answer. -/
import Derived.Test.YtibjieaohbnpgaaGreatDoorC1
import Derived.Test.YtibjieaohbnpgaaGreatDoorB5
import Derived.Test.YtibjieaohbnpgaaGreatDoorA7
set_option linter.all false
set_option linter.unusedSimpArgs false
set_option linter.unusedVariables false
set_option linter.unnecessarySimpa false
set_option linter.deprecated false
namespace Go.AE.Fns
open Go Go.AE Env
set_option maxRecDepth 100000
theorem load_bytes {H : AHeap} {l : List UInt8} {i : Nat} (h : i < l.length) : loadA H 1 false (.elt (bytesV l) i) = some (.int .u8 l[i].toNat, H, .p) := load_map h
theorem load_txts {H : AHeap} {l : List (List UInt8)} {i : Nat} (h : i < l.length) : loadA H 1 false (.elt (txts l) i) = some (.str l[i], H, .p) := load_map h
attribute [go_sem] load_bytes load_txts
theorem more_loop (b : UInt8) (l : List UInt8) (hl : l.length ≤ 2 ^ 31) {H : AHeap} {K0 : AHeap → Prop} {Kr : AV → AHeap → Prop} : ∀ (k i : Nat), i + k = l.length → (if (l.drop i).contains b then Kr (.bool true) H else K0 H) → L83_0 (.int .u8 b.toNat) (.lst (bytesV l) l.length 1 true) (i64 l.length) (i64 i) H K0 Kr
  | 0, i, hi, h => S83_0 fun _ => by
    simp (disch := omega) only [go_sem, Int.reduceBEq]
    rw [if_neg (by omega)]
    rw [List.drop_eq_nil_of_le (by omega)] at h
    simpa using h
  | k + 1, i, hi, h => S83_0 fun _ => by
    have hil : i < l.length := by omega
    rw [List.drop_eq_getElem_cons hil, List.contains_cons] at h
    simp (disch := omega) only [go_sem, Int.reduceBEq]
    rw [if_pos hil]
    split
    · rename_i e
      simp only [beq_iff_eq] at e
      simpa [e] using h
    · rename_i e
      refine more_loop b l hl k (i + 1) (by omega) ?_
      have : (b == l[i]) = false := by rw [BEq.comm]; simpa using e
      simpa [this] using h
theorem bytes_free (l : List UInt8) : locFreeL (bytesV l) = true := by
 induction l with
 | nil => rfl
 | cons a l ih => simpa [bytesV, locFreeL, AV.locFree] using ih
theorem more_c (b : UInt8) (l : List UInt8) (hl : l.length ≤ 2 ^ 31) (H : AHeap) (K : AV → AHeap → Kd → Prop) : E.C 83 [.int .u8 b.toNat, .lst (bytesV l) l.length 1 true] H K ↔ K (.bool (l.contains b)) H .p := by
 refine C_by (V83 (K := fun v' _ => v' = .bool (l.contains b)) ?_) (by simp [locFreeL, AV.locFree, bytes_free]) (by kernel_rfl) (fun _ => rfl)
 simp (disch := omega) only [go_sem, Int.reduceBEq]
 refine more_loop b l hl l.length 0 (by omega) ?_
 rw [List.drop_zero]
 split <;> simp_all
def inCtl (b : UInt8) : Bool := decide ((b.toNat : Int) < 32 ∨ 126 < (b.toNat : Int))
def inQry (b : UInt8) : Bool := inCtl b || [32, 34, 35, 60, 62].contains b
def inPth (b : UInt8) : Bool := inQry b || [63, 94, 96, 123, 125].contains b
def inInf (b : UInt8) : Bool := inPth b || [47, 58, 59, 61, 64, 91, 92, 93, 124].contains b
def inCmp (b : UInt8) : Bool := inInf b || [36, 37, 38, 43, 44].contains b
def inB (s : Int) (b : UInt8) : Bool :=
 if s = 1 then inCtl b else if s = 2 then inCtl b || [32, 34, 60, 62, 96].contains b else if s = 3 then inQry b else if s = 4 then inQry b || ((b.toNat : Int) == 39)
 else if s = 5 then inPth b else if s = 6 then inInf b else if s = 7 then inCmp b else if s = 8 then inCmp b || [33, 39, 40, 41, 126].contains b else false
theorem in_c (s : Int) (b : UInt8) (H : AHeap) (K : AV → AHeap → Kd → Prop) : E.C 81 [.int .u8 s, .int .u8 b.toNat] H K ↔ K (.bool (inB s b)) H .p := by
 refine C_by (V81 (K := fun v' _ => v' = .bool (inB s b)) ?_) rfl (by kernel_rfl) (fun _ => rfl)
 have h1 := fun H K => more_c b [32, 34, 35, 60, 62] (by decide) H K
 have h2 := fun H K => more_c b [63, 94, 96, 123, 125] (by decide) H K
 have h3 := fun H K => more_c b [47, 58, 59, 61, 64, 91, 92, 93, 124] (by decide) H K
 have h4 := fun H K => more_c b [36, 37, 38, 43, 44] (by decide) H K
 have h5 := fun H K => more_c b [33, 39, 40, 41, 126] (by decide) H K
 have h6 := fun H K => more_c b [32, 34, 60, 62, 96] (by decide) H K
 simp only [bytesV, List.map_cons, List.map_nil, List.length_cons, List.length_nil, Nat.reduceAdd, UInt8.reduceToNat, Int.cast_ofNat_Int] at h1 h2 h3 h4 h5 h6
 simp (disch := omega) only [go_sem, Int.reduceBEq, h1, h2, h3, h4, h5, h6]
 simp only [beq_iff_eq]
 unfold inB
 by_cases e1 : s = 1
 ·subst e1; rfl
 by_cases e2 : s = 2
 ·subst e2; rfl
 by_cases e3 : s = 3
 ·subst e3; rfl
 by_cases e4 : s = 4
 ·subst e4; rfl
 by_cases e5 : s = 5
 ·subst e5; rfl
 by_cases e6 : s = 6
 ·subst e6; rfl
 by_cases e7 : s = 7
 ·subst e7; rfl
 by_cases e8 : s = 8
 ·subst e8; rfl
 simp only [e1, e2, e3, e4, e5, e6, e7, e8, if_false]
def Same (n : Nat) (H H' : AHeap) : Prop := ∀ j, j < n → H'[j]? = H[j]?
theorem Same.refl {n : Nat} {H : AHeap} : Same n H H := fun _ _ => rfl
theorem Same.trans {n : Nat} {H H1 H2 : AHeap} (h : Same n H H1) (h2 : Same n H1 H2) : Same n H H2 := fun j hj => (h2 j hj).trans (h j hj)
theorem Same.set {n q : Nat} {H : AHeap} {k : ABlk} (h : n ≤ q) : Same n H (H.set q k) := fun j hj => by rw [List.getElem?_set_ne (by omega)]
theorem Same.app {n : Nat} {H X : AHeap} (h : n ≤ H.length) : Same n H (H ++ X) := fun j hj => by rw [List.getElem?_append_left (by omega)]
inductive BufN (n : Nat) (H : AHeap) (q : Nat) : AV → List UInt8 → Prop where
 | nil : BufN n H q .nilsl []
 | grown {b N : Nat} (hq : b ≠ q) (hn : n ≤ b) (hb : H[b]? = some (.cells (List.replicate N .bad) 1 N 0)) (hN : 0 < N) : BufN n H q (.sl b 0 0 1 N none) []
 | row {b : Nat} {s : List UInt8} {wv : Nat} (hq : b ≠ q) (hn : n ≤ b) (hb : H[b]? = some (.cells (bytesV s) 1 wv 0)) (hw : wv ≤ s.length) (hs : s ≠ []) : BufN n H q (.sl b 0 s.length 1 s.length none) s
def BldN (n : Nat) (H : AHeap) (q : Nat) (s : List UInt8) : Prop := ∃ a0 buf, (a0 = .nilptr ∨ a0 = .ptr q 0 2) ∧ n ≤ q ∧ H[q]? = some (.cells [a0, buf] 2 2 0) ∧ BufN n H q buf s
theorem BufN.one {n : Nat} {H : AHeap} {q : Nat} {buf : AV} {s : List UInt8} (h : BufN n H q buf s) : buf.cells = [buf] := by cases h <;> rfl
theorem BufN.put {n : Nat} {H : AHeap} {q : Nat} {buf : AV} {s : List UInt8} {k : ABlk} (h : BufN n H q buf s) : BufN n (H.set q k) q buf s := by
  cases h with
  | nil => exact .nil
  | grown hq hn hb hN => exact .grown hq hn (by rw [List.getElem?_set_ne (fun e => hq e.symm)]; exact hb) hN
  | row hq hn hb hw hs => exact .row hq hn (by rw [List.getElem?_set_ne (fun e => hq e.symm)]; exact hb) hw hs
theorem copyN {n : Nat} {H : AHeap} {q : Nat} {s : List UInt8} (hB : BldN n H q s) : ∃ H1 buf, (∀ K, E.C 19 [.ptr q 0 2] H K ↔ K (.tuple []) H1 (.c H H1)) ∧ n ≤ q ∧ H1[q]? = some (.cells [.ptr q 0 2, buf] 2 2 0) ∧ BufN n H1 q buf s ∧ Same n H H1 := by
 obtain ⟨a0, buf, h0, hnq, hb, hf⟩ := hB
 rcases h0 with rfl | rfl
 ·exact ⟨_, buf, fun K => C_shared rfl (copyCheck_first hb), hnq, by simp [lt_of_at hb], hf.put, Same.set hnq⟩
 ·exact ⟨H, buf, fun K => copyCheck_c hb K, hnq, hb, hf, Same.refl⟩
theorem appendN {n : Nat} {H : AHeap} {q : Nat} {buf : AV} {s : List UInt8} (hB : BufN n H q buf s) (hnq : n ≤ q) (hlt : q < H.length) (t : List UInt8) (hl : s.length + t.length ≤ 2 ^ 40) : ∃ buf' H', appendA H 1 1 1 buf (.str t) = some (buf', H', .l) ∧ BufN n H' q buf' (s ++ t) ∧ H'[q]? = H[q]? ∧ Same n H H' := by
 have hcell : cellsIn H 1 (.str t) = some (t.length, bytesV t) := rfl
 by_cases ht : t = []
 ·subst ht
  refine ⟨buf, H, ?_, by simpa using hB, rfl, Same.refl⟩
  cases hB with
  | nil => simp [appendA, hcell]
  | grown hq hn hb hN => simp [appendA, hcell, hb]
  | row hq hn hb hw hs => simp [appendA, hcell, hb, bytesV_len, hw]
 ·have hm : t.length ≠ 0 := by simpa using ht
  cases hB with
  | nil =>
   have h3 : t.length ≤ 1099511627776 := by simp at hl; omega
   refine ⟨.sl H.length 0 (0 + t.length) 1 (bytesV t).length none, H ++ [.cells (bytesV t) 1 (bytesV t).length 0], by simp [appendA, hcell, hm, h3], ?_, by rw [List.getElem?_append_left hlt], Same.app (by omega)⟩
   rw [Nat.zero_add, List.nil_append, bytesV_len]
   exact .row (by omega) (by omega) (by simp) (Nat.le_refl _) ht
  | @grown b N hq hn hb hN =>
   have hblt := lt_of_at hb
   refine ⟨.sl H.length 0 (0 + t.length) 1 (bytesV t).length none, (H ++ [ABlk.cells (bytesV t) 1 (bytesV t).length 0]).set b (.cells (List.replicate N .bad) 1 N 2), ?_, ?_, ?_, (Same.app (by omega)).trans (Same.set hn)⟩
   ·have h1 : ¬ (0 : Nat) = N := by omega
    have h3 : t.length ≤ 1099511627776 := by simp at hl; omega
    simp [appendA, hcell, hb, hm, h1, h3]
   ·rw [Nat.zero_add, List.nil_append, bytesV_len]
    refine .row (by omega) (by omega) ?_ (Nat.le_refl _) ht
    rw [List.getElem?_set_ne (by omega)]
    simp
   ·rw [List.getElem?_set_ne hq, List.getElem?_append_left hlt]
  | @row b _ wv hq hn hb hw hs =>
   refine ⟨.sl b 0 (s.length + t.length) 1 (bytesV s ++ bytesV t).length none, H.set b (.cells (bytesV s ++ bytesV t) 1 wv 0), ?_, ?_, by rw [List.getElem?_set_ne hq], Same.set hn⟩
   ·have h3 : s.length + t.length ≤ 1099511627776 := by omega
    simp [appendA, hcell, hb, hm, bytesV_len, hw, h3]
   ·have e : bytesV s ++ bytesV t = bytesV (s ++ t) := by simp [bytesV]
    have e2 : s.length + t.length = (s ++ t).length := by simp
    rw [e, bytesV_len, e2]
    exact .row (wv := wv) hq hn (by simp [lt_of_at hb]) (by simp; omega) (by simp [hs])
theorem append_lst {H : AHeap} {buf : AV} {t : List UInt8} {r : ARes} (h : appendA H 1 1 1 buf (.str t) = r) : appendA H 1 1 1 buf (.lst (bytesV t) t.length 1 true) = r := by
 rw [← h]
 have h1 : cellsIn H 1 (.lst (bytesV t) t.length 1 true) = cellsIn H 1 (.str t) := by simp [cellsIn, bytesV]
 unfold appendA
 rw [h1]
theorem store_buf {H : AHeap} {q : Nat} {buf buf' : AV} (hb : H[q]? = some (.cells [.ptr q 0 2, buf] 2 2 0)) (h : buf'.cells = [buf']) : storeA H 1 (.ptr q 1 2) buf' = some (undefA, H.set q (.cells [.ptr q 0 2, buf'] 2 2 0), .w q) := store_one h rfl (by simp) hb
theorem writeLst {n q : Nat} {H : AHeap} {s : List UInt8} (hB : BldN n H q s) (t : List UInt8) (hl : s.length + t.length ≤ 2 ^ 40) : ∃ H', (∀ K, E.C 227 [.ptr q 0 2, .lst (bytesV t) t.length 1 true] H K ↔ K (.tuple [i64 t.length, .nilIface]) H' (.c H H')) ∧ BldN n H' q (s ++ t) ∧ Same n H H' := by
 obtain ⟨H1, buf, hc, hnq, hb, hbuf, hs1⟩ := copyN hB
 obtain ⟨buf', H', ha, hbuf', hq', hs2⟩ := appendN hbuf hnq (lt_of_at hb) t hl
 have hb' : H'[q]? = some (.cells [.ptr q 0 2, buf] 2 2 0) := by rw [hq']; exact hb
 have l1 : loadA H1 1 false (.ptr q 1 2) = some (buf, H1, .r q) := load_at hb (by decide) (by decide) (by simp) (by decide) rfl
 have st := store_buf hb' hbuf'.one
 have ha' := append_lst ha
 exact ⟨H'.set q (.cells [.ptr q 0 2, buf'] 2 2 0), fun K => C_in rfl (V227 (by simp (disch := omega) only [go_sem, Int.reduceBEq, Nat.zero_add, l1, hc, ha', st])), ⟨_, buf', .inr rfl, hnq, by simp [lt_of_at hb'], hbuf'.put⟩, (hs1.trans hs2).trans (Same.set hnq)⟩
theorem writeByte {n q : Nat} {H : AHeap} {s : List UInt8} (hB : BldN n H q s) (c : UInt8) (hl : s.length + 1 ≤ 2 ^ 40) : ∃ H', (∀ K, E.C 17 [.ptr q 0 2, .int .u8 c.toNat] H K ↔ K .nilIface H' (.c H H')) ∧ BldN n H' q (s ++ [c]) ∧ Same n H H' := by
 obtain ⟨H1, buf, hc, hnq, hb, hbuf, hs1⟩ := copyN hB
 obtain ⟨buf', H', ha, hbuf', hq', hs2⟩ := appendN hbuf hnq (lt_of_at hb) [c] (by simpa using hl)
 have hb' : H'[q]? = some (.cells [.ptr q 0 2, buf] 2 2 0) := by rw [hq']; exact hb
 have l1 : loadA H1 1 false (.ptr q 1 2) = some (buf, H1, .r q) := load_at hb (by decide) (by decide) (by simp) (by decide) rfl
 have st := store_buf hb' hbuf'.one
 have ha' : appendA H1 1 1 1 buf (.lst [.int .u8 c.toNat] 1 1 true) = _ := append_lst ha
 exact ⟨H'.set q (.cells [.ptr q 0 2, buf'] 2 2 0), fun K => C_in rfl (V17 (by simp (disch := omega) only [go_sem, Int.reduceBEq, Nat.zero_add, l1, hc, ha', st])), ⟨_, buf', .inr rfl, hnq, by simp [lt_of_at hb'], hbuf'.put⟩, (hs1.trans hs2).trans (Same.set hnq)⟩
theorem stringN {n : Nat} {H : AHeap} {q : Nat} {s : List UInt8} (hB : BldN n H q s) (hs : s ≠ []) (hl : s.length ≤ 2 ^ 40) : ∃ H', (∀ K, E.C 16 [.ptr q 0 2] H K ↔ K (.str s) H' (.c H H')) ∧ Same n H H' := by
 obtain ⟨a0, buf, h0, hnq, hb, hf⟩ := hB
 have l1 : loadA H 1 false (.ptr q 1 2) = some (buf, H, .r q) := load_at hb (by decide) (by decide) (by simp) (by decide) rfl
 cases hf with
 | nil => exact absurd rfl hs
 | grown => exact absurd rfl hs
 | @row b _ wv hq hn hbb hw _ =>
  have hpos : 0 < s.length := List.length_pos_iff.2 hs
  have sd : builtinA H .sliceData [.sl b 0 s.length 1 s.length none] = some (.ptr b 0 s.length, H, .p) := by simp [builtinA, hpos, pureV]
  have ss : builtinA H .string [.ptr b 0 s.length, .int .i64 s.length] = some (.str s, H.set b (.cells (bytesV s) 1 wv 1), .l) := by
   have h3 : (bytesV s).take s.length = bytesV s := List.take_of_length_le (by rw [bytesV_len]; omega)
   simp only [builtinA]
   rw [if_neg (by omega), if_pos (by omega)]
   simp [hbb, hw, bytesV_len, h3, bytesOf]
  have hd : drawOk (drawn F16 0) [.p, .p, .p, .r q, .p, .p, .p, .p, .r q, .p, .l, .p] = true := by kernel_rfl
  exact ⟨H.set b (.cells (bytesV s) 1 wv 1), fun K => C_in rfl (V16 (by simp (disch := omega) only [go_sem, Int.reduceBEq, Nat.zero_add, l1, sd, ss, hd])), Same.set hn⟩
theorem stringNil {H : AHeap} {q : Nat} {a0 : AV} (hb : H[q]? = some (.cells [a0, .nilsl] 2 2 0)) : ∀ K, E.C 16 [.ptr q 0 2] H K ↔ K (.str []) H (.c H H) := by
 have l1 : loadA H 1 false (.ptr q 1 2) = some (.nilsl, H, .r q) := load_at hb (by decide) (by decide) (by simp) (by decide) rfl
 have e1 : builtinA H .sliceData [.nilsl] = some (.nilptr, H, .p) := rfl
 have e3 : builtinA H .string [.nilptr, .int .i64 0] = some (.str [], H, .l) := rfl
 have hd : drawOk (drawn F16 0) [.p, .p, .p, .r q, .p, .p, .p, .p, .r q, .p, .l, .p] = true := by kernel_rfl
 exact fun K => C_in rfl (V16 (by simp (disch := omega) only [go_sem, Int.reduceBEq, Nat.zero_add, l1, e1, e3, hd]))
def hexU : List UInt8 := [48, 49, 50, 51, 52, 53, 54, 55, 56, 57, 65, 66, 67, 68, 69, 70]
def encOne (s : Int) (b : UInt8) : List UInt8 := if inB s b then [37, hexU.getD (b.toNat / 16) 0, hexU.getD (b.toNat % 16) 0] else [b]
def encB (s : Int) (t : List UInt8) : List UInt8 := t.flatMap (encOne s)
def sameV : Option AV → AV → Bool
 | some (.int k n), .int k' n' => decide (k = k') && decide (n = n')
 | _, _ => false
theorem sameV_eq {o : Option AV} {v : AV} (h : sameV o v = true) : o = some v := by
 unfold sameV at h
 split at h
 ·simp at h; obtain ⟨rfl, rfl⟩ := h; rfl
 ·simp at h
theorem shr4 (c : UInt8) : binA .shr (.int .u8 c.toNat) (.int .u64 4) = some (.int .u8 ((c.toNat / 16 : Nat) : Int)) :=
 sameV_eq (byte_all (p := fun c => sameV (binA .shr (.int .u8 c.toNat) (.int .u64 4)) (.int .u8 ((c.toNat / 16 : Nat) : Int))) (by decide +kernel) c)
theorem and15 (c : UInt8) : binA .and (.int .u8 c.toNat) (.int .u8 15) = some (.int .u8 ((c.toNat % 16 : Nat) : Int)) :=
 sameV_eq (byte_all (p := fun c => sameV (binA .and (.int .u8 c.toNat) (.int .u8 15)) (.int .u8 ((c.toNat % 16 : Nat) : Int))) (by decide +kernel) c)
theorem encOne_len (s : Int) (b : UInt8) : (encOne s b).length ≤ 3 ∧ encOne s b ≠ [] := by unfold encOne; split <;> simp
theorem encode_loop (t : List UInt8) (s : Int) (ht : t.length ≤ 2 ^ 38) {K0 : AHeap → Prop} : ∀ (k i : Nat) (H : AHeap) (o : List UInt8), i + k = t.length → BldN 0 H 0 o → o.length + 3 * k ≤ 2 ^ 40 → (∀ H', BldN 0 H' 0 (o ++ encB s (t.drop i)) → K0 H') → L80_0 (.str t) (.int .u8 s) (.ptr 0 0 2) (i64 t.length) (i64 i) H K0
  | 0, i, H, o, hi, hB, hl, h => S80_0 fun _ => by
    simp (disch := omega) only [go_sem, Int.reduceBEq]
    rw [if_neg (by omega)]
    refine h H ?_
    rw [List.drop_eq_nil_of_le (by omega)]
    simpa [encB] using hB
  | k + 1, i, H, o, hi, hB, hl, h => S80_0 fun _ => by
    have hil : i < t.length := by omega
    have hd : ∀ H H', drawOk (drawn F80 0) [.p, .p, .p, .p, .p, .p, .p, .c H H'] = true := fun H H' => by kernel_rfl
    rw [List.drop_eq_getElem_cons hil] at h
    simp (disch := omega) only [go_sem, Int.reduceBEq, in_c, if_pos hil]
    split
    · rename_i e
      have h16 : t[i].toNat < 256 := t[i].toNat_lt
      have hx : ∀ (j : Nat) (H : AHeap), j < 16 → fIdxStr (.str [48, 49, 50, 51, 52, 53, 54, 55, 56, 57, 65, 66, 67, 68, 69, 70]) (.int .u8 (j : Int)) H = some (.int .u8 (hexU.getD j 0).toNat, H, .p) := fun j H hj => by
        have := idx_str (s := hexU) (k := .u8) (i := j) (H := H) hj
        rw [List.getD_eq_getElem?_getD, List.getElem?_eq_getElem hj, Option.getD_some]
        exact this
      obtain ⟨H', hc, hB', _⟩ := writeLst hB [37, hexU.getD (t[i].toNat / 16) 0, hexU.getD (t[i].toNat % 16) 0] (by simp; omega)
      simp only [bytesV, List.map_cons, List.map_nil, UInt8.reduceToNat, Int.cast_ofNat_Int, List.length_cons, List.length_nil, Nat.reduceAdd] at hc
      simp (disch := omega) only [go_sem, Int.reduceBEq, shr4, and15, hx, hc, hd]
      refine encode_loop t s ht k (i + 1) H' _ (by omega) hB' (by simp; omega) fun H2 h2 => h H2 ?_
      simp only [encB, List.flatMap_cons, encOne, e, if_true] at h2 ⊢
      simpa using h2
    · rename_i e
      obtain ⟨H', hc, hB', _⟩ := writeByte hB t[i] (by omega)
      simp (disch := omega) only [go_sem, Int.reduceBEq, hc]
      refine encode_loop t s ht k (i + 1) H' _ (by omega) hB' (by simp; omega) fun H2 h2 => h H2 ?_
      simp only [encB, List.flatMap_cons, encOne, e, if_false] at h2 ⊢
      simpa using h2
theorem encB_len (s : Int) (t : List UInt8) : (encB s t).length ≤ 3 * t.length := by
 induction t with
 | nil => simp [encB]
 | cons a t ih =>
  have := (encOne_len s a).1
  simp only [encB, List.flatMap_cons, List.length_append, List.length_cons] at ih ⊢
  omega
theorem encode_c (t : List UInt8) (s : Int) (hs : 1 ≤ s ∧ s ≤ 8) (ht : t.length ≤ 2 ^ 38) (H : AHeap) (K : AV → AHeap → Kd → Prop) : E.C 80 [.str t, .int .u8 s] H K ↔ K (.tuple [.str (encB s t), i64 0]) H .p := by
 refine C_by (V80 (K := fun v' _ => v' = .tuple [.str (encB s t), i64 0]) ?_) rfl (by kernel_rfl) (fun _ => rfl)
 have e1 : (s == 0) = false := by simp; omega
 have e2 : decide (9 ≤ s) = false := by simp; omega
 have a1 : fAlloc [.nilptr, .nilsl] 2 [] = some (.ptr 0 0 2, [.cells [.nilptr, .nilsl] 2 2 0], .a 0) := rfl
 simp (disch := omega) only [go_sem, Int.reduceBEq, e1, e2, a1]
 by_cases h0 : t = []
 ·subst h0
  refine S80_0 fun _ => ?_
  have hc := stringNil (H := [.cells [.nilptr, .nilsl] 2 2 0]) (q := 0) (a0 := .nilptr) rfl
  simp (disch := omega) only [go_sem, Int.reduceBEq, hc]
  rfl
 ·refine encode_loop t s ht t.length 0 _ [] (by omega) ⟨_, _, .inl rfl, Nat.le_refl _, rfl, .nil⟩ (by simp; omega) fun H' hB => ?_
  have := encB_len s t
  rw [List.nil_append, List.drop_zero] at hB
  have hne : encB s t ≠ [] := by
   cases t with
   | nil => exact absurd rfl h0
   | cons c t => simp only [encB, List.flatMap_cons]; exact fun h => (encOne_len s c).2 (List.append_eq_nil_iff.1 h).1
  obtain ⟨H2, hc, _⟩ := stringN hB hne (by omega)
  simp (disch := omega) only [go_sem, Int.reduceBEq, hc]
end Go.AE.Fns
namespace Go.AE.Fns
open Go Go.AE Env
set_option maxRecDepth 100000
theorem get_ba {s : List UInt8} {i : Nat} (h : i < s.length) : (ByteArray.get! ⟨s.toArray⟩ i) = s[i] := by
 simp [ByteArray.get!, h]
theorem dec_lt {s : List UInt8} {p : Nat} (h : p < s.length) (hb : s[p].toNat < 128) : utf8Dec s p = (s[p].toNat, 1) := by
 unfold utf8Dec Utf8.decode
 simp only [Nat.add_zero, get_ba h]
 rw [if_pos hb]
theorem dec_ge {s : List UInt8} {p : Nat} (h : p < s.length) (hb : 128 ≤ s[p].toNat) : 128 ≤ (utf8Dec s p).1 ∧ p + (utf8Dec s p).2 ≤ s.length ∧ ∀ j (hj : j < s.length), p < j → j < p + (utf8Dec s p).2 → 128 ≤ s[j].toNat := by
 have hc : ∀ k, (decide (p + k < (⟨s.toArray⟩ : ByteArray).size) && (ByteArray.get! ⟨s.toArray⟩ (p + k)).toNat / 64 == 2) = true → ∃ hk : p + k < s.length, 128 ≤ s[p + k].toNat := by
  intro k hk
  simp only [Bool.and_eq_true, decide_eq_true_eq, beq_iff_eq] at hk
  have h1 : p + k < s.length := hk.1
  refine ⟨h1, ?_⟩
  have h2 := hk.2
  rw [get_ba h1] at h2
  omega
 have h0 : ¬ (s[p].toNat < 128) := by omega
 unfold utf8Dec Utf8.decode
 simp only [Nat.add_zero, get_ba h, if_neg h0, Utf8.runeError]
 split
 ·rename_i h1
  simp only [Bool.and_eq_true] at h1
  obtain ⟨k1, b1⟩ := hc 1 (by simpa only [Bool.and_eq_true] using h1.2)
  split
  ·rename_i h2
   refine ⟨h2, by omega, fun j hj q1 q2 => ?_⟩
   obtain rfl : j = p + 1 := by simp at q2; omega
   exact b1
  ·refine ⟨by simp, by simp; omega, fun j hj q1 q2 => by simp at q2; omega⟩
 ·split
  ·rename_i h1
   simp only [Bool.and_eq_true] at h1
   obtain ⟨k1, b1⟩ := hc 1 (by simpa only [Bool.and_eq_true] using h1.1.2)
   obtain ⟨k2, b2⟩ := hc 2 (by simpa only [Bool.and_eq_true] using h1.2)
   split
   ·rename_i h2
    simp only [Bool.and_eq_true, decide_eq_true_eq] at h2
    refine ⟨by omega, by omega, fun j hj q1 q2 => ?_⟩
    have : j = p + 1 ∨ j = p + 2 := by simp at q2; omega
    rcases this with rfl | rfl
    ·exact b1
    ·exact b2
   ·refine ⟨by simp, by simp; omega, fun j hj q1 q2 => by simp at q2; omega⟩
  ·split
   ·rename_i h1
    simp only [Bool.and_eq_true] at h1
    obtain ⟨k1, b1⟩ := hc 1 (by simpa only [Bool.and_eq_true] using h1.1.1.2)
    obtain ⟨k2, b2⟩ := hc 2 (by simpa only [Bool.and_eq_true] using h1.1.2)
    obtain ⟨k3, b3⟩ := hc 3 (by simpa only [Bool.and_eq_true] using h1.2)
    split
    ·rename_i h2
     simp only [Bool.and_eq_true, decide_eq_true_eq] at h2
     refine ⟨by omega, by omega, fun j hj q1 q2 => ?_⟩
     have : j = p + 1 ∨ j = p + 2 ∨ j = p + 3 := by simp at q2; omega
     rcases this with rfl | rfl | rfl
     ·exact b1
     ·exact b2
     ·exact b3
    ·refine ⟨by simp, by simp; omega, fun j hj q1 q2 => by simp at q2; omega⟩
   ·refine ⟨by simp, by simp; omega, fun j hj q1 q2 => by simp at q2; omega⟩
theorem any_skip {s : List UInt8} {q : UInt8 → Bool} (w : Nat) : ∀ p, p + w ≤ s.length → (∀ j (hj : j < s.length), p ≤ j → j < p + w → q s[j] = false) → (s.drop p).any q = (s.drop (p + w)).any q := by
 induction w with
 | zero => intro p _ _; rfl
 | succ w ih =>
  intro p hp h
  have hpl : p < s.length := by omega
  rw [List.drop_eq_getElem_cons hpl, List.any_cons, h p hpl (by omega) (by omega), Bool.false_or, ih (p + 1) (by omega) (fun j hj h1 h2 => h j hj (by omega) (by omega))]
  congr 2
  omega
theorem any_dec {s : List UInt8} {q : UInt8 → Bool} (hq : ∀ b : UInt8, 128 ≤ b.toNat → q b = false) {p : Nat} (hp : p < s.length) :
    (s.drop p).any q = ((decide ((utf8Dec s p).1 < 128) && q (UInt8.ofNat (utf8Dec s p).1)) || (s.drop (p + (utf8Dec s p).2)).any q) := by
  by_cases hb : s[p].toNat < 128
  · rw [dec_lt hp hb, List.drop_eq_getElem_cons hp, List.any_cons]
    simp [hb]
  · obtain ⟨h1, h2, h3⟩ := dec_ge hp (by omega)
    have hd : decide ((utf8Dec s p).1 < 128) = false := by simp; omega
    rw [hd, Bool.false_and, Bool.false_or]
    refine any_skip _ p h2 fun j hj h4 h5 => ?_
    by_cases e : j = p
    · subst e; exact hq _ (by omega)
    · exact hq _ (h3 j hj (by omega) h5)
theorem nextE {s : List UInt8} {b p : Nat} {H : AHeap} (hb : H[b]? = some (.iter s p)) : fNextStr (.ptr b 0 0) H = if p < s.length then some (.tuple [.bool true, i64 p, .int .i32 (utf8Dec s p).1], H.set b (.iter s (p + (utf8Dec s p).2)), .l) else some (.tuple [.bool false], H, .l) := by
 by_cases h : p < s.length
 ·rw [if_pos h, next_str hb h]
 ·rw [if_neg h, next_end hb h]
def ctlD (b : UInt8) : Bool := decide ((b.toNat : Int) < 32) || ((b.toNat : Int) == 37) || ((b.toNat : Int) == 127)
theorem forbHigh (b : UInt8) (h : 128 ≤ b.toNat) : forb.contains b = false := by
 rw [← Bool.not_eq_true]
 intro hc
 have := List.all_eq_true.1 forb_ascii b (by simpa using hc)
 simp at this
 omega
theorem idxB_nonneg (c : UInt8) (s : List UInt8) : decide (idxB c s ≥ 0) = s.contains c := by
 unfold idxB
 cases h : s.findIdx? (· == c) with
 | none =>
  have := List.findIdx?_eq_none_iff.1 h
  have : s.contains c = false := by
   rw [← Bool.not_eq_true]
   intro hc
   have h2 := this c (by simpa using hc)
   simp at h2
  rw [this]; simp
 | some i =>
  obtain ⟨h1, h2, _⟩ := List.findIdx?_eq_some_iff_getElem.1 h
  have : s.contains c = true := by
   have h3 : s[i] = c := by simpa using h2
   rw [← h3]; simp
  rw [this]; simp
theorem indexRune_c (r : Nat) (hr : r ≤ 1114111) : ∃ n : Int, decide (0 ≤ n) = (decide (r < 128) && forb.contains (UInt8.ofNat r)) ∧ ∀ (H : AHeap) (K : AV → AHeap → Kd → Prop), E.C 191 [.str forb, .int .i32 r] H K ↔ K (i64 n) H .p := by
 by_cases h : r < 128
 ·refine ⟨idxB (UInt8.ofNat r) forb, ?_, fun H K => ?_⟩
  ·rw [decide_eq_true h, Bool.true_and]; exact idxB_nonneg _ _
  ·have := indexRune_ascii (r : Int) (by omega) (by omega) forb []
   rw [Int.toNat_natCast] at this
   exact C_val this rfl (by kernel_rfl) rfl
 ·obtain ⟨v, H', rfl, hh⟩ := indexRune_high (r : Int) (by omega) (by omega)
  refine ⟨-1, ?_, fun H K => C_val hh rfl (by kernel_rfl) rfl⟩
  rw [decide_eq_false h]; rfl
theorem contains_exact (c : UInt8) : E.Ans 228 [.ptr 0 0 256, .int .u8 c.toNat] [.cells asc 0 256 0] (.bool (forb.contains c)) [.cells asc 0 256 0] := by
 have hc : c.toNat < 256 := c.toNat_lt
 have a1 : ∀ H, fIdxArrAddr 256 1 (.ptr 0 0 256) (.int .u8 c.toNat) H = some (.ptr 0 c.toNat 256, H, .p) := fun H => by
  have : (c.toNat : Int) < 256 := by omega
  simp [fIdxArrAddr, asI, this, addA, pureV]
 have l1 : loadA [.cells asc 0 256 0] 1 false (.ptr 0 c.toNat 256) = some (.bool (forb.contains c), [.cells asc 0 256 0], .r 0) := load_at (H := [.cells asc 0 256 0]) (b := 0) rfl (by omega) (by omega) (by rw [asc_len]; omega) (by omega) (by
  simp only [asc, List.getElem?_map, List.getElem?_range hc, Option.map_some, UInt8.ofNat_toNat])
 obtain ⟨v, H', ⟨rfl, rfl⟩, h⟩ := V228 (a0 := .ptr 0 0 256) (a1 := .int .u8 c.toNat) (H := [.cells asc 0 256 0]) (K := fun v H' => v = .bool (forb.contains c) ∧ H' = [.cells asc 0 256 0]) (by simp (disch := omega) only [go_sem, Int.reduceBEq, a1, l1])
 exact h
theorem any1 (s : List UInt8) (hs : s.length ≤ 2 ^ 60) {K0 : AHeap → Prop} {Kr : AV → AHeap → Prop} : ∀ (k i : Nat), i + k = s.length → (∀ n : Nat, (s.drop i).any forb.contains = true → Kr (i64 n) [.cells asc 0 256 0]) → ((s.drop i).any forb.contains = false → K0 [.cells asc 0 256 0]) → L188_0 (.str s) (.ptr 0 0 256) (i64 i) [.cells asc 0 256 0] K0 Kr
  | 0, i, hi, hr, hx => S188_0 fun _ => by
    simp (disch := omega) only [go_sem, Int.reduceBEq]
    rw [if_neg (by omega)]
    exact hx (by rw [List.drop_eq_nil_of_le (by omega)]; rfl)
  | k + 1, i, hi, hr, hx => S188_0 fun _ => by
    have hil : i < s.length := by omega
    have hc := fun K => C_shared (K := K) (by rfl) (contains_exact s[i])
    rw [List.drop_eq_getElem_cons hil, List.any_cons] at hr hx
    simp (disch := omega) only [go_sem, Int.reduceBEq, hc, if_pos hil]
    split
    · rename_i e
      exact hr i (by rw [e]; rfl)
    · rename_i e
      have e2 : forb.contains s[i] = false := by simpa using e
      rw [e2, Bool.false_or] at hr hx
      exact any1 s hs k (i + 1) (by omega) hr hx
theorem any2 (s : List UInt8) {K2 : AHeap → Prop} {Kr : AV → AHeap → Prop} : ∀ (k p : Nat), s.length ≤ p + k → (∀ (n : Nat) H, (s.drop p).any forb.contains = true → Kr (i64 n) H) → ((s.drop p).any forb.contains = false → ∀ H, K2 H) → L188_1 (.str forb) (.ptr 0 0 0) [.iter s p] K2 Kr
  | 0, p, hk, hr, hx => S188_1 fun _ => by
    rw [nextE rfl, if_neg (by omega)]
    simp (disch := omega) only [go_sem, Int.reduceBEq]
    exact hx (by rw [List.drop_eq_nil_of_le (by omega)]; rfl) _
  | k + 1, p, hk, hr, hx => S188_1 fun _ => by
    rw [nextE rfl]
    by_cases hp : p < s.length
    · rw [if_pos hp]
      obtain ⟨n, hn, hc⟩ := indexRune_c (utf8Dec s p).1 (dec_max s p)
      have hd := any_dec forbHigh hp
      have hpos := dec_pos s p
      rw [hd] at hr hx
      simp (disch := omega) only [go_sem, Int.reduceBEq, hc]
      split
      · rename_i e
        have : decide (0 ≤ n) = true := by simpa using e
        rw [hn] at this
        exact hr p _ (by rw [this]; rfl)
      · rename_i e
        have : decide (0 ≤ n) = false := by simpa using e
        rw [hn] at this
        rw [this, Bool.false_or] at hr hx
        exact any2 s k _ (by omega) hr hx
    · rw [if_neg hp]
      simp (disch := omega) only [go_sem, Int.reduceBEq]
      exact hx (by rw [List.drop_eq_nil_of_le (by omega)]; rfl) _
theorem indexAny_c (s : List UInt8) (hs : s.length < 2 ^ 60) : ∃ n : Int, decide (0 ≤ n) = s.any forb.contains ∧ ∀ (H : AHeap) (K : AV → AHeap → Kd → Prop), E.C 188 [.str s, .str forb] H K ↔ K (i64 n) H .p := by
 have e1 : (forb == []) = false := rfl
 have e2 : ((forb.length : Int) == 1) = false := rfl
 have hc := should_c s.length
 have hm := makeSet_c
 have fin : ∀ (H : AHeap), (∀ n : Nat, s.any forb.contains = true → ∃ n' : Int, i64 n = i64 n' ∧ decide (0 ≤ n') = s.any forb.contains) ∧ (s.any forb.contains = false → ∃ n' : Int, i64 (-1) = i64 n' ∧ decide (0 ≤ n') = s.any forb.contains) := fun H =>
  ⟨fun n h => ⟨n, rfl, by rw [h]; simp⟩, fun h => ⟨-1, rfl, by rw [h]; rfl⟩⟩
 obtain ⟨v, ⟨n, rfl, hn⟩, h⟩ := C_of (E := E) (f := 188) (args := [.str s, .str forb]) (P := fun v => ∃ n : Int, v = i64 n ∧ decide (0 ≤ n) = s.any forb.contains) (V188 (by
  have ha : ∀ zs, zs.length = 256 → fAlloc zs 0 [] = some (.ptr 0 0 256, [.cells zs 0 256 0], .a 0) := fun zs hz => by simp [fAlloc, hz]
  have hst : ∀ zs : List AV, zs.length = 256 → storeA [.cells zs 0 256 0] 256 (.ptr 0 0 256) (.agg asc) = some (undefA, [.cells asc 0 256 0], .w 0) := fun zs hz => store_all hz asc_len (by omega)
  by_cases c : (8 : Int) < s.length
  ·have c' : decide ((s.length : Int) > 8) = true := by simpa using c
   simp (disch := omega) only [go_sem, Int.reduceBEq, e1, e2, hc, hm, c']
   rw [ha _ rfl]
   simp (disch := omega) only [go_sem, Int.reduceBEq]
   rw [hst _ rfl]
   simp (disch := omega) only [go_sem, Int.reduceBEq]
   refine any1 s (by omega) s.length 0 (by omega) (fun n h => ?_) (fun h => ?_)
   ·exact (fin []).1 n (by simpa using h)
   ·exact (fin []).2 (by simpa using h)
  ·have c' : decide ((s.length : Int) > 8) = false := by simpa using c
   simp (disch := omega) only [go_sem, Int.reduceBEq, e1, e2, hc, hm, c', range_str]
   refine any2 s s.length 0 (by omega) (fun n _ h => ?_) (fun h _ => ?_)
   ·exact (fin []).1 n (by simpa using h)
   ·exact (fin []).2 (by simpa using h))) rfl (by kernel_rfl) (fun v ⟨n, e, _⟩ Hc => by subst e; rfl)
 exact ⟨n, hn, h⟩
theorem containsAny_c (s : List UInt8) (hs : s.length < 2 ^ 60) (H : AHeap) (K : AV → AHeap → Kd → Prop) : E.C 180 [.str s, .str forb] H K ↔ K (.bool (s.any forb.contains)) H .p := by
 refine C_by (V180 (K := fun v' _ => v' = .bool (s.any forb.contains)) ?_) rfl (by kernel_rfl) (fun _ => rfl)
 obtain ⟨n, hn, hc⟩ := indexAny_c s hs
 simp (disch := omega) only [go_sem, Int.reduceBEq, hc, hn]
theorem ctlHigh (b : UInt8) (h : 128 ≤ b.toNat) : ctlD b = false := by
 unfold ctlD
 have h1 : decide ((b.toNat : Int) < 32) = false := by simp; omega
 have h2 : ((b.toNat : Int) == 37) = false := by simp; omega
 have h3 : ((b.toNat : Int) == 127) = false := by simp; omega
 rw [h1, h2, h3]; rfl
theorem ctl_rune (r : Nat) (hr : r ≤ 1114111) : (decide ((r : Int) < 32) || ((r : Int) == 37) || ((r : Int) == 127)) = (decide (r < 128) && ctlD (UInt8.ofNat r)) := by
 by_cases h : r < 128
 ·have e : (UInt8.ofNat r).toNat = r := by simp; omega
  simp only [ctlD, e, decide_eq_true h, Bool.true_and]
 ·have h1 : decide ((r : Int) < 32) = false := by simp; omega
  have h2 : ((r : Int) == 37) = false := by simp; omega
  have h3 : ((r : Int) == 127) = false := by simp; omega
  rw [h1, h2, h3, decide_eq_false h]; rfl
theorem badLoop (s : List UInt8) (d : Bool) {K0 : AHeap → Prop} {Kr : AV → AHeap → Prop} : ∀ (k p : Nat), s.length ≤ p + k → (∀ H, (d && (s.drop p).any ctlD) = true → Kr (.bool true) H) → ((d && (s.drop p).any ctlD) = false → ∀ H, K0 H) → L52_0 (.bool d) (.ptr 0 0 0) [.iter s p] K0 Kr
  | 0, p, hk, hr, hx => S52_0 fun _ => by
    rw [nextE rfl, if_neg (by omega)]
    simp (disch := omega) only [go_sem, Int.reduceBEq]
    exact hx (by rw [List.drop_eq_nil_of_le (by omega)]; simp) _
  | k + 1, p, hk, hr, hx => S52_0 fun _ => by
    rw [nextE rfl]
    by_cases hp : p < s.length
    · rw [if_pos hp]
      have hd := any_dec ctlHigh hp
      have hpos := dec_pos s p
      rw [hd] at hr hx
      cases d
      · simp (disch := omega) only [go_sem, Int.reduceBEq, control_c, ctl_rune _ (dec_max s p)]
        exact badLoop s false k _ (by omega) (fun H h => by simp at h) (fun _ H => hx rfl H)
      · simp only [Bool.true_and] at hr hx
        simp (disch := omega) only [go_sem, Int.reduceBEq, control_c, ctl_rune _ (dec_max s p)]
        split
        · rename_i e
          exact hr _ (by rw [e]; rfl)
        · rename_i e
          have e2 := Bool.not_eq_true _ ▸ e
          rw [e2, Bool.false_or] at hr hx
          exact badLoop s true k _ (by omega) (fun H h => hr H (by simpa using h)) (fun h H => hx (by simpa using h) H)
    · rw [if_neg hp]
      simp (disch := omega) only [go_sem, Int.reduceBEq]
      exact hx (by rw [List.drop_eq_nil_of_le (by omega)]; simp) _
def badB (s : List UInt8) (d : Bool) : Bool := s.any forb.contains || (d && s.any ctlD)
theorem bad_c (s : List UInt8) (d : Bool) (hs : s.length < 2 ^ 60) (H : AHeap) (K : AV → AHeap → Kd → Prop) : E.C 52 [.str s, .bool d] H K ↔ K (.bool (badB s d)) H .p := by
 refine C_by (V52 (K := fun v' _ => v' = .bool (badB s d)) ?_) rfl (by kernel_rfl) (fun _ => rfl)
 have hc := containsAny_c s hs
 have hf : forb = [0, 9, 10, 13, 32, 35, 47, 58, 60, 62, 63, 64, 91, 92, 93, 94, 124] := rfl
 unfold badB
 cases e : s.any forb.contains
 ·rw [e, hf] at hc
  simp (disch := omega) only [go_sem, Int.reduceBEq, hc, range_str]
  refine badLoop s d s.length 0 (by omega) (fun H h => ?_) (fun h H => ?_)
  ·rw [List.drop_zero] at h; rw [h]
  ·rw [List.drop_zero] at h; rw [h]
 ·rw [e, hf] at hc
  simp (disch := omega) only [go_sem, Int.reduceBEq, hc]
def bigB (b : UInt8) : Bool := decide (127 < b.toNat) || (decide (65 ≤ b.toNat) && decide (b.toNat ≤ 90))
theorem great_big (r : Nat) (h : r < 128) : greatB r = bigB (UInt8.ofNat r) := by
 have e : (UInt8.ofNat r).toNat = r := by simp; omega
 have h1 : decide ((r : Int) > 127) = decide (127 < r) := by simp only [gt_iff_lt, decide_eq_decide]; omega
 have h2 : decide ((r : Int) ≥ 65) = decide (65 ≤ r) := by simp only [ge_iff_le, decide_eq_decide]; omega
 have h3 : decide ((r : Int) ≤ 90) = decide (r ≤ 90) := by simp only [decide_eq_decide]; omega
 simp only [greatB, bigB, e, h1, h2, h3]
theorem greatLoop (s : List UInt8) {K0 : AHeap → Prop} {Kr : AV → AHeap → Prop} : ∀ (k p : Nat) (X : AHeap), s.length ≤ p + k → (∀ (n : Nat) H, (s.drop p).any bigB = true → Kr (i64 n) H) → ((s.drop p).any bigB = false → ∀ H, K0 H) → L202_0 (.func 49 [] []) (.bool true) (.ptr 0 0 0) (.iter s p :: X) K0 Kr
  | 0, p, X, hk, hr, hx => S202_0 fun _ => by
    rw [nextE rfl, if_neg (by omega)]
    simp (disch := omega) only [go_sem, Int.reduceBEq]
    exact hx (by rw [List.drop_eq_nil_of_le (by omega)]; rfl) _
  | k + 1, p, X, hk, hr, hx => S202_0 fun _ => by
    rw [nextE rfl]
    by_cases hp : p < s.length
    · rw [if_pos hp]
      have hpos := dec_pos s p
      by_cases hb : s[p].toNat < 128
      · have hd := dec_lt hp hb
        rw [List.drop_eq_getElem_cons hp, List.any_cons] at hr hx
        have hg := great_big s[p].toNat hb
        rw [UInt8.ofNat_toNat] at hg
        cases e : bigB s[p]
        · simp only [e, Bool.false_or] at hr hx
          simp (disch := omega) only [go_sem, Int.reduceBEq, great_c, hd, hg, e]
          exact greatLoop s k (p + 1) _ (by omega) hr hx
        · simp (disch := omega) only [go_sem, Int.reduceBEq, great_c, hd, hg, e]
          exact hr p _ (by rw [e]; rfl)
      · have hg : greatB (utf8Dec s p).1 = true := by
          have := (dec_ge hp (by omega)).1
          unfold greatB
          rw [decide_eq_true (by omega)]; rfl
        simp (disch := omega) only [go_sem, Int.reduceBEq, great_c, hg]
        refine hr p _ ?_
        rw [List.drop_eq_getElem_cons hp, List.any_cons, show bigB s[p] = true by unfold bigB; rw [decide_eq_true (by omega)]; rfl]
        rfl
    · rw [if_neg hp]
      simp (disch := omega) only [go_sem, Int.reduceBEq]
      exact hx (by rw [List.drop_eq_nil_of_le (by omega)]; rfl) _
theorem indexFunc0_c (s : List UInt8) : ∃ n : Int, decide (n < 0) = !s.any bigB ∧ ∀ (H : AHeap) (K : AV → AHeap → Kd → Prop), E.C 202 [.str s, .func 49 [] [], .bool true] H K ↔ K (i64 n) H .p := by
 obtain ⟨v, ⟨n, rfl, hn⟩, h⟩ := C_of (E := E) (f := 202) (args := [.str s, .func 49 [] [], .bool true]) (P := fun v => ∃ n : Int, v = i64 n ∧ decide (n < 0) = !s.any bigB) (V202 (by
  simp (disch := omega) only [go_sem, Int.reduceBEq, range_str]
  refine greatLoop s s.length 0 [] (by omega) (fun n _ h => ?_) (fun h _ => ?_)
  ·rw [List.drop_zero] at h
   exact ⟨n, rfl, by rw [h]; simp⟩
  ·rw [List.drop_zero] at h
   exact ⟨-1, rfl, by rw [h]; rfl⟩)) rfl (by kernel_rfl) (fun v ⟨n, e, _⟩ Hc => by subst e; rfl)
 exact ⟨n, hn, h⟩
theorem indexFunc_c (s : List UInt8) : ∃ n : Int, decide (n < 0) = !s.any bigB ∧ ∀ (H : AHeap) (K : AV → AHeap → Kd → Prop), E.C 190 [.str s, .func 49 [] []] H K ↔ K (i64 n) H .p := by
 obtain ⟨n, hn, h⟩ := indexFunc0_c s
 exact ⟨n, hn, fun H K => C_by (V190 (K := fun v' _ => v' = i64 n) (by simp (disch := omega) only [go_sem, Int.reduceBEq, h])) rfl (by kernel_rfl) fun _ => rfl⟩
end Go.AE.Fns
namespace Go.AE.Fns
open Go Go.AE Env
set_option maxRecDepth 100000
def dvN (c : UInt8) : Option Nat := if 48 ≤ c.toNat ∧ c.toNat ≤ 57 then some (c.toNat - 48) else if 97 ≤ (c ||| 32).toNat ∧ (c ||| 32).toNat ≤ 122 then some ((c ||| 32).toNat - 87) else none
def puL (b mx : Nat) : List UInt8 → Nat → Nat × Nat
 | [], n => (n, 0)
 | c :: l, n => match dvN c with
  | none => (0, 2)
  | some d => if b ≤ d then (0, 2) else if mx < n * b + d then (mx, 1) else puL b mx l (n * b + d)
theorem load_sl {cs : List AV} {g wv st n i : Nat} {x : AV} {H : AHeap} {b : Nat} (hb : H[b]? = some (.cells cs g wv st)) (h1 : st < 2) (h2 : wv ≤ n) (h3 : n ≤ cs.length) (h4 : i < n) (hx : cs[i]? = some x) : loadA H 1 false (.ptr b i n) = some (x, H, .r b) := load_at hb h1 h2 h3 (by omega) hx
theorem puLoop (s : List UInt8) (hs : s.length < 2 ^ 60) (b mx cut : Nat) (hb : 2 ≤ b ∧ b ≤ 36) (hm : mx < 2 ^ 64) (hc : (cut : Nat) = (2 ^ 64 - 1) / b + 1) {K3 : AV → AV → AHeap → Prop} {Kr : AV → AV → AHeap → Prop} : ∀ (k i n : Nat), i + k = s.length → n ≤ mx →
    ((puL b mx (s.drop i) n).2 = 0 → K3 (.bool false) (.int .u64 (puL b mx (s.drop i) n).1) [.cells (bytesV s) 1 s.length 0]) → ((puL b mx (s.drop i) n).2 ≠ 0 → Kr (.int .u64 (puL b mx (s.drop i) n).1) (.iface 6 (i64 (puL b mx (s.drop i) n).2)) [.cells (bytesV s) 1 s.length 0]) →
    L245_0 (i64 b) (.bool false) (.str s) (.int .u64 cut) (.int .u64 mx) (.bool false) (.int .u64 n) (.sl 0 0 s.length 1 s.length none) (i64 s.length) (i64 i) [.cells (bytesV s) 1 s.length 0] K3 Kr
  | 0, i, n, hi, hn, hx, hr => S245_0 fun _ => by
    simp (disch := omega) only [go_sem, Int.reduceBEq]
    rw [if_neg (by omega)]
    rw [List.drop_eq_nil_of_le (by omega)] at hx
    exact hx rfl
  | k + 1, i, n, hi, hn, hx, hr => S245_0 fun _ => by
    have hil : i < s.length := by omega
    have a1 : idxAddrA 1 (.sl 0 0 s.length 1 s.length none) (.int .i64 (i : Nat)) = some (.ptr 0 (0 + i) s.length) := idxA_sl hil
    rw [Nat.zero_add] at a1
    have l1 : loadA [.cells (bytesV s) 1 s.length 0] 1 false (.ptr 0 i s.length) = some (.int .u8 s[i].toNat, [.cells (bytesV s) 1 s.length 0], .r 0) := load_sl rfl (by omega) (by omega) (by rw [bytesV_len]; omega) hil (by simp [bytesV, hil])
    rw [List.drop_eq_getElem_cons hil] at hx hr
    have next : ∀ (d : Nat), dvN s[i] = some d → d < 256 → (J2 (fun x303 x304 H => (Nat → AV) →
 Res (convA H (.int .u8) (i64 b)) fun x306 H _ =>
 Opn (binA .geq x304 x306) fun x307 =>
 Pick x307 (Kr (.int .u64 0) (.iface 6 (.int .i64 2)) H)
 (Opn (binA .geq (.int .u64 n) (.int .u64 cut)) fun x308 =>
 Pick x308 (Kr (.int .u64 mx) (.iface 6 (.int .i64 1)) H)
 (Res (convA H (.int .u64) (i64 b)) fun x309 H _ =>
 Opn (binA .mul (.int .u64 n) x309) fun x310 =>
 Res (convA H (.int .u64) x304) fun x311 H _ =>
 Opn (binA .add x310 x311) fun x312 =>
 Opn (binA .lss x312 x310) fun x313 =>
 J1 (fun x314 H => (Nat → AV) → Two x313 (.bool true) x314 fun x316 =>
 Pick x316 (Kr (.int .u64 mx) (.iface 6 (.int .i64 1)) H)
 (Opn (binA .add (i64 i) (.int .i64 1)) fun x317 =>
 L245_0 (i64 b) (.bool false) (.str s) (.int .u64 cut) (.int .u64 mx) x303 x312 (.sl 0 0 s.length 1 s.length none) (i64 s.length) x317 H K3 Kr)) fun j318 => Gd x313 false (Opn (binA .gtr x312 (.int .u64 mx)) fun x319 =>
 j318 x319 H) (j318 undefA H)))) fun j => j (.bool false) (.int .u8 d) [.cells (bytesV s) 1 s.length 0]) := by
      intro d hd hd2
      simp only [puL, hd] at hx hr
      have hb8 : IntKind.u8.wrap (b : Int) = b := wrapu8 (by omega)
      have hb64 : IntKind.u64.wrap (b : Int) = b := wrapu64 (by omega)
      have hd64 : IntKind.u64.wrap (d : Int) = d := wrapu64 (by omega)
      simp (disch := omega) only [go_sem, Int.reduceBEq, hb8, hb64, hd64]
      by_cases c1 : b ≤ d
      · rw [if_pos c1] at hr ⊢
        exact hr (by simp)
      · rw [if_neg c1] at hx hr ⊢
        by_cases c2 : cut ≤ n
        · rw [if_pos c2]
          have : mx < n * b + d := by
            have h1 : (2 ^ 64 - 1) / b + 1 ≤ n := by omega
            have h2 : 2 ^ 64 - 1 < n * b := by
              have := Nat.lt_mul_div_succ (2 ^ 64 - 1) (show 0 < b by omega)
              calc 2 ^ 64 - 1 < b * ((2 ^ 64 - 1) / b + 1) := this
                _ ≤ b * n := Nat.mul_le_mul_left _ h1
                _ = n * b := Nat.mul_comm _ _
            omega
          rw [if_pos this] at hr
          exact hr (by simp)
        · rw [if_neg c2]
          have hnb : n * b ≤ 2 ^ 64 - 1 := by
            have h1 : n ≤ (2 ^ 64 - 1) / b := by omega
            calc n * b ≤ (2 ^ 64 - 1) / b * b := Nat.mul_le_mul_right _ h1
              _ ≤ 2 ^ 64 - 1 := Nat.div_mul_le_self _ _
          have w1 : IntKind.u64.wrap ((n : Int) * b) = ((n * b : Nat) : Int) := by rw [← Int.natCast_mul]; exact wrapu64 (by omega)
          rw [w1]
          by_cases c3 : n * b + d < 2 ^ 64
          · have w2 : IntKind.u64.wrap (((n * b : Nat) : Int) + d) = ((n * b + d : Nat) : Int) := by rw [← Int.natCast_add]; exact wrapu64 (by omega)
            rw [w2]
            simp (disch := omega) only [go_sem, Int.reduceBEq]
            by_cases c4 : mx < n * b + d
            · rw [if_pos c4] at hr
              rw [if_pos (by right; exact c4)]
              exact hr (by simp)
            · rw [if_neg c4] at hx hr
              rw [if_neg (by omega)]
              exact puLoop s hs b mx cut hb hm hc k (i + 1) (n * b + d) (by omega) (by omega) hx hr
          · have w2 : IntKind.u64.wrap (((n * b : Nat) : Int) + d) = ((n * b + d - 2 ^ 64 : Nat) : Int) := by
              show (if (false && decide ((((n * b : Nat) : Int) + d) % (2 ^ 64 : Int) ≥ (2 ^ 63 : Int))) = true then (((n * b : Nat) : Int) + d) % (2 ^ 64 : Int) - (2 ^ 64 : Int) else (((n * b : Nat) : Int) + d) % (2 ^ 64 : Int)) = _
              simp only [Bool.false_and, Bool.false_eq_true, if_false]
              omega
            rw [w2]
            simp (disch := omega) only [go_sem, Int.reduceBEq]
            rw [if_pos (by omega)] at hr
            rw [if_pos (by left; omega)]
            exact hr (by simp)
    have lw := lower_c s[i]
    have hlt := s[i].toNat_lt
    have hlt2 := (s[i] ||| 32).toNat_lt
    have d1 : decide ((i : Int) < (s.length : Int)) = true := by simpa using hil
    have e1 : (((s[i].toNat : Int) == 95) && false) = false := by cases ((s[i].toNat : Int) == 95) <;> rfl
    simp only [bin_lss, Opn_some, d1, Pick_true, a1, l1, Res_some]
    refine J2_gen fun F hF => ?_
    have e95 : ∀ b : Bool, (b && false) = false := fun b => by cases b <;> rfl
    simp (disch := omega) only [go_sem, Int.reduceBEq, lw, e95]
    by_cases c1 : 48 ≤ s[i].toNat ∧ s[i].toNat ≤ 57
    · rw [if_pos (by omega)]
      have w1 : ((s[i].toNat : Int) - 48) = ((s[i].toNat - 48 : Nat) : Int) := by omega
      rw [w1]
      exact hF _ _ _ (next (s[i].toNat - 48) (by simp only [dvN]; rw [if_pos c1]) (by omega))
    · rw [if_neg (by omega)]
      by_cases c2 : 97 ≤ (s[i] ||| 32).toNat ∧ (s[i] ||| 32).toNat ≤ 122
      · rw [if_pos (by omega)]
        have w1 : (((s[i] ||| 32).toNat : Int) - 97 + 10) = (((s[i] ||| 32).toNat - 87 : Nat) : Int) := by omega
        rw [w1]
        exact hF _ _ _ (next ((s[i] ||| 32).toNat - 87) (by simp only [dvN]; rw [if_neg c1, if_pos c2]) (by omega))
      · rw [if_neg (by omega)]
        have hd : dvN s[i] = none := by simp only [dvN]; rw [if_neg c1, if_neg c2]
        simp only [puL, hd] at hr
        exact hr (by simp)
def puB (b bits : Nat) (s : List UInt8) : Nat × Nat := if s = [] then (0, 2) else puL b (2 ^ bits - 1) s 0
theorem toBytes_eq {s : List UInt8} {H : AHeap} : convA H (.toBytes 1) (.str s) = some (.sl H.length 0 s.length 1 s.length none, H ++ [.cells (bytesV s) 1 s.length 0], .a H.length) := Eq.trans rfl rfl
theorem parse0_c (s : List UInt8) (b bits : Nat) (hb : b = 8 ∨ b = 10 ∨ b = 16) (hbits : bits = 16 ∨ bits = 64) (hs : s.length < 2 ^ 60) (H : AHeap) (K : AV → AHeap → Kd → Prop) :
    E.C 245 [.str s, i64 b, i64 bits] H K ↔ K (.tuple [.int .u64 (puB b bits s).1, if (puB b bits s).2 = 0 then .nilIface else .iface 6 (i64 (puB b bits s).2)]) H .p := by
  refine C_gen (fun K0 hK0 => V245 (K := K0) ?_) rfl (by kernel_rfl) (fun _ => by split <;> rfl)
  by_cases h0 : s = []
  · subst h0
    have e : (([] : List UInt8) == []) = true := rfl
    simp (disch := omega) only [go_sem, Int.reduceBEq, Int.reduceBNe, Int.reduceLT, Int.reduceLE, Int.reduceAdd, Int.reduceSub, Int.reduceNeg, Nat.reduceLT, Nat.reduceLeDiff, Nat.reduceAdd, e]
    exact hK0 _
  · have e : (s == []) = false := by simpa using h0
    simp only [puB, h0, if_false] at hK0
    have fin : ∀ (b mx cut : Nat) (hb : 2 ≤ b ∧ b ≤ 36) (hm : mx < 2 ^ 64) (hc : (cut : Nat) = (2 ^ 64 - 1) / b + 1) (K : AV → AHeap → Prop), (∀ H, K (.tuple [.int .u64 (puL b mx s 0).1, if (puL b mx s 0).2 = 0 then .nilIface else .iface 6 (i64 (puL b mx s 0).2)]) H) →
      L245_0 (i64 b) (.bool false) (.str s) (.int .u64 cut) (.int .u64 mx) (.bool false) (.int .u64 (0 : Nat)) (.sl 0 0 s.length 1 s.length none) (i64 s.length) (i64 (0 : Nat)) [.cells (bytesV s) 1 s.length 0] (fun x314 x315 H => J1 (fun x317 H => Two x314 x317 (.bool false) fun x319 =>
 Pick x319 (K (.tuple [(.int .u64 0), (.iface 6 (.int .i64 2))]) H)
 (K (.tuple [x315, (.nilIface)]) H)) fun j320 => Gd x314 true (E.C 297 [.str s] H fun x321 H _ =>
 Opn (unA .not x321) fun x322 =>
 j320 x322 H) (j320 undefA H)) (fun x323 x324 H => K (.tuple [x323, x324]) H) := by
      intro b mx cut hb hm hc K hK
      refine puLoop s hs b mx cut hb hm hc s.length 0 0 (by omega) (by omega) (fun h => ?_) (fun h => ?_)
      · rw [List.drop_zero] at h ⊢
        have := hK [.cells (bytesV s) 1 s.length 0]
        rw [if_pos h] at this
        simp (disch := omega) only [go_sem, Int.reduceBEq, Int.reduceBNe, Int.reduceLT, Int.reduceLE, Int.reduceAdd, Int.reduceSub, Int.reduceNeg, Nat.reduceLT, Nat.reduceLeDiff, Nat.reduceAdd, J1]
        exact this
      · rw [List.drop_zero] at h ⊢
        have := hK [.cells (bytesV s) 1 s.length 0]
        rw [if_neg h] at this
        exact this
    have sh1 : binA .shl (.int .u64 1) (.int .u64 64) = some (.int .u64 0) := rfl
    have sh2 : binA .shl (.int .u64 1) (.int .u64 16) = some (.int .u64 65536) := rfl
    have sb1 : binA .sub (.int .u64 0) (.int .u64 1) = some (.int .u64 18446744073709551615) := rfl
    have sb2 : binA .sub (.int .u64 65536) (.int .u64 1) = some (.int .u64 65535) := rfl
    have q8 : binA .quo (.int .u64 18446744073709551615) (.int .u64 8) = some (.int .u64 2305843009213693951) := rfl
    rcases hb with rfl | rfl | rfl <;> rcases hbits with rfl | rfl
    all_goals simp only [Int.cast_ofNat_Int]
    · simp (disch := omega) only [go_sem, Int.reduceBEq, Int.reduceBNe, Int.reduceLT, Int.reduceLE, Int.reduceAdd, Int.reduceSub, Int.reduceNeg, Nat.reduceLT, Nat.reduceLeDiff, Nat.reduceAdd, e, sh1, sh2, sb1, sb2, q8, toBytes_eq]
      exact fin 8 65535 2305843009213693952 (by omega) (by omega) (by omega) K0 hK0
    · simp (disch := omega) only [go_sem, Int.reduceBEq, Int.reduceBNe, Int.reduceLT, Int.reduceLE, Int.reduceAdd, Int.reduceSub, Int.reduceNeg, Nat.reduceLT, Nat.reduceLeDiff, Nat.reduceAdd, e, sh1, sh2, sb1, sb2, q8, toBytes_eq]
      exact fin 8 18446744073709551615 2305843009213693952 (by omega) (by omega) (by omega) K0 hK0
    · simp (disch := omega) only [go_sem, Int.reduceBEq, Int.reduceBNe, Int.reduceLT, Int.reduceLE, Int.reduceAdd, Int.reduceSub, Int.reduceNeg, Nat.reduceLT, Nat.reduceLeDiff, Nat.reduceAdd, e, sh1, sh2, sb1, sb2, q8, toBytes_eq]
      exact fin 10 65535 1844674407370955162 (by omega) (by omega) (by omega) K0 hK0
    · simp (disch := omega) only [go_sem, Int.reduceBEq, Int.reduceBNe, Int.reduceLT, Int.reduceLE, Int.reduceAdd, Int.reduceSub, Int.reduceNeg, Nat.reduceLT, Nat.reduceLeDiff, Nat.reduceAdd, e, sh1, sh2, sb1, sb2, q8, toBytes_eq]
      exact fin 10 18446744073709551615 1844674407370955162 (by omega) (by omega) (by omega) K0 hK0
    · simp (disch := omega) only [go_sem, Int.reduceBEq, Int.reduceBNe, Int.reduceLT, Int.reduceLE, Int.reduceAdd, Int.reduceSub, Int.reduceNeg, Nat.reduceLT, Nat.reduceLeDiff, Nat.reduceAdd, e, sh1, sh2, sb1, sb2, q8, toBytes_eq]
      exact fin 16 65535 1152921504606846976 (by omega) (by omega) (by omega) K0 hK0
    · simp (disch := omega) only [go_sem, Int.reduceBEq, Int.reduceBNe, Int.reduceLT, Int.reduceLE, Int.reduceAdd, Int.reduceSub, Int.reduceNeg, Nat.reduceLT, Nat.reduceLeDiff, Nat.reduceAdd, e, sh1, sh2, sb1, sb2, q8, toBytes_eq]
      exact fin 16 18446744073709551615 1152921504606846976 (by omega) (by omega) (by omega) K0 hK0
end Go.AE.Fns
namespace Go.AE.Fns
open Go Go.AE Env
set_option maxRecDepth 100000
theorem puL_err (b mx : Nat) : ∀ (s : List UInt8) (n : Nat), (puL b mx s n).2 = 0 ∨ (puL b mx s n).2 = 1 ∨ (puL b mx s n).2 = 2
 | [], n => .inl rfl
 | c :: l, n => by
  simp only [puL]
  split
  ·simp
  ·split
   ·simp
   ·split
    ·simp
    ·exact puL_err b mx l _
theorem puB_err (b bits : Nat) (s : List UInt8) : (puB b bits s).2 = 0 ∨ (puB b bits s).2 = 1 ∨ (puB b bits s).2 = 2 := by
 unfold puB
 split
 ·simp
 ·exact puL_err _ _ _ _
theorem parse_ok (s : List UInt8) (b bits : Nat) (hb : b = 8 ∨ b = 10 ∨ b = 16) (hbits : bits = 16 ∨ bits = 64) (hs : s.length < 2 ^ 60) (h : (puB b bits s).2 = 0) (H : AHeap) (K : AV → AHeap → Kd → Prop) : E.C 260 [.str s, i64 b, i64 bits] H K ↔ K (.tuple [.int .u64 (puB b bits s).1, .nilIface]) H .p := by
 refine C_by (V260 (K := fun v' _ => v' = .tuple [.int .u64 (puB b bits s).1, .nilIface]) ?_) rfl (by kernel_rfl) fun _ => rfl
 have hp := fun H K => parse0_c s b bits hb hbits hs H K
 simp only [h, if_true] at hp
 simp (disch := omega) only [go_sem, Int.reduceBEq, hp]
theorem parse_no (s : List UInt8) (b bits : Nat) (hb : b = 8 ∨ b = 10 ∨ b = 16) (hbits : bits = 16 ∨ bits = 64) (hs : s.length ≤ 2 ^ 40) (h : (puB b bits s).2 ≠ 0) :
  ∃ (g : AHeap → Nat) (X : AHeap → AHeap), ∀ (H : AHeap) (K : AV → AHeap → Kd → Prop), E.C 260 [.str s, i64 b, i64 bits] H K ↔ K (.tuple [.int .u64 (puB b bits s).1, .iface 7 (.ptr (g H) 0 3)]) (X H) (.a H.length) := by
 have hp := fun H K => parse0_c s b bits hb hbits (by omega) H K
 simp only [h, if_false] at hp
 have hk : ((puB b bits s).2 : Int) = 1 ∨ ((puB b bits s).2 : Int) = 2 := by
  rcases puB_err b bits s with e | e | e
  ·exact absurd e h
  ·left; omega
  ·right; omega
 obtain ⟨v, H', ⟨p, rfl⟩, hv⟩ := toError_ans s hs b bits _ hk
 have hf : ∀ n, freeze H' n (.iface 7 (.ptr p 0 3)) = none := fun n => by
  cases n with
  | zero => rfl
  | succ n => cases n <;> rfl
 have hc := fun (H : AHeap) (K : AV → AHeap → Kd → Prop) => C_laid (H := H) (K := K) (by rfl) hv (.inr (hf _))
 obtain ⟨v2, H2, ⟨rfl, rfl⟩, h2⟩ := V260 (a0 := .str s) (a1 := i64 b) (a2 := i64 bits) (H := []) (K := fun v2 H2 => v2 = .tuple [.int .u64 (puB b bits s).1, .iface 7 (.ptr (0 + p) 0 3)] ∧ H2 = H'.map (·.shift 0)) (by
  simp (disch := omega) only [go_sem, Int.reduceBEq, hp, hc, AV.shift, List.length_nil])
 have hf2 : freeze (H'.map (·.shift 0)) 1000000000 (.tuple [.int .u64 (puB b bits s).1, .iface 7 (.ptr (0 + p) 0 3)]) = none := rfl
 refine ⟨fun H => H.length + (0 + p), fun H => H ++ (H'.map (·.shift 0)).map (·.shift H.length), fun H K => ?_⟩
 exact C_laid (by rfl) h2 (.inr hf2)
def hexB (c : UInt8) : Bool := decB c || letB c
theorem all_dec (s : List UInt8) (hs : s.length ≤ 2 ^ 60) (H : AHeap) (K : AV → AHeap → Kd → Prop) : E.C 41 [.str s, .lst [.func 43 [] []] 1 1 true] H K ↔ K (.bool (s.all decB)) H .p := by
 have := all_c [(43, decB)] dec_ok (by decide) true s hs H K
 have e : Kinds.anyB [(43, decB)] = decB := by funext c; simp [Kinds.anyB]
 rw [e] at this
 exact this
theorem all_oct (s : List UInt8) (hs : s.length ≤ 2 ^ 60) (H : AHeap) (K : AV → AHeap → Kd → Prop) : E.C 41 [.str s, .lst [.func 216 [] []] 1 1 true] H K ↔ K (.bool (s.all octB)) H .p := by
 have := all_c [(216, octB)] oct_ok (by decide) true s hs H K
 have e : Kinds.anyB [(216, octB)] = octB := by funext c; simp [Kinds.anyB]
 rw [e] at this
 exact this
theorem all_hex (s : List UInt8) (hs : s.length ≤ 2 ^ 60) (H : AHeap) (K : AV → AHeap → Kd → Prop) : E.C 41 [.str s, .lst [.func 43 [] [], .func 215 [] []] 2 1 true] H K ↔ K (.bool (s.all hexB)) H .p := by
 have := all_c [(43, decB), (215, letB)] hex_ok (by decide) true s hs H K
 have e : Kinds.anyB [(43, decB), (215, letB)] = hexB := by funext c; simp [Kinds.anyB, hexB]
 rw [e] at this
 exact this
def numP : List UInt8 → List UInt8 × Nat × Bool
 | a :: b :: r => if a = 48 then (if (b ||| 32) = 120 then (r, 16, r.all hexB) else (b :: r, 8, (b :: r).all octB)) else (a :: b :: r, 10, (a :: b :: r).all decB)
 | s => (s, 10, !(s == []) && s.all decB)
def numB (s : List UInt8) : Nat × Bool :=
 if (numP s).2.2 = false ∨ (numP s).1 = [] then (0, (numP s).2.2) else (if (puB (numP s).2.1 64 (numP s).1).2 = 0 then (puB (numP s).2.1 64 (numP s).1).1 else 9223372036854775808, true)
theorem num_end (r : List UInt8) (b : Nat) (hb : b = 8 ∨ b = 10 ∨ b = 16) (hs : r.length ≤ 2 ^ 40) (H : AHeap) {K0 : AV → AHeap → Prop} (h : ∀ H, K0 (.tuple [.int .u64 (if (puB b 64 r).2 = 0 then (puB b 64 r).1 else 9223372036854775808 : Nat), .bool true]) H) :
 E.C 260 [.str r, i64 b, (.int .i64 64)] H fun x312 H _ =>
 Opn (exV 0 x312) fun x313 =>
 Opn (exV 1 x312) fun x314 =>
 Opn (eqV true (.ifc true [(6, .i)]) x314 (.nilIface)) fun x315 =>
 Pick x315 (K0 (.tuple [(.int .u64 9223372036854775808), (.bool true)]) H)
 (K0 (.tuple [x313, (.bool true)]) H) := by
  by_cases hp : (puB b 64 r).2 = 0
  · rw [if_pos hp] at h
    have hc := fun H K => parse_ok r b 64 hb (.inr rfl) (by omega) hp H K
    exact (hc _ _).2 (by simp (disch := omega) only [go_sem, Int.reduceBEq]; exact h H)
  · rw [if_neg hp] at h
    obtain ⟨g, X, hc⟩ := parse_no r b 64 hb (.inr rfl) hs hp
    exact (hc _ _).2 (by simp (disch := omega) only [go_sem, Int.reduceBEq]; exact h _)
theorem number_c (s : List UInt8) (hs : s.length ≤ 2 ^ 40) (H : AHeap) (K : AV → AHeap → Kd → Prop) : E.C 44 [.str s] H K ↔ K (.tuple [.int .u64 (numB s).1, .bool (numB s).2]) H .p := by
  refine C_gen (fun K0 hK0 => V44 (K := K0) ?_) rfl (by kernel_rfl) (fun _ => rfl)
  have fin : ∀ (r : List UInt8) (b : Nat) (ok : Bool), numP s = (r, b, ok) → (b = 8 ∨ b = 10 ∨ b = 16) → r.length ≤ 2 ^ 40 → ∀ H, if (!ok || r == []) = true then K0 (.tuple [(.int .u64 0), .bool ok]) H else E.C 260 [.str r, i64 b, (.int .i64 64)] H fun x312 H _ =>
      Opn (exV 0 x312) fun x313 =>
      Opn (exV 1 x312) fun x314 =>
      Opn (eqV true (.ifc true [(6, .i)]) x314 (.nilIface)) fun x315 =>
      Pick x315 (K0 (.tuple [(.int .u64 9223372036854775808), (.bool true)]) H)
      (K0 (.tuple [x313, (.bool true)]) H) := by
    intro r b ok e hb hr H
    simp only [numB, e] at hK0
    split
    · rename_i h
      have h2 : ok = false ∨ r = [] := by
        cases ok
        · exact .inl rfl
        · right; simpa using h
      rw [if_pos h2] at hK0
      exact hK0 H
    · rename_i h
      have h2 : ¬ (ok = false ∨ r = []) := by
        intro h3
        apply h
        rcases h3 with h3 | h3
        · simp [h3]
        · simp [h3]
      rw [if_neg h2] at hK0
      exact num_end r b hb hr H hK0
  rcases s with _ | ⟨a, _ | ⟨b, r⟩⟩
  · have e : (([] : List UInt8) == []) = true := rfl
    have f := fin [] 10 false rfl (by decide) (by simp) []
    simp (disch := omega) only [go_sem, Int.reduceBEq, Int.reduceBNe, Int.reduceLT, Int.reduceLE, Int.reduceAdd, Int.reduceSub, Int.reduceNeg, Nat.reduceLT, Nat.reduceLeDiff, Nat.reduceAdd, e] at f ⊢
    exact f
  · have e : (([a] : List UInt8) == []) = false := rfl
    have hd := fun H K => all_dec [a] (by simp) H K
    have f := fin [a] 10 ([a].all decB) (by simp [numP]) (by decide) (by simp) []
    simp (disch := omega) only [go_sem, Int.reduceBEq, Int.reduceBNe, Int.reduceLT, Int.reduceLE, Int.reduceAdd, Int.reduceSub, Int.reduceNeg, Nat.reduceLT, Nat.reduceLeDiff, Nat.reduceAdd, e, hd] at f ⊢
    exact f
  · have e : ((a :: b :: r : List UInt8) == []) = false := rfl
    have hd := fun H K => all_dec (a :: b :: r) (by omega) H K
    have hr : r.length ≤ 2 ^ 40 := by simp at hs; omega
    have hx := fun H K => all_hex r (by omega) H K
    have ho := fun H K => all_oct (b :: r) (by simp; simp at hs; omega) H K
    have o1 := or32 b
    have l1 : decide ((1 : Int) < ((a :: b :: r).length : Int)) = true := by simp; omega
    have s1 : ∀ H, fSlStr (.str (a :: b :: r)) (some (.int .i64 2)) none H = some (.str r, H, .p) := fun H => sl_from (by simp; omega)
    have s2 : ∀ H, fSlStr (.str (a :: b :: r)) (some (.int .i64 1)) none H = some (.str (b :: r), H, .p) := fun H => sl_from (by simp; omega)
    have d1 : drawOk (drawn F44 0) [.p, .p, .p, .p] = true := by kernel_rfl
    have d2 : drawOk (drawn F44 1) [.p, .p, .p, .p] = true := by kernel_rfl
    by_cases c1 : a = 48
    · subst c1
      by_cases c2 : (b ||| 32) = 120
      · have f := fin r 16 (r.all hexB) (by simp [numP, c2]) (by decide) hr []
        have e2 : (((b ||| 32).toNat : Int) == 120) = true := by rw [c2]; rfl
        have e3 : ((((48 : UInt8).toNat : Nat) : Int) == 48) = true := rfl
        simp (disch := omega) only [go_sem, Int.reduceBEq, Int.reduceBNe, Int.reduceLT, Int.reduceLE, Int.reduceAdd, Int.reduceSub, Int.reduceNeg, Nat.reduceLT, Nat.reduceLeDiff, Nat.reduceAdd, e, hd, hx, o1, l1, s1, d1, e2, e3] at f ⊢
        exact f
      · have f := fin (b :: r) 8 ((b :: r).all octB) (by simp [numP, c2]) (by decide) (by simp; simp at hs; omega) []
        have e2 : (((b ||| 32).toNat : Int) == 120) = false := by
          rw [beq_eq_false_iff_ne]
          intro h
          apply c2
          rw [← UInt8.toNat_inj]
          show _ = 120
          omega
        have e3 : ((((48 : UInt8).toNat : Nat) : Int) == 48) = true := rfl
        simp (disch := omega) only [go_sem, Int.reduceBEq, Int.reduceBNe, Int.reduceLT, Int.reduceLE, Int.reduceAdd, Int.reduceSub, Int.reduceNeg, Nat.reduceLT, Nat.reduceLeDiff, Nat.reduceAdd, e, hd, ho, o1, l1, s2, d2, e2, e3] at f ⊢
        exact f
    · have f := fin (a :: b :: r) 10 ((a :: b :: r).all decB) (by simp [numP, c1]) (by decide) hs []
      have e3 : ((a.toNat : Int) == 48) = false := by
        rw [beq_eq_false_iff_ne]
        intro h
        apply c1
        rw [← UInt8.toNat_inj]
        show _ = 48
        omega
      simp (disch := omega) only [go_sem, Int.reduceBEq, Int.reduceBNe, Int.reduceLT, Int.reduceLE, Int.reduceAdd, Int.reduceSub, Int.reduceNeg, Nat.reduceLT, Nat.reduceLeDiff, Nat.reduceAdd, e, hd, o1, l1, s2, d2, e3] at f ⊢
      exact f
def partsB (s : List UInt8) : List (List UInt8) := if 1 < (splitB 46 s).length ∧ (splitB 46 s).getLast? = some [] then (splitB 46 s).dropLast else splitB 46 s
theorem splitB_ne (c : UInt8) (s : List UInt8) : 0 < (splitB c s).length := by rw [splitB_len]; omega
theorem txts_take (l : List (List UInt8)) (n : Nat) : (txts l).take n = txts (l.take n) := by simp [txts]
theorem parts_c (s : List UInt8) (hs : s.length ≤ 2 ^ 29) : ∃ ex, ∀ (H : AHeap) (K : AV → AHeap → Kd → Prop), E.C 45 [.str s] H K ↔ K (.lst (txts (partsB s)) (partsB s).length 1 ex) H .p := by
 have hl := splitB_len 46 s
 have hcl := count_le 46 s
 have hpos := splitB_ne 46 s
 have hp := fun H K => split_c s 46 hs H K
 have fz : ∀ (l : List (List UInt8)) (ex : Bool) (Hc : AHeap), l.length ≤ 2 ^ 29 + 1 → freeze Hc 1000000000 (.lst (txts l) l.length 1 ex) = some (.lst (txts l) l.length 1 ex) := fun l ex Hc h => freeze_lst (m := 1) (fun v hv => by simp only [txts, List.mem_map] at hv; obtain ⟨x, _, rfl⟩ := hv; rfl) (by rw [txts_len]; omega)
 generalize hgen : splitB 46 s = l at *
 have hw : IntKind.i64.wrap ((l.length : Int) - 1) = ((l.length - 1 : Nat) : Int) := by rw [wrap64 (by omega)]; omega
 by_cases c1 : 1 < l.length
 ·have hlast : l.getLast? = some (l[l.length - 1]'(by omega)) := by rw [List.getLast?_eq_getElem?, List.getElem?_eq_getElem (by omega)]
  have l1 : decide ((1 : Int) < (l.length : Int)) = true := by simp; omega
  by_cases c2 : l[l.length - 1]'(by omega) = []
  ·have e : partsB s = l.dropLast := by unfold partsB; rw [hgen, if_pos ⟨c1, by rw [hlast, c2]⟩]
   have hb : bounds l.length none (some (.int .i64 ((l.length - 1 : Nat) : Int))) = some (0, l.length - 1) := by simp [bounds, loI, hiI, asI]
   have sl : sliceA 1 (.lst (txts l) l.length 1 true) none (some (.int .i64 ((l.length - 1 : Nat) : Int))) none = some (.lst (txts l.dropLast) l.dropLast.length 1 (true && (l.length - 1 == l.length))) := by
    simp only [sliceA, hb, Nat.zero_mul, List.drop_zero, Nat.sub_zero, Nat.mul_one, txts_take, ← List.dropLast_eq_take, List.length_dropLast]
    simp
   have c2' : (l[l.length - 1]'(by omega) == []) = true := by rw [c2]; rfl
   refine ⟨true && (l.length - 1 == l.length), fun H K => ?_⟩
   rw [e]
   refine C_by (V45 (K := fun v' _ => v' = _) ?_) rfl (by kernel_rfl) (fun Hc => fz _ _ Hc (by rw [List.length_dropLast]; omega))
   simp (disch := omega) only [go_sem, Int.reduceBEq, hp, hw, l1, sl, c2']
  ·have e : partsB s = l := by
    unfold partsB; rw [hgen, if_neg (fun h => c2 (by rw [hlast] at h; exact Option.some.inj h.2))]
   have c2' : (l[l.length - 1]'(by omega) == []) = false := by simpa using c2
   refine ⟨true, fun H K => ?_⟩
   rw [e]
   refine C_by (V45 (K := fun v' _ => v' = _) ?_) rfl (by kernel_rfl) (fun Hc => fz _ _ Hc (by omega))
   simp (disch := omega) only [go_sem, Int.reduceBEq, hp, hw, l1, c2']
 ·have l1 : decide ((1 : Int) < (l.length : Int)) = false := by simp; omega
  have e : partsB s = l := by
   unfold partsB; rw [hgen, if_neg (fun h => c1 h.1)]
  refine ⟨true, fun H K => ?_⟩
  rw [e]
  refine C_by (V45 (K := fun v' _ => v' = _) ?_) rfl (by kernel_rfl) (fun Hc => fz _ _ Hc (by omega))
  simp (disch := omega) only [go_sem, Int.reduceBEq, hp, l1]
theorem partsB_ne (s : List UInt8) : 0 < (partsB s).length ∧ (partsB s).length ≤ (splitB 46 s).length := by
 have := splitB_ne 46 s
 unfold partsB
 split
 ·rw [List.length_dropLast]; omega
 ·omega
theorem sumLen_mem : ∀ {l : List (List UInt8)} {x : List UInt8}, x ∈ l → x.length ≤ sumLen l
 | a :: l, x, h => by
  have e : sumLen (a :: l) = a.length + sumLen l := by simp [sumLen]
  rcases List.mem_cons.1 h with rfl | h
  ·omega
  ·have := sumLen_mem h; omega
theorem splitB_mem {c : UInt8} {s x : List UInt8} (h : x ∈ splitB c s) : x.length ≤ s.length := Nat.le_trans (sumLen_mem h) (sumLen_split c s)
theorem partsB_mem {s x : List UInt8} (h : x ∈ partsB s) : x.length ≤ s.length := by
 unfold partsB at h
 split at h
 ·exact splitB_mem (List.dropLast_subset _ h)
 ·exact splitB_mem h
def lastP (s : List UInt8) : List UInt8 := (partsB s).getLastD []
def endsB (s : List UInt8) : Bool := (numB (lastP s)).2 || (!(lastP s == []) && (lastP s).all decB)
theorem ends_c (s : List UInt8) (hs : s.length ≤ 2 ^ 29) (H : AHeap) (K : AV → AHeap → Kd → Prop) : E.C 40 [.str s] H K ↔ K (.bool (endsB s)) H .p := by
 refine C_by (V40 (K := fun v' _ => v' = .bool (endsB s)) ?_) rfl (by kernel_rfl) (fun _ => rfl)
 obtain ⟨ex, hp⟩ := parts_c s hs
 have hpos := partsB_ne s
 have hl := splitB_len 46 s
 have hcl := count_le 46 s
 have hw : IntKind.i64.wrap (((partsB s).length : Int) - 1) = (((partsB s).length - 1 : Nat) : Int) := by rw [wrap64 (by omega)]; omega
 have hlast : (partsB s)[(partsB s).length - 1]'(by omega) = lastP s := by
  unfold lastP
  rw [List.getLastD_eq_getLast?, List.getLast?_eq_getElem?, List.getElem?_eq_getElem (by omega)]; rfl
 have hlen : (lastP s).length ≤ s.length := by rw [← hlast]; exact partsB_mem (List.getElem_mem _)
 have hn := fun H K => number_c (lastP s) (by omega) H K
 have hd := fun H K => all_dec (lastP s) (by omega) H K
 simp (disch := omega) only [go_sem, Int.reduceBEq, hp, hw, hlast, hn, hd]
 rfl
end Go.AE.Fns
namespace Go.AE.Fns
open Go Go.AE Env
set_option maxRecDepth 100000
structure Host where
 kind : Nat
 name : List UInt8 := []
 v4 : Nat := 0
 b0 : Nat := 0
 b1 : Nat := 0
 b2 : Nat := 0
 b3 : Nat := 0
 b4 : Nat := 0
 b5 : Nat := 0
 b6 : Nat := 0
 b7 : Nat := 0
 deriving DecidableEq
def Host.v6 (h : Host) : List Nat := [h.b0, h.b1, h.b2, h.b3, h.b4, h.b5, h.b6, h.b7]
def Host.cells (h : Host) : List AV := [.int .u8 (h.kind : Nat), .str h.name, .int .u32 (h.v4 : Nat), .int .u16 (h.b0 : Nat), .int .u16 (h.b1 : Nat), .int .u16 (h.b2 : Nat), .int .u16 (h.b3 : Nat), .int .u16 (h.b4 : Nat), .int .u16 (h.b5 : Nat), .int .u16 (h.b6 : Nat), .int .u16 (h.b7 : Nat)]
abbrev v6T : ETy := .st [(0, 1, false, .i), (1, 1, false, .i), (2, 1, false, .i), (3, 1, false, .i), (4, 1, false, .i), (5, 1, false, .i), (6, 1, false, .i), (7, 1, false, .i)]
abbrev hostT : ETy := .st [(0, 1, false, .i), (1, 1, false, .s), (2, 1, false, .i), (3, 8, true, v6T)]
theorem aEq_i {k : IntKind} {a b : Int} : aEq .i (.int k a) (.int k b) = some (a == b) := by simp [aEq, eqPlain]
theorem aEq_s {a b : List UInt8} : aEq .s (.str a) (.str b) = some (a == b) := Eq.trans rfl rfl
theorem aEq_bb {a b : Bool} : aEq .b (.bool a) (.bool b) = some (a == b) := Eq.trans rfl rfl
theorem aEqF_cons {o sz : Nat} {ag : Bool} {e : ETy} {fs : List (Nat × Nat × Bool × ETy)} {xs ys : List AV} {x y : AV} {p q : Bool} (hx : part xs o sz ag = some x) (hy : part ys o sz ag = some y) (he : aEq e x y = some p) (hf : aEqF fs xs ys = some q) : aEqF ((o, sz, ag, e) :: fs) xs ys = some (p && q) := by
 simp only [aEqF, hx, hy, he]
 cases p <;> simp [hf]
theorem aEqF_nil {xs ys : List AV} : aEqF [] xs ys = some true := Eq.trans rfl rfl
theorem aEq_st {fs : List (Nat × Nat × Bool × ETy)} {xs ys : List AV} : aEq (.st fs) (.agg xs) (.agg ys) = aEqF fs xs ys := Eq.trans rfl rfl
theorem host_eq (h g : Host) : aEq hostT (.agg h.cells) (.agg g.cells) = some (decide (h = g)) := by
 have h6 : aEq v6T (.agg [.int .u16 h.b0, .int .u16 h.b1, .int .u16 h.b2, .int .u16 h.b3, .int .u16 h.b4, .int .u16 h.b5, .int .u16 h.b6, .int .u16 h.b7]) (.agg [.int .u16 g.b0, .int .u16 g.b1, .int .u16 g.b2, .int .u16 g.b3, .int .u16 g.b4, .int .u16 g.b5, .int .u16 g.b6, .int .u16 g.b7]) = some ((h.b0 : Int) == g.b0 && ((h.b1 : Int) == g.b1 && ((h.b2 : Int) == g.b2 && ((h.b3 : Int) == g.b3 && ((h.b4 : Int) == g.b4 && ((h.b5 : Int) == g.b5 && ((h.b6 : Int) == g.b6 && ((h.b7 : Int) == g.b7 && true)))))))) := by
  rw [aEq_st]
  exact aEqF_cons rfl rfl aEq_i (aEqF_cons rfl rfl aEq_i (aEqF_cons rfl rfl aEq_i (aEqF_cons rfl rfl aEq_i (aEqF_cons rfl rfl aEq_i (aEqF_cons rfl rfl aEq_i (aEqF_cons rfl rfl aEq_i (aEqF_cons rfl rfl aEq_i aEqF_nil)))))))
 have hh : aEq hostT (.agg h.cells) (.agg g.cells) = some ((h.kind : Int) == g.kind && (h.name == g.name && ((h.v4 : Int) == g.v4 && (((h.b0 : Int) == g.b0 && ((h.b1 : Int) == g.b1 && ((h.b2 : Int) == g.b2 && ((h.b3 : Int) == g.b3 && ((h.b4 : Int) == g.b4 && ((h.b5 : Int) == g.b5 && ((h.b6 : Int) == g.b6 && ((h.b7 : Int) == g.b7 && true)))))))) && true)))) := by
  rw [aEq_st]
  exact aEqF_cons rfl rfl aEq_i (aEqF_cons rfl rfl aEq_s (aEqF_cons rfl rfl aEq_i (aEqF_cons rfl rfl h6 aEqF_nil)))
 rw [hh]
 congr 1
 rw [Bool.eq_iff_iff]
 cases h; cases g
 simp only [Bool.and_eq_true, beq_iff_eq, decide_eq_true_eq, Host.mk.injEq, and_true, Int.natCast_inj]
theorem host_eqV (h g : Host) {ng : Bool} : eqV ng hostT (.agg h.cells) (.agg g.cells) = some (.bool (if ng then !decide (h = g) else decide (h = g))) := by
 unfold eqV
 rw [host_eq]; rfl
def hostOk (h : Host) : Bool :=
 if h.kind = 1 then decide (h = { kind := h.kind, name := h.name }) && !(h.name == []) && !badB h.name true && !(h.name.any bigB) && !endsB h.name
 else if h.kind = 4 then decide (h = { kind := h.kind, name := h.name }) && !(h.name == []) && !badB h.name false && (encB 1 h.name == h.name)
 else if h.kind = 2 then decide (h = { kind := h.kind, v4 := h.v4 })
 else if h.kind = 3 then decide (h = { kind := h.kind, b0 := h.b0, b1 := h.b1, b2 := h.b2, b3 := h.b3, b4 := h.b4, b5 := h.b5, b6 := h.b6, b7 := h.b7 })
 else if h.kind = 5 then decide (h = { kind := h.kind }) else false
theorem hostCheck_c (h : Host) (hn : h.name.length ≤ 2 ^ 29) (H : AHeap) (K : AV → AHeap → Kd → Prop) : E.C 48 [.agg h.cells] H K ↔ K (i64 (if hostOk h then 0 else 18)) H .p := by
 refine C_by (V48 (K := fun v' _ => v' = i64 (if hostOk h then 0 else 18)) ?_) rfl (by kernel_rfl) (fun _ => rfl)
 have b1 : newVarA [] (.agg h.cells) 0 = some (.ptr 0 0 11, [.cells h.cells 0 11 0], .a 0) := rfl
 have l0 : loadA [.cells h.cells 0 11 0] 1 false (.ptr 0 0 11) = some (.int .u8 h.kind, [.cells h.cells 0 11 0], .r 0) := rfl
 have l1 : loadA [.cells h.cells 0 11 0] 1 false (.ptr 0 1 11) = some (.str h.name, [.cells h.cells 0 11 0], .r 0) := rfl
 have l2 : loadA [.cells h.cells 0 11 0] 1 false (.ptr 0 2 11) = some (.int .u32 h.v4, [.cells h.cells 0 11 0], .r 0) := rfl
 have l3 : loadA [.cells h.cells 0 11 0] 8 true (.ptr 0 3 11) = some (.agg [.int .u16 h.b0, .int .u16 h.b1, .int .u16 h.b2, .int .u16 h.b3, .int .u16 h.b4, .int .u16 h.b5, .int .u16 h.b6, .int .u16 h.b7], [.cells h.cells 0 11 0], .r 0) := rfl
 have la : loadA [.cells h.cells 0 11 0] 11 true (.ptr 0 0 11) = some (.agg h.cells, [.cells h.cells 0 11 0], .r 0) := rfl
 have m1 : ∀ (k : Nat) n, bldV [.int .u8 0, .str [], .int .u32 0, .int .u16 0, .int .u16 0, .int .u16 0, .int .u16 0, .int .u16 0, .int .u16 0, .int .u16 0, .int .u16 0] [(0, 1, .int .u8 k), (1, 1, .str n)] = some (.agg (Host.cells { kind := k, name := n })) := fun _ _ => rfl
 have m2 : ∀ (k n : Nat), bldV [.int .u8 0, .str [], .int .u32 0, .int .u16 0, .int .u16 0, .int .u16 0, .int .u16 0, .int .u16 0, .int .u16 0, .int .u16 0, .int .u16 0] [(0, 1, .int .u8 k), (2, 1, .int .u32 n)] = some (.agg (Host.cells { kind := k, v4 := n })) := fun _ _ => rfl
 have m3 : ∀ (k : Nat), bldV [.int .u8 0, .str [], .int .u32 0, .int .u16 0, .int .u16 0, .int .u16 0, .int .u16 0, .int .u16 0, .int .u16 0, .int .u16 0, .int .u16 0] [(0, 1, .int .u8 k), (3, 8, .agg [.int .u16 h.b0, .int .u16 h.b1, .int .u16 h.b2, .int .u16 h.b3, .int .u16 h.b4, .int .u16 h.b5, .int .u16 h.b6, .int .u16 h.b7])] = some (.agg (Host.cells { kind := k, b0 := h.b0, b1 := h.b1, b2 := h.b2, b3 := h.b3, b4 := h.b4, b5 := h.b5, b6 := h.b6, b7 := h.b7 })) := fun _ => rfl
 have m4 : ∀ (k : Nat), bldV [.int .u8 0, .str [], .int .u32 0, .int .u16 0, .int .u16 0, .int .u16 0, .int .u16 0, .int .u16 0, .int .u16 0, .int .u16 0, .int .u16 0] [(0, 1, .int .u8 k)] = some (.agg (Host.cells { kind := k })) := fun _ => rfl
 have hbad := fun d H K => bad_c h.name d (by omega) H K
 obtain ⟨n, hn1, hif⟩ := indexFunc_c h.name
 have he := fun H K => ends_c h.name hn H K
 have hen := fun H K => encode_c h.name 1 (by decide) (by omega) H K
 unfold hostOk
 have key : ∀ q : Bool, (if (!q) = true then AV.int .i64 18 = i64 (if q = true then 0 else 18) else AV.int .i64 0 = i64 (if q = true then 0 else 18)) := fun q => by cases q <;> rfl
 have keyp : ∀ (p : Prop) (_ : Decidable p), (if (!decide p) = true then AV.int .i64 18 = i64 (if p then 0 else 18) else AV.int .i64 0 = i64 (if p then 0 else 18)) := fun p i => by by_cases h : p <;> simp [h]
 have ek : ∀ n : Nat, h.kind = n → ((h.kind : Int) == (n : Int)) = true := fun n e => by rw [e]; simp
 have en : ∀ n : Nat, h.kind ≠ n → ((h.kind : Int) == (n : Int)) = false := fun n e => by rw [beq_eq_false_iff_ne]; omega
 by_cases k1 : h.kind = 1
 ·have e1 : ((h.kind : Int) == 1) = true := ek 1 k1
  simp only [if_pos k1]
  simp (disch := omega) only [go_sem, Int.reduceBEq, b1, l0, l1, l2, l3, la, m1, m2, m3, m4, host_eqV, hbad, hif, hn1, he, hen, Nat.zero_add, e1]
  first | exact key _ | exact keyp _ _
 by_cases k4 : h.kind = 4
 ·have e4 : ((h.kind : Int) == 4) = true := ek 4 k4
  have e1 : ((h.kind : Int) == 1) = false := en 1 k1
  simp only [if_neg k1, if_pos k4]
  simp (disch := omega) only [go_sem, Int.reduceBEq, b1, l0, l1, l2, l3, la, m1, m2, m3, m4, host_eqV, hbad, hif, hn1, he, hen, Nat.zero_add, e1, e4]
  first | exact key _ | exact keyp _ _
 by_cases k2 : h.kind = 2
 ·have e2 : ((h.kind : Int) == 2) = true := ek 2 k2
  have e1 : ((h.kind : Int) == 1) = false := en 1 k1
  have e4 : ((h.kind : Int) == 4) = false := en 4 k4
  simp only [if_neg k1, if_neg k4, if_pos k2]
  simp (disch := omega) only [go_sem, Int.reduceBEq, b1, l0, l1, l2, l3, la, m1, m2, m3, m4, host_eqV, hbad, hif, hn1, he, hen, Nat.zero_add, e1, e4, e2]
  first | exact key _ | exact keyp _ _
 by_cases k3 : h.kind = 3
 ·have e3 : ((h.kind : Int) == 3) = true := ek 3 k3
  have e1 : ((h.kind : Int) == 1) = false := en 1 k1
  have e4 : ((h.kind : Int) == 4) = false := en 4 k4
  have e2 : ((h.kind : Int) == 2) = false := en 2 k2
  simp only [if_neg k1, if_neg k4, if_neg k2, if_pos k3]
  simp (disch := omega) only [go_sem, Int.reduceBEq, b1, l0, l1, l2, l3, la, m1, m2, m3, m4, host_eqV, hbad, hif, hn1, he, hen, Nat.zero_add, e1, e4, e2, e3]
  first | exact key _ | exact keyp _ _
 by_cases k5 : h.kind = 5
 ·have e5 : ((h.kind : Int) == 5) = true := ek 5 k5
  have e1 : ((h.kind : Int) == 1) = false := en 1 k1
  have e4 : ((h.kind : Int) == 4) = false := en 4 k4
  have e2 : ((h.kind : Int) == 2) = false := en 2 k2
  have e3 : ((h.kind : Int) == 3) = false := en 3 k3
  simp only [if_neg k1, if_neg k4, if_neg k2, if_neg k3, if_pos k5]
  simp (disch := omega) only [go_sem, Int.reduceBEq, b1, l0, l1, l2, l3, la, m1, m2, m3, m4, host_eqV, hbad, hif, hn1, he, hen, Nat.zero_add, e1, e4, e2, e3, e5]
  first | exact key _ | exact keyp _ _
 have e1 : ((h.kind : Int) == 1) = false := en 1 k1
 have e4 : ((h.kind : Int) == 4) = false := en 4 k4
 have e2 : ((h.kind : Int) == 2) = false := en 2 k2
 have e3 : ((h.kind : Int) == 3) = false := en 3 k3
 have e5 : ((h.kind : Int) == 5) = false := en 5 k5
 simp only [if_neg k1, if_neg k4, if_neg k2, if_neg k3, if_neg k5]
 simp (disch := omega) only [go_sem, Int.reduceBEq, b1, l0, Nat.zero_add, e1, e4, e2, e3, e5]
end Go.AE.Fns
namespace Go.AE.Fns
open Go Go.AE Env
set_option maxRecDepth 100000
inductive Vw (n : Nat) (H : AHeap) : AV → List AV → Prop where
 | lst {l : List AV} (ex : Bool) : Vw n H (.lst l l.length 1 ex) l
 | nil : Vw n H .nilsl []
 | sl {b o v : Nat} {cap : Option Nat} {l cs : List AV} {g wv st : Nat} (hn : b < n) (hb : H[b]? = some (.cells cs g wv st)) (h1 : st < 2) (h2 : wv ≤ v) (h3 : v ≤ cs.length) (h4 : o + l.length ≤ v) (h5 : ∀ i (h : i < l.length), cs[o + i]? = some l[i]) : Vw n H (.sl b o l.length 1 v cap) l
theorem Vw.len {n : Nat} {H : AHeap} {r : AV} {l : List AV} (h : Vw n H r l) (H' : AHeap) : lenA H' .lenSl r = some (.int .i64 l.length, H', .p) := by cases h <;> rfl
theorem Vw.get {n : Nat} {H : AHeap} {r : AV} {l : List AV} (h : Vw n H r l) {i : Nat} (hi : i < l.length) : ∃ a kd, idxAddrA 1 r (.int .i64 i) = some a ∧ loadA H 1 false a = some (l[i], H, kd) := by
  cases h with
  | lst ex => exact ⟨_, _, idxA_lst hi, load_elt (List.getElem?_eq_getElem hi)⟩
  | nil => simp at hi
  | sl hn hb h1 h2 h3 h4 h5 => exact ⟨_, _, idxA_sl hi, load_at hb h1 h2 h3 (by omega) (h5 i hi)⟩
theorem Vw.same {n : Nat} {H H' : AHeap} {r : AV} {l : List AV} (h : Vw n H r l) (hs : Same n H H') : Vw n H' r l := by
  cases h with
  | lst ex => exact .lst ex
  | nil => exact .nil
  | sl hn hb h1 h2 h3 h4 h5 => exact .sl hn (by rw [hs _ hn]; exact hb) h1 h2 h3 h4 h5
theorem Vw.from {n : Nat} {H : AHeap} {r : AV} {l : List AV} (h : Vw n H r l) {k : Nat} (hk : k ≤ l.length) : ∃ r', sliceA 1 r (some (.int .i64 k)) none none = some r' ∧ Vw n H r' (l.drop k) := by
  cases h with
  | lst ex =>
    have hb : bounds l.length (some (.int .i64 (k : Int))) none = some (k, l.length) := by simp [bounds, loI, hiI, asI, hk]
    refine ⟨.lst (l.drop k) (l.length - k) 1 (ex && l.length == l.length), ?_, ?_⟩
    · simp only [sliceA, hb, if_true, Nat.mul_one]
      rw [List.take_of_length_le (by simp)]
      rfl
    · have := @Vw.lst n H (l.drop k) (ex && l.length == l.length)
      rwa [List.length_drop] at this
  | nil =>
    have : k = 0 := by simpa using hk
    subst this
    exact ⟨.nilsl, rfl, .nil⟩
  | @sl b o v cap _ cs g wv st hn hb h1 h2 h3 h4 h5 =>
    have hbd : bounds l.length (some (.int .i64 (k : Int))) none = some (k, l.length) := by simp [bounds, loI, hiI, asI, hk]
    refine ⟨.sl b (o + k) (l.length - k) 1 v (cap.map (· - k)), ?_, ?_⟩
    · simp only [sliceA, hbd, if_true, Nat.mul_one]
      rfl
    · have := @Vw.sl n H b (o + k) v (cap.map (· - k)) (l.drop k) cs g wv st hn hb h1 h2 h3 (by simp; omega) (fun i hi => by
        rw [List.getElem_drop, Nat.add_assoc]
        exact h5 (k + i) (by simp at hi; omega))
      rwa [List.length_drop] at this
end Go.AE.Fns
namespace Go.AE.Fns
open Go Go.AE Env
set_option maxRecDepth 100000
end Go.AE.Fns
namespace Go.AE.Fns
open Go Go.AE Env
set_option maxRecDepth 100000
inductive Row (n g : Nat) (H : AHeap) : AV → List AV → Prop where
 | nil : Row n g H .nilsl []
 | sl {b : Nat} {cs : List AV} {wv : Nat} (hn : n ≤ b) (hb : H[b]? = some (.cells cs g wv 0)) (hw : wv ≤ cs.length) (hne : cs ≠ []) : Row n g H (.sl b 0 cs.length 1 cs.length none) cs
theorem Row.len {n g : Nat} {H : AHeap} {r : AV} {l : List AV} (h : Row n g H r l) (H' : AHeap) : lenA H' .lenSl r = some (.int .i64 l.length, H', .p) := by cases h <;> rfl
theorem Row.push {n g : Nat} {H : AHeap} {r : AV} {l : List AV} (h : Row n g H r l) (hn : n ≤ H.length) (x : AV) (by_ : Nat) (hb0 : 0 < by_) (hl : (l.length + 1) * by_ ≤ 2 ^ 40) : ∃ r' H', (∀ ex, appendA H 1 by_ g r (.lst [x] 1 1 ex) = some (r', H', .l)) ∧ Row n g H' r' (l ++ [x]) ∧ Same n H H' ∧ n ≤ H'.length := by
 have hcell : ∀ ex, cellsIn H 1 (.lst [x] 1 1 ex) = some (1, [x]) := fun ex => by simp [cellsIn]
 cases h with
 | nil =>
  refine ⟨.sl H.length 0 1 1 1 none, H ++ [.cells [x] g 1 0], fun ex => ?_, ?_, Same.app hn, by simp; omega⟩
  ·have h3 : by_ ≤ 1099511627776 := by simp at hl; omega
   simp [appendA, hcell, hb0, h3]
  ·exact Row.sl (cs := [x]) (wv := 1) hn (by simp) (by simp) (by simp)
 | @sl b _ wv hnb hb hw hne =>
  refine ⟨.sl b 0 (l.length + 1) 1 (l ++ [x]).length none, H.set b (.cells (l ++ [x]) g wv 0), fun ex => ?_, ?_, Same.set hnb, by simp; omega⟩
  ·have h3 : (l.length + 1) * by_ ≤ 1099511627776 := by omega
   simp [appendA, hcell, hb, hw, hb0, h3]
  ·have e : l.length + 1 = (l ++ [x]).length := by simp
   rw [e]
   exact Row.sl (cs := l ++ [x]) (wv := wv) hnb (by simp [lt_of_at hb]) (by simp; omega) (by simp)
end Go.AE.Fns
namespace Go.AE.Fns
open Go Go.AE Env
set_option maxRecDepth 100000
end Go.AE.Fns
