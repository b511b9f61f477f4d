/- From the evaluator to a row. -/
import Derived.Test.YtibjieaohbnpgaaGreatDoorA5
import Derived.Test.YtibjieaohbnpgaaGreatDoorA6
import Derived.Carry
import Derived.OpenShut
import Derived.Deep.Strs
import Derived.RowKit
import Derived.Deep.Slices
import Derived.WideShapes
set_option linter.all false
set_option linter.unusedSimpArgs false
set_option linter.unusedVariables false
set_option linter.unnecessarySimpa false
set_option linter.deprecated false
namespace Go.AE
open Go
variable {C : Ctx}
theorem HRel.start {W : World} (hg : ∀ g v, C.τ.gl g = some v → VRel C loc0 (fun _ => False) W v (.pointer (some ⟨g, 0, none⟩))) : HRel C loc0 (fun _ => False) [] W where
 blk b k h := by simp at h
 dom b v x h := by simp [loc0] at h
 inj b v b' v' x x' h := by simp [loc0] at h
 nN B h := absurd h (not_mut0 B)
 nS B h := h.elim
 gl := hg
theorem calls_top {keep : Nat → Bool} {call : ACall} (hs : CallSound C keep call) {f : Nat} {fn : Func} (hfn : C.P.funcs[C.fid f]? = some fn) (hb : fn.body.isSome = true) (hname : (fn.name == "runtime.NumGoroutine") = false) {args : List AV} {v : AV} {H' : AHeap} (h : call false f args [] = some (v, H'))
    {W : World} (hH : HRel C loc0 (fun _ => False) [] W) {xs : List Value} (hl : LRel C loc0 (fun _ => False) W args xs) : Calls C.P (C.fid f) xs.toArray W (Answer C (fun _ => False) loc0 W v H') := by
  rcases hs.fn f args [] v H' h loc0 (fun _ => False) W xs hH hl with ⟨_, _, _, _, h1⟩ | ⟨fn', x, W', φ', _, h1, h2, _⟩
  · exact h1
  · exfalso
    have hb' : fn.body ≠ none := by intro hq; simp [hq] at hb
    have hn : fn.name ≠ "runtime.NumGoroutine" := by simpa using hname
    simp [callFunc, hfn, hn, hb'] at h2
theorem Ext.kept {W W' : World} {φ' : Loc} (h : Ext loc0 φ' W W') (may : MemPlace → Prop) : W.keptBut W' may := by
 refine ⟨h.os, h.output, fun i hi => ?_⟩
 rw [h.keep i hi (not_mut0 i)]
 split <;> simp_all
theorem Ext.same {W W' : World} {φ' : Loc} (h : Ext loc0 φ' W W') {p : MemPlace} (hp : p.block < W.heap.size) : W.sameAt W' p := by
 cases p with
 | cell b o => exact World.cell?_of_block (w := W) (h.keep b hp (not_mut0 b))
 | map b => exact h.keep b hp (not_mut0 b)
section
variable {H : Type} {enc : TypeId × Value → H} {P : Program}
open Go.ChangeShapes Go.RowKit
theorem trodAll_stays (hl : laidOutB P = true) {W W' : World} {sp' : Nat → Bool} : ∀ {ts : List TypeId} {vs : List Value} {ds : List (DataW H)} {ps : List MemPlace}, (∀ t ∈ ts, P.readableRec t = true ∧ t < P.types.size) →
  DataW.TrodAll enc P W 0 (fun _ => true) true ts vs ds ps → (∀ p ∈ ps, W.sameAt W' p) → (∀ p ∈ ps, sp' p.block = true) → DataW.TrodAll enc P W' 0 sp' true ts vs ds ps
 | [], [], [], _, _, h, _, _ => h
 | t :: ts, v :: vs, d :: ds, ps, ht, h, h1, h2 => by
  obtain ⟨p, q, g1, g2, rfl⟩ := h
  obtain ⟨k1, k2⟩ := ht t (by simp)
  exact ⟨p, q, WideElems.Trod_stays hl k1 k2 g1 (fun x hx => h1 x (by simp [hx])) (fun x hx => h2 x (by simp [hx])), trodAll_stays hl (fun t' ht' => ht t' (by simp [ht'])) g2 (fun x hx => h1 x (by simp [hx])) (fun x hx => h2 x (by simp [hx])), rfl⟩
 | [], _ :: _, _, _, _, h, _, _ => h.elim
 | [], [], _ :: _, _, _, h, _, _ => h.elim
 | _ :: _, [], _, _, _, h, _, _ => h.elim
 | _ :: _, _ :: _, [], _, _, h, _, _ => h.elim
theorem post_true (hl : laidOutB C.P = true) {f : Func} {s : ChangeSpec} {t : TypeId} (hrt : f.resultTypes = #[t]) (ht : C.P.underlying t = some .bool) (hpar : ∀ t ∈ f.params.toList, C.P.readableRec t = true ∧ t < C.P.types.size) (hvars : s.vars = [])
    {W W' : World} {args : Array Value} {ds gs : List (DataW H)} {before : List MemPlace} (hW : DataW.Whole enc C.P f.params.toList s.vars false W args.toList ds gs before) (hfn : s.fn H (ds ++ gs) = { results := [.lit (.bool true)], args := ds })
    {e : Ending} {H' : AHeap} (ha : Answer C (fun _ => False) loc0 W (.bool true) H' e W') : ∃ v, e = .returned v ∧ s.post enc C.P f false true false false W args v W' := by
  obtain ⟨x, φ', rfl, _, hx, hE⟩ := ha
  cases hx
  have hlt : ∀ p ∈ before, p.block < W.heap.size := hW.lt
  have hW' := hW
  obtain ⟨p, q, hA, hV, rfl, hfz, hnd⟩ := hW
  rw [hvars] at hV
  obtain ⟨rfl, rfl⟩ := trodVars_none hV
  simp only [List.append_nil] at *
  have hargs := trodAll_stays (sp' := fun b => decide (b < W.heap.size)) hl hpar hA (fun x hx => hE.same (hlt x hx)) (fun x hx => by simpa using hlt x hx)
  refine ⟨_, rfl, ds, [], p, [], p, [], hW', ?_, ?_, ?_, hE.kept _, fun h => by cases h⟩
  · rw [List.append_nil, hfn, hrt]
    exact ⟨[], [], shut_bool ht true, trodAll_mk0, rfl⟩
  · rw [List.append_nil, hfn]; exact hargs
  · rw [List.append_nil, hfn, hvars]; rfl
end
theorem str_rel {φ : Loc} {N : Nat → Prop} {W : World} (s : ByteArray) : VRel C φ N W (.str s.data.toList) (.string s) := by
 have := VRel.str (C := C) (φ := φ) (N := N) (W := W) s.data.toList
 simpa using this
theorem addr_add_plain (a : Addr) (h : a.spot = none) (i : Nat) : a.add i = ⟨a.block, a.off + i, none⟩ := by
 obtain ⟨b, o, s⟩ := a
 simp only at h
 subst h
 exact WideShapes.add_plain b o i
end Go.AE
namespace Go.AE
open Go
def flds (P : Program) : Nat → List Field → Nat → Bool
 | off, [], fin => off == fin
 | off, f :: r, fin => f.offset == off && flds P (off + P.cellsOf f.type) r fin
def plainTy (P : Program) : Nat → TypeId → Bool
 | 0, _ => false
 | n + 1, t => match P.underlying t with
  | some .bool | some (.int _) | some .string => P.cellsOf t == 1
  | some (.slice e) => P.cellsOf t == 1 && plainTy P n e
  | some (.struct fs) => flds P 0 fs.toList (P.cellsOf t) && fs.toList.all fun f => plainTy P n f.type
  | some (.array m e) => P.cellsOf t == m * P.cellsOf e && plainTy P n e
  | _ => false
def Cf (P : Program) (M : Nat) : Nat → TypeId → List AV → Prop
 | 0, _, _ => False
 | n + 1, t, as => match P.underlying t with
  | some .bool => ∃ b, as = [.bool b]
  | some (.int k) => ∃ i, as = [.int k i] ∧ k.min ≤ i ∧ i ≤ k.max
  | some .string => ∃ s, as = [.str s] ∧ s.length ≤ M
  | some (.slice e) => as = [.nilsl] ∨ ∃ cs m, as = [.lst cs m (P.cellsOf e) false] ∧ m ≤ M ∧ cs.length = m * P.cellsOf e ∧ ∀ i, i < m → Cf P M n e ((cs.drop (i * P.cellsOf e)).take (P.cellsOf e))
  | some (.struct fs) => as.length = P.cellsOf t ∧ ∀ f ∈ fs.toList, Cf P M n f.type ((as.drop f.offset).take (P.cellsOf f.type))
  | some (.array m e) => as.length = P.cellsOf t ∧ ∀ i, i < m → Cf P M n e ((as.drop (i * P.cellsOf e)).take (P.cellsOf e))
  | _ => False
structure BulkOk {H : Type} (bk : DataW H → Nat) : Prop where
 str : ∀ s, s.length ≤ bk (.lit (.string s))
 agg : ∀ ds, ∀ d ∈ ds, bk d ≤ bk (.agg ds)
 sl : ∀ es sp, ∀ d ∈ es, bk d ≤ bk (.slice es sp)
 len : ∀ es sp, es.length ≤ bk (.slice es sp)
theorem getD_app {α : Type} {a b : List α} {j : Nat} {x : α} : (a ++ b).getD j x = if j < a.length then a.getD j x else b.getD (j - a.length) x := by
 simp only [List.getD_eq_getElem?_getD]
 split
 ·rename_i h; rw [List.getElem?_append_left h]
 ·rename_i h; rw [List.getElem?_append_right (by omega)]
section
variable {R : AV → Value → Prop} {X : Nat → Value}
theorem glueU {G : List AV → Prop} (sz : Nat) : ∀ n, (∀ i, i < n → ∃ as : List AV, as.length = sz ∧ G as ∧ ∀ j, j < sz → R (as.getD j .bad) (X (i * sz + j))) →
    ∃ as : List AV, as.length = n * sz ∧ (∀ i, i < n → G ((as.drop (i * sz)).take sz)) ∧ ∀ j, j < n * sz → R (as.getD j .bad) (X j)
  | 0, _ => ⟨[], by simp, fun i h => by omega, fun j h => by simp at h⟩
  | n + 1, h => by
    obtain ⟨as, h1, h2, h3⟩ := glueU sz n fun i hi => h i (by omega)
    obtain ⟨bs, g1, g2, g3⟩ := h n (by omega)
    have e : (n + 1) * sz = n * sz + sz := Nat.succ_mul n sz
    refine ⟨as ++ bs, by rw [List.length_append, h1, g1, e], fun i hi => ?_, fun j hj => ?_⟩
    · by_cases c : i < n
      · have hle : i * sz + sz ≤ n * sz := by rw [← Nat.succ_mul]; exact Nat.mul_le_mul_right sz c
        rw [List.drop_append_of_le_length (by rw [h1]; omega), List.take_append_of_le_length (by rw [List.length_drop, h1]; omega)]
        exact h2 i c
      · have : i = n := by omega
        subst this
        rw [List.drop_append, List.drop_of_length_le (by omega), h1, Nat.sub_self, List.drop_zero, List.nil_append, List.take_of_length_le (by omega)]
        exact g2
    · rw [getD_app, h1]
      split
      · rename_i c; exact h3 j c
      · rename_i c
        have := g3 (j - n * sz) (by omega)
        rwa [show n * sz + (j - n * sz) = j by omega] at this
theorem glueF {P : Program} {G : TypeId → List AV → Prop} : ∀ (fs : List Field) (off fin : Nat), flds P off fs fin = true →
    (∀ f ∈ fs, ∃ as : List AV, as.length = P.cellsOf f.type ∧ G f.type as ∧ ∀ j, j < P.cellsOf f.type → R (as.getD j .bad) (X (f.offset + j))) →
    ∃ as : List AV, off + as.length = fin ∧ (∀ f ∈ fs, off ≤ f.offset ∧ G f.type ((as.drop (f.offset - off)).take (P.cellsOf f.type))) ∧ ∀ j, j < as.length → R (as.getD j .bad) (X (off + j))
  | [], off, fin, h, _ => ⟨[], by simpa [flds] using h, by simp, by simp⟩
  | f :: fs, off, fin, h, hp => by
    simp only [flds, Bool.and_eq_true, beq_iff_eq] at h
    obtain ⟨rfl, h⟩ := h
    obtain ⟨as, h1, h2, h3⟩ := hp f (by simp)
    obtain ⟨bs, g1, g2, g3⟩ := glueF fs _ _ h fun f' hf' => hp f' (by simp [hf'])
    refine ⟨as ++ bs, by rw [List.length_append, h1]; omega, fun f' hf' => ?_, fun j hj => ?_⟩
    · simp only [List.mem_cons] at hf'
      rcases hf' with rfl | hf'
      · refine ⟨Nat.le_refl _, ?_⟩
        rw [Nat.sub_self, List.drop_zero, List.take_append_of_le_length (by omega), List.take_of_length_le (by omega)]
        exact h2
      · obtain ⟨k1, k2⟩ := g2 f' hf'
        refine ⟨by omega, ?_⟩
        rw [List.drop_append, List.drop_of_length_le (by omega), List.nil_append, h1]
        rwa [show f'.offset - f.offset - P.cellsOf f.type = f'.offset - (f.offset + P.cellsOf f.type) by omega]
    · rw [getD_app, h1]
      split
      · rename_i c; exact h3 j c
      · rename_i c
        have := g3 (j - P.cellsOf f.type) (by rw [List.length_append, h1] at hj; omega)
        rwa [show f.offset + P.cellsOf f.type + (j - P.cellsOf f.type) = f.offset + j by omega] at this
end
theorem trod_array {H : Type} {enc : TypeId × Value → H} {P : Program} {w : World} {base : Nat} {spare : Nat → Bool} {held : Bool} {fuel m : Nat} {t e : TypeId} {cs : List Value} {x : DataW H × List MemPlace}
    (ht : P.underlying t = some (.array m e)) (h : DataW.trod enc P w base spare held fuel t cs = some x) :
    ∃ (xs : List (DataW H × List MemPlace)) (n : Nat), fuel = n + 1 ∧ x = (.agg (xs.map (·.1)), xs.flatMap (·.2)) ∧ cs.length = P.cellsOf t ∧ xs.length = m ∧
      ∀ i, i < m → DataW.trod enc P w base spare held n e ((cs.drop (i * P.cellsOf e)).take (P.cellsOf e)) = xs[i]? := by
  cases fuel with
  | zero => simp [DataW.trod] at h
  | succ n =>
    unfold DataW.trod at h
    rw [ht] at h
    split at h <;> simp_all
    obtain ⟨hl, xs, hp, hd⟩ := h
    exact ⟨xs, hd.symm, by simpa using mapM_some_length hp, fun i hi => mapM_some_get hp i i (by simp [hi])⟩
section
variable {C : Ctx} {H : Type} {enc : TypeId × Value → H} {W : World} {sp : Nat → Bool} {held : Bool} {bk : DataW H → Nat} {M : Nat}
theorem getD_sub {cs : List Value} {o n j : Nat} (hj : j < n) : ((cs.drop o).take n).getD j undef = cs.getD (o + j) undef := by
 simp [List.getD_eq_getElem?_getD, List.getElem?_take, hj]
theorem trod_cells (hbk : BulkOk bk) : ∀ {k fuel : Nat} {t : TypeId} {cs : List Value} {x : DataW H × List MemPlace}, plainTy C.P k t = true → DataW.trod enc C.P W 0 sp held fuel t cs = some x → bk x.1 ≤ M →
    ∃ as : List AV, as.length = C.P.cellsOf t ∧ cs.length = C.P.cellsOf t ∧ Cf C.P M k t as ∧ ∀ j, j < C.P.cellsOf t → VRel C loc0 (fun _ => False) W (as.getD j .bad) (cs.getD j undef) ∧ (as.getD j .bad).one = true
  | 0, _, _, _, _, h, _, _ => by simp [plainTy] at h
  | k + 1, fuel, t, cs, x, hp, h, hM => by
    simp only [plainTy] at hp
    have one : ∀ {a : AV} {v : Value}, C.P.cellsOf t = 1 → VRel C loc0 (fun _ => False) W a v → a.one = true → ∀ j, j < C.P.cellsOf t → VRel C loc0 (fun _ => False) W ([a].getD j .bad) ([v].getD j undef) ∧ ([a].getD j .bad).one = true := by
      intro a v hc hv ho j hj
      have : j = 0 := by omega
      subst this
      exact ⟨hv, ho⟩
    split at hp
    · rename_i hu
      have hc : C.P.cellsOf t = 1 := by simpa using hp
      obtain ⟨b, rfl, rfl⟩ := DataW.trod_bool hu h
      exact ⟨[.bool b], by simp [hc], by simp [hc], by simp only [Cf, hu]; exact ⟨b, rfl⟩, one hc (.bool b) rfl⟩
    · rename_i kk hu
      have hc : C.P.cellsOf t = 1 := by simpa using hp
      obtain ⟨n, rfl, rfl, hw⟩ := DataW.trod_int hu h
      simp only [Lit.wf, Bool.and_eq_true, decide_eq_true_eq] at hw
      exact ⟨[.int kk n], by simp [hc], by simp [hc], by simp only [Cf, hu]; exact ⟨n, rfl, hw⟩, one hc (.int kk n) rfl⟩
    · rename_i hu
      have hc : C.P.cellsOf t = 1 := by simpa using hp
      obtain ⟨s, rfl, rfl, hw⟩ := DataW.trod_string hu h
      refine ⟨[.str s.data.toList], by simp [hc], by simp [hc], ?_, one hc (str_rel s) rfl⟩
      simp only [Cf, hu]
      exact ⟨_, rfl, Nat.le_trans (hbk.str _) hM⟩
    · rename_i e hu
      simp only [Bool.and_eq_true, beq_iff_eq] at hp
      obtain ⟨hc, he⟩ := hp
      rcases Deep.open_slice hu h with ⟨rfl, rfl⟩ | ⟨a, len, cap, m, n, D, Pl, rfl, _, hle, _, hm, rfl, hx⟩
      · exact ⟨[.nilsl], by simp [hc], by simp [hc], by simp [Cf, hu], one hc .nilsl rfl⟩
      · have hlm : len ≤ m := by rw [hm]; split <;> omega
        have hlen : len ≤ M := by
          have := hbk.len ((List.range len).map D) ((List.range (m - len)).map fun j => D (len + j))
          simp only [List.length_map, List.length_range] at this
          exact Nat.le_trans this hM
        have each : ∀ i, i < len → ∃ as : List AV, as.length = C.P.cellsOf e ∧ Cf C.P M k e as ∧ ∀ j, j < C.P.cellsOf e → (W.cell? (a.add (i * C.P.cellsOf e + j)) = some ((W.cell? (a.add (i * C.P.cellsOf e + j))).getD undef) ∧
            VRel C loc0 (fun _ => False) W (as.getD j .bad) ((W.cell? (a.add (i * C.P.cellsOf e + j))).getD undef) ∧ (as.getD j .bad).one = true) := by
          intro i hi
          obtain ⟨cs', h1, h2⟩ := hx i (by omega)
          have hD : bk (D i) ≤ M := Nat.le_trans (hbk.sl _ _ _ (by simp; exact ⟨i, hi, rfl⟩)) hM
          obtain ⟨as, g1, g2, g3, g4⟩ := trod_cells hbk he h2 hD
          refine ⟨as, g1, g3, fun j hj => ?_⟩
          obtain ⟨_, _, hcell⟩ := World.cells?_some h1
          have h3 : W.cell? (a.add (i * C.P.cellsOf e + j)) = cs'[j]? := by
            rw [← Deep.add_add]; exact hcell j hj
          have h4 : cs'[j]? = some (cs'.getD j undef) := by rw [List.getD_eq_getElem?_getD, List.getElem?_eq_getElem (by omega)]; rfl
          rw [h3, h4]
          exact ⟨rfl, g4 j hj⟩
        obtain ⟨as, g1, g2, g3⟩ := glueU (R := fun a v => (VRel C loc0 (fun _ => False) W a v ∧ a.one = true)) (X := fun j => (W.cell? (a.add j)).getD undef) (C.P.cellsOf e) len
          (fun i hi => by obtain ⟨as, h1, h2, h3⟩ := each i hi; exact ⟨as, h1, h2, fun j hj => (h3 j hj).2⟩)
        have hcell : ∀ j, j < len * C.P.cellsOf e → W.cell? (a.add j) = some ((W.cell? (a.add j)).getD undef) := by
          intro j hj
          have hs : 0 < C.P.cellsOf e := by
            rcases Nat.eq_zero_or_pos (C.P.cellsOf e) with h0 | h0
            · rw [h0] at hj; simp at hj
            · exact h0
          obtain ⟨_, _, _, q⟩ := each (j / C.P.cellsOf e) (Nat.div_lt_of_lt_mul (by rwa [Nat.mul_comm] at hj))
          have := (q (j % C.P.cellsOf e) (Nat.mod_lt _ hs)).1
          rwa [Nat.div_add_mod'] at this
        have hsp : 0 < len * C.P.cellsOf e → a.spot = none ∧ a.block < W.heap.size := by
          intro hpos
          have h0 := hcell 0 hpos
          have ha : a.add 0 = a := by simp [Addr.add]
          rw [ha] at h0
          unfold World.cell? at h0
          cases hb : W.heap[a.block]? with
          | none => rw [hb] at h0; simp at h0
          | some o =>
            rw [hb] at h0
            refine ⟨?_, ?_⟩
            · cases o <;> simp at h0
              exact h0.1
            · rcases Nat.lt_or_ge a.block W.heap.size with h | h
              · exact h
              · simp [Array.getElem?_eq_none h] at hb
        refine ⟨[.lst as len (C.P.cellsOf e) false], by simp [hc], by simp [hc], ?_, one hc ?_ rfl⟩
        · simp only [Cf, hu]
          exact .inr ⟨as, len, rfl, hlen, g1, g2⟩
        · refine .lst (fun j => (W.cell? (a.add j)).getD undef) g1 hle (fun h => by cases h) (fun hne => ?_) (fun i hi => (g3 i (by omega)).2) (fun i hi => ?_) (fun i hi => (g3 i (by omega)).1)
          · have hpos : 0 < len * C.P.cellsOf e := by
              rw [← g1]
              exact List.length_pos_iff.2 hne
            exact ⟨(hsp hpos).1, (hsp hpos).2, not_mut0 _, fun h => h⟩
          · have := hcell i (by omega)
            rwa [← addr_add_plain a (hsp (by omega)).1 i]
    · rename_i fs hu
      simp only [Bool.and_eq_true, List.all_eq_true] at hp
      obtain ⟨hf, hp⟩ := hp
      obtain ⟨xs, n, rfl, rfl, hl, hlen, hx⟩ := DataW.trod_struct hu h
      obtain ⟨as, g1, g2, g3⟩ := glueF (R := fun a v => VRel C loc0 (fun _ => False) W a v ∧ a.one = true) (X := fun j => cs.getD j undef) (G := Cf C.P M k) fs.toList 0 _ hf (fun f hf' => by
        obtain ⟨i, hi⟩ := List.mem_iff_getElem?.1 hf'
        have hi' : fs[i]? = some f := by simpa using hi
        have h1 := hx i f hi'
        have hil : i < xs.length := by
          rw [hlen]
          rcases Nat.lt_or_ge i fs.size with h | h
          · exact h
          · simp [Array.getElem?_eq_none h] at hi'
        rw [List.getElem?_eq_getElem hil] at h1
        have hM' : bk (xs[i]).1 ≤ M := Nat.le_trans (hbk.agg _ _ (List.mem_map.2 ⟨_, List.getElem_mem hil, rfl⟩)) hM
        obtain ⟨as, q1, q2, q3, q4⟩ := trod_cells hbk (hp f hf') h1 hM'
        refine ⟨as, q1, q3, fun j hj => ?_⟩
        have := q4 j hj
        rwa [getD_sub hj] at this)
      refine ⟨as, by omega, hl, ?_, fun j hj => ?_⟩
      · simp only [Cf, hu]
        exact ⟨by omega, fun f hf' => by simpa using (g2 f hf').2⟩
      · simpa using g3 j (by omega)
    · rename_i m e hu
      simp only [Bool.and_eq_true, beq_iff_eq] at hp
      obtain ⟨hc, he⟩ := hp
      obtain ⟨xs, n, rfl, rfl, hl, hlen, hx⟩ := trod_array hu h
      obtain ⟨as, g1, g2, g3⟩ := glueU (R := fun a v => VRel C loc0 (fun _ => False) W a v ∧ a.one = true) (X := fun j => cs.getD j undef) (G := Cf C.P M k e) (C.P.cellsOf e) m (fun i hi => by
        have h1 := hx i hi
        have hil : i < xs.length := by omega
        rw [List.getElem?_eq_getElem hil] at h1
        have hM' : bk (xs[i]).1 ≤ M := Nat.le_trans (hbk.agg _ _ (List.mem_map.2 ⟨_, List.getElem_mem hil, rfl⟩)) hM
        obtain ⟨as, q1, q2, q3, q4⟩ := trod_cells hbk he h1 hM'
        refine ⟨as, q1, q3, fun j hj => ?_⟩
        have := q4 j hj
        rwa [getD_sub hj] at this)
      refine ⟨as, by rw [g1, hc], hl, ?_, fun j hj => g3 j (by omega)⟩
      simp only [Cf, hu]
      exact ⟨by rw [g1, hc], g2⟩
    · simp at hp
theorem arg_cell (hbk : BulkOk bk) {k : Nat} {t : TypeId} {v : Value} {d : DataW H} {ps : List MemPlace} (hc : C.P.cellsOf t = 1) (hp : plainTy C.P k t = true) (hv : v.cells = #[v])
    (h : DataW.Trod enc C.P W 0 sp held t v d ps) (hM : bk d ≤ M) : ∃ a, Cf C.P M k t [a] ∧ VRel C loc0 (fun _ => False) W a v := by
  obtain ⟨fuel, hf⟩ := h
  obtain ⟨as, h1, h2, h3, h4⟩ := trod_cells (C := C) hbk hp hf hM
  rw [hc] at h1
  obtain ⟨a, rfl⟩ := List.length_eq_one_iff.1 h1
  refine ⟨a, h3, ?_⟩
  have := (h4 0 (by omega)).1
  rw [hv] at this
  exact this
end
end Go.AE
namespace Go.AE
open Go
theorem laid_get {P : Program} {w : World} : ∀ {l : List (String × DataW Unit)} {ps : List MemPlace}, DataW.LaidVars P w l ps → ∀ {i : Nat} {n : String} {d : DataW Unit}, l[i]? = some (n, d) →
  ∃ g t cs fuel p, P.globalNamed n = some g ∧ (P.globals[g]?).map (·.type) = some t ∧ (∃ e fz, w.heap[g]? = some (.cells cs e fz)) ∧ DataW.trod (fun _ => ()) P w 0 (fun _ => true) false fuel t cs.toList = some (d, p) ∧ ∀ j, j < cs.size → MemPlace.cell g j ∈ ps
 | [], _, _, i, n, d, h => by simp at h
 | (n', d') :: r, ps, hl, i, n, d, h => by
  obtain ⟨g, t, cs, fuel, p, q, h1, h2, h3, h4, h5, rfl⟩ := hl
  cases i with
  | zero =>
   simp at h
   obtain ⟨rfl, rfl⟩ := h
   refine ⟨g, t, cs, fuel, p, h1, h2, ?_, h4, fun j hj => by simp [MemPlace.row, hj]⟩
   unfold World.var? at h3
   rw [h1] at h3
   simp only [Option.bind_some] at h3
   split at h3
   ·rename_i cs' e fz hb
    simp at h3
    subst h3
    exact ⟨e, fz, hb⟩
   ·simp at h3
  | succ i =>
   obtain ⟨g', t', cs', f', p', k1, k2, k3, k4, k5⟩ := laid_get h5 (i := i) (by simpa using h)
   exact ⟨g', t', cs', f', p', k1, k2, k3, k4, fun j hj => by simp [k5 j hj]⟩
theorem laid_of {P : Program} {w : World} {l : List (String × DataW Unit)} (hn : l.filter (fun x => x.2.handleName?.isSome) = []) (h : laidMetH P l w) : ∃ ps, DataW.LaidVars P w l ps ∧ ∀ b off, MemPlace.cell b off ∈ ps → ∀ u v, w.cell? ⟨b, off, none⟩ = some (.iface u v) → Value.okWide P w .any 0 u v := by
 unfold laidMetH at h
 rw [hn] at h
 obtain ⟨ps, h, _, h2⟩ := h
 exact ⟨ps, h, fun b off hm u v hc => (h2 b off hm).2 u v hc⟩
section
variable {C : Ctx} {W : World}
theorem heap_lt {B : Nat} {o : Obj} (h : W.heap[B]? = some o) : B < W.heap.size := by
 rcases Nat.lt_or_ge B W.heap.size with h' | h'
 ·exact h'
 ·simp [Array.getElem?_eq_none h'] at h
theorem glob_ints {laid : List (String × DataW Unit)} {ps : List MemPlace} (hl : DataW.LaidVars C.P W laid ps) {i : Nat} {n : String} {k : IntKind} {ns : List Int} (hi : laid[i]? = some (n, .agg (ns.map fun x => .lit (.int k x))))
    {g t e m : Nat} (hg : C.P.globalNamed n = some g) (ht : (C.P.globals[g]?).map (·.type) = some t) (hu : C.P.underlying t = some (.array m e)) (he : C.P.underlying e = some (.int k)) (hce : C.P.cellsOf e = 1) (hct : C.P.cellsOf t = ns.length) (hm : m = ns.length) :
    VRel C loc0 (fun _ => False) W (.elt (ns.map (.int k)) 0) (.pointer (some ⟨g, 0, none⟩)) := by
  obtain ⟨g', t', cs, fuel, p, h1, h2, ⟨ty, fz, h3⟩, h4, hmem⟩ := laid_get hl hi
  rw [hg] at h1
  obtain rfl := Option.some.inj h1
  rw [ht] at h2
  obtain rfl := Option.some.inj h2
  obtain ⟨xs, f, rfl, hx, hlen, hxl, hel⟩ := trod_array hu h4
  simp only [Prod.mk.injEq, DataW.agg.injEq] at hx
  obtain ⟨hx, _⟩ := hx
  rw [hce] at hel
  have key : ∀ j, j < ns.length → W.cell? ⟨g, 0 + j, none⟩ = some (.int k (ns.getD j 0)) := by
    intro j hj
    have h5 := hel j (by omega)
    have hjx : j < xs.length := by omega
    rw [List.getElem?_eq_getElem hjx] at h5
    obtain ⟨v, hv, hv2, _⟩ := DataW.trod_int he h5
    have h6 : (xs[j]).1 = .lit (.int k (ns.getD j 0)) := by
      have := congrArg (fun l => l[j]?) hx
      simp only [List.getElem?_map, List.getElem?_eq_getElem hjx, List.getElem?_eq_getElem hj, Option.map_some, Option.some.injEq] at this
      rw [← this]
      simp [List.getD_eq_getElem?_getD, hj]
    rw [hv2] at h6
    simp at h6
    subst h6
    have hjc : j < cs.toList.length := by omega
    have h7 : cs.toList[j]? = some (.int k (ns.getD j 0)) := by
      have := congrArg (fun l => l[0]?) hv
      simpa [List.getElem?_take] using this
    unfold World.cell?
    rw [h3]
    simpa using h7
  have hgl := heap_lt h3
  refine .elt (fun j => .int k (ns.getD j 0)) hgl (not_mut0 _) (fun h => h) (fun j hj => ?_) (fun j hj => key j (by simpa using hj)) (fun j hj => ?_)
  · simp at hj
    simp [List.getD_eq_getElem?_getD, hj, AV.one]
  · simp at hj
    have : (ns.map (AV.int k)).getD j .bad = .int k (ns.getD j 0) := by simp [List.getD_eq_getElem?_getD, hj]
    rw [this]
    exact .int k _
def isIface (P : Program) (t : TypeId) : Bool := match P.underlying t with
 | some (.interface _) => true
 | _ => false
theorem glob_bad {laid : List (String × DataW Unit)} {ps : List MemPlace} (hl : DataW.LaidVars C.P W laid ps) {i : Nat} {n name : String} {d : DataW Unit} (hi : laid[i]? = some (n, .iface name d))
    {g t : TypeId} (hg : C.P.globalNamed n = some g) (ht : (C.P.globals[g]?).map (·.type) = some t) (hi' : isIface C.P t = true) :
    VRel C loc0 (fun _ => False) W (.elt [.bad] 0) (.pointer (some ⟨g, 0, none⟩)) := by
  obtain ⟨ms, hu⟩ : ∃ ms, C.P.underlying t = some (.interface ms) := by
    unfold isIface at hi'
    split at hi'
    · rename_i ms h; exact ⟨ms, h⟩
    · simp at hi'
  obtain ⟨g', t', cs, fuel, p, h1, h2, ⟨ty, fz, h3⟩, h4, hmem⟩ := laid_get hl hi
  rw [hg] at h1
  obtain rfl := Option.some.inj h1
  rw [ht] at h2
  obtain rfl := Option.some.inj h2
  obtain ⟨u, v, hcs⟩ : ∃ u v, cs.toList = [.iface u v] := by
    cases fuel with
    | zero => simp [DataW.trod] at h4
    | succ q =>
      unfold DataW.trod at h4
      rw [hu] at h4
      generalize hq : cs.toList = l at h4
      split at h4 <;> try (simp_all; done)
  have hcell : W.cell? ⟨g, 0, none⟩ = some (.iface u v) := by
    unfold World.cell?
    rw [h3]
    have : cs = #[.iface u v] := by rw [← Array.toArray_toList (xs := cs), hcs]
    simp [this]
  refine .elt (fun _ => .iface u v) (heap_lt h3) (not_mut0 _) (fun h => h) (fun j hj => ?_) (fun j hj => ?_) (fun j hj => ?_)
  · simp at hj; subst hj; rfl
  · simp at hj; subst hj; exact hcell
  · simp at hj; subst hj; exact .bad _ rfl
end
end Go.AE
namespace Go.AE
open Go
def ArgOk (P : Program) (M k : Nat) (t : TypeId) (a : AV) : Prop :=
 match P.underlying t with
 | some (.struct _) => ∃ as, a = .agg as ∧ Cf P M k t as
 | _ => Cf P M k t [a]
def ArgsOk (P : Program) (M k : Nat) : List TypeId → List AV → Prop
 | [], [] => True
 | t :: ts, a :: as => ArgOk P M k t a ∧ ArgsOk P M k ts as
 | _, _ => False
def argTy (P : Program) (k : Nat) (t : TypeId) : Bool := plainTy P k t && match P.underlying t with
 | some (.array ..) => false
 | _ => true
section
variable {C : Ctx} {W : World} {H : Type} {enc : TypeId × Value → H} {bk : DataW H → Nat} {M base : Nat} {sp : Nat → Bool} {held : Bool}
theorem arg_read (hbk : BulkOk bk) {k : Nat} {t : TypeId} {v : Value} {d : DataW H} {ps : List MemPlace} (hp : argTy C.P k t = true)
    (hok : Value.okWide C.P W .any base t v) (h : DataW.Trod enc C.P W 0 sp held t v d ps) (hM : bk d ≤ M) : ∃ a, ArgOk C.P M k t a ∧ VRel C loc0 (fun _ => False) W a v := by
  unfold argTy at hp
  simp only [Bool.and_eq_true] at hp
  obtain ⟨hp, ha⟩ := hp
  cases k with
  | zero => simp [plainTy] at hp
  | succ k =>
  have hp0 := hp
  unfold plainTy at hp
  unfold ArgOk
  split at hp
  · rename_i hu
    obtain ⟨b, rfl⟩ := WideShapes.okWide_bool hu hok
    rw [hu]
    exact arg_cell hbk (by simpa using hp) hp0 rfl h hM
  · rename_i i hu
    obtain ⟨b, rfl⟩ := WideShapes.okWide_int hu hok
    rw [hu]
    exact arg_cell hbk (by simpa using hp) hp0 rfl h hM
  · rename_i hu
    obtain ⟨b, rfl⟩ := WideShapes.okWide_string hu hok
    rw [hu]
    exact arg_cell hbk (by simpa using hp) hp0 rfl h hM
  · rename_i e hu
    obtain ⟨a, l, c, rfl⟩ := WideShapes.okWide_slice hu hok
    rw [hu]
    exact arg_cell hbk (by simp at hp; exact hp.1) hp0 rfl h hM
  · rename_i fs hu
    obtain ⟨cs, rfl, hs⟩ := WideShapes.okWide_struct hu hok
    rw [hu]
    obtain ⟨fuel, hf⟩ := h
    obtain ⟨as, h1, h2, h3, h4⟩ := trod_cells (C := C) hbk hp0 hf hM
    refine ⟨.agg as, ⟨as, rfl, h3⟩, ?_⟩
    have e : cs = cs.toList.toArray := by simp
    rw [e]
    have h2' : cs.toList.length = C.P.cellsOf t := h2
    exact .agg (by omega) (fun i hi => (h4 i (by omega)).2) (fun i hi => (h4 i (by omega)).1)
  · rename_i m e hu
    rw [hu] at ha
    simp at ha
  · simp at hp
theorem args_read (hbk : BulkOk bk) {k : Nat} : ∀ {ts : List TypeId} {vs : List Value} {ds : List (DataW H)} {ps : List MemPlace}, DataW.TrodAll enc C.P W 0 sp held ts vs ds ps → (∀ t ∈ ts, argTy C.P k t = true) →
    (∀ (j : Nat) t v, ts[j]? = some t → vs[j]? = some v → Value.okWide C.P W .any base t v) → (∀ d ∈ ds, bk d ≤ M) → ∃ as, ArgsOk C.P M k ts as ∧ LRel C loc0 (fun _ => False) W as vs
  | [], [], [], _, _, _, _, _ => ⟨[], trivial, .nil⟩
  | t :: ts, v :: vs, d :: ds, _, h, hp, hv, hM => by
    obtain ⟨p, q, h1, h2, _⟩ := h
    obtain ⟨a, ha, hr⟩ := arg_read (C := C) hbk (hp t (by simp)) (hv 0 t v rfl rfl) h1 (hM d (by simp))
    obtain ⟨as, has, hrs⟩ := args_read hbk h2 (fun t ht => hp t (by simp [ht])) (fun j t v h3 h4 => hv (j + 1) t v (by simpa using h3) (by simpa using h4)) (fun d hd => hM d (by simp [hd]))
    exact ⟨a :: as, ⟨ha, has⟩, .cons hr hrs⟩
  | [], [], _ :: _, _, h, _, _, _ => by simp [DataW.TrodAll] at h
  | [], _ :: _, _, _, h, _, _, _ => by simp [DataW.TrodAll] at h
  | _ :: _, [], _, _, h, _, _, _ => by simp [DataW.TrodAll] at h
  | _ :: _, _ :: _, [], _, h, _, _, _ => by simp [DataW.TrodAll] at h
end
end Go.AE
