/- Operations, part one. -/
import Derived.Test.YtibjieaohbnpgaaGreatDoorA1
import Derived.Laws.StructEq
import Derived.DeepKeys
import Derived.Laws.BytesArg
import Derived.Deep.AppendSrc
set_option linter.all false
set_option linter.unusedSimpArgs false
set_option linter.unusedVariables false
set_option linter.unnecessarySimpa false
set_option linter.deprecated false
namespace Go.AE
open Go
variable {C : Ctx} {φ φ' : Loc} {N : Nat → Prop} {W W' : World} {T : Tmps} {a : Act} {H : AHeap}
theorem part_len {cs : List AV} {o sz : Nat} {ag : Bool} {w : AV} (h : AE.part cs o sz ag = some w) (hs : ag = false → sz = 1) : o + sz ≤ cs.length := by
 unfold AE.part at h
 cases ag with
 | true => simp at h; exact h.1
 | false =>
  simp at h
  rw [hs rfl]
  rcases Nat.lt_or_ge o cs.length with h1 | h1
  ·omega
  ·simp [List.getElem?_eq_none h1] at h
theorem run_loadVar_cells {t : TypeId} {sz : Nat} {ag : Bool} (hsz : sizeA C.P t = some sz) (hag : aggA C.P t = some ag) {x : Addr} (hx : x.spot = none) {X : Nat → Value} {cs : List AV} {o : Nat} {w : AV}
    (hp : AE.part cs o sz ag = some w) (ho : rowOk cs) (hc : ∀ j, j < (if ag then sz else 1) → W.cell? ⟨x.block, x.off + j, none⟩ = some (X j) ∧ VRel C φ N W (cs.getD (o + j) .bad) (X j)) :
    ∃ Z, (loadVar t x).run C.P W = .ok Z W ∧ VRel C φ N W w Z := by
  unfold AE.part at hp
  cases ag with
  | true =>
    simp only [if_true] at hp hc
    split at hp <;> simp at hp
    rename_i hl
    subst hp
    refine ⟨.agg ((List.range sz).map X).toArray, ?_, .agg ?_ ((ho.drop o).take sz) fun i hi => ?_⟩
    · have := run_loadCells (P := C.P) W x sz X (fun j hj => by rw [add_spot hx]; exact (hc j hj).1)
      simp [loadVar, r_agg hag, r_size hsz, this]
    · simp; omega
    · have hi' : i < sz := by simp at hi; omega
      have := (hc i hi').2
      simpa [List.getD_eq_getElem?_getD, List.getElem?_take, hi', List.getElem?_drop] using this
  | false =>
    simp only [Bool.false_eq_true, if_false] at hp hc
    obtain ⟨h1, h2⟩ := hc 0 (by omega)
    refine ⟨X 0, ?_, ?_⟩
    · have e : (⟨x.block, x.off + 0, none⟩ : Addr) = x := by cases x; simp at hx; subst hx; rfl
      rw [e] at h1
      simp [loadVar, r_agg hag, h1]
    · simpa [List.getD_eq_getElem?_getD, hp] using h2
theorem load_ok (hH : HRel C φ N H W) {t : TypeId} {sz : Nat} {ag : Bool} (hsz : sizeA C.P t = some sz) (hag : aggA C.P t = some ag) (hone : ag = false → sz = 1) {u w : AV} {X : Value} {H' : AHeap} {k : Kd}
    (hu : VRel C φ N W u X) (h : loadA H sz ag u = some (w, H', k)) : H' = H ∧ ∃ Z, (Instr.loadAt t X).run C.P W = .ok Z W ∧ VRel C φ N W w Z := by
  cases hu with
  | @elt cs o B O X hB hm hN hro hc hr =>
    simp only [loadA] at h
    obtain ⟨hp, rfl, rfl⟩ := pureV_some h
    refine ⟨rfl, ?_⟩
    have hl := part_len hp hone
    obtain ⟨Z, h1, h2⟩ := run_loadVar_cells (C := C) (φ := φ) (N := N) (W := W) hsz hag (x := ⟨B, O + o, none⟩) rfl (X := fun j => X (o + j)) hp hro (fun j hj => by
      have hj' : o + j < cs.length := by cases ag <;> simp at hj <;> have := hone <;> simp_all <;> omega
      exact ⟨by simpa [Nat.add_assoc] using hc (o + j) hj', hr (o + j) hj'⟩)
    exact ⟨Z, by simpa [Instr.loadAt, Instr.sureAddr] using h1, h2⟩
  | @ptr b o v B O hφ =>
    simp only [loadA] at h
    split at h <;> try simp at h
    rename_i cs tag wv st hb
    obtain ⟨⟨h1, h2, h3, h4⟩, h⟩ := h
    obtain ⟨hp, rfl, rfl⟩ := readV_some h
    obtain ⟨_, _, _, hB⟩ := hH.blk b _ hb
    obtain ⟨Cs, e, fz, g1, g2, _, _, g5, g6, _⟩ := hB h1 v B O hφ h2
    refine ⟨rfl, ?_⟩
    obtain ⟨Z, k1, k2⟩ := run_loadVar_cells (C := C) (φ := φ) (N := N) (W := W) hsz hag (x := ⟨B, O + o, none⟩) rfl (X := fun j => Cs.getD (O + (o + j)) undef) hp g6 (fun j hj => by
      have hj' : o + j < v := by cases ag <;> simp at hj <;> have := hone <;> simp_all <;> omega
      refine ⟨?_, g5 (o + j) hj'⟩
      have hlt : O + (o + j) < Cs.size := by omega
      rw [cell_of g1]
      simp only [Nat.add_assoc]
      simp [Array.getD, hlt])
    exact ⟨Z, by simpa [Instr.loadAt, Instr.sureAddr] using k1, k2⟩
  | _ => simp [loadA] at h
theorem s_load {o : Oper} {t : TypeId} {x : Operand} {x' : Opd} {sz : Nat} {ag : Bool} {v : AV} {H' : AHeap} {k : Kd} (ho : o.op = .load t x) (hx : lowOpd C.τ x = some x')
    (hsz : sizeA C.P t = some sz) (hag : aggA C.P t = some ag) (hone : ag = false → sz = 1)
    (hS : Slots C φ N W T a) (hH : HRel C φ N H W) (h : opA T H (.load sz ag x') = some (v, H', k)) : OpSound C N φ W o a v H' := by
  obtain ⟨rfl, Z, h1, h2⟩ := load_ok hH hsz hag hone (ev_ok hS hx) (by simpa [opA] using h)
  exact .pure hH (by simp [execOp, ho, h1]) h2
theorem store_cells_ok (hH : HRel C φ N H W) {b o v B O : Nat} (hφ : φ b v = some (B, O)) {l : List AV} {ys : List Value} (hl : LRel C φ N W l ys) (hlo : rowOk l) {H' : AHeap} (h : storeCellsA H b o v l = some H') :
  ∃ W', (storeCells ⟨B, O + o, none⟩ ys).run C.P W = .ok () W' ∧ HRel C φ N H' W' ∧ Ext φ φ W W' := by
 unfold storeCellsA at h
 split at h <;> try simp at h
 rename_i cs tag wv st hb
 obtain ⟨⟨rfl, rfl, h3⟩, rfl⟩ := h
 obtain ⟨hwv, g0, g00, hB⟩ := hH.blk b _ hb
 ·obtain ⟨Cs, e, fz, g1, g2, g3, g4, g5, g6, g7⟩ := hB (by omega) cs.length B O hφ hwv
  have hone : ∀ y ∈ ys, y.oneCell' = true := by
   intro y hy
   obtain ⟨i, hi, rfl⟩ := List.getElem_of_mem hy
   have hi' : i < l.length := hl.1.symm ▸ hi
   have := (hl.2 i hi').one (hlo i hi')
   simpa [List.getD_eq_getElem?_getD, hi] using this
  have hrun := run_storeCells_blk C.P B (O + o) e fz ys 0 W Cs g1 (by have := hl.1; omega) (g7 rfl rfl) hone
  have hm : mutB φ B := ⟨b, cs.length, O, hφ⟩
  have hE : Ext φ φ W (setBlk W B (.cells ⟨putCells Cs.toList (O + o + 0) ys⟩ e fz)) :=
   Ext.setBlk (lt_of_heap g1) hm (fun r h => by rw [g1] at h; simp at h) fun Cs' e' fz' h' => by
    rw [g1] at h'; simp at h'
    obtain ⟨rfl, rfl, rfl⟩ := h'
    exact ⟨_, _, rfl, by simp [putCells_length]⟩
  refine ⟨_, hrun, HRel.put hH hb (by simp [aliveAt, hb]) hφ hE ?_, hE⟩
  have hlen := putCells_length l cs o
  refine ⟨by rw [hlen]; exact Nat.le_refl _, fun v' x hx => by rw [hlen]; exact g0 v' x hx, by rw [hlen]; exact g00, fun _ v' B' O' hx hv' => ?_⟩
  have e1 : v' = cs.length := Nat.le_antisymm (g0 v' _ hx).1 hv'
  subst e1
  rw [hφ] at hx; simp at hx
  obtain ⟨rfl, rfl⟩ := hx
  have hrow := RowRel.put (C := C) (φ := φ) (N := N) (W := W) hl (Cs := Cs) (o := o) g5 (by omega) rfl
  exact ⟨_, e, fz, setBlk_same (lt_of_heap g1), by simp [putCells_length]; omega, g3, g4, fun i hi => by simpa using (hrow i hi).mono hE, g6.put hlo, fun _ _ => by simpa [putCells_length] using g7 rfl rfl⟩
theorem s_store {o : Oper} {t : TypeId} {x y : Operand} {x' y' : Opd} {sz : Nat} {v : AV} {H' : AHeap} {k : Kd} (ho : o.op = .store t x y) (hx : lowOpd C.τ x = some x') (hy : lowOpd C.τ y = some y')
    (hsz : sizeA C.P t = some sz) (hS : Slots C φ N W T a) (hH : HRel C φ N H W) (h : opA T H (.store sz x' y') = some (v, H', k)) : OpSound C N φ W o a v H' := by
  have h1 := ev_ok hS hx
  have h2 := ev_ok hS hy
  simp only [opA, storeA] at h
  split at h <;> try simp at h
  rename_i b of v' hb
  obtain ⟨⟨h3, h4⟩, H1, h5, rfl, rfl, rfl⟩ := h
  rw [hb] at h1
  generalize hz : a.eval x = z at h1
  cases h1 with
  | @ptr _ _ _ B O hφ =>
    obtain ⟨g1, g2⟩ := h2.cellsOk (by omega)
    obtain ⟨W', g3, g4, g5⟩ := store_cells_ok (C := C) hH hφ g2 g1 h5
    refine ⟨φ, undef, W', .inr ⟨?_, rfl⟩, g4, VRel.undef, g5⟩
    have hs : (a.eval y).cells.size = sz := by have := g2.1; simp at this; omega
    simp [execOp, ho, hz, Instr.storeAt, Instr.sureAddr, storeVar, r_size hsz, hs, g3]
theorem newVar_ok (hH : HRel C φ N H W) {t : TypeId} {u : AV} {X : Value} (hu : VRel C φ N W u X) (hn : 0 < u.cells.length) :
  ∃ φ' W', (newVar t X).run C.P W = .ok ⟨W.heap.size, 0, none⟩ W' ∧ HRel C φ' N (H ++ [.cells u.cells (tagA C.P t) u.cells.length 0]) W' ∧ VRel C φ' N W' (.ptr H.length 0 u.cells.length) (.pointer (some ⟨W.heap.size, 0, none⟩)) ∧ Ext φ φ' W W' := by
 obtain ⟨g1, g2⟩ := hu.cellsOk hn
 have hk := BRel.new (rest := #[]) (wv := u.cells.length) (fz := (0, 0)) hH g2 g1 (e := t) rfl (.inl (Nat.le_refl _)) (Nat.le_refl _)
 refine ⟨_, pushBlk W (.cells X.cells t), ?_, HRel.push hH (by simpa using hk), .ptr (by rw [Loc.add_same]), Ext.push (hH.noLoc (Nat.le_refl _)) _⟩
 simp [newVar, newRow, pushBlk]
theorem s_alloc {o : Oper} {t : TypeId} {z v : AV} {H' : AHeap} {k : Kd} (ho : o.op = .alloc t) (hz : zeroA C.P t = some z)
    (hH : HRel C φ N H W) (h : opA T H (.alloc z.cells (tagA C.P t)) = some (v, H', k)) : OpSound C N φ W o a v H' := by
  simp only [opA] at h
  split at h <;> simp at h
  rename_i hn
  obtain ⟨rfl, rfl, rfl⟩ := h
  obtain ⟨x, h1, h2⟩ := r_zero hz W
  obtain ⟨φ', W', h3, h4, h5, h6⟩ := newVar_ok (t := t) hH (constA_ok (C := C) (φ := φ) (N := N) (W := W) x z h2).1 (by omega)
  exact ⟨φ', _, W', .inl (by simp [execOp, ho, Instr.alloc, h1, h3]), h4, h5, h6⟩
theorem s_box {o : Oper} {t : TypeId} {x : Operand} {x' : Opd} {v : AV} {H' : AHeap} {k : Kd} (ho : o.op = .box t x) (hx : lowOpd C.τ x = some x')
    (hS : Slots C φ N W T a) (hH : HRel C φ N H W) (h : opA T H (.box (tagA C.P t) x') = some (v, H', k)) : OpSound C N φ W o a v H' := by
  simp only [opA, newVarA] at h
  split at h <;> simp at h
  rename_i hn
  obtain ⟨rfl, rfl, rfl⟩ := h
  obtain ⟨φ', W', h3, h4, h5, h6⟩ := newVar_ok (t := t) hH (ev_ok hS hx) hn
  exact ⟨φ', _, W', .inl (by simp [execOp, ho, Instr.box, h3]), h4, h5, h6⟩
theorem add_ok {u w : AV} {X : Value} {off : Nat} (hu : VRel C φ N W u X) (h : addA off u = some w) : ∃ x, X = .pointer (some x) ∧ VRel C φ N W w (.pointer (some (x.add off))) := by
  cases hu with
  | ptr hφ => simp [addA] at h; subst h; exact ⟨_, rfl, by rw [add_none, Nat.add_assoc]; exact .ptr hφ⟩
  | elt X hB hm hN ho hc hr => simp [addA] at h; subst h; exact ⟨_, rfl, by rw [add_none, Nat.add_assoc]; exact .elt X hB hm hN ho hc hr⟩
  | _ => simp [addA] at h
theorem s_fieldAddr {o : Oper} {t : TypeId} {x : Operand} {x' : Opd} {i sz : Nat} {fs : Array Field} {f : Field} {v : AV} {H' : AHeap} {k : Kd} (ho : o.op = .fieldAddr t x i) (hx : lowOpd C.τ x = some x')
    (hd : C.P.underlying t = some (.struct fs)) (hf : fs[i]? = some f) (hsz : sizeA C.P f.type = some sz) (hn : sz ≠ 0)
    (hS : Slots C φ N W T a) (hH : HRel C φ N H W) (h : opA T H (.fieldAddr f.offset x') = some (v, H', k)) : OpSound C N φ W o a v H' := by
  obtain ⟨hw, rfl, rfl⟩ := pureV_some (by simpa [opA] using h)
  obtain ⟨y, h1, h2⟩ := add_ok (ev_ok hS hx) hw
  exact .pure hH (by simp [execOp, ho, Instr.fieldAt, r_underlying hd, hf, h1, Instr.sureAddr, fieldPlace, r_size hsz, hn]) h2
theorem s_idxArrAddr {o : Oper} {t e : TypeId} {x i : Operand} {x' i' : Opd} {len sz : Nat} {v : AV} {H' : AHeap} {k : Kd} (ho : o.op = .indexAddr t x i) (hx : lowOpd C.τ x = some x') (hi : lowOpd C.τ i = some i')
    (hd : C.P.underlying t = some (.array len e)) (hsz : sizeA C.P e = some sz)
    (hS : Slots C φ N W T a) (hH : HRel C φ N H W) (h : opA T H (.idxArrAddr len sz x' i') = some (v, H', k)) : OpSound C N φ W o a v H' := by
  simp only [opA] at h
  split at h <;> try simp at h
  rename_i n hn
  obtain ⟨⟨h0, hlt⟩, h⟩ := h
  obtain ⟨hw, rfl, rfl⟩ := pureV_some h
  obtain ⟨kk, hk⟩ := asI_ok (ev_ok hS hi) hn
  obtain ⟨y, h1, h2⟩ := add_ok (ev_ok hS hx) hw
  exact .pure hH (by simp [execOp, ho, hk, h1, Instr.indexAt, r_underlying hd, asIntOf, Instr.sureAddr, h0, hlt, r_size hsz]) h2
theorem s_idxAddr {o : Oper} {t e : TypeId} {x i : Operand} {x' i' : Opd} {sz : Nat} {v : AV} {H' : AHeap} {k : Kd} (ho : o.op = .indexAddr t x i) (hx : lowOpd C.τ x = some x') (hi : lowOpd C.τ i = some i')
    (hd : C.P.underlying t = some (.slice e)) (hsz : sizeA C.P e = some sz)
    (hS : Slots C φ N W T a) (hH : HRel C φ N H W) (h : opA T H (.idxAddr sz x' i') = some (v, H', k)) : OpSound C N φ W o a v H' := by
  obtain ⟨hw, rfl, rfl⟩ := pureV_some (by simpa [opA] using h)
  have h1 := ev_ok hS hx
  unfold idxAddrA at hw
  split at hw <;> try simp at hw
  · rename_i cs n sz' ex iv hb hn
    obtain ⟨⟨rfl, h0, hlt, hsz0⟩, rfl⟩ := hw
    obtain ⟨kk, hk⟩ := asI_ok (ev_ok hS hi) hn
    rw [hb] at h1
    generalize hz : a.eval x = z at h1
    cases h1 with
    | @lst _ _ _ cap _ ad X hl hcap hex ha hro hc hr =>
      by_cases hne : cs = []
      · subst hne
        have : 0 < n * sz' := Nat.mul_pos (by omega) hsz0
        simp at hl; omega
      · obtain ⟨a1, a2, a3, a4⟩ := ha hne
        refine .pure hH (x := .pointer (some (ad.add (iv.toNat * sz')))) ?_ ?_
        · simp [execOp, ho, hz, hk, Instr.indexAt, r_underlying hd, asIntOf, h0, hlt, r_size hsz]
        · rw [add_spot a1]
          exact .elt X a2 a3 a4 hro hc hr
  · rename_i b of n sz' v' cap iv hb hn
    obtain ⟨⟨rfl, h0, hlt⟩, rfl⟩ := hw
    obtain ⟨kk, hk⟩ := asI_ok (ev_ok hS hi) hn
    rw [hb] at h1
    generalize hz : a.eval x = z at h1
    cases h1 with
    | @sl _ _ _ _ _ B O cap' _ ad Cs e' fz hφ hcap hex hW hr ha =>
      have : ad = ⟨B, O + of, none⟩ := ha.resolve_right (by omega)
      subst this
      refine .pure hH (x := .pointer (some ((⟨B, O + of, none⟩ : Addr).add (iv.toNat * sz')))) ?_ ?_
      · simp [execOp, ho, hz, hk, Instr.indexAt, r_underlying hd, asIntOf, h0, hlt, r_size hsz]
      · rw [add_none, Nat.add_assoc]
        exact .ptr hφ
theorem bounds_ok {n : Nat} {lo hi : Option AV} {l h : Nat} (hb : bounds n lo hi = some (l, h)) : l ≤ h ∧ h ≤ n ∧
    (∀ v, lo = some v → asI v = some (l : Int)) ∧ (lo = none → l = 0) ∧ (∀ v, hi = some v → asI v = some (h : Int)) ∧ (hi = none → h = n) := by
  unfold bounds at hb
  split at hb <;> try simp at hb
  rename_i l' h' hl hh
  obtain ⟨⟨h1, h2, h3⟩, rfl, rfl⟩ := hb
  have e1 : ((l'.toNat : Nat) : Int) = l' := by omega
  have e2 : ((h'.toNat : Nat) : Int) = h' := by omega
  refine ⟨by omega, by omega, fun v hv => by subst hv; simpa [e1, loI] using hl, fun hv => by subst hv; simp [loI] at hl; omega, fun v hv => by subst hv; simpa [e2, hiI] using hh, fun hv => by subst hv; simp [hiI] at hh; omega⟩
theorem evo_ok (hS : Slots C φ N W T a) {x : Option Operand} {x' : Option Opd} (hl : lowO C.τ x = some x') :
    (x = none ∧ evo T x' = none) ∨ ∃ y v, x = some y ∧ evo T x' = some v ∧ VRel C φ N W v (a.eval y) := by
  cases x with
  | none => simp [lowO] at hl; subst hl; exact .inl ⟨rfl, rfl⟩
  | some y =>
    simp only [lowO, Option.map_eq_some_iff] at hl
    obtain ⟨y', hy, rfl⟩ := hl
    exact .inr ⟨y, _, rfl, rfl, ev_ok hS hy⟩
theorem sliceBounds_ok (hS : Slots C φ N W T a) {lo hi : Option Operand} {lo' hi' : Option Opd} (hlo : lowO C.τ lo = some lo') (hhi : lowO C.τ hi = some hi') {n cap l h : Nat} (hc : n ≤ cap) (isSlice : Bool)
    (hb : bounds n (evo T lo') (evo T hi') = some (l, h)) : (Instr.sliceBounds isSlice n cap (lo.map a.eval) (hi.map a.eval) none).run C.P W = .ok (l, h, cap) W := by
  obtain ⟨b1, b2, b3, b4, b5, b6⟩ := bounds_ok hb
  have hh : (match hi.map a.eval with | some v => Instr.sliceBound v cap (if isSlice then .sliceAcap else .sliceAlen) | none => (Pure.pure n : Sem Nat)).run C.P W = .ok h W := by
    rcases evo_ok hS hhi with ⟨rfl, e⟩ | ⟨y, v, rfl, e, hv⟩
    · simp [b6 e]
    · obtain ⟨kk, hk⟩ := asI_ok hv (b5 v e)
      have : (h : Int) ≤ cap := by omega
      simp [hk, Instr.sliceBound, asIntOf, this]
  have hll : (match lo.map a.eval with | some v => Instr.sliceBound v h (if (none : Option Value).isSome then .slice3C else .sliceB) | none => (Pure.pure 0 : Sem Nat)).run C.P W = .ok l W := by
    rcases evo_ok hS hlo with ⟨rfl, e⟩ | ⟨y, v, rfl, e, hv⟩
    · simp [b4 e]
    · obtain ⟨kk, hk⟩ := asI_ok hv (b3 v e)
      have : (l : Int) ≤ h := by omega
      simp [hk, Instr.sliceBound, asIntOf, this]
  unfold Instr.sliceBounds
  cases hi <;> cases lo <;> simp_all
theorem s_slStr {o : Oper} {t : TypeId} {x : Operand} {lo hi : Option Operand} {x' : Opd} {lo' hi' : Option Opd} {v : AV} {H' : AHeap} {k : Kd} (ho : o.op = .slice t x lo hi none) (hx : lowOpd C.τ x = some x')
    (hlo : lowO C.τ lo = some lo') (hhi : lowO C.τ hi = some hi') (hd : C.P.underlying t = some .string)
    (hS : Slots C φ N W T a) (hH : HRel C φ N H W) (h : opA T H (.slStr x' lo' hi') = some (v, H', k)) : OpSound C N φ W o a v H' := by
  have h1 := ev_ok hS hx
  simp only [opA] at h
  split at h <;> try simp at h
  rename_i s hs
  split at h <;> try simp at h
  rename_i l hh hb
  obtain ⟨hw, rfl, rfl⟩ := pureV_some h
  simp at hw; subst hw
  rw [hs] at h1
  generalize hz : a.eval x = z at h1
  cases h1
  have := sliceBounds_ok (C := C) (W := W) hS hlo hhi (Nat.le_refl _) false hb
  refine .pure hH (x := .string ⟨((s.take hh).drop l).toArray⟩) ?_ (.str _)
  simp [execOp, ho, hz, Instr.sliceAt, Instr.slice, r_underlying hd, bytes_size, this, bytes_extract]
theorem drop_take_getD {cs : List AV} {p q i : Nat} (hi : i < ((cs.drop p).take q).length) : ((cs.drop p).take q).getD i .bad = cs.getD (p + i) .bad := by
 have h1 : i < q := by simp at hi; omega
 simp [List.getD_eq_getElem?_getD, List.getElem?_take, h1, List.getElem?_drop]
theorem s_slSl {o : Oper} {t e : TypeId} {x : Operand} {lo hi mx : Option Operand} {x' : Opd} {lo' hi' mx' : Option Opd} {sz : Nat} {v : AV} {H' : AHeap} {k : Kd} (ho : o.op = .slice t x lo hi mx) (hx : lowOpd C.τ x = some x')
    (hlo : lowO C.τ lo = some lo') (hhi : lowO C.τ hi = some hi') (hmx : lowO C.τ mx = some mx') (hd : C.P.underlying t = some (.slice e)) (hsz : sizeA C.P e = some sz)
    (hS : Slots C φ N W T a) (hH : HRel C φ N H W) (h : opA T H (.slSl sz x' lo' hi' mx') = some (v, H', k)) : OpSound C N φ W o a v H' := by
  have h1 := ev_ok hS hx
  obtain ⟨hw, rfl, rfl⟩ := pureV_some (by simpa only [opA] using h)
  clear h
  unfold sliceA at hw
  split at hw <;> try (simp at hw; done)
  · -- nil
    rename_i hb
    split at hw <;> try (simp at hw; done)
    rename_i lh hbd
    obtain ⟨l, hh⟩ := lh
    split at hw <;> simp at hw
    rename_i hm
    subst hw
    rw [hb] at h1
    generalize hz : a.eval x = z at h1
    cases h1
    have hmn : mx = none := by
      rcases evo_ok hS hmx with ⟨rfl, _⟩ | ⟨y, u, rfl, e1, _⟩
      · rfl
      · rw [e1] at hm; simp at hm
    subst hmn
    obtain ⟨b1, b2, _⟩ := bounds_ok hbd
    have := sliceBounds_ok (C := C) (W := W) hS hlo hhi (Nat.le_refl 0) true hbd
    have e1 : hh = 0 := by omega
    have e2 : l = 0 := by omega
    subst e1; subst e2
    refine .pure hH (x := .slice none 0 0) ?_ .nilsl
    simp [execOp, ho, hz, Instr.sliceAt, Instr.slice, r_underlying hd, this, r_size hsz]
  · -- a row that nobody writes
    rename_i cs n sz' ex hb
    split at hw <;> try (simp at hw; done)
    rename_i hsz'
    subst hsz'
    split at hw <;> try (simp at hw; done)
    rename_i l hh hbd
    split at hw <;> try (simp at hw; done)
    rename_i hm
    simp at hw
    subst hw
    rw [hb] at h1
    generalize hz : a.eval x = z at h1
    cases h1 with
    | @lst _ _ _ cap _ ad X hl hcap hex ha hro hc hr =>
      have hmn : mx = none := by
        rcases evo_ok hS hmx with ⟨rfl, _⟩ | ⟨y, u, rfl, e1, _⟩
        · rfl
        · rw [e1] at hm; simp at hm
      subst hmn
      obtain ⟨b1, b2, _⟩ := bounds_ok hbd
      have hsb := sliceBounds_ok (C := C) (W := W) hS hlo hhi hcap true hbd
      refine .pure hH (x := .slice (some (if cap = l then ad else ad.add (l * sz'))) (hh - l) (cap - l)) ?_ ?_
      · simp only [execOp, ho, hz, Instr.sliceAt, r_underlying hd, Sem.run_bind, Instr.slice, Result.andThen_ok, Option.map_none, hsb, r_size hsz, Sem.run_pure]
        split <;> simp
      · have hle : l * sz' + (hh - l) * sz' ≤ n * sz' := by
          rw [← Nat.add_mul]; exact Nat.mul_le_mul_right _ (by omega)
        have hlen : ((cs.drop (l * sz')).take ((hh - l) * sz')).length = (hh - l) * sz' := by simp; omega
        by_cases hne : (cs.drop (l * sz')).take ((hh - l) * sz') = []
        · refine .lst (fun _ => undef) hlen (by omega) (fun he => ?_) (fun h => absurd hne h) ((hro.drop _).take _) (fun i hi => by rw [hne] at hi; simp at hi) (fun i hi => by rw [hne] at hi; simp at hi)
          simp at he; have := hex he.1; omega
        · have hpos : 0 < (hh - l) * sz' := by
            rcases Nat.eq_zero_or_pos ((hh - l) * sz') with h0 | h0
            · exact absurd (by rw [h0]; simp) hne
            · exact h0
          have hne' : cs ≠ [] := by rintro rfl; simp at hne
          obtain ⟨a1, a2, a3, a4⟩ := ha hne'
          have hll : l < hh := by
            rcases Nat.lt_or_ge l hh with h0 | h0
            · exact h0
            · rw [Nat.sub_eq_zero_of_le h0] at hpos; simp at hpos
          have hcl : ¬ cap = l := by omega
          rw [if_neg hcl, add_spot a1]
          refine .lst (fun i => X (l * sz' + i)) hlen (by omega) (fun he => ?_) (fun _ => ⟨rfl, a2, a3, a4⟩) ((hro.drop _).take _) (fun i hi => ?_) (fun i hi => ?_)
          · simp at he; have := hex he.1; omega
          · have := hc (l * sz' + i) (by rw [hlen] at hi; omega)
            simpa [Nat.add_assoc] using this
          · rw [drop_take_getD hi]
            exact hr (l * sz' + i) (by rw [hlen] at hi; omega)
  · -- an own slice
    rename_i b of n sz' v' cap hb
    split at hw <;> try (simp at hw; done)
    rename_i hsz'
    subst hsz'
    split at hw <;> try (simp at hw; done)
    rename_i l hh hbd
    rw [hb] at h1
    generalize hz : a.eval x = z at h1
    cases h1 with
    | @sl _ _ _ _ _ B O cap' _ ad Cs e' fz hφ hcap hex hW hr ha =>
      obtain ⟨b1, b2, b3, b4, b5, b6⟩ := bounds_ok hbd
      have hle : ∀ m, l ≤ m → m ≤ cap' → O + (of + l * sz') + (m - l) * sz' ≤ Cs.size := by
        intro m hm1 hm2
        have : l * sz' + (m - l) * sz' ≤ cap' * sz' := by rw [← Nat.add_mul]; exact Nat.mul_le_mul_right _ (by omega)
        omega
      have hmn : mx = none := by
        rcases evo_ok hS hmx with ⟨rfl, _⟩ | ⟨y, u, rfl, e1, _⟩
        · rfl
        · rw [e1] at hw; simp at hw
      subst hmn
      split at hw <;> simp at hw
      subst hw
      have hsb := sliceBounds_ok (C := C) (W := W) hS hlo hhi hcap true hbd
      refine .pure hH (x := .slice (some (if cap' = l then ad else ad.add (l * sz'))) (hh - l) (cap' - l)) ?_ ?_
      · simp only [execOp, ho, hz, Instr.sliceAt, r_underlying hd, Sem.run_bind, Instr.slice, Result.andThen_ok, Option.map_none, hsb, r_size hsz, Sem.run_pure]
        split <;> simp
      · refine .sl hφ (by omega) (fun c hc => ?_) hW (hle cap' (by omega) (Nat.le_refl _)) ?_
        · simp only [Option.map_eq_some_iff] at hc
          obtain ⟨c', h1, rfl⟩ := hc
          rw [hex c' h1]
        · by_cases hcl : cap' = l
          · right; omega
          · left
            rw [if_neg hcl, ha.resolve_right (by omega), add_none]
            simp [Nat.add_assoc]
theorem s_slArr {o : Oper} {t e : TypeId} {x : Operand} {lo hi mx : Option Operand} {x' : Opd} {lo' hi' mx' : Option Opd} {len sz : Nat} {v : AV} {H' : AHeap} {k : Kd} (ho : o.op = .slice t x lo hi mx) (hx : lowOpd C.τ x = some x')
    (hlo : lowO C.τ lo = some lo') (hhi : lowO C.τ hi = some hi') (hmx : lowO C.τ mx = some mx') (hd : C.P.underlying t = some (.array len e)) (hsz : sizeA C.P e = some sz)
    (hS : Slots C φ N W T a) (hH : HRel C φ N H W) (h : opA T H (.slArr len sz x' lo' hi' mx') = some (v, H', k)) : OpSound C N φ W o a v H' := by
  have h1 := ev_ok hS hx
  simp only [opA] at h
  split at h <;> try (simp at h; done)
  rename_i b of v' l hh hb hbd
  split at h <;> try (simp at h; done)
  rename_i hm
  split at h <;> simp at h
  rename_i cs tag wv st hk
  obtain ⟨hroom, rfl, rfl, rfl⟩ := h
  have hmn : mx = none := by
    rcases evo_ok hS hmx with ⟨rfl, _⟩ | ⟨y, u, rfl, e1, _⟩
    · rfl
    · rw [e1] at hm; simp at hm
  subst hmn
  rw [hb] at h1
  generalize hz : a.eval x = z at h1
  cases h1 with
  | @ptr _ _ _ B O hφ =>
    obtain ⟨b1, b2, _⟩ := bounds_ok hbd
    have hsb := sliceBounds_ok (C := C) (W := W) hS hlo hhi (Nat.le_refl len) false hbd
    obtain ⟨_, _, _, hB⟩ := hH.blk b _ hk
    obtain ⟨Cs, e', fz, g1, g2, _⟩ := hB hroom.1 v' B O hφ hroom.2.1
    refine .pure hH (x := .slice (some (if len = l then ⟨B, O + of, none⟩ else (⟨B, O + of, none⟩ : Addr).add (l * sz))) (hh - l) (len - l)) ?_ ?_
    · simp only [execOp, ho, hz, Instr.sliceAt, r_underlying hd, Sem.run_bind, Instr.sureAddr, Result.andThen_ok, Option.map_none, hsb, r_size hsz, Sem.run_pure]
    · refine .sl hφ (by omega) (fun c hc => by simp at hc; omega) g1 ?_ ?_
      · have : l * sz + (len - l) * sz ≤ len * sz := by rw [← Nat.add_mul]; exact Nat.mul_le_mul_right _ (by omega)
        omega
      · by_cases hcl : len = l
        · right; omega
        · left; rw [if_neg hcl, add_none]; simp [Nat.add_assoc]
end Go.AE
namespace Go.AE
open Go
variable {C : Ctx} {φ φ' : Loc} {N : Nat → Prop} {W W' : World} {T : Tmps} {a : Act} {H : AHeap}
theorem bytes_beq (r s : List UInt8) : ((⟨r.toArray⟩ : ByteArray).toList == (⟨s.toArray⟩ : ByteArray).toList) = (r == s) := by
 rw [bytes_mk, bytes_mk]
theorem eq_ifc {tys : List TypeId} {g : Nat} {u v : AV} {b : Bool} {t : TypeId} (ht : C.τ.tagOf t = some g)
    (h : eqTag (ifcTys C.P C.τ tys) g u v = some b) : (∃ i k, C.P.info? t = some i ∧ i.comparable = true ∧ C.P.underlying t = some (.int k)) ∧ eqPlain .i u v = some b := by
  induction tys with
  | nil => simp [ifcTys, eqTag] at h
  | cons t' tys ih =>
    simp only [ifcTys] at h
    split at h
    · rename_i g' i k h1 h2 h3
      split at h
      · rename_i hcmp
        simp only [eqTag] at h
        split at h
        · rename_i e; subst e
          have := C.tagInj t t' g' ht h1
          subst this
          exact ⟨⟨i, k, h2, hcmp, h3⟩, h⟩
        · exact ih h
      · exact ih h
    · exact ih h
set_option maxHeartbeats 4000000 in
theorem eq_plain {t : TypeId} {e : ETy} (D : Nat) {u v : AV} {X Y : Value} {b : Bool} (hu : VRel C φ N W u X) (hv : VRel C φ N W v Y) (hb : eqPlain e u v = some b)
    (h : (e = .b ∧ C.P.underlying t = some .bool) ∨ (e = .i ∧ ∃ k, C.P.underlying t = some (.int k)) ∨ (e = .s ∧ C.P.underlying t = some .string) ∨
      (e = .p ∧ ((∃ el s, C.P.underlying t = some (.pointer el) ∧ sizeA C.P el = some s) ∨ C.P.underlying t = some .unsafePointer)) ∨
      (e = .sl ∧ ∃ el, C.P.underlying t = some (.slice el)) ∨ (e = .mp ∧ ∃ k el, C.P.underlying t = some (.map k el)) ∨ (e = .fn ∧ ∃ p q r, C.P.underlying t = some (.func p q r))) :
    (Op.equalIn (D + 1) t X Y).run C.P W = .ok b W := by
  rcases h with ⟨rfl, ht⟩ | ⟨rfl, k, ht⟩ | ⟨rfl, ht⟩ | ⟨rfl, ht⟩ | ⟨rfl, el, ht⟩ | ⟨rfl, k, el, ht⟩ | ⟨rfl, p, q, r, ht⟩
  · cases hu <;> simp only [eqPlain] at hb <;> try (simp at hb; done)
    cases hv <;> simp at hb
    subst hb
    simp [Op.equalIn, r_underlying ht]
  · cases hu <;> simp only [eqPlain] at hb <;> try (simp at hb; done)
    cases hv <;> simp at hb
    obtain ⟨rfl, rfl⟩ := hb
    simp [Op.equalIn, r_underlying ht]
  · cases hu <;> simp only [eqPlain] at hb <;> try (simp at hb; done)
    cases hv <;> simp at hb
    subst hb
    rw [run_equalIn_string _ _ _ _ _ ht, bytes_beq]
  · cases hu with
    | nilptr =>
      simp only [eqPlain] at hb
      rcases ht with ⟨el, s, ht, hs⟩ | ht <;> cases hv <;> simp at hb <;> (subst hb; simp [Op.equalIn, r_underlying ht, samePointer])
    | elt =>
      simp only [eqPlain] at hb
      rcases ht with ⟨el, s, ht, hs⟩ | ht <;> cases hv <;> simp at hb <;> (subst hb; simp [Op.equalIn, r_underlying ht, samePointer])
    | ptr h1 =>
      simp only [eqPlain] at hb
      cases hv with
      | nilptr => simp at hb; subst hb; rcases ht with ⟨el, s, ht, hs⟩ | ht <;> simp [Op.equalIn, r_underlying ht, samePointer]
      | ptr h2 =>
        simp at hb
        obtain ⟨⟨rfl, rfl, rfl⟩, rfl⟩ := hb
        rw [h1] at h2
        simp at h2
        obtain ⟨rfl, rfl⟩ := h2
        rcases ht with ⟨el, s, ht, hs⟩ | ht
        · simp [Op.equalIn, r_underlying ht, r_size hs, sameAddr]
        · simp [Op.equalIn, r_underlying ht, samePointer, sameAddr]
      | _ => simp at hb
    | _ => simp [eqPlain] at hb
  · cases hu <;> simp only [eqPlain] at hb <;> try (simp at hb; done)
    all_goals cases hv <;> simp at hb <;> (subst hb; simp [Op.equalIn, r_underlying ht])
  · cases hu <;> simp only [eqPlain] at hb <;> try (simp at hb; done)
    all_goals cases hv <;> simp at hb <;> (subst hb; simp [Op.equalIn, r_underlying ht])
  · cases hu <;> simp only [eqPlain] at hb <;> try (simp at hb; done)
    all_goals cases hv <;> simp at hb <;> (subst hb; simp [Op.equalIn, r_underlying ht])
set_option maxHeartbeats 4000000 in
theorem eq_iface {t : TypeId} {ms : Array (String × TypeId)} (ht : C.P.underlying t = some (.interface ms)) {c : Bool} (D : Nat) {u v : AV} {X Y : Value} {b : Bool} (hu : VRel C φ N W u X) (hv : VRel C φ N W v Y)
    (hb : eqIface c (ifcTys C.P C.τ C.τ.ifTys) u v = some b) : (Op.equalIn (D + 2) t X Y).run C.P W = .ok b W := by
  cases hu with
  | nilIface =>
    simp only [eqIface] at hb
    cases hv <;> simp at hb
    · subst hb; simp [Op.equalIn, r_underlying ht]
    · obtain ⟨_, rfl⟩ := hb; simp [Op.equalIn, r_underlying ht]
  | @iface g t1 u1 x1 ht1 hx1 =>
    cases hv with
    | nilIface => simp [eqIface] at hb; subst hb; simp [Op.equalIn, r_underlying ht]
    | @iface g2 t2 u2 x2 ht2 hx2 =>
      simp only [eqIface] at hb
      by_cases hg : g = g2
      · subst hg
        have := C.tagInj t1 t2 g ht1 ht2
        subst this
        rw [if_pos rfl] at hb
        obtain ⟨⟨i, k, i1, i2, i3⟩, hb'⟩ := eq_ifc ht1 hb
        have := eq_plain (t := t1) D hx1 hx2 hb' (.inr (.inl ⟨rfl, k, i3⟩))
        simp only [Op.equalIn, Sem.run_bind, r_underlying ht, Result.andThen_ok, ne_eq, not_true, if_false, r_info i1, i2]
        simpa [Op.equalIn] using this
      · have hne : ¬ t1 = t2 := fun e => hg (by subst e; rw [ht1] at ht2; exact Option.some.inj ht2)
        rw [if_neg hg] at hb
        simp at hb; subst hb
        simp [Op.equalIn, r_underlying ht, hne]
    | _ => simp [eqIface] at hb
  | _ => simp [eqIface] at hb
def EqOK (C : Ctx) (φ : Loc) (N : Nat → Prop) (W : World) (d : Nat) : Prop :=
  ∀ (c : Bool) (t : TypeId) (e : ETy), etyA C.P C.τ d c t = some e → ∀ (D : Nat), d ≤ D → ∀ (u v : AV) (X Y : Value) (b : Bool), VRel C φ N W u X → VRel C φ N W v Y → aEq e u v = some b →
    (Op.equalIn (D + 1) t X Y).run C.P W = .ok b W
theorem eq_fields {d : Nat} (IH : EqOK C φ N W d) : ∀ (fs : List Field) (fs' : List (Nat × Nat × Bool × ETy)), etyFields C.P (etyA C.P C.τ d false) fs = some fs' → ∀ (D : Nat), d ≤ D → ∀ (cs ds : List AV) (xs ys : List Value) (b : Bool),
  rowOk cs → rowOk ds → LRel C φ N W cs xs → LRel C φ N W ds ys → aEqF fs' cs ds = some b → (Op.eqFields (D + 1) xs.toArray ys.toArray fs).run C.P W = .ok b W
 | [], fs', h, D, hD, cs, ds, xs, ys, b, ho, ho', hl, hl', hb => by
  simp [etyFields] at h; subst h
  simp [aEqF] at hb; subst hb
  simp [Op.eqFields]
 | f :: fs, fs', h, D, hD, cs, ds, xs, ys, b, ho, ho', hl, hl', hb => by
  simp only [etyFields] at h
  split at h
  ·rename_i hne
   split at h <;> simp at h
   rename_i s ag e r h1 h2 h3 h4
   subst h
   simp only [aEqF] at hb
   split at hb <;> try (simp at hb; done)
   rename_i p q hp hq
   obtain ⟨P1, r1, v1, _⟩ := LRel.agg_part ho hl h1 h2 hp
   obtain ⟨Q1, r2, v2, _⟩ := LRel.agg_part ho' hl' h1 h2 hq
   split at hb
   ·rename_i he
    have hrun := IH false f.type e h3 D hD p q P1 Q1 true v1 v2 he
    have hrest := eq_fields IH fs r h4 D hD cs ds xs ys b ho ho' hl hl' hb
    simp [Op.eqFields, hne, r1, r2, hrun, hrest]
   ·rename_i r' hnt
    cases b with
    | true => exact absurd hb hnt
    | false =>
     have hrun := IH false f.type e h3 D hD p q P1 Q1 false v1 v2 hb
     simp [Op.eqFields, hne, r1, r2, hrun]
  ·rename_i hne
   have hrest := eq_fields IH fs fs' h D hD cs ds xs ys b ho ho' hl hl' hb
   simp only [ne_eq] at hne
   simp [Op.eqFields, hne, hrest]
theorem eq_items {d : Nat} (IH : EqOK C φ N W d) : ∀ (el : TypeId) (s : Nat) (ag : Bool) (e : ETy), sizeA C.P el = some s → aggA C.P el = some ag → etyA C.P C.τ d false el = some e → ∀ (D : Nat), d ≤ D → ∀ (cs ds : List AV) (xs ys : List Value) (b : Bool),
  rowOk cs → rowOk ds → LRel C φ N W cs xs → LRel C φ N W ds ys → ∀ (n i : Nat), aEqF (arrF s ag e n i) cs ds = some b → (Op.eqItems (D + 1) el s xs.toArray ys.toArray (List.range' i n)).run C.P W = .ok b W
 | el, s, ag, e, h1, h2, h3, D, hD, cs, ds, xs, ys, b, ho, ho', hl, hl', 0, i, hb => by
  simp [arrF, aEqF] at hb; subst hb
  simp [Op.eqItems]
 | el, s, ag, e, h1, h2, h3, D, hD, cs, ds, xs, ys, b, ho, ho', hl, hl', n + 1, i, hb => by
  simp only [arrF, aEqF] at hb
  split at hb <;> try (simp at hb; done)
  rename_i p q hp hq
  obtain ⟨P1, r1, v1, _⟩ := LRel.agg_part ho hl h1 h2 hp
  obtain ⟨Q1, r2, v2, _⟩ := LRel.agg_part ho' hl' h1 h2 hq
  rw [List.range'_succ]
  split at hb
  ·rename_i he
   have hrun := IH false el e h3 D hD p q P1 Q1 true v1 v2 he
   have hrest := eq_items IH el s ag e h1 h2 h3 D hD cs ds xs ys b ho ho' hl hl' n (i + 1) hb
   simp [Op.eqItems, r1, r2, hrun, hrest]
  ·rename_i r' hnt
   cases b with
   | true => exact absurd hb hnt
   | false =>
    have hrun := IH false el e h3 D hD p q P1 Q1 false v1 v2 hb
    simp [Op.eqItems, r1, r2, hrun]
set_option maxHeartbeats 4000000 in
theorem eq_ok : ∀ (d : Nat), EqOK C φ N W d
  | 0, _, _, _, h, _, _, _, _, _, _, _, _, _, _ => by simp [etyA] at h
  | d + 1, c, t, e, h, D, hD, u, v, X, Y, b, hu, hv, hb => by
    simp only [etyA] at h
    split at h
    case h_1 ht => obtain rfl := Option.some.inj h; exact eq_plain D hu hv (by simpa only [aEq] using hb) (.inl ⟨rfl, ht⟩)
    case h_2 kd ht => obtain rfl := Option.some.inj h; exact eq_plain D hu hv (by simpa only [aEq] using hb) (.inr (.inl ⟨rfl, kd, ht⟩))
    case h_3 ht => obtain rfl := Option.some.inj h; exact eq_plain D hu hv (by simpa only [aEq] using hb) (.inr (.inr (.inl ⟨rfl, ht⟩)))
    case h_4 el ht =>
      simp only [Option.map_eq_some_iff] at h
      obtain ⟨s, hs, rfl⟩ := h
      exact eq_plain D hu hv (by simpa only [aEq] using hb) (.inr (.inr (.inr (.inl ⟨rfl, .inl ⟨el, s, ht, hs⟩⟩))))
    case h_5 ht => obtain rfl := Option.some.inj h; exact eq_plain D hu hv (by simpa only [aEq] using hb) (.inr (.inr (.inr (.inl ⟨rfl, .inr ht⟩))))
    case h_6 el ht => obtain rfl := Option.some.inj h; exact eq_plain D hu hv (by simpa only [aEq] using hb) (.inr (.inr (.inr (.inr (.inl ⟨rfl, el, ht⟩)))))
    case h_7 k el ht => obtain rfl := Option.some.inj h; exact eq_plain D hu hv (by simpa only [aEq] using hb) (.inr (.inr (.inr (.inr (.inr (.inl ⟨rfl, k, el, ht⟩))))))
    case h_8 p q r ht => obtain rfl := Option.some.inj h; exact eq_plain D hu hv (by simpa only [aEq] using hb) (.inr (.inr (.inr (.inr (.inr (.inr ⟨rfl, p, q, r, ht⟩))))))
    case h_9 ms ht =>
      obtain rfl := Option.some.inj h
      obtain ⟨D', rfl⟩ : ∃ D', D = D' + 1 := ⟨D - 1, by omega⟩
      exact eq_iface ht D' hu hv (by simpa only [aEq] using hb)
    case h_10 fs ht =>
      split at h <;> simp at h
      rename_i hst
      obtain ⟨fs', hfs, rfl⟩ := h
      cases hu with
      | @agg cs xs hl ho hr =>
        cases hv with
        | @agg ds ys hl' ho' hr' =>
          have hf : C.P.fieldsOf t = fs := by simp [Program.fieldsOf, ht]
          simp only [aEq] at hb
          rw [run_equalIn_struct _ _ _ _ _ (by rw [hf]; exact ht) (by simpa using hst), hf]
          obtain ⟨D', rfl⟩ : ∃ D', D = D' + 1 := ⟨D - 1, by omega⟩
          exact eq_fields (eq_ok d) fs.toList fs' hfs D' (by omega) cs ds xs ys b ho ho' ⟨hl, hr⟩ ⟨hl', hr'⟩ hb
        | _ => simp [aEq] at hb
      | _ => simp [aEq] at hb
    case h_11 n el ht =>
      split at h <;> simp at h
      rename_i s ag e' h1 h2 h3
      subst h
      cases hu with
      | @agg cs xs hl ho hr =>
        cases hv with
        | @agg ds ys hl' ho' hr' =>
          simp only [aEq] at hb
          have hi : ∃ i, C.P.info? el = some i ∧ i.size = s := by
            simpa [sizeA, Option.map_eq_some_iff] using h1
          obtain ⟨i, hi, rfl⟩ := hi
          have hc : C.P.cellsOf el = i.size := by simp [Program.cellsOf, hi]
          rw [run_equalIn_array _ _ _ _ ht hi, hc]
          obtain ⟨D', rfl⟩ : ∃ D', D = D' + 1 := ⟨D - 1, by omega⟩
          have := eq_items (eq_ok d) el i.size ag e' h1 h2 h3 D' (by omega) cs ds xs ys b ho ho' ⟨hl, hr⟩ ⟨hl', hr'⟩ n 0 hb
          simpa [List.range_eq_range'] using this
        | _ => simp [aEq] at hb
      | _ => simp [aEq] at hb
    case h_12 => simp at h
end Go.AE
namespace Go.AE
open Go
variable {C : Ctx} {φ φ' : Loc} {N : Nat → Prop} {W W' : World} {T : Tmps} {a : Act} {H : AHeap}
theorem aEq_int {e : ETy} {k : IntKind} {n : Int} {v : AV} {b : Bool} (h : aEq e (.int k n) v = some b) : e = .i := by
 cases e <;> simp [aEq, eqPlain, eqIface] at h; rfl
theorem aEq_str {e : ETy} {s : List UInt8} {v : AV} {b : Bool} (h : aEq e (.str s) v = some b) : e = .s := by
 cases e <;> simp [aEq, eqPlain, eqIface] at h; rfl
theorem aEq_bad {e : ETy} {v : AV} {b : Bool} (h : aEq e .bad v = some b) : False := by
 cases e <;> simp [aEq, eqPlain, eqIface] at h
theorem ety_ifc {d : Nat} {c n : Bool} {t : TypeId} {tys : List (Nat × ETy)} (h : etyA C.P C.τ (d + 1) c t = some (.ifc n tys)) : n = c := by
 unfold etyA at h
 split at h <;> try (simp at h; done)
 ·simp at h; exact h.1.symm
 all_goals (split at h <;> simp at h)
theorem ety_st {d : Nat} {c : Bool} {t : TypeId} {fs : List (Nat × Nat × Bool × ETy)} (h : etyA C.P C.τ (d + 1) c t = some (.st fs)) :
    (∃ f, C.P.underlying t = some (.struct f)) ∨ ∃ n e, C.P.underlying t = some (.array n e) := by
  unfold etyA at h
  split at h <;> try (simp at h; done)
  · rename_i ht; exact .inl ⟨_, ht⟩
  · rename_i ht; exact .inr ⟨_, _, ht⟩
theorem eq_agg_guard {d : Nat} {t : TypeId} {x y : Operand} {e : ETy} {u v : AV} {X Y : Value} {b : Bool} (op : BinOp) (hop : op = .eql ∨ op = .neq) (he : etyA C.P C.τ (d + 1) (isConstO x || isConstO y) t = some e) (hg : eqGuardOk C.P t = true)
    (hu : VRel C φ N W u X) (hv : VRel C φ N W v Y) (hb : aEq e u v = some b) : (eqGuard op t x y X Y).run C.P W = .ok () W := by
  unfold eqGuard
  cases hu with
  | nilIface =>
    cases hv with
    | nilIface =>
      have : (isConstO x || isConstO y) = true := by
        cases e with
        | ifc n tys =>
          have := ety_ifc he
          subst this
          simp [aEq, eqIface] at hb
          simpa using hb.1
        | _ => simp [aEq, eqPlain] at hb
      rcases hop with rfl | rfl <;> cases x <;> cases y <;> first | rfl | (simp [isConstO] at this)
    | bad => cases e <;> simp [aEq, eqPlain, eqIface] at hb
    | _ => rcases hop with rfl | rfl <;> rfl
  | agg hl ho hr =>
    cases hv with
    | agg hl' ho' hr' =>
      have hgt : C.P.eqGuardType C.P.depth t = false := by
        cases e with
        | st fs =>
          unfold eqGuardOk at hg
          rcases ety_st he with ⟨f, ht⟩ | ⟨n, el, ht⟩ <;> simpa [ht] using hg
        | _ => simp [aEq, eqPlain, eqIface] at hb
      rcases hop with rfl | rfl <;> simp [hgt]
    | bad => cases e <;> simp [aEq, eqPlain, eqIface] at hb
    | _ => rcases hop with rfl | rfl <;> rfl
  | bad => exact (aEq_bad hb).elim
  | _ => rcases hop with rfl | rfl <;> rfl
theorem s_eq {o : Oper} {op : BinOp} {t u : TypeId} {x y : Operand} {x' y' : Opd} {e : ETy} {neg : Bool} {v : AV} {H' : AHeap} {k : Kd} (ho : o.op = .binOp op t x y u) (hop : (op = .eql ∧ neg = false) ∨ (op = .neq ∧ neg = true))
    (hx : lowOpd C.τ x = some x') (hy : lowOpd C.τ y = some y') (he : etyA C.P C.τ 50 (isConstO x || isConstO y) t = some e) (hg : eqGuardOk C.P t = true) (hni : e ≠ .i) (hns : e ≠ .s)
    (hS : Slots C φ N W T a) (hH : HRel C φ N H W) (h : opA T H (.eq neg e x' y') = some (v, H', k)) : OpSound C N φ W o a v H' := by
  simp only [opA, pureV, Option.map_eq_some_iff, Prod.mk.injEq] at h
  obtain ⟨w, ⟨b, hb, rfl⟩, rfl, rfl, rfl⟩ := h
  have hu := ev_ok hS hx
  have hv := ev_ok hS hy
  have h1 := eq_agg_guard (d := 49) op (by rcases hop with ⟨rfl, _⟩ | ⟨rfl, _⟩ <;> simp) he hg hu hv hb
  have h2 : (Op.equal t (a.eval x) (a.eval y)).run C.P W = .ok b W := eq_ok 50 _ t e he 9999 (by omega) _ _ _ _ b hu hv hb
  generalize hz : a.eval x = z at h1 h2 hu
  refine .pure hH (x := .bool (if neg then !b else b)) ?_ (.bool _)
  generalize ev T x' = p at hu hb
  have key : (binOp op t z (a.eval y)).run C.P W = .ok (.bool (if neg then !b else b)) W := by
    cases hu with
    | int => exact absurd (aEq_int hb) hni
    | str => exact absurd (aEq_str hb) hns
    | bad => exact (aEq_bad hb).elim
    | _ => rcases hop with ⟨rfl, rfl⟩ | ⟨rfl, rfl⟩ <;> simp [binOp, h2]
  simp [execOp, ho, hz, h1, key]
end Go.AE
namespace Go.AE
open Go
variable {C : Ctx} {φ φ' : Loc} {N : Nat → Prop} {W W' : World} {T : Tmps} {a : Act} {H : AHeap}
theorem fold_put (off : Nat) : ∀ (l : List Value) (k : Nat) (cs : Array Value), ((l.zipIdx k).foldl (fun cs (x : Value × Nat) => cs.setIfInBounds (off + x.2) x.1) cs).toList = putCells cs.toList (off + k) l
 | [], _, _ => rfl
 | v :: l, k, cs => by
  rw [List.zipIdx_cons, List.foldl_cons, fold_put off l (k + 1)]
  simp [putCells, Nat.add_assoc]
theorem fold_put' (off : Nat) (l cs : Array Value) : (l.zipIdx.foldl (fun cs (x : Value × Nat) => cs.setIfInBounds (off + x.2) x.1) cs) = (putCells cs.toList off l.toList).toArray := by
 apply Array.ext'
 have := fold_put off l.toList 0 cs
 rw [← Array.foldl_toList, Array.toList_zipIdx]
 simpa using this
theorem fill_ok (hS : Slots C φ N W T a) {place place' : Nat → Option (Nat × Nat)} (hpl : ∀ i p, place' i = some p → place i = some p) : ∀ {parts : List (Nat × Operand)} {parts' : List (Nat × Nat × Opd)} (hl : lowParts C.τ place' parts = some parts') {cs : List AV} {xs : List Value}
    (h : LRel C φ N W cs xs) (ho : rowOk cs) {ds : List AV} (hf : fillA T cs parts' = some ds),
    ∃ ys : List Value, Instr.fill place xs.toArray (parts.map fun x => (x.1, a.eval x.2)) = some ys.toArray ∧ LRel C φ N W ds ys ∧ rowOk ds
  | [], parts', hl, cs, xs, h, ho, ds, hf => by
    simp [lowParts] at hl; subst hl
    simp [fillA] at hf; subst hf
    exact ⟨xs, rfl, h, ho⟩
  | (i, x) :: parts, parts', hl, cs, xs, h, ho, ds, hf => by
    simp only [lowParts] at hl
    split at hl <;> simp at hl
    rename_i o s x' l' h1 h2 h3
    subst hl
    simp only [fillA] at hf
    split at hf <;> try (simp at hf; done)
    rename_i hc
    obtain ⟨c1, c2, c3⟩ := hc
    obtain ⟨g1, g2⟩ := (ev_ok hS h2).cellsOk (by omega)
    have hsz : (a.eval x).cells.size = s := by have := g2.1; simp at this; omega
    obtain ⟨ys, r1, r2, r3⟩ := fill_ok hS hpl h3 (h.put (o := o) g2) (ho.put g1) hf
    refine ⟨ys, ?_, r2, r3⟩
    simp only [List.map_cons, Instr.fill, hpl i _ h1]
    have hx : ¬ (o + (a.eval x).cells.size > xs.toArray.size) := by have := h.1; simp; omega
    rw [if_neg (by simp [hsz]; have := h.1; omega), fold_put']
    exact r1
theorem mapM_places {fs : Array Field} (h : fs.toList.all (fun f => (sizeA C.P f.type).isSome) = true) :
    (fs.mapM (fun f => do Pure.pure (f.offset, ← Go.sizeOf f.type) : Field → Sem (Nat × Nat))).run C.P W = .ok (fs.map fun f => (f.offset, (sizeA C.P f.type).getD 0)) W := by
  rw [Array.mapM_eq_mapM_toList]
  have : ∀ l : List Field, l.all (fun f => (sizeA C.P f.type).isSome) = true → (l.mapM (fun f => do Pure.pure (f.offset, ← Go.sizeOf f.type) : Field → Sem (Nat × Nat))).run C.P W = .ok (l.map fun f => (f.offset, (sizeA C.P f.type).getD 0)) W := by
    intro l
    induction l with
    | nil => intro _; rfl
    | cons f l ih =>
      intro h
      simp at h
      obtain ⟨s, hs⟩ := Option.isSome_iff_exists.1 h.1
      have := ih (by simpa using h.2)
      simp only [List.mapM_cons, Sem.run_bind, r_size hs, Result.andThen_ok, this, Sem.run_pure, List.map_cons, hs, Option.getD_some]
  simp only [Sem.run_map, this _ h, Result.andThen_ok]
  congr 1
  apply Array.ext'; simp
theorem s_build_struct {o : Oper} {t : TypeId} {parts : Array (Nat × Operand)} {parts' : List (Nat × Nat × Opd)} {z : AV} {fs : Array Field} {v : AV} {H' : AHeap} {k : Kd} (ho : o.op = .build t parts) (hz : zeroA C.P t = some z)
    (hd : C.P.underlying t = some (.struct fs)) (hall : fs.toList.all (fun f => (sizeA C.P f.type).isSome) = true) (hp : lowParts C.τ (fun i => (fs[i]?).bind fun f => (sizeA C.P f.type).map (f.offset, ·)) parts.toList = some parts')
    (hzn : 0 < z.cells.length)
    (hS : Slots C φ N W T a) (hH : HRel C φ N H W) (h : opA T H (.build z.cells parts') = some (v, H', k)) : OpSound C N φ W o a v H' := by
  obtain ⟨hw, rfl, rfl⟩ := pureV_some (by simpa only [opA] using h)
  simp only [Option.map_eq_some_iff] at hw
  obtain ⟨ds, hf, rfl⟩ := hw
  obtain ⟨x, h1, h2⟩ := r_zero hz W
  obtain ⟨g1, g2⟩ := (constA_ok (C := C) (φ := φ) (N := N) (W := W) x z h2).1.cellsOk hzn
  obtain ⟨ys, r1, r2, r3⟩ := fill_ok (place := ((fs.map fun f => (f.offset, (sizeA C.P f.type).getD 0))[·]?)) hS (fun i p hp => by
    simp only [Option.bind_eq_some_iff, Option.map_eq_some_iff] at hp
    obtain ⟨f, hf, s, hs, rfl⟩ := hp
    simp [hf, hs]) hp g2 g1 hf
  refine .pure hH (x := .agg ys.toArray) ?_ (.agg r2.1 r3 r2.2)
  simp only [execOp, ho, Instr.build, Sem.run_bind, h1, Result.andThen_ok, r_underlying hd, mapM_places hall]
  rw [Array.toList_map]
  simp only [Array.toArray_toList] at r1
  rw [r1]
  simp
theorem s_build_array {o : Oper} {t e : TypeId} {n : Nat} {parts : Array (Nat × Operand)} {parts' : List (Nat × Nat × Opd)} {z : AV} {s : Nat} {v : AV} {H' : AHeap} {k : Kd} (ho : o.op = .build t parts) (hz : zeroA C.P t = some z)
    (hd : C.P.underlying t = some (.array n e)) (hs : sizeA C.P e = some s) (hp : lowParts C.τ (fun i => some (i * s, s)) parts.toList = some parts')
    (hzn : 0 < z.cells.length)
    (hS : Slots C φ N W T a) (hH : HRel C φ N H W) (h : opA T H (.build z.cells parts') = some (v, H', k)) : OpSound C N φ W o a v H' := by
  obtain ⟨hw, rfl, rfl⟩ := pureV_some (by simpa only [opA] using h)
  simp only [Option.map_eq_some_iff] at hw
  obtain ⟨ds, hf, rfl⟩ := hw
  obtain ⟨x, h1, h2⟩ := r_zero hz W
  obtain ⟨g1, g2⟩ := (constA_ok (C := C) (φ := φ) (N := N) (W := W) x z h2).1.cellsOk hzn
  obtain ⟨ys, r1, r2, r3⟩ := fill_ok (place := fun i => some (i * s, s)) hS (fun i p hp => hp) hp g2 g1 hf
  refine .pure hH (x := .agg ys.toArray) ?_ (.agg r2.1 r3 r2.2)
  simp only [execOp, ho, Instr.build, Sem.run_bind, h1, Result.andThen_ok, r_underlying hd, r_size hs]
  rw [Array.toList_map]
  simp only [Array.toArray_toList] at r1
  rw [r1]
  simp
theorem repCells_length (z : List AV) : ∀ n, (repCells n z).length = n * z.length
 | 0 => by simp [repCells]
 | n + 1 => by simp [repCells, repCells_length z n, Nat.add_mul]; omega
theorem rowOk.rep {z : List AV} (h : rowOk z) : ∀ n, rowOk (repCells n z)
 | 0 => .nil
 | n + 1 => h.append (h.rep n)
theorem LRel.rep {z : List AV} {xs : List Value} (h : LRel C φ N W z xs) : ∀ n, LRel C φ N W (repCells n z) (List.replicate n xs).flatten
 | 0 => LRel.nil
 | n + 1 => by rw [List.replicate_succ, List.flatten_cons]; exact h.append (h.rep n)
theorem zeros_eq (xs : Array Value) (n s : Nat) (hs : xs.size = s) (h0 : 0 < s) : ((Array.range (n * s)).map (fun i => xs[i % xs.size]!)).toList = (List.replicate n xs.toList).flatten := by
 subst hs
 have key : ∀ n, (List.range (n * xs.size)).map (fun i => xs[i % xs.size]!) = (List.replicate n xs.toList).flatten := by
  intro n
  induction n with
  | zero => simp
  | succ n ih =>
   rw [List.replicate_succ', List.flatten_append, ← ih, Nat.add_mul, Nat.one_mul, List.range_add, List.map_append]
   congr 1
   simp only [List.flatten_cons, List.flatten_nil, List.append_nil, List.map_map]
   apply List.ext_getElem
   ·simp
   ·intro i h1 h2
    have hi : i < xs.size := by simpa using h2
    simp [Nat.add_mod, Nat.mod_eq_of_lt hi, hi]
 simpa using key n
theorem s_lit {o : Oper} {t e : TypeId} {n : Nat} {parts : Array (Nat × Operand)} {parts' : List (Nat × Nat × Opd)} {z : AV} {s : Nat} {v : AV} {H' : AHeap} {k : Kd} (ho : o.op = .buildSlice t n parts)
    (hd : C.P.underlying t = some (.slice e)) (hs : sizeA C.P e = some s) (hz : zeroA C.P e = some z) (hroom : n * s ≤ 2 ^ 24) (hs0 : 0 < s) (hzl : z.cells.length = s) (hp : lowParts C.τ (fun i => some (i * s, s)) parts.toList = some parts')
    (hS : Slots C φ N W T a) (hH : HRel C φ N H W) (h : opA T H (.lit z.cells n s parts') = some (v, H', k)) : OpSound C N φ W o a v H' := by
  obtain ⟨hw, rfl, rfl⟩ := pureV_some (by simpa only [opA] using h)
  simp only [Option.map_eq_some_iff] at hw
  obtain ⟨ds, hf, rfl⟩ := hw
  obtain ⟨x, h1, h2⟩ := r_zero hz W
  obtain ⟨g1, g2⟩ := (constA_ok (C := C) (φ := φ) (N := N) (W := W) x z h2).1.cellsOk (by omega)
  have hxs : x.cells.size = s := by have := g2.1; simp at this; omega
  obtain ⟨ys, r1, r2, r3⟩ := fill_ok (place := fun i => some (i * s, s)) hS (fun i p hp => hp) hp (g2.rep n) (g1.rep n) hf
  have hlen : ds.length = n * s := by
    have : ∀ (ps : List (Nat × Nat × Opd)) (cs ds : List AV), fillA T cs ps = some ds → ds.length = cs.length := by
      intro ps
      induction ps with
      | nil => intro cs ds h; simp [fillA] at h; rw [h]
      | cons p ps ih =>
        obtain ⟨o', s', y⟩ := p
        intro cs ds h
        simp only [fillA] at h
        split at h <;> try (simp at h; done)
        rw [ih _ _ h, putCells_length]
    rw [this _ _ _ hf, repCells_length, hzl]
  refine ⟨φ, .slice (some ⟨W.heap.size, 0, none⟩) n n, pushBlk W (.cells ys.toArray e), .inl ?_, hH.push0 _, ?_, Ext.push0 φ W _⟩
  · simp only [execOp, ho, Instr.buildSlice, Sem.run_bind, r_underlying hd, r_size hs, Result.andThen_ok]
    rw [if_neg (by omega)]
    by_cases h0 : n * s = 0
    · have hn : n = 0 := by rcases Nat.mul_eq_zero.1 h0 with h | h <;> omega
      subst hn
      simp at r1
      simp only [Nat.zero_mul, if_true, Sem.run_bind, Sem.run_pure, Result.andThen_ok, Array.toList_map, show (Array.range 0) = #[] from rfl, Array.map_empty, r1]
      rfl
    · have hrow : ((Array.range (n * s)).map (fun i => x.cells[i % x.cells.size]!)) = (List.replicate n x.cells.toList).flatten.toArray := by
        apply Array.ext'
        simpa using zeros_eq x.cells n s hxs hs0
      simp only [if_neg h0, Sem.run_bind, Sem.run_pure, h1, Result.andThen_ok, Array.toList_map, hrow, r1]
      rfl
  · have hE := Ext.push0 φ W (.cells ys.toArray e)
    refine .lst (fun i => ys.getD i undef) hlen (Nat.le_refl _) (fun _ => rfl) (fun hne => ⟨rfl, by simp [pushBlk_size], ?_, ?_⟩) r3 (fun i hi => ?_) (fun i hi => (r2.2 i hi).mono hE)
    · rintro ⟨b, v, o', hx⟩
      have := (hH.dom b v _ hx).2
      simp at this
    · intro hN
      have := hH.nS _ hN
      simp at this
    · have hi' : i < ys.length := r2.1 ▸ hi
      rw [cell_of pushBlk_new]
      simp [hi']
end Go.AE
namespace Go.AE
open Go
variable {C : Ctx} {φ φ' : Loc} {N : Nat → Prop} {W W' : World} {T : Tmps} {a : Act} {H : AHeap}
def Lies (W : World) (ad : Addr) (xs : List Value) : Prop := ∀ j x, xs[j]? = some x → W.cell? (ad.add j) = some x
def elemOfA : AV → Option (Nat × Nat)
 | .nilsl => some (0, 1)
 | .lst _ n sz _ => some (n, sz)
 | .sl _ _ n sz _ _ => some (n, sz)
 | _ => none
theorem row_ok (hH : HRel C φ N H W) {u : AV} {X : Value} {cs : List AV} (hu : VRel C φ N W u X) (h : rowOf H u = some cs) : rowOk cs ∧
    ((u = .nilsl ∧ X = .slice none 0 0 ∧ cs = []) ∨ ∃ ad n cap sz xs, elemOfA u = some (n, sz) ∧ X = .slice (some ad) n cap ∧ n ≤ cap ∧ cs.length = n * sz ∧ LRel C φ N W cs xs ∧ Lies W ad xs) := by
  cases hu with
  | nilsl => simp [rowOf] at h; subst h; exact ⟨.nil, .inl ⟨rfl, rfl, rfl⟩⟩
  | @lst cs' n sz cap ex ad X hl hcap hex ha hro hc hr =>
    simp [rowOf] at h; subst h
    refine ⟨hro, .inr ⟨ad, n, cap, sz, (List.range cs'.length).map X, rfl, rfl, hcap, hl, ⟨by simp, fun i hi => ?_⟩, fun j x hj => ?_⟩⟩
    · have := hr i hi
      simpa [List.getD_eq_getElem?_getD, hi] using this
    · have hj' : j < cs'.length := by
        rcases Nat.lt_or_ge j cs'.length with h1 | h1
        · exact h1
        · rw [List.getElem?_eq_none (by simpa using h1)] at hj; simp at hj
      have hne : cs' ≠ [] := by rintro rfl; simp at hj'
      rw [add_spot (ha hne).1]
      have := hc j hj'
      simp [hj'] at hj
      rw [this, hj]
  | @sl b o n sz v B O cap' cap ad Cs e fz hφ hcap hex hW hr ha =>
    simp only [rowOf] at h
    split at h <;> try (simp at h; done)
    rename_i cs0 tag wv st hb
    split at h <;> simp at h
    rename_i hc
    obtain ⟨c1, c2, c3, c4⟩ := hc
    subst h
    obtain ⟨_, _, _, hB⟩ := hH.blk b _ hb
    obtain ⟨Cs', e', fz', g1, g2, g3, g4, g5, g6, g7⟩ := hB c1 v B O hφ c2
    have hlen : ((cs0.drop o).take (n * sz)).length = n * sz := by simp; omega
    refine ⟨(g6.drop o).take _, .inr ⟨ad, n, cap', sz, (List.range (n * sz)).map fun i => Cs'.getD (O + (o + i)) undef, rfl, rfl, hcap, hlen, ⟨by simp [hlen], fun i hi => ?_⟩, fun j x hj => ?_⟩⟩
    · rw [drop_take_getD hi]
      rw [hlen] at hi
      have := g5 (o + i) (by omega)
      simpa [List.getD_eq_getElem?_getD, hi] using this
    · have hj' : j < n * sz := by
        rcases Nat.lt_or_ge j (n * sz) with h1 | h1
        · exact h1
        · rw [List.getElem?_eq_none (by simpa using h1)] at hj; simp at hj
      have hn : 0 < n := by
        rcases Nat.eq_zero_or_pos n with h0 | h0
        · subst h0; simp at hj'
        · exact h0
      rw [ha.resolve_right (by omega), add_none, cell_of g1]
      simp [hj'] at hj
      have hlt : O + o + j < Cs'.size := by omega
      rw [← hj]
      simp [Array.getD, Nat.add_assoc, show O + (o + j) < Cs'.size from by omega]
  | _ => simp [rowOf] at h
theorem run_loadCells_lies {ad : Addr} {xs : List Value} (h : Lies W ad xs) : (loadCells ad xs.length).run C.P W = .ok xs.toArray W := run_loadCells_list W ad xs h
theorem bytesOf_ok : ∀ {cs : List AV} {xs : List Value} {s : List UInt8}, LRel C φ N W cs xs → bytesOfA cs = some s →
  ∃ ns : List Int, xs = ns.map (Value.int .u8) ∧ s = ns.map fun n => UInt8.ofNat n.toNat
 | [], [], s, _, h => by simp [bytesOfA] at h; subst h; exact ⟨[], rfl, rfl⟩
 | [], _ :: _, _, hl, _ => by simp [LRel] at hl
 | _ :: _, [], _, hl, _ => by simp [LRel] at hl
 | c :: cs, x :: xs, s, hl, h => by
  unfold bytesOfA at h
  split at h <;> try (simp at h; done)
  ·rename_i heq; simp at heq
  ·rename_i n l heq
   simp at heq
   obtain ⟨rfl, rfl⟩ := heq
   simp only [Option.map_eq_some_iff] at h
   obtain ⟨s', hs, rfl⟩ := h
   obtain ⟨ns, h1, h2⟩ := bytesOf_ok hl.tail.2 hs
   have := hl.tail.1
   cases this
   exact ⟨n :: ns, by simp [h1], by simp [h2]⟩
theorem foldl_push_mk (ns : List Int) : ns.foldl (fun r n => r.push (UInt8.ofNat n.toNat)) ByteArray.empty = ⟨(ns.map fun n => UInt8.ofNat n.toNat).toArray⟩ := by
 rw [foldl_push_bytes]
 simp [ByteArray.empty, ByteArray.emptyWithCapacity]
 rfl
theorem sz1_ok {u : AV} {n sz : Nat} (h : elemOfA u = some (n, sz)) (hs : sz1 u = true) : sz = 1 := by
 cases u <;> simp_all [elemOfA, sz1]
theorem s_conv_ofBytes {o : Oper} {s d e : TypeId} {x : Operand} {x' : Opd} {v : AV} {H' : AHeap} {k : Kd} (ho : o.op = .convert s d x) (hx : lowOpd C.τ x = some x') (hs : C.P.underlying s = some (.slice e)) (he : C.P.underlying e = some (.int .u8))
    (hd : C.P.underlying d = some .string) (hS : Slots C φ N W T a) (hH : HRel C φ N H W) (h : opA T H (.conv .ofBytes x') = some (v, H', k)) : OpSound C N φ W o a v H' := by
  simp only [opA, convA] at h
  split at h <;> try (simp at h; done)
  rename_i cs hr
  split at h <;> try (simp at h; done)
  rename_i h1
  simp only [Option.map_eq_some_iff, Prod.mk.injEq] at h
  obtain ⟨bs, hb, rfl, rfl, rfl⟩ := h
  obtain ⟨_, hrow⟩ := row_ok hH (ev_ok hS hx) hr
  refine .pure hH (x := .string ⟨bs.toArray⟩) ?_ (.str bs)
  rcases hrow with ⟨_, hX, rfl⟩ | ⟨ad, n, cap, sz, xs, hel, hX, _, hlen, hl, hlie⟩
  · simp [bytesOfA] at hb; subst hb
    rw [show (⟨([] : List UInt8).toArray⟩ : ByteArray) = ByteArray.empty from rfl]
    simp [execOp, ho, hX, convert, r_underlying hs, r_underlying hd, r_underlying he, Conv.bytesToString]
  · obtain rfl := sz1_ok hel h1
    obtain ⟨ns, rfl, rfl⟩ := bytesOf_ok hl hb
    have hn : n = (ns.map (Value.int .u8)).length := by have := hl.1; omega
    have hload := run_loadCells_lies (C := C) hlie
    rw [← hn] at hload
    have := run_bytesToString (P := C.P) W ad n cap ns (by rw [hload])
    rw [foldl_push_mk] at this
    simp [execOp, ho, hX, convert, r_underlying hs, r_underlying hd, r_underlying he, this]
theorem intsOf_ok : ∀ {cs : List AV} {xs : List Value} {s : List Int}, LRel C φ N W cs xs → intsOfA cs = some s → xs = s.map (Value.int .i32)
 | [], [], s, _, h => by simp [intsOfA] at h; subst h; rfl
 | [], _ :: _, _, hl, _ => by simp [LRel] at hl
 | _ :: _, [], _, hl, _ => by simp [LRel] at hl
 | c :: cs, x :: xs, s, hl, h => by
  unfold intsOfA at h
  split at h <;> try (simp at h; done)
  ·rename_i heq; simp at heq
  ·rename_i n l heq
   simp at heq
   obtain ⟨rfl, rfl⟩ := heq
   simp only [Option.map_eq_some_iff] at h
   obtain ⟨s', hs, rfl⟩ := h
   have h1 := intsOf_ok hl.tail.2 hs
   have := hl.tail.1
   cases this
   simp [h1]
theorem run_forIn_runes (f : Value → ByteArray → Sem (ForInStep ByteArray)) (hf : ∀ (n : Int) (r : ByteArray), (f (.int .i32 n) r).run C.P W = .ok (.yield (r ++ Utf8.encode n)) W) :
  ∀ (ns : List Int) (r : ByteArray), (forIn (ns.map (Value.int .i32)) r f).run C.P W = .ok (ns.foldl (fun r n => r ++ Utf8.encode n) r) W
 | [], r => rfl
 | n :: ns, r => by
  simp only [List.map_cons, List.forIn_cons, Sem.run_bind, hf, Result.andThen, List.foldl_cons]
  exact run_forIn_runes f hf ns _
theorem foldl_runes : ∀ (ns : List Int) (l : List UInt8), ns.foldl (fun r n => r ++ Utf8.encode n) (⟨l.toArray⟩ : ByteArray) = ⟨(l ++ ns.flatMap utf8Enc).toArray⟩
 | [], l => by simp
 | n :: ns, l => by
  have h : (⟨l.toArray⟩ : ByteArray) ++ Utf8.encode n = ⟨(l ++ utf8Enc n).toArray⟩ := by
   have := bytes_append l (utf8Enc n)
   rw [← this]
   congr 1
  rw [List.foldl_cons, h, foldl_runes ns]
  simp [List.flatMap_cons, List.append_assoc]
theorem s_conv_ofRunes {o : Oper} {s d e : TypeId} {x : Operand} {x' : Opd} {v : AV} {H' : AHeap} {k : Kd} (ho : o.op = .convert s d x) (hx : lowOpd C.τ x = some x') (hs : C.P.underlying s = some (.slice e)) (he : C.P.underlying e = some (.int .i32))
    (hd : C.P.underlying d = some .string) (hS : Slots C φ N W T a) (hH : HRel C φ N H W) (h : opA T H (.conv .ofRunes x') = some (v, H', k)) : OpSound C N φ W o a v H' := by
  simp only [opA, convA] at h
  split at h <;> try (simp at h; done)
  rename_i cs hr
  split at h <;> try (simp at h; done)
  rename_i h1
  simp only [Option.map_eq_some_iff, Prod.mk.injEq] at h
  obtain ⟨ns, hb, rfl, rfl, rfl⟩ := h
  obtain ⟨_, hrow⟩ := row_ok hH (ev_ok hS hx) hr
  refine .pure hH (x := .string ⟨(ns.flatMap utf8Enc).toArray⟩) ?_ (.str _)
  rcases hrow with ⟨_, hX, rfl⟩ | ⟨ad, n, cap, sz, xs, hel, hX, _, hlen, hl, hlie⟩
  · simp [intsOfA] at hb; subst hb
    simp only [List.flatMap_nil]
    rw [show (⟨([] : List UInt8).toArray⟩ : ByteArray) = ByteArray.empty from rfl]
    simp [execOp, ho, hX, convert, r_underlying hs, r_underlying hd, r_underlying he, Conv.runesToString]
  · obtain rfl := sz1_ok hel h1
    have hx := intsOf_ok hl hb
    subst hx
    have hn : n = (ns.map (Value.int .i32)).length := by have := hl.1; omega
    have hload := run_loadCells_lies (C := C) hlie
    rw [← hn] at hload
    have h2 := foldl_runes ns []
    have h3 : (⟨([] : List UInt8).toArray⟩ : ByteArray) = ByteArray.empty := rfl
    rw [h3] at h2
    simp only [List.nil_append] at h2
    have hrun : (Conv.runesToString (.slice (some ad) n cap)).run C.P W = .ok (.string ⟨(ns.flatMap utf8Enc).toArray⟩) W := by
      unfold Conv.runesToString
      simp only [Sem.run_bind, hload, Result.andThen_ok, List.forIn_toArray]
      rw [run_forIn_runes _ (by intro n r; simp [Sem.run_pure]), h2]
      first | done | rfl
    simp [execOp, ho, hX, convert, r_underlying hs, r_underlying hd, r_underlying he, hrun]
theorem s_conv_int {o : Oper} {s d : TypeId} {kd : IntKind} {sd : TypeDesc} {x : Operand} {x' : Opd} {v : AV} {H' : AHeap} {k : Kd} (ho : o.op = .convert s d x) (hx : lowOpd C.τ x = some x') (hs : C.P.underlying s = some sd)
    (hd : C.P.underlying d = some (.int kd)) (hS : Slots C φ N W T a) (hH : HRel C φ N H W) (h : opA T H (.conv (.int kd) x') = some (v, H', k)) : OpSound C N φ W o a v H' := by
  have h1 := ev_ok hS hx
  simp only [opA, convA] at h
  split at h <;> try (simp at h; done)
  · rename_i q n hq hb
    simp at hq; subst hq
    obtain ⟨hw, rfl, rfl⟩ := pureV_some h
    simp at hw; subst hw
    rw [hb] at h1
    generalize hz : a.eval x = z at h1
    cases h1
    refine .pure hH (x := .int kd (kd.wrap n)) ?_ (.int ..)
    cases sd <;> simp [execOp, ho, hz, convert, r_underlying hs, r_underlying hd, Conv.intToInt]
  all_goals (exfalso; simp_all)
theorem s_conv_same {o : Oper} {s d : TypeId} {x : Operand} {x' : Opd} {v : AV} {H' : AHeap} {k : Kd} (ho : o.op = .convert s d x) (hx : lowOpd C.τ x = some x') (hs : C.P.underlying s = some .string)
    (hd : C.P.underlying d = some .string) (hS : Slots C φ N W T a) (hH : HRel C φ N H W) (h : opA T H (.conv .same x') = some (v, H', k)) : OpSound C N φ W o a v H' := by
  have h1 := ev_ok hS hx
  simp only [opA, convA] at h
  split at h <;> try (simp at h; done)
  · exfalso; simp_all
  · rename_i r hq hb
    obtain ⟨hw, rfl, rfl⟩ := pureV_some h
    simp at hw; subst hw
    rw [hb] at h1
    generalize hz : a.eval x = z at h1
    cases h1
    refine .pure hH (x := .string ⟨r.toArray⟩) ?_ (.str _)
    simp [execOp, ho, hz, convert, r_underlying hs, r_underlying hd]
  all_goals (exfalso; simp_all)
theorem s_conv_ofInt {o : Oper} {s d : TypeId} {ks : IntKind} {x : Operand} {x' : Opd} {v : AV} {H' : AHeap} {k : Kd} (ho : o.op = .convert s d x) (hx : lowOpd C.τ x = some x') (hs : C.P.underlying s = some (.int ks))
    (hd : C.P.underlying d = some .string) (hS : Slots C φ N W T a) (hH : HRel C φ N H W) (h : opA T H (.conv .ofInt x') = some (v, H', k)) : OpSound C N φ W o a v H' := by
  have h1 := ev_ok hS hx
  simp only [opA, convA] at h
  split at h <;> try (simp at h; done)
  · exfalso; simp_all
  · exfalso; simp_all
  · rename_i q n hq hb
    obtain ⟨hw, rfl, rfl⟩ := pureV_some h
    simp at hw; subst hw
    rw [hb] at h1
    generalize hz : a.eval x = z at h1
    cases h1
    refine .pure hH (x := .string (Utf8.encode n)) ?_ ?_
    · simp [execOp, ho, hz, convert, r_underlying hs, r_underlying hd, Conv.intToString]
    · have := VRel.str (C := C) (φ := φ) (N := N) (W := W) (utf8Enc n)
      rwa [utf8Enc, string_of_data] at this
  all_goals (exfalso; simp_all)
end Go.AE
namespace Go.AE
open Go
variable {C : Ctx} {φ φ' : Loc} {N : Nat → Prop} {W W' : World} {T : Tmps} {a : Act} {H : AHeap}
def RunSound (C : Ctx) (N : Nat → Prop) (φ : Loc) (W : World) (s : Sem Value) (v : AV) (H' : AHeap) : Prop :=
 ∃ φ' x W', s.run C.P W = .ok x W' ∧ HRel C φ' N H' W' ∧ VRel C φ' N W' v x ∧ Ext φ φ' W W'
theorem RunSound.same (hH : HRel C φ N H W) {s : Sem Value} {v : AV} {x : Value} (h : s.run C.P W = .ok x W) (hv : VRel C φ N W v x) : RunSound C N φ W s v H :=
 ⟨φ, x, W, h, hH, hv, Ext.refl φ W⟩
theorem LRel.one {u : AV} {xs : List Value} (h : LRel C φ N W [u] xs) : ∃ X, xs = [X] ∧ VRel C φ N W u X := by
 cases xs with
 | nil => simp [LRel] at h
 | cons X xs =>
  cases xs with
  | nil => exact ⟨X, rfl, h.tail.1⟩
  | cons => simp [LRel] at h
theorem LRel.two {u w : AV} {xs : List Value} (h : LRel C φ N W [u, w] xs) : ∃ X Y, xs = [X, Y] ∧ VRel C φ N W u X ∧ VRel C φ N W w Y := by
 cases xs with
 | nil => simp [LRel] at h
 | cons X xs =>
  obtain ⟨Y, rfl, hY⟩ := LRel.one h.tail.2
  exact ⟨X, Y, rfl, h.tail.1, hY⟩
theorem len_ok (hH : HRel C φ N H W) {ts : Array TypeId} {ty : TypeId} {b : LBuiltin} (hb : lowBuiltin C.P .len ts = some b) {u : AV} {X : Value} (hu : VRel C φ N W u X) {v : AV} {H' : AHeap} {k : Kd} (h : lenA H b u = some (v, H', k)) :
  RunSound C N φ W (Builtin.len_ ts ty #[X]) v H' := by
 unfold lowBuiltin at hb
 cases ht : ts[0]? with
 | none => simp [ht] at hb
 | some t =>
  cases hd : C.P.underlying t with
  | none => simp [ht, hd] at hb
  | some d =>
   cases d <;> simp [ht, hd] at hb
   case string =>
    subst hb
    cases hu <;> simp [lenA] at h
    obtain ⟨hw, rfl, rfl⟩ := pureV_some h
    simp at hw; subst hw
    exact .same hH (by simp only [Builtin.len_, ht]; simp [r_underlying hd, goInt]; rfl) (.int ..)
   case slice e =>
    subst hb
    cases hu <;> simp [lenA] at h <;> (obtain ⟨hw, rfl, rfl⟩ := pureV_some h; simp at hw; subst hw; exact .same hH (by simp [Builtin.len_, ht, r_underlying hd]; rfl) (.int ..))
   case array n e =>
    subst hb
    have h' : lenA H (.lenArr n) u = pureV H (some (.int .i64 n)) := by cases u <;> rfl
    rw [h'] at h
    obtain ⟨hw, rfl, rfl⟩ := pureV_some h
    simp at hw; subst hw
    exact .same hH (by simp [Builtin.len_, ht, r_underlying hd]; rfl) (.int ..)
   case pointer p =>
    cases hp : C.P.underlying p with
    | none => simp [hp] at hb
    | some q =>
     cases q <;> simp [hp] at hb
     rename_i n e
     subst hb
     have h' : lenA H (.lenArr n) u = pureV H (some (.int .i64 n)) := by cases u <;> rfl
     rw [h'] at h
     obtain ⟨hw, rfl, rfl⟩ := pureV_some h
     simp at hw; subst hw
     exact .same hH (by simp [Builtin.len_, ht, r_underlying hd, r_underlying hp]; rfl) (.int ..)
   case map ky e =>
    subst hb
    cases hu <;> simp [lenA] at h
    ·obtain ⟨hw, rfl, rfl⟩ := pureV_some h
     simp at hw; subst hw
     exact .same hH (by simp [Builtin.len_, ht, r_underlying hd]; rfl) (.int ..)
    ·rename_i b B hφ
     split at h <;> try (simp at h; done)
     rename_i es hb
     obtain ⟨hw, rfl, rfl⟩ := readV_some h
     simp at hw; subst hw
     obtain ⟨B', M, clock, g1, g2, g3, _⟩ := hH.blk b _ hb
     rw [hφ] at g1; simp at g1; subst g1
     refine .same hH (x := .int .i64 es.length) ?_ (.int ..)
     have hg : (getObj B).run C.P W = .ok (.map M clock) W := by simp [getObj, Sem.run, g2]
     simp [Builtin.len_, ht, r_underlying hd, hg, goInt, g3]
theorem cap_ok (hH : HRel C φ N H W) {ts : Array TypeId} {ty : TypeId} {b : LBuiltin} (hb : lowBuiltin C.P .cap ts = some b) {u : AV} {X : Value} (hu : VRel C φ N W u X) {v : AV} {H' : AHeap} {k : Kd} (h : lenA H b u = some (v, H', k)) :
  RunSound C N φ W (Builtin.cap_ ts ty #[X]) v H' := by
 unfold lowBuiltin at hb
 cases ht : ts[0]? with
 | none => simp [ht] at hb
 | some t =>
  cases hd : C.P.underlying t with
  | none => simp [ht, hd] at hb
  | some d =>
   cases d <;> simp [ht, hd] at hb
   case slice e =>
    subst hb
    cases hu with
    | nilsl =>
     simp [lenA] at h
     obtain ⟨hw, rfl, rfl⟩ := pureV_some h
     simp at hw; subst hw
     exact .same hH (by simp [Builtin.cap_, ht, r_underlying hd]; rfl) (.int ..)
    | @lst cs n sz cap ex ad Y hl hcap hex ha ho hc hr =>
     cases ex <;> simp [lenA] at h
     obtain ⟨hw, rfl, rfl⟩ := pureV_some h
     simp at hw; subst hw
     obtain rfl := hex rfl
     exact .same hH (by simp [Builtin.cap_, ht, r_underlying hd]; rfl) (.int ..)
    | @sl b o n sz v0 B O cap' cap ad Cs e' fz hφ hcap hex hW hr ha =>
     cases cap <;> simp [lenA] at h
     obtain ⟨hw, rfl, rfl⟩ := pureV_some h
     simp at hw; subst hw
     obtain rfl := hex _ rfl
     exact .same hH (by simp [Builtin.cap_, ht, r_underlying hd]; rfl) (.int ..)
    | _ => simp [lenA] at h
   case array n e =>
    subst hb
    have h' : lenA H (.capArr n) u = pureV H (some (.int .i64 n)) := by cases u <;> rfl
    rw [h'] at h
    obtain ⟨hw, rfl, rfl⟩ := pureV_some h
    simp at hw; subst hw
    exact .same hH (by simp [Builtin.cap_, ht, r_underlying hd]; rfl) (.int ..)
theorem foldA_max : ∀ {l : List AV} {xs : List Value} {u v : AV} {X : Value}, VRel C φ N W u X → LRel C φ N W l xs → foldA maxA u l = some v → ∃ Y, (xs.foldlM Builtin.max2 X).run C.P W = .ok Y W ∧ VRel C φ N W v Y
 | [], [], u, v, X, hu, _, h => by simp [foldA] at h; subst h; exact ⟨X, rfl, hu⟩
 | [], _ :: _, _, _, _, _, hl, _ => by simp [LRel] at hl
 | _ :: _, [], _, _, _, _, hl, _ => by simp [LRel] at hl
 | w :: l, x :: xs, u, v, X, hu, hl, h => by
  simp only [foldA] at h
  split at h <;> try (simp at h; done)
  rename_i z hz
  have hw := hl.tail.1
  unfold maxA at hz
  split at hz <;> simp at hz
  subst hz
  cases hu; cases hw
  obtain ⟨Y, h1, h2⟩ := foldA_max (VRel.int ..) hl.tail.2 h
  exact ⟨Y, by simpa [Builtin.max2] using h1, h2⟩
theorem foldA_min : ∀ {l : List AV} {xs : List Value} {u v : AV} {X : Value}, VRel C φ N W u X → LRel C φ N W l xs → foldA minA u l = some v → ∃ Y, (xs.foldlM Builtin.min2 X).run C.P W = .ok Y W ∧ VRel C φ N W v Y
 | [], [], u, v, X, hu, _, h => by simp [foldA] at h; subst h; exact ⟨X, rfl, hu⟩
 | [], _ :: _, _, _, _, _, hl, _ => by simp [LRel] at hl
 | _ :: _, [], _, _, _, _, hl, _ => by simp [LRel] at hl
 | w :: l, x :: xs, u, v, X, hu, hl, h => by
  simp only [foldA] at h
  split at h <;> try (simp at h; done)
  rename_i z hz
  have hw := hl.tail.1
  unfold minA at hz
  split at hz <;> simp at hz
  subst hz
  cases hu; cases hw
  obtain ⟨Y, h1, h2⟩ := foldA_min (VRel.int ..) hl.tail.2 h
  exact ⟨Y, by simpa [Builtin.min2] using h1, h2⟩
theorem cellsIn_ok (hH : HRel C φ N H W) {u : AV} {X : Value} (hu : VRel C φ N W u X) {sz m : Nat} {new : List AV} (h : cellsIn H sz u = some (m, new)) {tx : TypeId}
    (hk : (∃ e', C.P.underlying tx = some (.slice e')) ∨ C.P.underlying tx = some .string) :
    ∃ news, Src C.P sz tx X m news W ∧ LRel C φ N W new news ∧ rowOk new := by
  cases hu with
  | str s =>
    simp [cellsIn] at h
    obtain ⟨rfl, rfl, rfl⟩ := h
    refine ⟨byteCells ⟨s.toArray⟩, ⟨hk, fun _ => rfl, ?_, ?_, by rw [byteCells_length]; simp [ByteArray.size], fun u hu => ?_⟩, ⟨by simp [byteCells], fun i hi => ?_⟩, rowOk.iff.2 fun w hw => ?_⟩
    · have := firstCells_string (P := C.P) ⟨s.toArray⟩ W; simpa [ByteArray.size] using this
    · have := firstCells_string (P := C.P) ⟨s.toArray⟩ W.drew; simpa [ByteArray.size] using this
    · obtain ⟨_, _, rfl⟩ := List.mem_map.1 hu; rfl
    · simp at hi
      simp [byteCells, List.getD_eq_getElem?_getD, hi]
      exact .int ..
    · obtain ⟨_, _, rfl⟩ := List.mem_map.1 hw; rfl
  | nilsl =>
    simp [cellsIn] at h
    obtain ⟨rfl, rfl⟩ := h
    refine ⟨[], ⟨hk, fun _ => rfl, run_firstCells_none W sz 0 0 0, run_firstCells_none W.drew sz 0 0 0, by simp, fun u hu => by simp at hu⟩, LRel.nil, .nil⟩
  | @lst cs n sz' cap ex ad Y hl hcap hex ha ho hc hr =>
    simp [cellsIn] at h
    obtain ⟨⟨rfl, _⟩, rfl, rfl⟩ := h
    have hrel : LRel C φ N W cs ((List.range cs.length).map Y) := ⟨by simp, fun i hi => by
      have := hr i hi; simpa [List.getD_eq_getElem?_getD, hi] using this⟩
    have hlie : ∀ j u, ((List.range cs.length).map Y)[j]? = some u → W.cell? (ad.add j) = some u := by
      intro j u hj
      have hj' : j < cs.length := by
        rcases Nat.lt_or_ge j cs.length with h1 | h1
        · exact h1
        · rw [List.getElem?_eq_none (by simpa using h1)] at hj; simp at hj
      have hne : cs ≠ [] := by rintro rfl; simp at hj'
      rw [add_spot (ha hne).1, hc j hj']
      simpa [hj'] using hj
    refine ⟨(List.range cs.length).map Y, ⟨hk, fun _ => rfl, run_firstCells_some W _ _ ad _ _ _ (by simp [hl]) hlie, run_firstCells_some W.drew _ _ ad _ _ _ (by simp [hl]) (fun j y hj => hlie j y hj), by simp [hl], fun u hu => ?_⟩, hrel, ho⟩
    obtain ⟨i, hi, rfl⟩ := List.mem_map.1 hu
    have hi' : i < cs.length := by simpa using hi
    exact (hr i hi').one (ho i hi')
  | @sl b o n sz' v0 B O cap' cap ad Cs e' fz hφ hcap hex hW hr ha =>
    simp only [cellsIn] at h
    split at h <;> try (simp at h; done)
    rename_i he; subst he
    simp only [Option.map_eq_some_iff, Prod.mk.injEq] at h
    obtain ⟨cs, hrow, rfl, rfl⟩ := h
    obtain ⟨hro, hr2⟩ := row_ok hH (.sl hφ hcap hex hW hr ha) hrow
    rcases hr2 with ⟨h1, _, _⟩ | ⟨ad', m', cap2, sz2, xs, hel, hX, hcap2, hlen, hl, hlie⟩
    · simp at h1
    · simp [elemOfA] at hel
      obtain ⟨rfl, rfl⟩ := hel
      simp at hX
      obtain ⟨rfl, rfl⟩ := hX
      refine ⟨xs, ⟨hk, fun _ => rfl, run_firstCells_some W _ _ ad _ _ _ (by rw [← hl.1, hlen]) hlie, run_firstCells_some W.drew _ _ ad _ _ _ (by rw [← hl.1, hlen]) (fun j y hj => hlie j y hj), by rw [← hl.1, hlen], fun u hu => ?_⟩, hl, hro⟩
      obtain ⟨i, hi, rfl⟩ := List.getElem_of_mem hu
      have hi' : i < cs.length := hl.1 ▸ hi
      have := (hl.2 i hi').one (hro i hi')
      simpa [List.getD_eq_getElem?_getD, hi] using this
  | _ => simp [cellsIn] at h
end Go.AE
namespace Go.AE
open Go
variable {C : Ctx} {φ φ' : Loc} {N : Nat → Prop} {W W' : World} {T : Tmps} {a : Act} {H : AHeap}
theorem HRel.kill (h : HRel C φ N H W) {b : Nat} {cs : List AV} {t wv st : Nat} (hb : H[b]? = some (.cells cs t wv st)) : HRel C φ N (H.set b (.cells cs t wv 2)) W := by
 have hlt : b < H.length := by
  rcases Nat.lt_or_ge b H.length with h1 | h1
  ·exact h1
  ·simp [List.getElem?_eq_none h1] at hb
 have hal : ∀ c, aliveAt (H.set b (.cells cs t wv 2)) c → aliveAt H c ∧ c ≠ b := by
  intro c hc
  by_cases e : c = b
  ·subst e; simp [aliveAt, hlt] at hc
  ·exact ⟨(aliveAt_set e).1 hc, e⟩
 refine ⟨fun b' k hb' => ?_, fun b' v x hx => by simpa using h.dom b' v x hx, fun b1 v1 b2 v2 x1 x2 h1 h2 hne a1 a2 => h.inj b1 v1 b2 v2 x1 x2 h1 h2 hne (hal _ a1).1 (hal _ a2).1, h.nN, h.nS, h.gl⟩
 by_cases e : b' = b
 ·subst e
  simp [hlt] at hb'
  subst hb'
  obtain ⟨h1, h2, h3, _⟩ := h.blk b' _ hb
  exact ⟨h1, h2, h3, fun h => by omega⟩
 ·rw [List.getElem?_set_ne (Ne.symm e)] at hb'
  exact h.blk b' k hb'
theorem HRel.putAt {b v B O : Nat} {k0 k : ABlk} (h : HRel C φ N H W) (hb : H[b]? = some k0) (hal0 : aliveAt H b) (hE : Ext φ (φ.add b v B O) W W')
    (ho : ∀ b' v' x, b' ≠ b → φ b' v' = some x → aliveAt H b' → W'.heap[x.1]? = W.heap[x.1]? ∧ x.1 ≠ B)
    (hB : B < W'.heap.size) (hN : ¬ N B) (hk : BRel C (φ.add b v B O) N W' b k) : HRel C (φ.add b v B O) N (H.set b k) W' := by
  have hlt : b < H.length := by
    rcases Nat.lt_or_ge b H.length with h1 | h1
    · exact h1
    · simp [List.getElem?_eq_none h1] at hb
  have hal : ∀ c, aliveAt (H.set b k) c → aliveAt H c := by
    intro c hc
    by_cases e : c = b
    · subst e; exact hal0
    · exact (aliveAt_set e).1 hc
  have old : ∀ {b' v' x}, ¬ (b' = b ∧ v' = v) → φ.add b v B O b' v' = some x → φ b' v' = some x := by
    intro b' v' x hne hx; rwa [Loc.add_other hne] at hx
  refine ⟨fun b' k' hb' => ?_, fun b' v' x hx => ?_, fun b1 v1 b2 v2 x1 x2 h1 h2 hne a1 a2 => ?_, fun B' hB' => ?_, fun B' hB' => Nat.lt_of_lt_of_le (h.nS B' hB') hE.size, fun g u hg => (h.gl g u hg).mono hE⟩
  · by_cases e : b' = b
    · subst e
      simp [hlt] at hb'
      subst hb'; exact hk
    · rw [List.getElem?_set_ne (Ne.symm e)] at hb'
      refine BRel.other hE (fun v' => Loc.add_other (fun h => e h.1)) (h.blk b' k' hb') fun v' x hx hal' => (ho b' v' x e hx ?_).1
      simp only [aliveAt, hb']
      cases k' <;> first | exact hal' | trivial
  · by_cases e : b' = b ∧ v' = v
    · obtain ⟨rfl, rfl⟩ := e
      rw [Loc.add_same] at hx; simp at hx; subst hx
      simp [hlt, hB]
    · have := h.dom b' v' x (old e hx)
      have := hE.size
      simp; omega
  · by_cases e1 : b1 = b ∧ v1 = v
    · obtain ⟨rfl, rfl⟩ := e1
      rw [Loc.add_same] at h1; simp at h1; subst h1
      exact fun e => (ho b2 v2 x2 (Ne.symm hne) (old (fun h => hne h.1.symm) h2) (hal _ a2)).2 e.symm
    · by_cases e2 : b2 = b ∧ v2 = v
      · obtain ⟨rfl, rfl⟩ := e2
        rw [Loc.add_same] at h2; simp at h2; subst h2
        exact (ho b1 v1 x1 hne (old e1 h1) (hal _ a1)).2
      · exact h.inj b1 v1 b2 v2 x1 x2 (old e1 h1) (old e2 h2) hne (hal _ a1) (hal _ a2)
  · obtain ⟨b', v', o', hx⟩ := hB'
    by_cases e : b' = b ∧ v' = v
    · obtain ⟨rfl, rfl⟩ := e
      rw [Loc.add_same] at hx; simp at hx
      rw [← hx.1]; exact hN
    · exact h.nN B' ⟨b', v', o', old e hx⟩
theorem HRel.pushAt {v B O : Nat} {k : ABlk} (h : HRel C φ N H W) (hE : Ext φ (φ.add H.length v B O) W W')
    (ho : ∀ b' v' x, φ b' v' = some x → aliveAt H b' → W'.heap[x.1]? = W.heap[x.1]? ∧ x.1 ≠ B)
    (hB : B < W'.heap.size) (hN : ¬ N B) (hk : BRel C (φ.add H.length v B O) N W' H.length k) : HRel C (φ.add H.length v B O) N (H ++ [k]) W' := by
  have hn : ∀ v, φ H.length v = none := fun v => h.noLoc (Nat.le_refl _)
  have old : ∀ {b' v' x}, ¬ (b' = H.length ∧ v' = v) → φ.add H.length v B O b' v' = some x → φ b' v' = some x := by
    intro b' v' x hne hx; rwa [Loc.add_other hne] at hx
  have hal : ∀ c, c < H.length → aliveAt (H ++ [k]) c → aliveAt H c := by
    intro c hc ha
    simpa [aliveAt, List.getElem?_append_left hc] using ha
  refine ⟨fun b' k' hb' => ?_, fun b' v' x hx => ?_, fun b1 v1 b2 v2 x1 x2 h1 h2 hne a1 a2 => ?_, fun B' hB' => ?_, fun B' hB' => Nat.lt_of_lt_of_le (h.nS B' hB') hE.size, fun g u hg => (h.gl g u hg).mono hE⟩
  · by_cases e : b' < H.length
    · rw [List.getElem?_append_left e] at hb'
      refine BRel.other hE (fun v' => Loc.add_other (by omega)) (h.blk b' k' hb') fun v' x hx hal' => (ho b' v' x hx ?_).1
      simp only [aliveAt, hb']
      cases k' <;> first | exact hal' | trivial
    · have : b' = H.length := by
        rcases Nat.lt_or_ge b' (H.length + 1) with h1 | h1
        · omega
        · rw [List.getElem?_eq_none (by simp; omega)] at hb'; simp at hb'
      subst this
      simp at hb'; subst hb'; exact hk
  · by_cases e : b' = H.length ∧ v' = v
    · obtain ⟨rfl, rfl⟩ := e
      rw [Loc.add_same] at hx; simp at hx; subst hx
      simp [hB]
    · have := h.dom b' v' x (old e hx)
      have := hE.size
      simp; omega
  · by_cases e1 : b1 = H.length ∧ v1 = v
    · obtain ⟨rfl, rfl⟩ := e1
      rw [Loc.add_same] at h1; simp at h1; subst h1
      have h2' := old (fun h => hne h.1.symm) h2
      exact fun e => (ho b2 v2 x2 h2' (hal _ (h.dom _ _ _ h2').1 a2)).2 e.symm
    · by_cases e2 : b2 = H.length ∧ v2 = v
      · obtain ⟨rfl, rfl⟩ := e2
        rw [Loc.add_same] at h2; simp at h2; subst h2
        have h1' := old e1 h1
        exact (ho b1 v1 x1 h1' (hal _ (h.dom _ _ _ h1').1 a1)).2
      · exact h.inj b1 v1 b2 v2 x1 x2 (old e1 h1) (old e2 h2) hne (hal _ (h.dom _ _ _ (old e1 h1)).1 a1) (hal _ (h.dom _ _ _ (old e2 h2)).1 a2)
  · obtain ⟨b', v', o', hx⟩ := hB'
    by_cases e : b' = H.length ∧ v' = v
    · obtain ⟨rfl, rfl⟩ := e
      rw [Loc.add_same] at hx; simp at hx
      rw [← hx.1]; exact hN
    · exact h.nN B' ⟨b', v', o', old e hx⟩
theorem putCells_get {α : Type} : ∀ (l cs : List α) (o i : Nat), o + l.length ≤ cs.length → (putCells cs o l)[i]? = if o ≤ i ∧ i < o + l.length then l[i - o]? else cs[i]?
 | [], cs, o, i, _ => by simp [putCells]; intros; omega
 | v :: l, cs, o, i, h => by
  simp at h
  rw [putCells, putCells_get l (cs.set o v) (o + 1) i (by simp; omega)]
  by_cases e : o = i
  ·subst e
   rw [if_neg (by omega), if_pos (by simp)]
   simp [show o < cs.length by omega]
  ·by_cases e2 : o + 1 ≤ i ∧ i < o + 1 + l.length
   ·rw [if_pos e2, if_pos (by simp; omega)]
    have : i - o = (i - (o + 1)) + 1 := by omega
    rw [this]; simp
   ·rw [if_neg e2, if_neg (by simp; omega)]
    simp [e]
theorem arr_getD {α : Type} (l : List α) (i : Nat) (d : α) : (⟨l⟩ : Array α).getD i d = (l[i]?).getD d := by
 simp only [Array.getD]
 split
 ·rename_i h; simp at h; simp [h]
 ·rename_i h; simp at h; simp [h]
theorem run_append_blk {t tx ty e : TypeId} {i : TypeInfo} {sz : Nat} (hsz0 : i.size = sz) (ht : C.P.underlying t = some (.slice e)) (hi : C.P.info? e = some i) {B o : Nat} {Cs : Array Value} {e' : TypeId} {fz : Nat × Nat} (hW : W.heap[B]? = some (.cells Cs e' fz))
    {sLen sCap : Nat} {x : Value} {n : Nat} {news : List Value} (hs : Src C.P sz tx x n news W)
    (hroom : sLen + n ≤ sCap) (hsz : o + sLen * sz + news.length ≤ Cs.size) (hf : fz.2 ≤ fz.1 ∨ Cs.size ≤ fz.1) {ts : Array TypeId} (h0 : ts[0]? = some t) (h1 : ts[1]? = some tx) :
    (Builtin.append_ ts ty #[.slice (some ⟨B, o, none⟩) sLen sCap, x]).run C.P W = .ok (.slice (some ⟨B, o, none⟩) (sLen + n) sCap) (setBlk W B (.cells ⟨putCells Cs.toList (o + sLen * sz) news⟩ e' fz)) := by
  subst hsz0
  have hst := run_storeCells_blk C.P B (o + sLen * i.size) e' fz news 0 W Cs hW (by omega) hf hs.one
  simp only [Nat.add_zero] at hst
  rcases hs.kind with ⟨e', hk⟩ | hk <;> simp [Builtin.append_, h0, h1, run_underlying ht, run_underlying hk, sizeOf, typeInfo, hi, hs.len, hroom, hs.cells, Addr.add_lit, hst]
theorem run_append_ts {t tx ty : TypeId} {ts : Array TypeId} (h0 : ts[0]? = some t) (h1 : ts[1]? = some tx) (xs : Array Value) : Builtin.append_ ts ty xs = Builtin.append_ #[t, tx] ty xs := by
 simp [Builtin.append_, h0, h1]
structure AppT (P : Program) (ts : Array TypeId) (sz bytes tag : Nat) where
 t : TypeId
 tx : TypeId
 e : TypeId
 i : TypeInfo
 z : Value
 h0 : ts[0]? = some t
 h1 : ts[1]? = some tx
 ht : P.underlying t = some (.slice e)
 hk : (∃ e', P.underlying tx = some (.slice e')) ∨ P.underlying tx = some .string
 hi : P.info? e = some i
 hz : i.zero = some z
 hzs : z.cells.size = sz
 hsz : i.size = sz
 hby : i.bytes = bytes
 htag : tagA P e = tag
theorem append_grow {ts : Array TypeId} {sz bytes tag : Nat} (A : AppT C.P ts sz bytes tag) {ty : TypeId} {base : Option Addr} {n cap m : Nat} {olds news : List Value} {x : Value}
    (hold : (Builtin.firstCells sz n (.slice base n cap)).run C.P W.drew = .ok olds.toArray W.drew) (hs : Src C.P sz A.tx x m news W) 
    (hcap : cap < n + m) (hlen : olds.length = n * sz) (hb : (n + m) * bytes ≤ 2 ^ 40) (hb0 : 0 < bytes) :
    ∃ rest cap2, (Builtin.append_ ts ty #[.slice base n cap, x]).run C.P W = .ok (.slice (some ⟨W.heap.size, 0, none⟩) (n + m) cap2) (pushBlk (drawW W) (.cells ((olds ++ news).toArray ++ rest) A.e (0, 0))) ∧
      n + m ≤ cap2 ∧ cap2 * sz ≤ ((olds ++ news).toArray ++ rest).size := by
  obtain ⟨t, tx, e, i, z, h0, h1, ht, hk, hi, hz, hzs, hsz, hby, htag⟩ := A
  subst hsz hby htag
  have hnm : n + m ≤ 2 ^ 40 := Nat.le_trans (Nat.le_mul_of_pos_right _ hb0) hb
  have hrun := run_append_grow_src (P := C.P) W t tx ty e i z ht hi hz base n cap olds hold x m news hs hcap (by simp at hnm ⊢; omega) (growslice_fits hcap (by simp at hb ⊢; omega))
  have hge := grownCap_ge W (n + m) cap e
  rw [← run_append_ts h0 h1] at hrun
  refine ⟨_, _, hrun, hge, ?_⟩
  have hnl := hs.newsLen
  rw [Array.size_append, size_zeroCells, hzs]
  simp only [List.size_toArray, List.length_append]
  rw [hlen, hnl, ← Nat.add_mul, ← Nat.add_mul]
  exact Nat.mul_le_mul_right _ (by omega)
theorem append_fresh {ts : Array TypeId} {sz bytes tag : Nat} (A : AppT C.P ts sz bytes tag) (hH : HRel C φ N H W) {ty : TypeId} {base : Option Addr} {n cap m : Nat} {old new : List AV} {olds news : List Value} {x : Value}
    (hold : (Builtin.firstCells sz n (.slice base n cap)).run C.P W.drew = .ok olds.toArray W.drew) (hs : Src C.P sz A.tx x m news W) (hlo : LRel C φ N W old olds) (hln : LRel C φ N W new news)
    (hro : rowOk old) (hrn : rowOk new) (hcap : cap < n + m) (hlen : old.length = n * sz) (hb : (n + m) * bytes ≤ 2 ^ 40) (hb0 : 0 < bytes) :
    RunSound C N φ W (Builtin.append_ ts ty #[.slice base n cap, x]) (.sl H.length 0 (n + m) sz (old ++ new).length none) (H ++ [.cells (old ++ new) tag (old ++ new).length 0]) := by
  obtain ⟨rest, cap2, hrun, hge, hsize⟩ := append_grow A (ty := ty) hold hs hcap (by rw [← hlo.1, hlen]) hb hb0
  have hl := LRel.append hlo hln
  have hnew := BRel.new (e := A.e) (tag := tag) (rest := rest) (wv := (old ++ new).length) (fz := (0, 0)) hH.draw (hl.mono (Ext.draw φ W)) (hro.append hrn) A.htag (.inl (Nat.le_refl _)) (Nat.le_refl _)
  refine ⟨_, _, _, hrun, HRel.push hH.draw hnew, ?_, (Ext.draw φ W).trans (Ext.push (hH.noLoc (Nat.le_refl _)) _)⟩
  exact .sl (Loc.add_same ..) hge (fun c hc => by simp at hc) pushBlk_new (by simpa using hsize) (.inl rfl)
theorem append_nothing {ts : Array TypeId} {sz bytes tag : Nat} (A : AppT C.P ts sz bytes tag) {ty : TypeId} (base : Option Addr) {n cap : Nat} (hle : n ≤ cap) {x : Value} {news : List Value} (hs : Src C.P sz A.tx x 0 news W) :
    (Builtin.append_ ts ty #[.slice base n cap, x]).run C.P W = .ok (.slice base n cap) W := by
  obtain ⟨t, tx, e, i, z, h0, h1, ht, hk, hi, hz, hzs, hsz, hby, htag⟩ := A
  subst hsz
  have hn : news = [] := List.eq_nil_of_length_eq_zero (by simpa using hs.newsLen)
  subst hn
  have hs' : Src C.P i.size tx x 0 [] W := hs
  rcases hs'.kind with ⟨e', hk⟩ | hk <;> cases base <;> simp [Builtin.append_, h0, h1, run_underlying ht, run_underlying hk, sizeOf, typeInfo, hi, hs'.len, hle, hs'.cells, storeCells]
theorem Ext.addLoc {b v B O : Nat} (hE : Ext φ φ W W') (hn : φ b v = none) (hB : mutB φ B ∨ W.heap.size ≤ B) : Ext φ (φ.add b v B O) W W' where
 size := hE.size
 mono b' v' x h := by
  rw [Loc.add_other]
  ·exact h
  ·rintro ⟨rfl, rfl⟩; rw [hn] at h; simp at h
 fresh b' v' x h := by
  by_cases e : b' = b ∧ v' = v
  ·obtain ⟨rfl, rfl⟩ := e
   rw [Loc.add_same] at h
   simp at h; subst h
   rcases hB with h1 | h1
   ·exact .inr (.inr h1)
   ·exact .inr (.inl h1)
  ·rw [Loc.add_other e] at h; exact .inl h
 keep := hE.keep
 shape := hE.shape
 loops := hE.loops
 os := hE.os
 output := hE.output
theorem grown_read {cs new : List AV} {Cs : Array Value} {O v : Nat} {news : List Value} (hold : ∀ i, i < v → VRel C φ N W (cs.getD i .bad) (Cs.getD (O + i) undef)) (hv : v = cs.length) (hln : LRel C φ N W new news) (hsz : O + v + news.length ≤ Cs.size) :
  ∀ i, i < (cs ++ new).length → VRel C φ N W ((cs ++ new).getD i .bad) ((⟨putCells Cs.toList (O + v) news⟩ : Array Value).getD (O + i) undef) := by
 intro i hi
 have hg := putCells_get news Cs.toList (O + v) (O + i) (by simpa using hsz)
 have hl := hln.1
 have hi2 : i < cs.length + new.length := by simpa using hi
 have hlt : O + i < (⟨putCells Cs.toList (O + v) news⟩ : Array Value).size := by simp [putCells_length]; omega
 have hval : (⟨putCells Cs.toList (O + v) news⟩ : Array Value).getD (O + i) undef = ((putCells Cs.toList (O + v) news)[O + i]?).getD undef := by
  rw [arr_getD]
 rw [hval, hg]
 by_cases e : i < cs.length
 ·rw [if_neg (by omega)]
  have := hold i (by omega)
  have hlt2 : O + i < Cs.size := by omega
  simpa [List.getD_eq_getElem?_getD, List.getElem?_append_left e, e, Array.getD, hlt2] using this
 ·rw [if_pos (by omega)]
  have := hln.2 (i - cs.length) (by omega)
  have e2 : O + i - (O + v) = i - cs.length := by omega
  rw [e2]
  simpa [List.getD_eq_getElem?_getD, List.getElem?_append_right (show cs.length ≤ i by omega)] using this
theorem kept_read {cs new : List AV} {Cs : Array Value} {O v v' : Nat} {news : List Value} (hold : ∀ i, i < v' → VRel C φ N W (cs.getD i .bad) (Cs.getD (O + i) undef)) (hv : v' ≤ v) (hc : v = cs.length) (hsz : O + v + news.length ≤ Cs.size) :
  ∀ i, i < v' → VRel C φ N W ((cs ++ new).getD i .bad) ((⟨putCells Cs.toList (O + v) news⟩ : Array Value).getD (O + i) undef) := by
 intro i hi
 have hg := putCells_get news Cs.toList (O + v) (O + i) (by simpa using hsz)
 have hlt : O + i < (⟨putCells Cs.toList (O + v) news⟩ : Array Value).size := by simp [putCells_length]; omega
 have hval : (⟨putCells Cs.toList (O + v) news⟩ : Array Value).getD (O + i) undef = ((putCells Cs.toList (O + v) news)[O + i]?).getD undef := by
  rw [arr_getD]
 rw [hval, hg, if_neg (by omega)]
 have := hold i hi
 have hlt2 : O + i < Cs.size := by omega
 simpa [List.getD_eq_getElem?_getD, List.getElem?_append_left (show i < cs.length by omega), Array.getD, hlt2] using this
theorem old_read {cs new : List AV} {X : Value} {i : Nat} (hi : i < cs.length) (h : VRel C φ N W (cs.getD i .bad) X) : VRel C φ N W ((cs ++ new).getD i .bad) X := by
 simpa [List.getD_eq_getElem?_getD, List.getElem?_append_left hi] using h
theorem append_tip {ts : Array TypeId} {sz bytes tag : Nat} (A : AppT C.P ts sz bytes tag) (hH : HRel C φ N H W) {ty : TypeId} {b n cap' m wv : Nat} {cap : Option Nat} {cs new : List AV} {news : List Value} {X Y : Value}
    (hu : VRel C φ N W (.sl b 0 n sz cs.length cap) X) (hblk : H[b]? = some (.cells cs tag wv 0)) (hwv : wv ≤ cs.length) (hn : n * sz = cs.length)
    (hs : Src C.P sz A.tx Y m news W) (hln : LRel C φ N W new news) (hrn : rowOk new) (hm : m ≠ 0) (hb : (n + m) * bytes ≤ 2 ^ 40) (hb0 : 0 < bytes) (hsz0 : 0 < sz) :
    RunSound C N φ W (Builtin.append_ ts ty #[X, Y]) (.sl b 0 (n + m) sz (cs ++ new).length none) (H.set b (.cells (cs ++ new) tag wv 0)) := by
  have hnl := hs.newsLen
  have hln1 := hln.1
  have hpos : 0 < new.length := by rw [hln1, hnl]; exact Nat.mul_pos (by omega) hsz0
  generalize hu0 : AV.sl b 0 n sz cs.length cap = u0 at hu
  cases hu <;> simp at hu0
  rename_i B O cap' cap0 ad Cs e fz hφ hcap hex hW hr ha
  obtain ⟨rfl, rfl, rfl, rfl, rfl, rfl⟩ := hu0
  obtain ⟨k0, k1, k2, hB⟩ := hH.blk b _ hblk
  obtain ⟨Cs', e', fz', g1, g2, g3, g4, g5, g6, g7⟩ := hB (by omega) cs.length B O hφ hwv
  rw [hW] at g1
  simp at g1
  obtain ⟨rfl, rfl, rfl⟩ := g1
  have hnone : φ b (cs ++ new).length = none := by
    cases hq : φ b (cs ++ new).length with
    | none => rfl
    | some x => have := (k1 _ x hq).1; simp at this; omega
  have hmB : mutB φ B := ⟨b, _, O, hφ⟩
  have hal : aliveAt H b := by simp [aliveAt, hblk]
  by_cases hroom : n + m ≤ cap'
  · have had : ad = ⟨B, O + 0, none⟩ := ha.resolve_right (by omega)
    subst had
    have hfit : O + 0 + n * sz + news.length ≤ Cs.size := by
      have : (n + m) * sz ≤ cap' * sz := Nat.mul_le_mul_right _ hroom
      rw [Nat.add_mul] at this
      omega
    have hrun := run_append_blk (C := C) (ty := ty) A.hsz A.ht A.hi hW hs hroom hfit (g7 rfl rfl) A.h0 A.h1
    rw [hn] at hrun
    rw [hn] at hfit
    simp only [Nat.add_zero] at hrun hfit hr
    have hE0 : Ext φ φ W (setBlk W B (.cells ⟨putCells Cs.toList (O + cs.length) news⟩ e fz)) :=
      Ext.setBlk (lt_of_heap hW) hmB (fun r h => by rw [hW] at h; simp at h) fun Cs' e' fz' h' => by
        rw [hW] at h'; simp at h'
        obtain ⟨rfl, rfl, rfl⟩ := h'
        exact ⟨_, _, rfl, by simp [putCells_length]⟩
    have hE := Ext.addLoc (O := O) hE0 hnone (.inl hmB)
    refine ⟨_, _, _, hrun, HRel.putAt hH hblk hal hE (fun b' v' x hne hx ha' => ?_) (by rw [setBlk_size]; exact lt_of_heap hW) (hH.nN B hmB) ?_, ?_, hE⟩
    · have := hH.inj b' v' b cs.length x _ hx hφ hne ha' hal
      exact ⟨setBlk_other this, this⟩
    · refine ⟨by simp; omega, fun v' x hx => ?_, ⟨_, Loc.add_same ..⟩, fun _ v' B' O' hx hv' => ?_⟩
      · have old : ∀ {v' x}, v' ≠ (cs ++ new).length → φ.add b (cs ++ new).length B O b v' = some x → φ b v' = some x := fun hne hx => by rwa [Loc.add_other (fun h => hne h.2)] at hx
        refine ⟨?_, fun v2 x2 hx2 heq => ?_⟩
        · by_cases e : v' = (cs ++ new).length
          · omega
          · have := (k1 v' x (old e hx)).1; simp; omega
        · by_cases e : v' = (cs ++ new).length
          · subst e
            rw [Loc.add_same] at hx; simp at hx; subst hx
            by_cases e2 : v2 = (cs ++ new).length
            · subst e2; rw [Loc.add_same] at hx2; simp at hx2; subst hx2; rfl
            · exact (k1 _ _ hφ).2 v2 x2 (old e2 hx2) heq
          · by_cases e2 : v2 = (cs ++ new).length
            · subst e2; rw [Loc.add_same] at hx2; simp at hx2; subst hx2
              exact ((k1 _ _ hφ).2 v' x (old e hx) heq.symm).symm
            · exact (k1 v' x (old e hx)).2 v2 x2 (old e2 hx2) heq
      · by_cases e0 : v' = (cs ++ new).length
        · subst e0
          rw [Loc.add_same] at hx; simp at hx
          obtain ⟨rfl, rfl⟩ := hx
          refine ⟨_, e, fz, setBlk_same (lt_of_heap hW), by simp [putCells_length]; omega, g3, g4, fun i hi => (grown_read g5 rfl hln (by omega) i hi).mono hE, g6.append hrn, fun _ _ => by simpa [putCells_length] using g7 rfl rfl⟩
        · rw [Loc.add_other (fun h => e0 h.2)] at hx
          have hle := (k1 v' _ hx).1
          by_cases eB : B' = B
          · subst eB
            have hO := (k1 _ _ hφ).2 v' _ hx rfl
            simp at hO; subst hO
            obtain ⟨Cs2, e2, fz2, q1, q2, q3, q4, q5, q6, q7⟩ := hB (by omega) v' B' O' hx hv'
            rw [hW] at q1; simp at q1
            obtain ⟨rfl, rfl, rfl⟩ := q1
            refine ⟨_, e, fz, setBlk_same (lt_of_heap hW), by simp [putCells_length]; omega, q3, q4, fun i hi => (kept_read q5 hle rfl (by omega) i hi).mono hE, g6.append hrn, fun _ h => by simp at h; omega⟩
          · obtain ⟨Cs2, e2, fz2, q1, q2, q3, q4, q5, q6, q7⟩ := hB (by omega) v' B' O' hx hv'
            exact ⟨Cs2, e2, fz2, by rw [setBlk_other eB]; exact q1, q2, q3, q4, fun i hi => (old_read (by omega) (q5 i hi)).mono hE, q6.append hrn, fun _ h => by simp at h; omega⟩
    · refine .sl (Loc.add_same ..) hroom (fun c hc => by simp at hc) (setBlk_same (lt_of_heap hW)) ?_ (.inl rfl)
      simpa [putCells_length] using hr
  · have hrowA : rowOf H (.sl b 0 n sz cs.length cap) = some cs := by
      simp [rowOf, hblk, hwv, hn]
    obtain ⟨hro, hr2⟩ := row_ok hH (.sl hφ hcap hex hW hr ha) hrowA
    rcases hr2 with ⟨h1, _, _⟩ | ⟨ad', m', cap2, sz2, xs, hel, hX, hcap2, hlen, hl, hlie⟩
    · simp at h1
    simp [elemOfA] at hel
    obtain ⟨rfl, rfl⟩ := hel
    simp at hX
    obtain ⟨rfl, rfl⟩ := hX
    obtain ⟨rest, cap2, hrun, hge, hsize⟩ := append_grow A (ty := ty) (run_firstCells_some W.drew sz n ad n cap' xs (by rw [← hl.1, hlen]) (fun j y hj => hlie j y hj)) hs (by omega) (by rw [← hl.1, hlen]) hb hb0
    have hE0 : Ext φ φ W (pushBlk (drawW W) (.cells ((xs ++ news).toArray ++ rest) A.e (0, 0))) := (Ext.draw φ W).trans (Ext.push0 φ (drawW W) _)
    have hE := Ext.addLoc (O := 0) hE0 hnone (.inr (Nat.le_refl W.heap.size))
    have hlt := lt_of_heap hW
    have hne : ∀ b' v' x, φ b' v' = some x → x.1 < W.heap.size := fun b' v' x hx => (hH.dom b' v' x hx).2
    refine ⟨_, _, _, hrun, HRel.putAt hH hblk hal hE (fun b' v' x hne' hx ha' => ⟨pushBlk_old (W := drawW W) (hne _ _ _ hx), Nat.ne_of_lt (hne _ _ _ hx)⟩) (by rw [pushBlk_size]; simp [drawW]) (fun h => absurd (hH.nS _ h) (Nat.lt_irrefl _)) ?_, ?_, hE⟩
    · refine ⟨by simp; omega, fun v' x hx => ?_, ⟨_, Loc.add_same ..⟩, fun _ v' B' O' hx hv' => ?_⟩
      · have old : ∀ {v' x}, v' ≠ (cs ++ new).length → φ.add b (cs ++ new).length W.heap.size 0 b v' = some x → φ b v' = some x := fun hne hx => by rwa [Loc.add_other (fun h => hne h.2)] at hx
        refine ⟨?_, fun v2 x2 hx2 heq => ?_⟩
        · by_cases e : v' = (cs ++ new).length
          · omega
          · have := (k1 v' x (old e hx)).1; simp; omega
        · by_cases e : v' = (cs ++ new).length
          · subst e
            rw [Loc.add_same] at hx; simp at hx; subst hx
            by_cases e2 : v2 = (cs ++ new).length
            · subst e2; rw [Loc.add_same] at hx2; simp at hx2; subst hx2; rfl
            · have := hne _ _ _ (old e2 hx2); simp at heq; omega
          · by_cases e2 : v2 = (cs ++ new).length
            · subst e2; rw [Loc.add_same] at hx2; simp at hx2; subst hx2
              have := hne _ _ _ (old e hx); simp at heq; omega
            · exact (k1 v' x (old e hx)).2 v2 x2 (old e2 hx2) heq
      · by_cases e0 : v' = (cs ++ new).length
        · subst e0
          rw [Loc.add_same] at hx; simp at hx
          obtain ⟨rfl, rfl⟩ := hx
          have hl2 := LRel.append hl hln
          refine ⟨_, A.e, (0, 0), pushBlk_new (W := drawW W), by simp; have := hl2.1; simp at this; omega, fun _ => rfl, A.htag, fun i hi => ?_, g6.append hrn, fun _ _ => .inl (Nat.le_refl _)⟩
          have := (hl2.2 i hi).mono hE
          have hi' : i < (xs ++ news).length := hl2.1 ▸ hi
          have e2 : ((xs ++ news).toArray ++ rest).getD (0 + i) undef = (xs ++ news).getD i undef := by
            have hi2 : i < ((xs ++ news).toArray ++ rest).size := by rw [Array.size_append]; simp only [List.size_toArray]; omega
            simp only [Nat.zero_add, Array.getD, hi2, dif_pos, List.getD_eq_getElem?_getD]
            have e3 := Array.getElem_append_left (xs := (xs ++ news).toArray) (ys := rest) (i := i) (h := hi2) (by simpa using hi')
            simp only [Array.getInternal_eq_getElem]
            rw [e3]
            simp only [List.getElem_toArray, List.getElem?_eq_getElem hi', Option.getD_some]
          rw [e2]; exact this
        · rw [Loc.add_other (fun h => e0 h.2)] at hx
          have hle := (k1 v' _ hx).1
          obtain ⟨Cs2, e2, fz2, q1, q2, q3, q4, q5, q6, q7⟩ := hB (by omega) v' B' O' hx hv'
          exact ⟨Cs2, e2, fz2, by rw [pushBlk_old (W := drawW W) (lt_of_heap q1)]; exact q1, q2, q3, q4, fun i hi => (old_read (by omega) (q5 i hi)).mono hE, q6.append hrn, fun _ h => by simp at h; omega⟩
    · exact .sl (Loc.add_same ..) hge (fun c hc => by simp at hc) pushBlk_new (by simpa using hsize) (.inl rfl)
end Go.AE
