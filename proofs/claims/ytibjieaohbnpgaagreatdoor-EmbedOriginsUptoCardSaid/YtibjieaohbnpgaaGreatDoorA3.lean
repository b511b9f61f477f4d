/- Operations, part two, and calls. -/
import Derived.Test.YtibjieaohbnpgaaGreatDoorA2
import Derived.Lib.UnsafeStr
import Derived.Lib.BytesEntry
import Derived.Laws.IdiomStrings
import Derived.Laws.MakeOwn
import Derived.RangeFuncLeaves
import Derived.OrdersIn
set_option linter.all false
set_option linter.unusedSimpArgs false
set_option linter.unusedVariables false
set_option linter.unnecessarySimpa false
set_option linter.deprecated false
namespace Go.AE
open Go
variable {C : Ctx} {φ φ' : Loc} {N : Nat → Prop} {W W' : World} {T : Tmps} {a : Act} {H : AHeap}
theorem set_append {H : AHeap} {b : Nat} {k k' : ABlk} (hb : b < H.length) : (H ++ [k]).set b k' = H.set b k' ++ [k] := by
 rw [List.set_append_left _ _ hb]
theorem append_mid {ts : Array TypeId} {sz bytes tag : Nat} (A : AppT C.P ts sz bytes tag) (hH : HRel C φ N H W) {ty : TypeId} {b o n m wv : Nat} {cap : Option Nat} {cs new : List AV} {news : List Value} {X Y : Value}
    (hu : VRel C φ N W (.sl b o n sz cs.length cap) X) (hblk : H[b]? = some (.cells cs tag wv 0)) (hwv : wv ≤ cs.length) (hn : o + n * sz ≤ cs.length) (htag : tag = 0 ∨ o = 0)
    (hs : Src C.P sz A.tx Y m news W) (hln : LRel C φ N W new news) (hrn : rowOk new) (hm : m ≠ 0) (hb : (n + m) * bytes ≤ 2 ^ 40) (hb0 : 0 < bytes) :
    RunSound C N φ W (Builtin.append_ ts ty #[X, Y]) (.sl H.length 0 (n + m) sz ((cs.drop o).take (n * sz) ++ new).length none)
      ((H ++ [ABlk.cells ((cs.drop o).take (n * sz) ++ new) tag ((cs.drop o).take (n * sz) ++ new).length 0]).set b (ABlk.cells cs tag wv 2)) := by
  have hnl := hs.newsLen
  have hln1 := hln.1
  have hlt : b < H.length := by
    rcases Nat.lt_or_ge b H.length with h1 | h1
    · exact h1
    · simp [List.getElem?_eq_none h1] at hblk
  have hrowA : rowOf H (.sl b o n sz cs.length cap) = some ((cs.drop o).take (n * sz)) := by
    simp [rowOf, hblk, hwv, hn]
  obtain ⟨hro, hr2⟩ := row_ok hH hu hrowA
  generalize hu0 : AV.sl b o n sz cs.length cap = u0 at hu
  cases hu <;> simp at hu0
  rename_i B O cap' cap0 ad Cs e fz hφ hcap hex hW hr ha
  obtain ⟨rfl, rfl, rfl, rfl, rfl, rfl⟩ := hu0
  obtain ⟨k0, k1, k2, hB⟩ := hH.blk b _ hblk
  obtain ⟨Cs', e', fz', g1, g2, g3, g4, g5, g6, g7⟩ := hB (by omega) cs.length B O hφ hwv
  rw [hW] at g1
  simp at g1
  obtain ⟨rfl, rfl, rfl⟩ := g1
  rcases hr2 with ⟨h1, _, _⟩ | ⟨ad', m', cap2, sz2, xs, hel, hX, hcap2, hlen, hl, hlie⟩
  · simp at h1
  simp [elemOfA] at hel
  obtain ⟨rfl, rfl⟩ := hel
  simp at hX
  obtain ⟨rfl, rfl⟩ := hX
  have hmB : mutB φ B := ⟨b, _, O, hφ⟩
  have hal : aliveAt H b := by simp [aliveAt, hblk]
  by_cases hroom : n + m ≤ cap'
  · have had : ad = ⟨B, O + o, none⟩ := ha.resolve_right (by omega)
    subst had
    have hfit : O + o + n * sz + news.length ≤ Cs.size := by
      have : (n + m) * sz ≤ cap' * sz := Nat.mul_le_mul_right _ hroom
      rw [Nat.add_mul] at this
      omega
    have hrun := run_append_blk (C := C) (ty := ty) A.hsz A.ht A.hi hW hs hroom hfit (g7 rfl rfl) A.h0 A.h1
    have hE0 : Ext φ φ W (setBlk W B (.cells ⟨putCells Cs.toList (O + o + n * sz) news⟩ e fz)) :=
      Ext.setBlk (lt_of_heap hW) hmB (fun r h => by rw [hW] at h; simp at h) fun Cs' e' fz' h' => by
        rw [hW] at h'; simp at h'
        obtain ⟨rfl, rfl, rfl⟩ := h'
        exact ⟨_, _, rfl, by simp [putCells_length]⟩
    have hK := hH.kill hblk
    have hlenK : (H.set b (.cells cs tag wv 2)).length = H.length := by simp
    have hnone : φ H.length ((cs.drop o).take (n * sz) ++ new).length = none := hH.noLoc (Nat.le_refl _)
    have hE := Ext.addLoc (O := O + o) hE0 hnone (.inl hmB)
    rw [set_append hlt]
    have hpush := HRel.pushAt (k := .cells ((cs.drop o).take (n * sz) ++ new) tag ((cs.drop o).take (n * sz) ++ new).length 0) (v := ((cs.drop o).take (n * sz) ++ new).length) hK (by rw [hlenK]; exact hE)
      (fun b' v' x hx ha' => by
        have hne : b' ≠ b := by rintro rfl; simp [aliveAt, hlt] at ha'
        have := hH.inj b' v' b cs.length x _ hx hφ hne ((aliveAt_set hne).1 ha') hal
        exact ⟨setBlk_other this, this⟩) (by rw [setBlk_size]; exact lt_of_heap hW) (hH.nN B hmB) (by
        rw [hlenK]
        have hloc : ∀ v x, φ.add H.length ((cs.drop o).take (n * sz) ++ new).length B (O + o) H.length v = some x → v = ((cs.drop o).take (n * sz) ++ new).length ∧ x = (B, O + o) := by
          intro v x hx
          by_cases e : v = ((cs.drop o).take (n * sz) ++ new).length
          · subst e; rw [Loc.add_same] at hx; simp at hx; exact ⟨rfl, hx.symm⟩
          · rw [Loc.add_other (fun h => e h.2), hH.noLoc (Nat.le_refl _)] at hx; simp at hx
        refine ⟨Nat.le_refl _, fun v x hx => ⟨by rw [(hloc v x hx).1]; exact Nat.le_refl _, fun v' x' hx' _ => by rw [(hloc v x hx).2, (hloc v' x' hx').2]⟩, ⟨_, Loc.add_same ..⟩, fun _ v' B' O' hx _ => ?_⟩
        obtain ⟨rfl, h2⟩ := hloc _ _ hx
        simp only [Prod.mk.injEq] at h2
        obtain ⟨rfl, rfl⟩ := h2
        have hold : ∀ i, i < n * sz → VRel C φ N W (((cs.drop o).take (n * sz)).getD i .bad) (Cs.getD (O + o + i) undef) := by
          intro i hi
          rw [drop_take_getD (by rw [hlen]; exact hi), Nat.add_assoc]
          exact g5 (o + i) (by omega)
        refine ⟨_, e, fz, setBlk_same (lt_of_heap hW), by simp only [List.length_append, hlen, hln1, List.size_toArray, putCells_length, Array.length_toList]; omega, fun h => ?_, g4, fun i hi => (grown_read hold hlen.symm hln hfit i hi).mono hE, (hro).append hrn, fun _ _ => by simpa [putCells_length] using g7 rfl rfl⟩
        have := g3 h
        rcases htag with h' | h'
        · exact absurd h' h
        · omega)
    refine ⟨_, _, _, hrun, by rw [hlenK] at hpush; exact hpush, ?_, hE⟩
    refine .sl (Loc.add_same ..) hroom (fun c hc => by simp at hc) (setBlk_same (lt_of_heap hW)) ?_ (.inl rfl)
    simpa [putCells_length] using hr
  · obtain ⟨φ', Z, W', h1, h2, h3, h4⟩ := append_fresh A hH (ty := ty) (run_firstCells_some W.drew sz n ad n cap' xs (by rw [← hl.1, hlen]) (fun j y hj => hlie j y hj)) hs hl hln hro hrn (by omega) hlen hb hb0
    refine ⟨φ', Z, W', h1, HRel.kill h2 (by rw [List.getElem?_append_left hlt]; exact hblk), h3, h4⟩
theorem low_append {ts : Array TypeId} {b : LBuiltin} (h : lowBuiltin C.P .append ts = some b) : ∃ sz bytes tag z, b = .append sz bytes tag z ∧ Nonempty (AppT C.P ts sz bytes tag) := by
  unfold lowBuiltin at h
  cases ht : ts[0]? with
  | none => simp [ht] at h
  | some t =>
    cases hd : C.P.underlying t with
    | none => simp [ht, hd] at h
    | some d =>
      cases d <;> simp [ht, hd] at h
      rename_i e
      cases hx : ts[1]? with
      | none => simp [hx] at h
      | some tx =>
        have key : ∀ (hk : (∃ e', C.P.underlying tx = some (.slice e')) ∨ C.P.underlying tx = some .string),
            (match sizeA C.P e, bytesA C.P e, zeroA C.P e with
              | some s, some b, some z => if z.cells.length = s ∧ 0 < s then some (LBuiltin.append s b (tagA C.P e) z.cells) else none
              | _, _, _ => none) = some b → ∃ sz bytes tag z, b = .append sz bytes tag z ∧ Nonempty (AppT C.P ts sz bytes tag) := by
          intro hk h
          split at h <;> try (simp at h; done)
          rename_i s b' z h1 h2 h3
          split at h <;> simp at h
          rename_i hz
          subst h
          simp only [sizeA, Option.map_eq_some_iff] at h1
          obtain ⟨i, hi, rfl⟩ := h1
          simp only [bytesA, Option.map_eq_some_iff] at h2
          obtain ⟨i2, hi2, rfl⟩ := h2
          rw [hi] at hi2; simp at hi2; subst hi2
          simp only [zeroA, Option.bind_eq_some_iff] at h3
          obtain ⟨zv, ⟨i3, hi3, hz3⟩, hc⟩ := h3
          rw [hi] at hi3; simp at hi3; subst hi3
          have hcz := (constA_ok (C := C) (φ := fun _ _ => none) (N := fun _ => False) (W := default) zv z hc)
          refine ⟨_, _, _, _, rfl, ⟨⟨t, tx, e, i, zv, ht, hx, hd, hk, hi, hz3, ?_, rfl, rfl, rfl⟩⟩⟩
          have := (hcz.1.cellsOk (by omega)).2.1
          simpa [hz.1] using this.symm
        cases hd2 : C.P.underlying tx with
        | none => simp [hx, hd2] at h
        | some d2 =>
          cases d2 <;> simp [hx, hd2] at h
          · exact key (.inr hd2) h
          · exact key (.inl ⟨_, hd2⟩) h
end Go.AE
namespace Go.AE
open Go
variable {C : Ctx} {φ φ' : Loc} {N : Nat → Prop} {W W' : World} {T : Tmps} {a : Act} {H : AHeap}
theorem append_ok {ts : Array TypeId} {sz bytes tag : Nat} (A : AppT C.P ts sz bytes tag) (hH : HRel C φ N H W) {ty : TypeId} {u x : AV} {X Y : Value} (hu : VRel C φ N W u X) (hx : VRel C φ N W x Y) {v : AV} {H' : AHeap} {k : Kd}
    (h : appendA H sz bytes tag u x = some (v, H', k)) : RunSound C N φ W (Builtin.append_ ts ty #[X, Y]) v H' := by
  unfold appendA at h
  cases hc : cellsIn H sz x with
  | none => simp [hc] at h
  | some p =>
    obtain ⟨m, new⟩ := p
    obtain ⟨news, hs, hln, hrn⟩ := cellsIn_ok hH hx hc A.hk
    simp only [hc] at h
    have nothing : ∀ {base : Option Addr} {n cap : Nat}, X = .slice base n cap → n ≤ cap → m = 0 → RunSound C N φ W (Builtin.append_ ts ty #[X, Y]) u H := by
      intro base n cap hX hle hm
      subst hX hm
      exact .same hH (append_nothing A base hle hs) hu
    cases u <;> try (simp at h; done)
    case nilsl =>
      cases hu
      simp only at h
      split at h
      · rename_i hm
        simp at h; obtain ⟨rfl, rfl, rfl⟩ := h
        exact nothing rfl (Nat.le_refl _) hm
      · rename_i hm
        split at h <;> simp at h
        rename_i hb
        obtain ⟨rfl, rfl, rfl⟩ := h
        have := append_fresh A hH (ty := ty) (base := none) (n := 0) (cap := 0) (old := []) (olds := []) (run_firstCells_none W.drew sz 0 0 0) hs LRel.nil hln .nil hrn (by omega) (by simp) hb.1 hb.2.1
        simpa using this
    case lst cs n sz' ex =>
      simp only at h
      split at h <;> try (simp at h; done)
      rename_i hsz
      simp only [not_or, ne_eq, Decidable.not_not] at hsz
      obtain ⟨rfl, hlen⟩ := hsz
      split at h
      · rename_i hm
        simp at h; obtain ⟨rfl, rfl, rfl⟩ := h
        cases hu with
        | lst Z hl hcap hex ha hro hc' hr => exact nothing rfl hcap hm
      · rename_i hm
        split at h <;> try (simp at h; done)
        rename_i hex1
        simp only [Option.map_eq_some_iff] at h
        obtain ⟨r, h, h'⟩ := h
        split at h <;> simp at h
        rename_i hb
        subst h
        simp only [Prod.mk.injEq] at h'
        obtain ⟨rfl, rfl, _⟩ := h'
        have hcells : cellsIn H sz' (.lst cs n sz' ex) = some (n, cs) := by simp [cellsIn, hlen]
        obtain ⟨olds, hso, hlo, hro⟩ := cellsIn_ok hH hu hcells A.hk
        cases hu with
        | @lst _ _ _ cap _ ad Z hl hcap hex ha hro' hc' hr =>
          obtain rfl := hex hex1
          have := append_fresh A hH (ty := ty) hso.cellsD hs hlo hln hro hrn (by omega) hlen hb.1 hb.2.1
          simpa using this
    case sl b o n sz' v' cap =>
      simp only at h
      split at h <;> try (simp at h; done)
      rename_i hsz
      simp only [ne_eq, Decidable.not_not] at hsz
      subst hsz
      split at h <;> try (simp at h; done)
      rename_i cs t wv st hblk
      split at h <;> try (simp at h; done)
      rename_i hcond
      obtain ⟨rfl, hwv, hv, hon, rfl⟩ := hcond
      have hX : ∃ ad cap', X = .slice (some ad) n cap' ∧ n ≤ cap' ∧ (∀ c, cap = some c → cap' = c) := by
        cases hu with
        | sl hφ hcap hex hW hr ha => exact ⟨_, _, rfl, hcap, hex⟩
      obtain ⟨ad, cap', rfl, hle, hex⟩ := hX
      split at h
      · rename_i hm
        simp at h; obtain ⟨rfl, rfl, rfl⟩ := h
        exact nothing rfl hle hm
      · rename_i hm
        split at h
        · rename_i hcap
          split at h <;> simp at h
          rename_i hb
          obtain ⟨rfl, rfl, rfl⟩ := h
          have hrowA : rowOf H (.sl b o n sz' v' cap) = some ((cs.drop o).take (n * sz')) := by
            simp [rowOf, hblk, hwv, hon, hv]
          have hcells : cellsIn H sz' (.sl b o n sz' v' cap) = some (n, (cs.drop o).take (n * sz')) := by simp [cellsIn, hrowA]
          obtain ⟨olds, hso, hlo, hro⟩ := cellsIn_ok hH hu hcells A.hk
          have hc2 : cap' < n + m := by
            cases cap with
            | none => simp at hcap
            | some c => have := hex c rfl; simp at hcap; omega
          have := append_fresh A hH (ty := ty) hso.cellsD hs hlo hln hro hrn hc2 (by rw [hlo.1, hso.newsLen]) hb.1 hb.2.1
          simpa using this
        · split at h
          · rename_i htip
            obtain ⟨rfl, htip⟩ := htip
            split at h <;> simp at h
            rename_i hb
            obtain ⟨hb1, hb2, hb3, rfl⟩ := hb
            obtain ⟨rfl, rfl, rfl⟩ := h
            have := append_tip A hH (ty := ty) (cap' := 0) hu hblk hwv (by omega) hs hln hrn hm hb1 hb2 hb3
            simpa using this
          · split at h <;> try (simp at h; done)
            rename_i hmid
            obtain ⟨rfl, htag⟩ := hmid
            split at h <;> simp at h
            rename_i hb
            obtain ⟨rfl, rfl, rfl⟩ := h
            have := append_mid A hH (ty := ty) hu hblk hwv hon htag hs hln hrn hm hb.1 hb.2.1
            simpa using this
end Go.AE
namespace Go.AE
open Go
variable {C : Ctx} {φ φ' : Loc} {N : Nat → Prop} {W W' : World} {T : Tmps} {a : Act} {H : AHeap}
theorem firstIn_ok (hH : HRel C φ N H W) {u : AV} {X : Value} (hu : VRel C φ N W u X) {sz m k : Nat} {new : List AV} (h : cellsIn H sz u = some (m, new)) (hk : k ≤ m) :
  ∃ news, (Builtin.firstCells sz k X).run C.P W = .ok news.toArray W ∧ LRel C φ N W (new.take (k * sz)) news ∧ rowOk new ∧ (Builtin.lenOf X).run C.P W = .ok m W := by
 cases hu with
 | str s =>
  simp [cellsIn] at h
  obtain ⟨rfl, rfl, rfl⟩ := h
  refine ⟨((s.take k).map fun b => Value.int .u8 b.toNat), ?_, ⟨by simp, fun i hi => ?_⟩, rowOk.iff.2 fun w hw => ?_, rfl⟩
  ·simp [Builtin.firstCells]
  ·simp at hi
   have h2 : i < k := by omega
   have h3 : i < s.length := by omega
   simp [List.getD_eq_getElem?_getD, List.getElem?_take, h2, h3]
   exact .int ..
  ·obtain ⟨_, _, rfl⟩ := List.mem_map.1 hw; rfl
 | nilsl =>
  simp [cellsIn] at h
  obtain ⟨rfl, rfl⟩ := h
  exact ⟨[], run_firstCells_none W sz k 0 0, by simpa using LRel.nil, .nil, rfl⟩
 | @lst cs n sz' cap ex ad Y hl hcap hex ha ho hc hr =>
  simp [cellsIn] at h
  obtain ⟨⟨rfl, _⟩, rfl, rfl⟩ := h
  have hkl : k * sz' ≤ cs.length := by rw [hl]; exact Nat.mul_le_mul_right _ hk
  refine ⟨(List.range (k * sz')).map Y, ?_, ⟨by simp; omega, fun i hi => ?_⟩, ho, rfl⟩
  ·refine run_firstCells_some W _ _ ad _ _ _ (by simp) fun j u hj => ?_
   have hj' : j < k * sz' := by
    rcases Nat.lt_or_ge j (k * sz') with h1 | h1
    ·exact h1
    ·rw [List.getElem?_eq_none (by simpa using h1)] at hj; simp at hj
   have hne : cs ≠ [] := by rintro rfl; simp at hkl; rw [hkl] at hj'; omega
   rw [add_spot (ha hne).1, hc j (by omega)]
   simpa [hj'] using hj
  ·have hi' : i < k * sz' := by simp at hi; omega
   have := hr i (by omega)
   simpa [List.getD_eq_getElem?_getD, List.getElem?_take, hi'] using this
 | @sl b o n sz' v0 B O cap' cap ad Cs e' fz hφ hcap hex hW hr ha =>
  simp only [cellsIn] at h
  split at h <;> try (simp at h; done)
  rename_i he; subst he
  simp only [Option.map_eq_some_iff, Prod.mk.injEq] at h
  obtain ⟨cs, hrow, rfl, rfl⟩ := h
  obtain ⟨hro, hr2⟩ := row_ok hH (.sl hφ hcap hex hW hr ha) hrow
  rcases hr2 with ⟨h1, _, _⟩ | ⟨ad', m', cap2, sz2, xs, hel, hX, hcap2, hlen, hl, hlie⟩
  ·simp at h1
  ·simp [elemOfA] at hel
   obtain ⟨rfl, rfl⟩ := hel
   simp at hX
   obtain ⟨rfl, rfl⟩ := hX
   have hkl : k * sz' ≤ xs.length := by rw [← hl.1, hlen]; exact Nat.mul_le_mul_right _ hk
   refine ⟨xs.take (k * sz'), run_firstCells_some W _ _ ad _ _ _ (by simp; omega) fun j y hj => hlie j y ?_, hl.take _, hro, rfl⟩
   rw [List.getElem?_take] at hj
   split at hj
   ·exact hj
   ·simp at hj
 | _ => simp [cellsIn] at h
theorem sl_addr {b o n sz v : Nat} {cap : Option Nat} {X : Value} (hu : VRel C φ N W (.sl b o n sz v cap) X) : ∃ B O ad cap', φ b v = some (B, O) ∧ X = .slice (some ad) n cap' ∧ n ≤ cap' ∧ (ad = ⟨B, O + o, none⟩ ∨ n = 0) := by
  cases hu with
  | sl hφ hcap hex hW hr ha => exact ⟨_, _, _, _, hφ, rfl, hcap, ha.imp id fun h => by omega⟩
theorem copy_ok {ts : Array TypeId} {b : LBuiltin} (hb : lowBuiltin C.P .copy ts = some b) (hH : HRel C φ N H W) {ty : TypeId} {d x : AV} {X Y : Value} (hd : VRel C φ N W d X) (hx : VRel C φ N W x Y) {v : AV} {H' : AHeap} {k : Kd}
    (h : builtinA H b [d, x] = some (v, H', k)) : RunSound C N φ W (Builtin.copy_ ts ty #[X, Y]) v H' := by
  unfold lowBuiltin at hb
  cases ht : ts[0]? with
  | none => simp [ht] at hb
  | some t =>
  cases hdt : C.P.underlying t with
  | none => simp [ht, hdt] at hb
  | some dd =>
  cases dd <;> simp [ht, hdt] at hb
  rename_i e
  obtain ⟨sz, hsz, rfl⟩ := hb
  simp only [builtinA, copyA] at h
  split at h <;> try (simp at h; done)
  · rename_i q m new hc
    simp at h
    obtain ⟨rfl, rfl, rfl⟩ := h
    obtain ⟨news, h1, h2, h3, h4⟩ := firstIn_ok hH hx hc (Nat.zero_le m)
    cases hd
    refine .same hH (x := .int .i64 0) ?_ (.int ..)
    simp [Builtin.copy_, ht, r_underlying hdt, h4, r_size hsz, h1, goInt]
  · rename_i m new bb o n sz' vv cap hc
    split at h <;> try (simp at h; done)
    rename_i he; subst he
    simp only [Option.map_eq_some_iff, Prod.mk.injEq] at h
    obtain ⟨H1, hst, rfl, rfl, rfl⟩ := h
    obtain ⟨B, O, ad, cap', hφ, rfl, hcap, ha⟩ := sl_addr hd
    obtain ⟨news, h1, h2, h3, h4⟩ := firstIn_ok (k := min m n) hH hx hc (Nat.min_le_left _ _)
    obtain ⟨W', g1, g2, g3⟩ := store_cells_ok hH hφ h2 (h3.take _) hst
    refine ⟨φ, .int .i64 (min m n : Nat), W', ?_, g2, .int .., g3⟩
    have hz : (storeCells ad news).run C.P W = .ok () W' := by
      rcases ha with rfl | rfl
      · exact g1
      · have hn : news = [] := by
          have := h2.1; simp at this; exact List.eq_nil_of_length_eq_zero this.symm
        subst hn
        exact g1
    have h1' : (Builtin.firstCells sz' (Nat.min m n) Y).run C.P W = .ok news.toArray W := h1
    simp [Builtin.copy_, ht, r_underlying hdt, h4, r_size hsz, h1', goInt, hz]
    first | done | rfl
theorem repCells_get {z : List AV} {n i : Nat} (hi : i < n * z.length) : (repCells n z)[i]? = z[i % z.length]? := by
 induction n generalizing i with
 | zero => simp at hi
 | succ n ih =>
  simp only [repCells]
  have hz : 0 < z.length := by
   rcases Nat.eq_zero_or_pos z.length with h0 | h0
   ·rw [h0] at hi; simp at hi
   ·exact h0
  by_cases h : i < z.length
  ·rw [List.getElem?_append_left h, Nat.mod_eq_of_lt h]
  ·rw [List.getElem?_append_right (by omega), ih (by rw [Nat.succ_mul] at hi; omega)]
   congr 1
   rw [Nat.mod_eq_sub_mod (a := i) (by omega)]
theorem repCells_len (z : List AV) (n : Nat) : (repCells n z).length = n * z.length := by
 induction n with
 | zero => simp [repCells]
 | succ n ih => simp [repCells, ih, Nat.succ_mul, Nat.add_comm]
theorem zeros_ok {z : AV} {x : Value} (hz : constA x = some z) {n : Nat} (h0 : 0 < z.cells.length) : LRel C φ N W (repCells n z.cells) (Builtin.zeroCells x.cells n).toList ∧ rowOk (repCells n z.cells) := by
 obtain ⟨hr, hl⟩ := ((constA_ok (C := C) (φ := φ) (N := N) (W := W) x z hz).1).cellsOk h0
 have hs : x.cells.size = z.cells.length := by have := hl.1; simpa using this.symm
 refine ⟨⟨by simp [repCells_len, Builtin.zeroCells, hs], fun i hi => ?_⟩, rowOk.iff.2 fun w hw => ?_⟩
 ·rw [repCells_len] at hi
  have hm : i % z.cells.length < z.cells.length := Nat.mod_lt _ h0
  have := hl.2 (i % z.cells.length) hm
  have e1 : (repCells n z.cells).getD i .bad = z.cells.getD (i % z.cells.length) .bad := by
   simp [List.getD_eq_getElem?_getD, repCells_get hi]
  have e2 : (Builtin.zeroCells x.cells n).toList.getD i undef = x.cells.toList.getD (i % z.cells.length) undef := by
   have h3 : i % z.cells.length < x.cells.size := by rw [hs]; exact hm
   simp [Builtin.zeroCells, List.getD_eq_getElem?_getD, hs, hi, h3, hm]
  rw [e1, e2]; exact this
 ·obtain ⟨i, hi, rfl⟩ := List.getElem_of_mem hw
  rw [repCells_len] at hi
  have hm : i % z.cells.length < z.cells.length := Nat.mod_lt _ h0
  have := repCells_get hi
  have h2 := hr (i % z.cells.length) hm
  have e : (repCells n z.cells)[i] = z.cells[i % z.cells.length] := by
   rw [List.getElem?_eq_getElem (by rw [repCells_len]; exact hi), List.getElem?_eq_getElem hm] at this
   simpa using this
  rw [e]
  simpa [List.getD_eq_getElem?_getD, hm] using h2
theorem clear_ok {ts : Array TypeId} {b : LBuiltin} (hb : lowBuiltin C.P .clear ts = some b) (hH : HRel C φ N H W) {ty : TypeId} {x : AV} {X : Value} (hx : VRel C φ N W x X) {v : AV} {H' : AHeap} {k : Kd}
    (h : builtinA H b [x] = some (v, H', k)) : RunSound C N φ W (Builtin.clear_ ts ty #[X]) v H' := by
  unfold lowBuiltin at hb
  cases ht : ts[0]? with
  | none => simp [ht] at hb
  | some t =>
  cases hdt : C.P.underlying t with
  | none => simp [ht, hdt] at hb
  | some dd =>
  cases dd <;> simp [ht, hdt] at hb
  rename_i e
  split at hb <;> simp at hb
  rename_i sz z hsz hz
  obtain ⟨hz0, rfl⟩ := hb
  simp only [builtinA] at h
  split at h <;> try (simp at h; done)
  · simp at h
    obtain ⟨rfl, rfl, rfl⟩ := h
    cases hx
    exact .same hH (x := .tuple #[]) (by simp [Builtin.clear_, ht, r_underlying hdt]) VRel.undef
  · rename_i bb o n sz' vv cap
    split at h
    · rename_i hn
      subst hn
      simp at h
      obtain ⟨rfl, rfl, rfl⟩ := h
      obtain ⟨B, O, ad, cap', hφ, rfl, hcap, ha⟩ := sl_addr hx
      exact .same hH (x := .tuple #[]) (by simp [Builtin.clear_, ht, r_underlying hdt]) VRel.undef
    · rename_i hn
      split at h <;> try (simp at h; done)
      rename_i he; subst he
      simp only [Option.map_eq_some_iff, Prod.mk.injEq] at h
      obtain ⟨H1, hst, rfl, rfl, rfl⟩ := h
      obtain ⟨B, O, ad, cap', hφ, rfl, hcap, ha⟩ := sl_addr hx
      have := ha.resolve_right hn
      subst this
      obtain ⟨zv, hzr, hzc⟩ := r_zero hz W
      obtain ⟨h2, h3⟩ := zeros_ok (C := C) (φ := φ) (N := N) (W := W) (n := n) hzc hz0
      obtain ⟨W', g1, g2, g3⟩ := store_cells_ok hH hφ h2 h3 hst
      refine ⟨φ, .tuple #[], W', ?_, g2, VRel.undef, g3⟩
      obtain ⟨n', rfl⟩ := Nat.exists_eq_succ_of_ne_zero hn
      simp [Builtin.clear_, ht, r_underlying hdt, hzr, g1]
end Go.AE
namespace Go.AE
open Go
variable {C : Ctx} {φ φ' : Loc} {N : Nat → Prop} {W W' : World} {T : Tmps} {a : Act} {H : AHeap}
theorem freeze_blk {B n : Nat} {Cs : Array Value} {e : TypeId} {fz : Nat × Nat} (hW : W.heap[B]? = some (.cells Cs e fz)) (hn : n ≠ 0) (o : Nat) :
  ∃ fz', W.freeze ⟨B, o, none⟩ n = setBlk W B (.cells Cs e fz') := by
 refine ⟨if fz.1 == fz.2 then (o, o + n) else (min fz.1 o, max fz.2 (o + n)), ?_⟩
 unfold World.freeze
 rw [if_neg hn]
 simp only [setBlk, World.mk.injEq, and_true, true_and]
 apply Array.ext_getElem?
 intro j
 rw [Array.getElem?_modify, Array.getElem?_setIfInBounds]
 split
 ·rename_i h; subst h
  simp only [hW, Option.map_some, lt_of_heap hW, if_true]
 ·rfl
theorem same_u8 {P : Program} {e u : TypeId} (he : P.underlying e = some (.int .u8)) (hu : P.underlying u = some (.int .u8)) : sameLayout P P.depth e u = true := by
 have hd : P.depth = (2 * (P.types.size + Made.depth) + 1) + 1 := rfl
 rw [hd]
 simp [sameLayout, he, hu]
theorem liesAt_u8 {e u : TypeId} (he : C.P.underlying e = some (.int .u8)) (hu : C.P.underlying u = some (.int .u8)) (count n : Nat) (hn : n ≤ count) : liesAt C.P C.P.depth e count 0 u n = true := by
 have hd : C.P.depth = (2 * (C.P.types.size + Made.depth) + 1) + 1 := rfl
 have h := same_u8 he hu
 rw [hd]
 simp only [liesAt, Bool.or_eq_true]
 left
 rw [hd, rowAt, C.u8 e he]
 rw [hd] at h
 simp [hn, h]
theorem low_string {ts : Array TypeId} {b : LBuiltin} (hb : lowBuiltin C.P .unsafeString ts = some b) : b = .string ∧ ∃ pt u, ts[0]? = some pt ∧ C.P.underlying pt = some (.pointer u) ∧ C.P.underlying u = some (.int .u8) := by
 unfold lowBuiltin at hb
 cases ht : ts[0]? with
 | none => simp [ht] at hb
 | some pt =>
 cases hdt : C.P.underlying pt with
 | none => simp [ht, hdt] at hb
 | some dd =>
 cases dd <;> simp [ht, hdt] at hb
 rename_i u
 obtain ⟨h1, rfl⟩ := hb
 refine ⟨rfl, pt, u, rfl, hdt, ?_⟩
 split at h1 <;> simp_all
theorem sem_bind {α β : Type} (x : Sem α) (f : α → Sem β) : x.bind f = x >>= f := rfl
theorem run_loadBytesI : ∀ (xs : List Int) (a : Addr) (acc : ByteArray), (∀ j x, xs[j]? = some x → W.cell? (a.add j) = some (.int .u8 x)) →
    (loadBytes a acc xs.length).run C.P W = .ok ⟨acc.data ++ (xs.map fun n => UInt8.ofNat n.toNat).toArray⟩ W
  | [], a, acc, _ => by simp [loadBytes]
  | x :: l, a, acc, h => by
    have h0 : W.cell? a = some (.int .u8 x) := by
      have := h 0 x rfl
      simpa [Addr.add] using this
    have ih := run_loadBytesI l (a.add 1) (acc.push x.toNat.toUInt8) (fun j y hy => by
      have := h (j + 1) y (by simpa using hy)
      have e : (a.add 1).add j = a.add (j + 1) := by
        unfold Addr.add
        by_cases hj : j = 0
        · subst hj; simp
        · simp [hj]; omega
      rw [e]; exact this)
    simp only [List.length_cons, loadBytes, Sem.run_bind, run_load, h0, Result.andThen]
    rw [ih]
    congr 1
    apply ByteArray.ext
    simp [ByteArray.push]
theorem string_ok {ts : Array TypeId} {b : LBuiltin} (hb : lowBuiltin C.P .unsafeString ts = some b) (hH : HRel C φ N H W) {ty : TypeId} {p n : AV} {X Y : Value} (hp : VRel C φ N W p X) (hn : VRel C φ N W n Y) {v : AV} {H' : AHeap} {k : Kd}
    (h : builtinA H b [p, n] = some (v, H', k)) : RunSound C N φ W (Builtin.unsafeString_ ts ty #[X, Y]) v H' := by
  obtain ⟨rfl, pt, u, ht, hpt, hu⟩ := low_string hb
  have hmax : IntKind.i64.max = 9223372036854775807 := rfl
  have none_ok : ∀ (q : Option Addr) (kd : IntKind), (Builtin.unsafeString_ ts ty #[.pointer q, .int kd 0]).run C.P W = .ok (.string .empty) W := by
    intro q kd
    cases q <;>
    · delta Builtin.unsafeString_
      conv => lhs; arg 2; whnf
      try rw [sem_bind]
      simp [Array.getLit, asInt, asIntOf, ht, hmax]
  simp only [builtinA] at h
  split at h <;> try (simp at h; done)
  · simp at h
    obtain ⟨rfl, rfl, rfl⟩ := h
    cases hp; cases hn
    exact .same hH (none_ok _ _) (.str [])
  · rename_i bb o vv kd i
    cases hn
    generalize hp0 : AV.ptr bb o vv = p0 at hp
    cases hp <;> simp at hp0
    rename_i B O hφ
    obtain ⟨rfl, rfl, rfl⟩ := hp0
    split at h
    · rename_i h0; subst h0
      simp at h
      obtain ⟨rfl, rfl, rfl⟩ := h
      exact .same hH (none_ok _ _) (.str [])
    · rename_i h0
      split at h <;> try (simp at h; done)
      rename_i hpos
      split at h <;> try (simp at h; done)
      rename_i cs tag wv st hblk
      split at h <;> try (simp at h; done)
      rename_i hc
      obtain ⟨hst, hwv, rfl, hle, rfl, rfl⟩ := hc
      simp only [Option.map_eq_some_iff, Prod.mk.injEq] at h
      obtain ⟨s, hs, rfl, rfl, rfl⟩ := h
      obtain ⟨k0, k1, k2, hB⟩ := hH.blk bb _ hblk
      obtain ⟨Cs, e, fz, g1, g2, g3, g4, g5, g6, g7⟩ := hB hst cs.length B O hφ hwv
      obtain rfl := g3 (by simp)
      have he := tagA_1 g4
      obtain ⟨m, rfl⟩ : ∃ m : Nat, i = m := ⟨i.toNat, by omega⟩
      simp only [Int.toNat_natCast, Nat.zero_add, List.drop_zero] at hle hs
      have hl : LRel C φ N W (cs.take m) ((List.range m).map fun j => Cs.getD j undef) := ⟨by simp; omega, fun j hj => by
        have hj' : j < m := by simp at hj; omega
        have := g5 j (by omega)
        simpa [List.getD_eq_getElem?_getD, List.getElem?_take, hj'] using this⟩
      obtain ⟨ns, hns, hs'⟩ := bytesOf_ok hl hs
      have hm : ns.length = m := by have := congrArg List.length hns; simpa using this.symm
      have hcell : ∀ j x, ns[j]? = some x → W.cell? ((⟨B, 0, none⟩ : Addr).add j) = some (.int .u8 x) := by
        intro j x hj
        have hjl : j < m := by
          rw [← hm]
          rcases Nat.lt_or_ge j ns.length with h1 | h1
          · exact h1
          · rw [List.getElem?_eq_none h1] at hj; simp at hj
        rw [add_none, Nat.zero_add, cell_of g1]
        have h2 := congrArg (fun l => l[j]?) hns
        simp [hj, hjl, Array.getD, show j < Cs.size by omega] at h2
        simp [show j < Cs.size by omega, h2]
      obtain ⟨fz', hfr⟩ := freeze_blk (n := m) g1 (by omega) 0
      have hm' : mutB φ B := ⟨bb, cs.length, 0, hφ⟩
      have hE : Ext φ φ W (setBlk W B (.cells Cs e fz')) := Ext.setBlk (lt_of_heap g1) hm' (fun r h => by rw [g1] at h; simp at h) fun Cs2 e2 fz2 h2 => by
        rw [g1] at h2; simp at h2
        obtain ⟨rfl, rfl, rfl⟩ := h2
        exact ⟨_, _, rfl, rfl⟩
      have hal : aliveAt H bb := by simp [aliveAt, hblk]; exact hst
      refine ⟨φ, .string ⟨s.toArray⟩, setBlk W B (.cells Cs e fz'), ?_, HRel.put hH hblk hal hφ hE ?_, .str _, hE⟩
      · have hsh : W.shape? B = some (e, Cs.size) := by simp [World.shape?, g1]
        have hlies := liesAt_u8 (C := C) he hu (Cs.size / C.P.cellsOf e) m (by rw [C.u8 e he]; simp; omega)
        have hlb := run_loadBytesI (C := C) (W := W) ns ⟨B, 0, none⟩ .empty hcell
        rw [hm, ← hs'] at hlb
        have h2 : ¬ ((m : Int) > 9223372036854775807) := by
          have := hpos.2; simp at this; omega
        have h3 : ¬ ((m : Int) < 0) := by omega
        have h4 : m ≠ 0 := by omega
        have h5 : ByteArray.empty.data ++ s.toArray = s.toArray := by simp [ByteArray.empty, ByteArray.emptyWithCapacity]; rfl
        rw [h5] at hlb
        delta Builtin.unsafeString_
        conv => lhs; arg 2; whnf
        try rw [sem_bind]
        simp [Array.getLit, asInt, asIntOf, ht, hmax, h2, h3, h4, variablesAt, hsh, elemOf, run_underlying hpt, hlies, hlb, hfr]
      · refine ⟨hwv, k1, k2, fun _ v' B' O' hx hv' => ?_⟩
        have e1 : v' = cs.length ∨ v' ≠ cs.length := Decidable.em _
        obtain ⟨Cs2, e2, fz2, q1, q2, q3, q4, q5, q6, q7⟩ := hB hst v' B' O' hx hv'
        by_cases eB : B' = B
        · subst eB
          rw [g1] at q1; simp at q1
          obtain ⟨rfl, rfl, rfl⟩ := q1
          exact ⟨_, _, _, setBlk_same (lt_of_heap g1), q2, q3, q4, fun i hi => (q5 i hi).mono hE, q6, fun h => by omega⟩
        · exact ⟨Cs2, e2, fz2, by rw [setBlk_other eB]; exact q1, q2, q3, q4, fun i hi => (q5 i hi).mono hE, q6, fun h => by omega⟩
end Go.AE
namespace Go.AE
open Go
variable {C : Ctx} {φ φ' : Loc} {N : Nat → Prop} {W W' : World} {T : Tmps} {a : Act} {H : AHeap}
theorem sliceData_ok {ts : Array TypeId} {b : LBuiltin} (hb : lowBuiltin C.P .unsafeSliceData ts = some b) (hH : HRel C φ N H W) {ty : TypeId} {u : AV} {X : Value} (hu : VRel C φ N W u X) {v : AV} {H' : AHeap} {k : Kd}
    (h : builtinA H b [u] = some (v, H', k)) : RunSound C N φ W (Builtin.unsafeSliceData_ ts ty #[X]) v H' := by
  have hb' : b = .sliceData := by
    unfold lowBuiltin at hb
    cases ht : ts[0]? with
    | none => simp [ht] at hb
    | some pt =>
    cases hdt : C.P.underlying pt with
    | none => simp [ht, hdt] at hb
    | some dd => cases dd <;> simp [ht, hdt] at hb; exact hb.symm
  subst hb'
  simp only [builtinA] at h
  cases hu <;> try (simp at h; done)
  · simp only at h
    obtain ⟨hw, rfl, rfl⟩ := pureV_some h
    simp at hw; subst hw
    exact .same hH (Lib.run_unsafeSliceData_nil W ts ty 0 0) .nilptr
  · rename_i B O cap' cap ad Cs e fz hφ hcap hex hW hr ha
    simp only at h
    split at h <;> try (simp at h; done)
    rename_i hn
    obtain ⟨hw, rfl, rfl⟩ := pureV_some h
    simp at hw; subst hw
    have := ha.resolve_right (by omega)
    subst this
    exact .same hH (Lib.run_unsafeSliceData_row W ts ty _ _ _ (by omega)) (.ptr hφ)
theorem s_conv_toBytes {o : Oper} {s d e : TypeId} {x : Operand} {x' : Opd} {v : AV} {H' : AHeap} {k : Kd} (ho : o.op = .convert s d x) (hx : lowOpd C.τ x = some x') (hs : C.P.underlying s = some .string) (hd : C.P.underlying d = some (.slice e))
    (he : C.P.underlying e = some (.int .u8)) (hS : Slots C φ N W T a) (hH : HRel C φ N H W) (h : opA T H (.conv (.toBytes (tagA C.P e)) x') = some (v, H', k)) : OpSound C N φ W o a v H' := by
  have h1 := ev_ok hS hx
  simp only [opA, convA] at h
  split at h <;> try (simp at h; done)
  all_goals try (exfalso; simp_all; done)
  rename_i tag r hq hb
  simp at hq; subst hq
  simp at h
  obtain ⟨rfl, rfl, rfl⟩ := h
  rw [hb] at h1
  generalize hz : a.eval x = z at h1
  cases h1
  have hrun := run_bytes_of_string (P := C.P) W s d e ⟨r.toArray⟩ hs hd he
  have hge := grownCap_ge W (⟨r.toArray⟩ : ByteArray).size 0 e
  have hsz : (⟨r.toArray⟩ : ByteArray).size = r.length := by simp [ByteArray.size]
  rw [hsz] at hrun hge
  have hl : LRel C φ N (drawW W) (r.map fun b : UInt8 => AV.int .u8 b.toNat) (r.map fun b : UInt8 => Value.int .u8 b.toNat) := ⟨by simp, fun i hi => by
    simp at hi
    simp [List.getD_eq_getElem?_getD, hi]
    exact .int ..⟩
  have hro : rowOk (r.map fun b : UInt8 => AV.int .u8 b.toNat) := rowOk.iff.2 fun w hw => by obtain ⟨_, _, rfl⟩ := List.mem_map.1 hw; rfl
  have hrow : bytesRow ⟨r.toArray⟩ (grownCap W r.length 0 e) = (r.map fun b : UInt8 => Value.int .u8 b.toNat).toArray ++ Array.replicate (grownCap W r.length 0 e - r.length) (Value.int .u8 0) := by
    simp [bytesRow, hsz]
  rw [hrow] at hrun
  have hnew := BRel.new (e := e) (tag := tagA C.P e) (rest := Array.replicate (grownCap W r.length 0 e - r.length) (Value.int .u8 0)) (wv := r.length)
    (fz := (((r.map fun b : UInt8 => Value.int .u8 b.toNat).toArray ++ Array.replicate (grownCap W r.length 0 e - r.length) (Value.int .u8 0)).size, ((r.map fun b : UInt8 => Value.int .u8 b.toNat).toArray ++ Array.replicate (grownCap W r.length 0 e - r.length) (Value.int .u8 0)).size + 1))
    hH.draw hl hro rfl (.inr (by simp)) (by simp)
  simp only [List.length_map] at hnew
  refine ⟨_, .slice (some ⟨W.heap.size, 0, none⟩) r.length (grownCap W r.length 0 e), _, .inl ?_, HRel.push hH.draw hnew, ?_, (Ext.draw φ W).trans (Ext.push (hH.noLoc (Nat.le_refl _)) _)⟩
  · simp only [execOp, ho, hz]
    simp only [Sem.run_bind, hrun, Result.andThen_ok, Sem.run_pure]
    rfl
  · refine .sl (Loc.add_same ..) hge (fun c hc => by simp at hc) pushBlk_new ?_ (.inl rfl)
    simp; omega
theorem s_mkSlice {o : Oper} {t e : TypeId} {n c : Operand} {n' c' : Opd} {sz bytes : Nat} {z v : AV} {H' : AHeap} {k : Kd} (ho : o.op = .makeSlice t n c) (hn : lowOpd C.τ n = some n') (hc : lowOpd C.τ c = some c')
    (hd : C.P.underlying t = some (.slice e)) (hsz : sizeA C.P e = some sz) (hby : bytesA C.P e = some bytes) (hz : zeroA C.P e = some z) (hzs : z.cells.length = sz)
    (hS : Slots C φ N W T a) (hH : HRel C φ N H W) (h : opA T H (.mkSlice z.cells sz bytes (tagA C.P e) n' c') = some (v, H', k)) : OpSound C N φ W o a v H' := by
  simp only [opA] at h
  split at h <;> try (simp at h; done)
  rename_i ni ci hni hci
  split at h <;> simp at h
  rename_i hcond
  obtain ⟨h0, h1, h2, h3, h4⟩ := hcond
  obtain ⟨rfl, rfl, rfl⟩ := h
  obtain ⟨kn, hkn⟩ := asI_ok (ev_ok hS hn) hni
  obtain ⟨kc, hkc⟩ := asI_ok (ev_ok hS hc) hci
  simp only [sizeA, Option.map_eq_some_iff] at hsz
  obtain ⟨i, hi, rfl⟩ := hsz
  simp only [bytesA, Option.map_eq_some_iff] at hby
  obtain ⟨i2, hi2, rfl⟩ := hby
  rw [hi] at hi2; simp at hi2; subst hi2
  simp only [zeroA, Option.bind_eq_some_iff] at hz
  obtain ⟨zv, ⟨i3, hi3, hz3⟩, hcz⟩ := hz
  rw [hi] at hi3; simp at hi3; subst hi3
  have hc0 : ci ≤ 2 ^ 40 := by
    have : ci * 1 ≤ ci * (i.bytes : Int) := Int.mul_le_mul_of_nonneg_left (by omega) (by omega)
    omega
  have hrun := run_make (P := C.P) W t e i zv hd hi hz3 kn kc ni ci h0 h1 (by rw [Int.mul_comm]; simp at h2 ⊢; omega) (by simp at hc0; omega)
  obtain ⟨hl, hro⟩ := zeros_ok (C := C) (φ := φ) (N := N) (W := W) (n := ni.toNat) hcz (by omega)
  have hzc : zv.cells.size = i.size := by
    have := ((constA_ok (C := C) (φ := φ) (N := N) (W := W) zv z hcz).1.cellsOk (by omega)).2.1
    simp at this; omega
  have hle : ni.toNat ≤ ci.toNat := by omega
  have hmul : ni.toNat * i.size ≤ ci.toNat * i.size := Nat.mul_le_mul_right _ hle
  have hrow : madeCells zv.cells (ci.toNat * i.size) = (Builtin.zeroCells zv.cells ni.toNat).toList.toArray ++ (madeCells zv.cells (ci.toNat * i.size)).extract (ni.toNat * i.size) (ci.toNat * i.size) := by
    apply Array.ext_getElem?
    intro j
    simp only [Array.toArray_toList]
    by_cases hj : j < ni.toNat * i.size
    · rw [Array.getElem?_append_left (by simp [Builtin.zeroCells, hzc, hj])]
      simp [madeCells, Builtin.zeroCells, hzc, hj, show j < ci.toNat * i.size by omega]
    · rw [Array.getElem?_append_right (by simp [Builtin.zeroCells, hzc]; omega)]
      simp only [Array.getElem?_extract, size_madeCells, Builtin.zeroCells, Array.size_map, Array.size_range, hzc]
      by_cases hj2 : j < ci.toNat * i.size
      · rw [if_pos (by omega)]
        congr 1; omega
      · rw [if_neg (by omega), Array.getElem?_eq_none (by rw [size_madeCells]; omega)]
  rw [hrow] at hrun
  have hlen : (repCells ni.toNat z.cells).length = ni.toNat * i.size := by rw [repCells_len, hzs]
  have hnew := BRel.new (e := e) (tag := tagA C.P e) (rest := (madeCells zv.cells (ci.toNat * i.size)).extract (ni.toNat * i.size) (ci.toNat * i.size)) (wv := ni.toNat * i.size) (fz := (0, 0)) hH hl hro rfl (.inl (Nat.le_refl _)) (by rw [hlen]; exact Nat.le_refl _)
  rw [hlen] at hnew
  refine ⟨_, .slice (some ⟨W.heap.size, 0, none⟩) ni.toNat ci.toNat, _, .inl ?_, HRel.push hH hnew, ?_, Ext.push (hH.noLoc (Nat.le_refl _)) _⟩
  · simp only [execOp, ho, hkn, hkc]
    simp only [Sem.run_bind, hrun, Result.andThen_ok, Sem.run_pure]
    rfl
  · refine .sl (Loc.add_same ..) hle (fun c hc => by simpa using hc) pushBlk_new ?_ (.inl rfl)
    rw [← hrow, size_madeCells]
    omega
theorem low_len {ts : Array TypeId} {b : Builtin} {b' : LBuiltin} (hb : lowBuiltin C.P b ts = some b') (hc : b = .len ∨ b = .cap) {l : List AV} {r : AV × AHeap × Kd} (h : builtinA H b' l = some r) : ∃ x, l = [x] ∧ lenA H b' x = some r := by
 have key : b' = .lenStr ∨ b' = .lenSl ∨ (∃ n, b' = .lenArr n) ∨ b' = .lenMap ∨ b' = .capSl ∨ (∃ n, b' = .capArr n) := by
  unfold lowBuiltin at hb
  cases ht : ts[0]? with
  | none => rcases hc with rfl | rfl <;> simp [ht] at hb
  | some t =>
  cases hd : C.P.underlying t with
  | none => rcases hc with rfl | rfl <;> simp [ht, hd] at hb
  | some d =>
   rcases hc with rfl | rfl <;> cases d <;> simp [ht, hd] at hb <;> first
    | (subst hb; simp; done)
    | (split at hb <;> simp at hb; subst hb; simp)
 rcases key with rfl | rfl | ⟨n, rfl⟩ | rfl | rfl | ⟨n, rfl⟩ <;> (rcases l with _ | ⟨x, _ | ⟨y, l⟩⟩ <;> first | exact ⟨x, rfl, h⟩ | exact absurd (show (none : ARes) = some r from h) (by simp))
theorem low_data {ts : Array TypeId} {b : LBuiltin} (hb : lowBuiltin C.P .unsafeSliceData ts = some b) : b = .sliceData := by
 unfold lowBuiltin at hb
 cases ht : ts[0]? with
 | none => simp [ht] at hb
 | some pt =>
 cases hdt : C.P.underlying pt with
 | none => simp [ht, hdt] at hb
 | some dd => cases dd <;> simp [ht, hdt] at hb; exact hb.symm
theorem low_copy {ts : Array TypeId} {b : LBuiltin} (hb : lowBuiltin C.P .copy ts = some b) : ∃ sz, b = .copy sz := by
 unfold lowBuiltin at hb
 cases ht : ts[0]? with
 | none => simp [ht] at hb
 | some pt =>
 cases hdt : C.P.underlying pt with
 | none => simp [ht, hdt] at hb
 | some dd => cases dd <;> simp [ht, hdt] at hb; obtain ⟨s, _, rfl⟩ := hb; exact ⟨s, rfl⟩
theorem low_clear {ts : Array TypeId} {b : LBuiltin} (hb : lowBuiltin C.P .clear ts = some b) : ∃ sz z, b = .clearSl sz z := by
 unfold lowBuiltin at hb
 cases ht : ts[0]? with
 | none => simp [ht] at hb
 | some pt =>
 cases hdt : C.P.underlying pt with
 | none => simp [ht, hdt] at hb
 | some dd => cases dd <;> simp [ht, hdt] at hb; split at hb <;> simp at hb; obtain ⟨_, rfl⟩ := hb; exact ⟨_, _, rfl⟩
theorem low_max {ts : Array TypeId} {b : Builtin} {b' : LBuiltin} (hb : lowBuiltin C.P b ts = some b') (h : b = .max ∨ b = .min) : (b = .max ∧ b' = .max) ∨ (b = .min ∧ b' = .min) := by
 rcases h with rfl | rfl <;> simp [lowBuiltin] at hb <;> simp [hb]
theorem run_call_builtin {o : Oper} {c : Call} {b : Builtin} (ho : o.op = .call c) (hc : c.callee = .builtin b) (cs : Array Bool) (hcs : cs = c.args.map fun | .const _ => true | _ => false) :
  execOp a.eval o = builtin b c.argTypes o.type cs (c.args.map a.eval) := by
 subst hcs
 simp only [execOp, ho, resolve, hc, invoke]
 rfl
theorem s_builtin {o : Oper} {c : Call} {b : Builtin} {b' : LBuiltin} {as' : List Opd} {v : AV} {H' : AHeap} {k : Kd} (ho : o.op = .call c) (hc : c.callee = .builtin b) (hb : lowBuiltin C.P b c.argTypes = some b') (hl : lowOpds C.τ c.args.toList = some as')
    (hS : Slots C φ N W T a) (hH : HRel C φ N H W) (h : builtinA H b' (as'.map (ev T)) = some (v, H', k)) : OpSound C N φ W o a v H' := by
  have hvs := evs_ok hS hl
  have harr : c.args.map a.eval = (c.args.toList.map a.eval).toArray := Array.ext' (by simp)
  have fin : ∀ {s : Sem Value}, RunSound C N φ W s v H' → (∀ cs, builtin b c.argTypes o.type cs (c.args.map a.eval) = (do pure (.value (← s)))) → OpSound C N φ W o a v H' := by
    rintro s ⟨φ', x, W', h1, h2, h3, h4⟩ h5
    refine ⟨φ', x, W', .inl ?_, h2, h3, h4⟩
    rw [run_call_builtin ho hc _ rfl, h5]
    simp [h1]
  generalize hL : as'.map (ev T) = L at h hvs
  generalize c.args.toList.map a.eval = xs at hvs harr
  have one : ∀ {u}, L = [u] → ∃ X, c.args.map a.eval = #[X] ∧ VRel C φ N W u X := by
    rintro u rfl
    obtain ⟨X, rfl, h2⟩ := LRel.one hvs
    exact ⟨X, harr, h2⟩
  have two : ∀ {u w}, L = [u, w] → ∃ X Y, c.args.map a.eval = #[X, Y] ∧ VRel C φ N W u X ∧ VRel C φ N W w Y := by
    rintro u w rfl
    obtain ⟨X, Y, rfl, h2, h3⟩ := LRel.two hvs
    exact ⟨X, Y, harr, h2, h3⟩
  cases b <;> try (simp [lowBuiltin] at hb; done)
  case len =>
    obtain ⟨u, rfl, h'⟩ := low_len hb (.inl rfl) h
    obtain ⟨X, hX, hu⟩ := one rfl
    exact fin (len_ok hH (ty := o.type) hb hu h') (fun cs => by rw [hX]; rfl)
  case cap =>
    obtain ⟨u, rfl, h'⟩ := low_len hb (.inr rfl) h
    obtain ⟨X, hX, hu⟩ := one rfl
    exact fin (cap_ok hH (ty := o.type) hb hu h') (fun cs => by rw [hX]; rfl)
  case append =>
    obtain ⟨sz, bytes, tag, z, rfl, ⟨A⟩⟩ := low_append hb
    rcases L with _ | ⟨u, _ | ⟨w, _ | ⟨y, L⟩⟩⟩ <;> try (simp [builtinA, lenA] at h; done)
    obtain ⟨X, Y, hX, hu, hw⟩ := two rfl
    exact fin (append_ok A hH (ty := o.type) hu hw (by simpa [builtinA] using h)) (fun cs => by rw [hX]; rfl)
  case copy =>
    rcases L with _ | ⟨u, _ | ⟨w, _ | ⟨y, L⟩⟩⟩
    · exfalso; obtain ⟨sz, rfl⟩ := low_copy hb; simp [builtinA] at h
    · exfalso; obtain ⟨sz, rfl⟩ := low_copy hb; simp [builtinA, lenA] at h
    · obtain ⟨X, Y, hX, hu, hw⟩ := two rfl
      exact fin (copy_ok hb hH (ty := o.type) hu hw h) (fun cs => by rw [hX]; rfl)
    · exfalso; obtain ⟨sz, rfl⟩ := low_copy hb; simp [builtinA] at h
  case clear =>
    rcases L with _ | ⟨u, _ | ⟨w, L⟩⟩
    · exfalso; obtain ⟨sz, z, rfl⟩ := low_clear hb; simp [builtinA] at h
    · obtain ⟨X, hX, hu⟩ := one rfl
      exact fin (clear_ok hb hH (ty := o.type) hu h) (fun cs => by rw [hX]; rfl)
    · exfalso; obtain ⟨sz, z, rfl⟩ := low_clear hb; simp [builtinA] at h
  case max =>
    have hb' := low_max hb (.inl rfl)
    rcases L with _ | ⟨u, L⟩
    · exfalso; rcases hb' with ⟨_, rfl⟩ | ⟨_, rfl⟩ <;> simp [builtinA] at h
    · rcases hb' with ⟨_, rfl⟩ | ⟨h2, _⟩
      · simp only [builtinA] at h
        obtain ⟨hw, rfl, rfl⟩ := pureV_some h
        cases xs with
        | nil => simp [LRel] at hvs
        | cons X xs =>
          obtain ⟨Y, h1, h2⟩ := foldA_max hvs.tail.1 hvs.tail.2 hw
          exact fin (.same hH (s := Builtin.max_ c.argTypes o.type (c.args.map a.eval)) (by simp [harr, Builtin.max_, h1]) h2) (fun cs => rfl)
      · simp at h2
  case min =>
    have hb' := low_max hb (.inr rfl)
    rcases L with _ | ⟨u, L⟩
    · exfalso; rcases hb' with ⟨_, rfl⟩ | ⟨_, rfl⟩ <;> simp [builtinA] at h
    · rcases hb' with ⟨h2, _⟩ | ⟨_, rfl⟩
      · simp at h2
      · simp only [builtinA] at h
        obtain ⟨hw, rfl, rfl⟩ := pureV_some h
        cases xs with
        | nil => simp [LRel] at hvs
        | cons X xs =>
          obtain ⟨Y, h1, h2⟩ := foldA_min hvs.tail.1 hvs.tail.2 hw
          exact fin (.same hH (s := Builtin.min_ c.argTypes o.type (c.args.map a.eval)) (by simp [harr, Builtin.min_, h1]) h2) (fun cs => rfl)
  case unsafeSliceData =>
    rcases L with _ | ⟨u, _ | ⟨w, L⟩⟩
    · exfalso; obtain rfl := low_data hb; simp [builtinA] at h
    · obtain ⟨X, hX, hu⟩ := one rfl
      exact fin (sliceData_ok hb hH (ty := o.type) hu h) (fun cs => by rw [hX]; rfl)
    · exfalso; obtain rfl := low_data hb; simp [builtinA] at h
  case unsafeString =>
    obtain ⟨rfl, _⟩ := low_string hb
    rcases L with _ | ⟨u, _ | ⟨w, _ | ⟨y, L⟩⟩⟩
    · exfalso; simp [builtinA] at h
    · exfalso; simp [builtinA, lenA] at h
    · obtain ⟨X, Y, hX, hu, hw⟩ := two rfl
      exact fin (string_ok hb hH (ty := o.type) hu hw h) (fun cs => by rw [hX]; rfl)
    · exfalso; simp [builtinA] at h
end Go.AE
namespace Go.AE
open Go
variable {C : Ctx} {φ φ' : Loc} {N : Nat → Prop} {W W' : World} {T : Tmps} {a : Act} {H : AHeap}
def MRel (C : Ctx) (φ : Loc) (N : Nat → Prop) (W : World) (es : List (AV × AV)) (ms : List MapEntry) : Prop :=
 ms.length = es.length ∧ ∀ i, i < es.length → VRel C φ N W (es.getD i default).1 (ms.getD i default).key ∧ VRel C φ N W (es.getD i default).2 (ms.getD i default).val
theorem MRel.tail {p : AV × AV} {m : MapEntry} {es : List (AV × AV)} {ms : List MapEntry} (h : MRel C φ N W (p :: es) (m :: ms)) : (VRel C φ N W p.1 m.key ∧ VRel C φ N W p.2 m.val) ∧ MRel C φ N W es ms :=
 ⟨by simpa using h.2 0 (by simp), by simpa using h.1, fun i hi => by simpa using h.2 (i + 1) (by simpa using hi)⟩
def KeyOf (e : ETy) (d : TypeDesc) : Prop := (e = .i ∧ ∃ k, d = .int k) ∨ (e = .s ∧ d = .string) ∨ (e = .b ∧ d = .bool)
theorem key_of {t : TypeId} {e : ETy} (h : etyA C.P C.τ 50 false t = some e) (hp : e.plainKey = true) : ∃ d, C.P.underlying t = some d ∧ KeyOf e d := by
  have h50 : (50 : Nat) = 49 + 1 := rfl
  rw [h50] at h
  generalize 49 = n at h
  unfold etyA at h
  cases hd : C.P.underlying t with
  | none => simp [hd] at h
  | some d =>
    refine ⟨d, rfl, ?_⟩
    cases d <;> simp [hd] at h
    case bool => subst h; exact .inr (.inr ⟨rfl, rfl⟩)
    case int k => subst h; exact .inl ⟨rfl, k, rfl⟩
    case string => subst h; exact .inr (.inl ⟨rfl, rfl⟩)
    all_goals try (subst h; simp [ETy.plainKey] at hp; done)
    all_goals first
      | (obtain ⟨_, _, rfl⟩ := h; simp [ETy.plainKey] at hp; done)
      | (obtain ⟨_, _, _, rfl⟩ := h; simp [ETy.plainKey] at hp; done)
      | (split at h <;> simp at h; subst h; simp [ETy.plainKey] at hp; done)
theorem same_now {e : ETy} {d : TypeDesc} (hk : KeyOf e d) {x y : AV} {X Y : Value} (hx : VRel C φ N W x X) (hy : VRel C φ N W y Y) {b : Bool} (h : aEq e x y = some b) :
  Instr.sameNow d X Y = some b ∧ (b = true → Instr.sameBits 10000 Y X = true) := by
 rcases hk with ⟨rfl, k, rfl⟩ | ⟨rfl, rfl⟩ | ⟨rfl, rfl⟩ <;> simp only [aEq] at h
 ·cases hx <;> simp only [eqPlain] at h <;> try (simp at h; done)
  cases hy <;> simp at h
  obtain ⟨rfl, rfl⟩ := h
  simp [Instr.sameNow, Instr.sameBits]
  intro e; exact e.symm
 ·cases hx <;> simp only [eqPlain] at h <;> try (simp at h; done)
  cases hy <;> simp at h
  subst h
  rename_i r s
  have beq : ∀ r s : List UInt8, ((⟨r.toArray⟩ : ByteArray) == ⟨s.toArray⟩) = (r == s) := fun r s => by
   show (r.toArray == s.toArray) = (r == s)
   simp
  simp [Instr.sameNow, Instr.sameBits, beq]
  intro e; exact e.symm
 ·cases hx <;> simp only [eqPlain] at h <;> try (simp at h; done)
  cases hy <;> simp at h
  subst h
  simp [Instr.sameNow, Instr.sameBits]
  intro e; exact e.symm
theorem find_ok {e : ETy} {d : TypeDesc} (hk : KeyOf e d) {x : AV} {X : Value} (hx : VRel C φ N W x X) : ∀ {es : List (AV × AV)} {ms : List MapEntry} {i : Nat} {r : Option (Nat × AV)}, MRel C φ N W es ms → findA e x es i = some r →
    (r = none ∧ Instr.findNow d X ms i = some none) ∨ ∃ j v V, r = some (i + j, v) ∧ Instr.findNow d X ms i = some (some (i + j, V)) ∧ VRel C φ N W v V ∧ j < es.length ∧ ∃ m, ms[j]? = some m ∧ Instr.sameBits 10000 m.key X = true
  | [], [], i, r, _, h => by simp [findA] at h; subst h; exact .inl ⟨rfl, rfl⟩
  | [], _ :: _, _, _, hm, _ => by simp [MRel] at hm
  | _ :: _, [], _, _, hm, _ => by simp [MRel] at hm
  | (y, v) :: es, m :: ms, i, r, hm, h => by
    obtain ⟨⟨h1, h2⟩, h3⟩ := hm.tail
    simp only [findA] at h
    split at h
    · rename_i hb
      simp at h; subst h
      obtain ⟨g1, g2⟩ := same_now hk hx h1 hb
      exact .inr ⟨0, v, m.val, rfl, by simp [Instr.findNow, g1], h2, by simp, m, rfl, g2 rfl⟩
    · rename_i hb
      obtain ⟨g1, _⟩ := same_now hk hx h1 hb
      rcases find_ok hk hx h3 h with ⟨rfl, g⟩ | ⟨j, v', V, rfl, g, g3, g4, m', g5, g6⟩
      · exact .inl ⟨rfl, by simp [Instr.findNow, g1, g]⟩
      · refine .inr ⟨j + 1, v', V, by rw [show i + 1 + j = i + (j + 1) by omega], by simp [Instr.findNow, g1, g]; omega, g3, by simpa using g4, m', by simpa using g5, g6⟩
    · simp at h
theorem checkKey_ok {t : TypeId} {e : ETy} {d : TypeDesc} (ht : C.P.underlying t = some d) (hk : KeyOf e d) (b : Bool) (X : Value) : (Instr.checkKey b 10000 t X).run C.P W = .ok () W := by
 have : (10000 : Nat) = 9999 + 1 := rfl
 rw [this]
 unfold Instr.checkKey
 rcases hk with ⟨rfl, k, rfl⟩ | ⟨rfl, rfl⟩ | ⟨rfl, rfl⟩ <;> simp [r_underlying ht]
theorem run_findKey {t : TypeId} {d : TypeDesc} (ht : C.P.underlying t = some d) {X : Value} {ms : List MapEntry} {r : Option (Nat × Value)} (h : Instr.findNow d X ms 0 = some r) : (Instr.findKey t X ms).run C.P W = .ok r W := by
 simp [Instr.findKey, r_underlying ht, h]
theorem s_mkMap {o : Oper} {t : TypeId} {v : AV} {H' : AHeap} {k : Kd} (ho : o.op = .makeMap t none) (hH : HRel C φ N H W) (h : opA T H .mkMap = some (v, H', k)) : OpSound C N φ W o a v H' := by
 simp [opA] at h
 obtain ⟨rfl, rfl, rfl⟩ := h
 refine ⟨_, .map (some W.heap.size), _, .inl ?_, HRel.push (v := 0) (o := .map #[] 0) hH ?_, .map (Loc.add_same ..), Ext.push (hH.noLoc (Nat.le_refl _)) _⟩
 ·simp [execOp, ho, Instr.makeMap, pushBlk]
 ·exact ⟨W.heap.size, #[], 0, Loc.add_same .., pushBlk_new, rfl, fun i hi => by simp at hi⟩
theorem s_lookup {o : Oper} {t kt el : TypeId} {x i : Operand} {x' i' : Opd} {e : ETy} {z v : AV} {ok : Bool} {H' : AHeap} {k : Kd} (ho : o.op = .lookup t x i ok) (hx : lowOpd C.τ x = some x') (hi : lowOpd C.τ i = some i')
    (hd : C.P.underlying t = some (.map kt el)) (he : etyA C.P C.τ 50 false kt = some e) (hp : e.plainKey = true) (hz : zeroA C.P el = some z)
    (hS : Slots C φ N W T a) (hH : HRel C φ N H W) (h : opA T H (.lookup e z ok x' i') = some (v, H', k)) : OpSound C N φ W o a v H' := by
  obtain ⟨d, hkd, hk⟩ := key_of he hp
  have hxv := ev_ok hS hx
  have hiv := ev_ok hS hi
  obtain ⟨zv, hzr, hzc⟩ := r_zero hz W
  have hzv := (constA_ok (C := C) (φ := φ) (N := N) (W := W) zv z hzc).1
  have fin : ∀ {es : List (AV × AV)} {ms : Array MapEntry} {r : Option (Nat × AV)}, MRel C φ N W es ms.toList → findA e (ev T i') es 0 = some r → ∀ (X : Value) (hs : a.eval x = X) (hX : X = .map none ∧ ms = #[] ∨ ∃ B c, X = .map (some B) ∧ W.heap[B]? = some (.map ms c)),
      ∃ Z, (Instr.lookup t X (a.eval i) ok).run C.P W = .ok Z W ∧ VRel C φ N W (if ok then .tuple [(match r with | some (_, v) => v | none => z), .bool r.isSome] else (match r with | some (_, v) => v | none => z)) Z := by
    intro es ms r hm hf X hs hX
    have hck : ∀ b, (Instr.checkKey b 10000 kt (a.eval i)).run C.P W = .ok () W := fun b => checkKey_ok hkd hk b _
    have hcases := find_ok hk hiv hm hf
    have fin2 : ∀ {y : AV} {Y : Value} (b : Bool), VRel C φ N W y Y → VRel C φ N W (if ok then .tuple [y, .bool b] else y) (if ok then .tuple #[Y, .bool b] else Y) := by
      intro y Y b hy
      cases ok with
      | true => exact VRel.tuple (xs := [Y, .bool b]) rfl (LRel.cons hy (LRel.cons (.bool b) LRel.nil)).2
      | false => exact hy
    rcases hcases with ⟨rfl, hn⟩ | ⟨j, v', V, rfl, hn, hV, _⟩
    · refine ⟨_, ?_, fin2 (Y := zv) false hzv⟩
      have hfk := run_findKey (C := C) (W := W) hkd hn
      rcases hX with ⟨rfl, rfl⟩ | ⟨B, c, rfl, hB⟩
      · simp [Instr.lookup, r_underlying hd, hck, hfk, hzr]
      · have hg : (getObj B).run C.P W = .ok (.map ms c) W := by simp [getObj, Sem.run, hB]
        simp [Instr.lookup, r_underlying hd, hck, hfk, hzr, hg]
    · refine ⟨_, ?_, fin2 (Y := V) true hV⟩
      have hfk := run_findKey (C := C) (W := W) hkd hn
      rcases hX with ⟨rfl, rfl⟩ | ⟨B, c, rfl, hB⟩
      · simp [Instr.lookup, r_underlying hd, hck, hfk]
      · have hg : (getObj B).run C.P W = .ok (.map ms c) W := by simp [getObj, Sem.run, hB]
        simp [Instr.lookup, r_underlying hd, hck, hfk, hg]
  simp only [opA] at h
  generalize hX : a.eval x = X at hxv
  split at h <;> try (simp at h; done)
  · rename_i hb
    rw [hb] at hxv
    cases hxv
    obtain ⟨hw, rfl, rfl⟩ := pureV_some h
    simp only [Option.map_eq_some_iff] at hw
    obtain ⟨r, hf, rfl⟩ := hw
    obtain ⟨Z, h1, h2⟩ := fin (es := []) (ms := #[]) ⟨rfl, fun i hi => by simp at hi⟩ hf _ hX (.inl ⟨rfl, rfl⟩)
    exact .pure hH (by simp only [execOp, ho, hX, Sem.run_bind, h1, Result.andThen_ok, Sem.run_pure]) h2
  · rename_i b hb
    rw [hb] at hxv
    generalize hu0 : AV.map b = u0 at hxv
    cases hxv <;> simp at hu0
    rename_i B hφ
    subst hu0
    split at h <;> try (simp at h; done)
    rename_i es hblk
    simp only [hp, if_true] at h
    obtain ⟨hw, rfl, rfl⟩ := readV_some h
    simp only [Option.map_eq_some_iff] at hw
    obtain ⟨r, hf, rfl⟩ := hw
    obtain ⟨B', M, clock, g1, g2, g3, g4⟩ := hH.blk _ _ hblk
    rw [hφ] at g1; simp at g1; subst g1
    obtain ⟨Z, h1, h2⟩ := fin (es := es) (ms := M) ⟨by simpa using g3, fun i hi => by
      have := g4 i hi
      have hi' : i < M.size := by omega
      simpa [List.getD_eq_getElem?_getD, Array.getD, hi, hi'] using this⟩ hf _ hX (.inr ⟨_, _, rfl, g2⟩)
    exact .pure hH (by simp only [execOp, ho, hX, Sem.run_bind, h1, Result.andThen_ok, Sem.run_pure]) h2
theorem s_mapUpd {o : Oper} {t kt el : TypeId} {m i x : Operand} {m' i' x' : Opd} {e : ETy} {v : AV} {H' : AHeap} {k : Kd} (ho : o.op = .mapUpdate t m i x ∨ o.op = .insert t m i x) (hm : lowOpd C.τ m = some m') (hi : lowOpd C.τ i = some i') (hx : lowOpd C.τ x = some x')
    (hd : C.P.underlying t = some (.map kt el)) (he : etyA C.P C.τ 50 false kt = some e)
    (hS : Slots C φ N W T a) (hH : HRel C φ N H W) (h : opA T H (.mapUpd e m' i' x') = some (v, H', k)) : OpSound C N φ W o a v H' := by
  have hmv := ev_ok hS hm
  have hiv := ev_ok hS hi
  have hxv := ev_ok hS hx
  simp only [opA] at h
  generalize hX : a.eval m = X at hmv
  split at h <;> try (simp at h; done)
  rename_i b hb
  rw [hb] at hmv
  generalize hu0 : AV.map b = u0 at hmv
  cases hmv <;> simp at hu0
  rename_i B hφ
  subst hu0
  split at h <;> try (simp at h; done)
  rename_i es hblk
  split at h <;> try (simp at h; done)
  rename_i hp
  obtain ⟨d, hkd, hk⟩ := key_of he hp
  obtain ⟨B', M, clock, g1, g2, g3, g4⟩ := hH.blk _ _ hblk
  rw [hφ] at g1; simp at g1; subst g1
  have hMR : MRel C φ N W es M.toList := ⟨by simpa using g3, fun i hi => by
      have := g4 i hi
      have hi' : i < M.size := by omega
      simpa [List.getD_eq_getElem?_getD, Array.getD, hi, hi'] using this⟩
  have hck : (Instr.checkKey false 10000 kt (a.eval i)).run C.P W = .ok () W := checkKey_ok hkd hk _ _
  have hg : (getObj B).run C.P W = .ok (.map M clock) W := by simp [getObj, Sem.run, g2]
  have hlt := lt_of_heap g2
  have hset : ∀ o', (setObj B o').run C.P W = .ok () (setBlk W B o') := fun o' => by simp [setObj, Sem.run, g2, setBlk]
  have hmB : mutB φ B := ⟨b, 0, 0, hφ⟩
  have hal : aliveAt H b := by simp [aliveAt, hblk]
  have hE : ∀ M' c', Ext φ φ W (setBlk W B (.map M' c')) := fun M' c' => Ext.setBlk hlt hmB (fun r h => by rw [g2] at h; simp at h) fun Cs e fz h => by rw [g2] at h; simp at h
  have hex : ∀ {W'}, (Instr.mapUpdate t (.map (some B)) (a.eval i) (a.eval x)).run C.P W = .ok () W' → Gives C.P o a W undef W' := by
    intro W' hr
    refine .inr ⟨?_, rfl⟩
    rcases ho with ho | ho <;> simp [execOp, ho, hX, hr]
  split at h <;> simp at h
  · rename_i j old hf
    obtain ⟨rfl, rfl, rfl⟩ := h
    rcases find_ok hk hiv hMR hf with ⟨h1, _⟩ | ⟨j', v', V, hj, hn, hV, hlt', mm, hmm, hsb⟩
    · simp at h1
    simp at hj
    obtain ⟨rfl, rfl⟩ := hj
    have hmm' : M[j]? = some mm := by simpa using hmm
    have hrun : (Instr.mapUpdate t (.map (some B)) (a.eval i) (a.eval x)).run C.P W = .ok () (setBlk W B (.map (M.modify j fun e => { e with key := a.eval i, val := a.eval x }) clock)) := by
      have hfk := run_findKey (C := C) (W := W) hkd hn
      simp only [Nat.zero_add] at hfk
      simp [Instr.mapUpdate, r_underlying hd, hg, hck, hfk, hmm', Instr.keyThatStays, hsb, hset]
    refine ⟨φ, undef, _, hex hrun, HRel.put hH hblk hal hφ (hE _ _) ⟨B, _, clock, hφ, setBlk_same hlt, by simp [g3], fun q hq => ?_⟩, VRel.undef, hE _ _⟩
    have hq' : q < es.length := by simpa using hq
    have hqM : q < M.size := by omega
    by_cases e : j = q
    · subst e
      have := hiv.mono (hE (M.modify j fun e => { e with key := a.eval i, val := a.eval x }) clock)
      have h2 := hxv.mono (hE (M.modify j fun e => { e with key := a.eval i, val := a.eval x }) clock)
      simpa [List.getD_eq_getElem?_getD, hq', Array.getD, hqM, Array.getElem_modify] using And.intro this h2
    · have := g4 q hq'
      have h3 := And.intro (this.1.mono (hE (M.modify j fun e => { e with key := a.eval i, val := a.eval x }) clock)) (this.2.mono (hE (M.modify j fun e => { e with key := a.eval i, val := a.eval x }) clock))
      simpa [List.getD_eq_getElem?_getD, hq', Array.getD, hqM, e, Array.getElem_modify] using h3
  · rename_i hf
    obtain ⟨rfl, rfl, rfl⟩ := h
    rcases find_ok hk hiv hMR hf with ⟨_, hn⟩ | ⟨j', v', V, hj, _⟩
    · have hrun : (Instr.mapUpdate t (.map (some B)) (a.eval i) (a.eval x)).run C.P W = .ok () (setBlk W B (.map (M.push { key := a.eval i, val := a.eval x, born := clock }) (clock + 1))) := by
        have hfk := run_findKey (C := C) (W := W) hkd hn
        simp [Instr.mapUpdate, r_underlying hd, hg, hck, hfk, hset]
      refine ⟨φ, undef, _, hex hrun, HRel.put hH hblk hal hφ (hE _ _) ⟨B, _, _, hφ, setBlk_same hlt, by simp [g3], fun q hq => ?_⟩, VRel.undef, hE _ _⟩
      simp at hq
      by_cases e : q < es.length
      · have := g4 q e
        have hqM : q < M.size := by omega
        have h3 := And.intro (this.1.mono (hE (M.push { key := a.eval i, val := a.eval x, born := clock }) (clock + 1))) (this.2.mono (hE (M.push { key := a.eval i, val := a.eval x, born := clock }) (clock + 1)))
        simpa [List.getD_eq_getElem?_getD, List.getElem?_append_left e, e, Array.getD, hqM, show q < M.size + 1 by omega, Array.getElem_push] using h3
      · obtain rfl : q = es.length := by omega
        have h3 := And.intro (hiv.mono (hE (M.push { key := a.eval i, val := a.eval x, born := clock }) (clock + 1))) (hxv.mono (hE (M.push { key := a.eval i, val := a.eval x, born := clock }) (clock + 1)))
        simpa [List.getD_eq_getElem?_getD, Array.getD, ← g3] using h3
    · simp at hj
theorem s_rangeStr {o : Oper} {t : TypeId} {x : Operand} {x' : Opd} {v : AV} {H' : AHeap} {k : Kd} (ho : o.op = .range t x) (hx : lowOpd C.τ x = some x') (hd : C.P.underlying t = some .string)
    (hS : Slots C φ N W T a) (hH : HRel C φ N H W) (h : opA T H (.rangeStr x') = some (v, H', k)) : OpSound C N φ W o a v H' := by
  have hxv := ev_ok hS hx
  simp only [opA] at h
  split at h <;> simp at h
  rename_i s hb
  obtain ⟨rfl, rfl, rfl⟩ := h
  rw [hb] at hxv
  generalize hX : a.eval x = X at hxv
  cases hxv
  have := HRel.push (C := C) (φ := φ) (N := N) (W := W) (v := 0) (k := .iter s 0) (o := .stringIter ⟨s.toArray⟩ 0) hH ⟨W.heap.size, Loc.add_same .., pushBlk_new⟩
  exact ⟨_, .pointer (some ⟨W.heap.size, 0 + 0, none⟩), _, .inl (by simp [execOp, ho, hX, Instr.range, r_underlying hd, pushBlk]), this, .ptr (Loc.add_same ..), Ext.push (hH.noLoc (Nat.le_refl _)) _⟩
theorem s_nextStr {o : Oper} {x : Operand} {x' : Opd} {v : AV} {H' : AHeap} {k : Kd} (ho : o.op = .next x true) (hx : lowOpd C.τ x = some x')
    (hS : Slots C φ N W T a) (hH : HRel C φ N H W) (h : opA T H (.nextStr x') = some (v, H', k)) : OpSound C N φ W o a v H' := by
  have hxv := ev_ok hS hx
  simp only [opA] at h
  split at h <;> try (simp at h; done)
  rename_i b hb
  rw [hb] at hxv
  generalize hX : a.eval x = X at hxv
  generalize hu0 : AV.ptr b 0 0 = u0 at hxv
  cases hxv <;> simp at hu0
  rename_i B O hφ
  obtain ⟨rfl, rfl, rfl⟩ := hu0
  split at h <;> try (simp at h; done)
  rename_i s pos hblk
  obtain ⟨B', g1, g2⟩ := hH.blk _ _ hblk
  rw [hφ] at g1; simp at g1
  obtain ⟨rfl, rfl⟩ := g1
  have hlt := lt_of_heap g2
  have hg : (getObj B).run C.P W = .ok (.stringIter ⟨s.toArray⟩ pos) W := by simp [getObj, Sem.run, g2]
  have hset : ∀ o', (setObj B o').run C.P W = .ok () (setBlk W B o') := fun o' => by simp [setObj, Sem.run, g2, setBlk]
  have hmB : mutB φ B := ⟨b, 0, 0, hφ⟩
  have hal : aliveAt H b := by simp [aliveAt, hblk]
  have hE : ∀ p, Ext φ φ W (setBlk W B (.stringIter ⟨s.toArray⟩ p)) := fun p => Ext.setBlk hlt hmB (fun r h => by rw [g2] at h; simp at h) fun Cs e fz h => by rw [g2] at h; simp at h
  have hsz : (⟨s.toArray⟩ : ByteArray).size = s.length := by simp [ByteArray.size]
  split at h <;> simp at h
  · rename_i hpos
    obtain ⟨rfl, rfl, rfl⟩ := h
    refine ⟨φ, .tuple #[.bool true, .int .i64 pos, .int .i32 (utf8Dec s pos).1], _, .inl ?_, HRel.put hH hblk hal hφ (hE (pos + (utf8Dec s pos).2)) ⟨B, hφ, setBlk_same hlt⟩,
      VRel.tuple (xs := [_, _, _]) rfl (LRel.cons (.bool true) (LRel.cons (.int ..) (LRel.cons (.int ..) LRel.nil))).2, hE _⟩
    simp [execOp, ho, hX, Instr.next, hg, hsz, hpos, hset, goInt, utf8Dec]
  · rename_i hpos
    obtain ⟨rfl, rfl, rfl⟩ := h
    exact .pure hH (x := .tuple #[.bool false]) (by simp [execOp, ho, hX, Instr.next, hg, hsz, hpos]) (VRel.tuple (xs := [_]) rfl (LRel.cons (.bool false) LRel.nil).2)
theorem s_rangeMap {o : Oper} {t kt et : TypeId} {x : Operand} {x' : Opd} {v : AV} {H' : AHeap} {k : Kd} (ho : o.op = .range t x) (hx : lowOpd C.τ x = some x') (hd : C.P.underlying t = some (.map kt et))
    (hS : Slots C φ N W T a) (hH : HRel C φ N H W) (h : opA T H (.rangeMap x') = some (v, H', k)) : OpSound C N φ W o a v H' := by
  have hxv := ev_ok hS hx
  simp only [opA] at h
  split at h <;> try (simp at h; done)
  rename_i m hb
  rw [hb] at hxv
  generalize hX : a.eval x = X at hxv
  generalize hu0 : AV.map m = u0 at hxv
  cases hxv <;> simp at hu0
  rename_i M hφ
  subst hu0
  split at h <;> simp at h
  rename_i es hblk
  obtain ⟨rfl, rfl, rfl⟩ := h
  obtain ⟨B', Ms, clock, g1, g2, g3, g4⟩ := hH.blk _ _ hblk
  rw [hφ] at g1; simp at g1
  subst g1
  have hg : (getObj M).run C.P W = .ok (.map Ms clock) W := by simp [getObj, Sem.run, g2]
  have hne : ¬ (m = H.length ∧ (0 : Nat) = 0) := fun e => by
    have := (hH.dom _ _ _ hφ).1
    omega
  have := HRel.push (C := C) (φ := φ) (N := N) (W := W) (v := 0) (k := .miter m) (o := .mapIter (some M) clock #[] clock) hH ⟨W.heap.size, M, clock, clock, Loc.add_same .., by rw [Loc.add_other hne]; exact hφ, pushBlk_new⟩
  exact ⟨_, .pointer (some ⟨W.heap.size, 0 + 0, none⟩), _, .inl (by simp [execOp, ho, hX, Instr.range, r_underlying hd, pushBlk, hg]), this, .ptr (Loc.add_same ..), Ext.push (hH.noLoc (Nat.le_refl _)) _⟩
theorem s_nextMap {o : Oper} {x : Operand} {x' : Opd} {v : AV} {H' : AHeap} {k : Kd} (ho : o.op = .next x false) (hx : lowOpd C.τ x = some x')
    (hS : Slots C φ N W T a) (hH : HRel C φ N H W) (h : opA T H (.nextMap x') = some (v, H', k)) : OpSound C N φ W o a v H' := by
  have hxv := ev_ok hS hx
  simp only [opA] at h
  split at h <;> try (simp at h; done)
  rename_i b hb
  rw [hb] at hxv
  generalize hX : a.eval x = X at hxv
  generalize hu0 : AV.ptr b 0 0 = u0 at hxv
  cases hxv <;> simp at hu0
  rename_i B O hφ
  obtain ⟨rfl, rfl, rfl⟩ := hu0
  split at h <;> try (simp at h; done)
  rename_i m hblk
  split at h <;> simp at h
  rename_i hmap
  obtain ⟨rfl, rfl, rfl⟩ := h
  obtain ⟨B', M, since, clk, g1, g2, g3⟩ := hH.blk _ _ hblk
  rw [hφ] at g1; simp at g1
  obtain ⟨rfl, rfl⟩ := g1
  obtain ⟨M', Ms, clock, q1, q2, q3, _⟩ := hH.blk _ _ hmap
  rw [g2] at q1; simp at q1
  subst q1
  have hMs : Ms = #[] := Array.eq_empty_of_size_eq_zero (by simpa using q3)
  subst hMs
  have hg : (getObj B).run C.P W = .ok (.mapIter (some M) since #[] clk) W := by simp [getObj, Sem.run, g3]
  have hg2 : (getObj M).run C.P W = .ok (.map #[] clock) W := by simp [getObj, Sem.run, q2]
  exact .pure hH (x := .tuple #[.bool false]) (by simp [execOp, ho, hX, Instr.next, hg, hg2, choose, Sem.run, Question.forced]) (VRel.tuple (xs := [_]) rfl (LRel.cons (.bool false) LRel.nil).2)
theorem ptr_blk (hH : HRel C φ N H W) {b o v : Nat} {X : Value} (hu : VRel C φ N W (.ptr b o v) X) {cs : List AV} {tag wv st : Nat} (hb : H[b]? = some (.cells cs tag wv st)) (hst : st < 2) (hwv : wv ≤ v) :
  ∃ B O Cs e fz, X = .pointer (some ⟨B, O + o, none⟩) ∧ φ b v = some (B, O) ∧ W.heap[B]? = some (.cells Cs e fz) ∧ O + v ≤ Cs.size ∧ (tag ≠ 0 → O = 0) ∧ tagA C.P e = tag := by
 cases hu with
 | @ptr _ _ _ B O hφ =>
  obtain ⟨_, _, _, hB⟩ := hH.blk b _ hb
  obtain ⟨Cs, e, fz, g1, g2, g3, g4, _⟩ := hB hst v B O hφ hwv
  exact ⟨B, O, Cs, e, fz, rfl, hφ, g1, g2, g3, g4⟩
theorem s_conv_toUns {o : Oper} {s d e : TypeId} {x : Operand} {x' : Opd} {n : Nat} {v : AV} {H' : AHeap} {k : Kd} (ho : o.op = .convert s d x) (hx : lowOpd C.τ x = some x') (hs : C.P.underlying s = some (.pointer e))
    (hd : C.P.underlying d = some .unsafePointer) (hsz : sizeA C.P e = some n) (hn : n ≠ 0) (hS : Slots C φ N W T a) (hH : HRel C φ N H W) (h : opA T H (.conv .toUns x') = some (v, H', k)) : OpSound C N φ W o a v H' := by
  have h1 := ev_ok hS hx
  simp only [opA, convA] at h
  generalize hX : a.eval x = X at h1
  split at h <;> try (simp at h; done)
  all_goals try (exfalso; simp_all; done)
  · rename_i hq hb
    obtain ⟨hw, rfl, rfl⟩ := pureV_some h
    simp at hw; subst hw
    rw [hb] at h1
    cases h1
    exact .pure hH (x := .pointer none) (by simp [execOp, ho, hX, convert, r_underlying hs, r_underlying hd, Conv.unsafePointer]) .nilptr
  · rename_i b of vv hq hb
    split at h <;> try (simp at h; done)
    rename_i cs tag wv st hblk
    split at h <;> try (simp at h; done)
    rename_i hc
    obtain ⟨hw, rfl, rfl⟩ := readV_some h
    simp at hw; subst hw
    rw [hb] at h1
    obtain ⟨B, O, Cs, el, fz, rfl, hφ, g1, g2, _⟩ := ptr_blk hH h1 hblk hc.1 hc.2.1
    refine .pure hH (x := .pointer (some ⟨B, O + of, none⟩)) ?_ h1
    have hview : (viewAt B).run C.P W = .ok none W := by simp [viewAt, World.shape?, g1]
    have hcells : (Go.cellsIn B).run C.P W = .ok (some Cs.size) W := by simp [Go.cellsIn, Sem.run, World.shape?, g1]
    have hlt : ¬ (Cs.size ≤ O + of) := by omega
    simp [execOp, ho, hX, convert, r_underlying hs, r_underlying hd, Conv.unsafePointer, Conv.seenAt, hview, hcells, r_size hsz, hn, hlt]
theorem s_conv_ofUns {o : Oper} {s d u : TypeId} {x : Operand} {x' : Opd} {n : Nat} {v : AV} {H' : AHeap} {k : Kd} (ho : o.op = .convert s d x) (hx : lowOpd C.τ x = some x') (hs : C.P.underlying s = some .unsafePointer)
    (hd : C.P.underlying d = some (.pointer u)) (hsz : sizeA C.P u = some n) (hu : tagA C.P u = 2) (hS : Slots C φ N W T a) (hH : HRel C φ N H W) (h : opA T H (.conv (.ofUns n) x') = some (v, H', k)) : OpSound C N φ W o a v H' := by
  have h1 := ev_ok hS hx
  simp only [opA, convA] at h
  generalize hX : a.eval x = X at h1
  split at h <;> try (simp at h; done)
  all_goals try (exfalso; simp_all; done)
  rename_i q b of vv hq hb
  simp at hq; subst hq
  split at h <;> try (simp at h; done)
  rename_i cs tag wv st hblk
  split at h <;> try (simp at h; done)
  rename_i hc
  obtain ⟨hst, hwv, hv, rfl, rfl, hsv, hs0⟩ := hc
  obtain ⟨hw, rfl, rfl⟩ := readV_some h
  simp at hw; subst hw
  rw [hb] at h1
  obtain ⟨B, O, Cs, el, fz, rfl, hφ, g1, g2, g3, g4⟩ := ptr_blk hH h1 hblk hst hwv
  obtain rfl := g3 (by simp)
  obtain rfl := C.bld el u g4 hu
  refine .pure hH (x := .pointer (some ⟨B, 0 + 0, none⟩)) ?_ h1
  have hview : (viewAt B).run C.P W = .ok none W := by simp [viewAt, World.shape?, g1]
  have hshape : W.shape? B = some (el, Cs.size) := by simp [World.shape?, g1]
  have hcell : C.P.cellsOf el = n := by
    simp only [sizeA] at hsz
    simp [Program.cellsOf, hsz]
  have hlies : liesAt C.P C.P.depth el (Cs.size / C.P.cellsOf el) 0 el 1 = true := by
    have hdp : C.P.depth = (2 * (C.P.types.size + Made.depth) + 1) + 1 := rfl
    have hcount : 1 ≤ Cs.size / n := (Nat.one_le_div_iff hs0).2 (by omega)
    rw [hcell, hdp]
    simp only [liesAt, Bool.or_eq_true]
    left
    rw [hdp]
    simp [rowAt, hcell, hcount, sameLayout, Nat.ne_of_gt hs0]
  have hvar : (variablesAt ⟨B, 0, none⟩ el 1).run C.P W = .ok true W := by
    simp [variablesAt, hshape, hlies]
  simp [execOp, ho, hX, convert, r_underlying hs, r_underlying hd, Conv.unsafePointer, Conv.seenAt, hview, hvar, r_size hsz]
end Go.AE
namespace Go.AE
open Go
variable {C : Ctx} {φ φ' φc : Loc} {N : Nat → Prop} {W W' : World} {T : Tmps} {a : Act} {H Hc : AHeap}
def loc0 : Loc := fun _ _ => none
def N0 (φ : Loc) (N : Nat → Prop) : Nat → Prop := fun B => N B ∨ mutB φ B
theorem not_mut0 (B : Nat) : ¬ mutB loc0 B := fun ⟨_, _, _, h⟩ => by simp [loc0] at h
theorem locFreeL_get {cs : List AV} (h : locFreeL cs = true) (i : Nat) : (cs.getD i .bad).locFree = true := by
 induction cs generalizing i with
 | nil => simp [AV.locFree]
 | cons c cs ih =>
  simp [locFreeL] at h
  cases i with
  | zero => simpa using h.1
  | succ i => simpa using ih h.2 i
theorem VRel.free {v : AV} {x : Value} (h : VRel C φ N W v x) (hf : v.locFree = true) : VRel C loc0 (N0 φ N) W v x := by
  induction h with
  | bad x h => exact .bad x h
  | bool b => exact .bool b
  | int k n => exact .int k n
  | str s => exact .str s
  | nilptr => exact .nilptr
  | ptr _ => simp [AV.locFree] at hf
  | elt X hB hm hN ho hc _ ih =>
    simp [AV.locFree] at hf
    exact .elt X hB (not_mut0 _) (fun h => h.elim hN hm) ho hc fun i hi => ih i hi (locFreeL_get hf i)
  | nilsl => exact .nilsl
  | lst X hl hcap hex ha ho hc _ ih =>
    simp [AV.locFree] at hf
    exact .lst X hl hcap hex (fun hne => ⟨(ha hne).1, (ha hne).2.1, not_mut0 _, fun h => h.elim (ha hne).2.2.2 (ha hne).2.2.1⟩) ho hc fun i hi => ih i hi (locFreeL_get hf i)
  | sl _ _ _ _ _ _ => simp [AV.locFree] at hf
  | nilmap => exact .nilmap
  | map _ => simp [AV.locFree] at hf
  | func h1 h2 _ _ ia ic =>
    simp [AV.locFree] at hf
    exact .func h1 h2 (fun i hi => ia i hi (locFreeL_get hf.1 i)) fun i hi => ic i hi (locFreeL_get hf.2 i)
  | nilFunc => exact .nilFunc
  | iface ht _ ih => exact .iface ht (ih (by simpa [AV.locFree] using hf))
  | nilIface => exact .nilIface
  | agg hl ho _ ih =>
    simp [AV.locFree] at hf
    exact .agg hl ho fun i hi => ih i hi (locFreeL_get hf i)
  | tuple hl _ ih =>
    simp [AV.locFree] at hf
    exact .tuple hl fun i hi => ih i hi (locFreeL_get hf i)
  | yld _ => simp [AV.locFree] at hf
theorem LRel.free {cs : List AV} {xs : List Value} (h : LRel C φ N W cs xs) (hf : locFreeL cs = true) : LRel C loc0 (N0 φ N) W cs xs :=
 ⟨h.1, fun i hi => (h.2 i hi).free (locFreeL_get hf i)⟩
theorem HRel.empty (h : HRel C φ N H W) : HRel C loc0 (N0 φ N) [] W where
 blk b k hb := by simp at hb
 dom b v x hx := by simp [loc0] at hx
 inj b v b' v' x x' hx := by simp [loc0] at hx
 nN B hB := absurd hB (not_mut0 B)
 nS B hB := by
  rcases hB with h1 | ⟨b, v, o, h1⟩
  ·exact h.nS B h1
  ·exact (h.dom b v _ h1).2
 gl g v hg := (h.gl g v hg).free (C.glFree g v hg)
theorem Ext.ofEmpty (h : Ext loc0 φc W W') (φ : Loc) : Ext φ φ W W' :=
 ⟨h.size, fun _ _ _ h => h, fun _ _ _ h => .inl h, fun B hB _ => h.keep B hB (not_mut0 B), h.shape, h.loops, h.os, h.output⟩
theorem HRel.after (hH : HRel C φ N H W) (h : Ext loc0 φc W W') : HRel C φ N H W' :=
 hH.mono (h.ofEmpty φ) fun B ⟨b, v, _, hx⟩ => h.keep B (hH.dom b v _ hx).2 (not_mut0 B)
structure Below (φ : Loc) (N : Nat → Prop) (φc : Loc) : Prop where
 ok : ∀ B, mutB φc B → ¬ mutB φ B ∧ ¬ N B
theorem below_of (hH : HRel C φ N H W) (h : Ext loc0 φc W W') : Below φ N φc where
 ok B hB := by
  obtain ⟨b, v, o, hx⟩ := hB
  rcases h.fresh b v _ hx with h1 | h1 | h1
  ·simp [loc0] at h1
  ·simp at h1
   exact ⟨fun ⟨b', v', _, h2⟩ => by have := (hH.dom b' v' _ h2).2; simp at this; omega, fun h2 => by have := hH.nS B h2; omega⟩
  ·exact absurd h1 (not_mut0 _)
mutual
theorem freeze_one (H : AHeap) : ∀ (n : Nat) (v v' : AV), freeze H n v = some v' → v'.one = v.one
  | 0, _, _, h => by simp [freeze] at h
  | n + 1, v, v', h => by
    cases v <;> simp only [freeze] at h <;> try (simp at h; done)
    all_goals first
      | (simp at h; subst h; rfl)
      | (simp only [Option.map_eq_some_iff] at h; obtain ⟨_, _, rfl⟩ := h; rfl)
      | (split at h <;> try (simp at h; done)
         split at h <;> simp at h
         subst h; rfl)
      | (split at h <;> simp at h
         subst h; rfl)
end
theorem freezeL_len (H : AHeap) : ∀ (n : Nat) (l l' : List AV), freezeL H n l = some l' → l'.length = l.length
 | _, [], l', h => by simp [freezeL] at h; subst h; rfl
 | 0, _ :: _, _, h => by simp [freezeL] at h
 | n + 1, v :: l, l', h => by
  simp only [freezeL] at h
  split at h <;> simp at h
  rename_i v' r h1 h2
  subst h
  simp [freezeL_len H n l r h2]
theorem freezeL_rowOk (H : AHeap) : ∀ (n : Nat) (l l' : List AV), freezeL H n l = some l' → rowOk l → rowOk l'
 | _, [], l', h, _ => by simp [freezeL] at h; subst h; exact .nil
 | 0, _ :: _, _, h, _ => by simp [freezeL] at h
 | n + 1, v :: l, l', h, hr => by
  simp only [freezeL] at h
  split at h <;> simp at h
  rename_i v' r h1 h2
  subst h
  have := rowOk.iff.1 hr
  exact .cons (by rw [freeze_one H n v v' h1]; exact this v (by simp)) (freezeL_rowOk H n l r h2 (rowOk.iff.2 fun w hw => this w (by simp [hw])))
mutual
theorem freeze_ok (hH : HRel C φc (N0 φ N) Hc W) (hb : Below φ N φc) : ∀ (n : Nat) (v v' : AV) (x : Value), freeze Hc n v = some v' → VRel C φc (N0 φ N) W v x → VRel C φ N W v' x
 | 0, _, _, _, h, _ => by simp [freeze] at h
 | n + 1, v, v', x, h, hv => by
  cases hv with
  | bad x hx => simp [freeze] at h
  | bool b => simp [freeze] at h; subst h; exact .bool b
  | int k m => simp [freeze] at h; subst h; exact .int k m
  | str s => simp [freeze] at h; subst h; exact .str s
  | nilptr => simp [freeze] at h; subst h; exact .nilptr
  | ptr hp => simp [freeze] at h
  | @elt cs o B O X hB hm hN ho hc hr =>
   simp only [freeze, Option.map_eq_some_iff] at h
   obtain ⟨cs', hcs, rfl⟩ := h
   have hlen := freezeL_len Hc n cs cs' hcs
   have hl : LRel C φc (N0 φ N) W cs ((List.range cs.length).map X) := ⟨by simp, fun i hi => by
    have := hr i hi; simpa [List.getD_eq_getElem?_getD, hi] using this⟩
   have := freezeL_ok hH hb n cs cs' _ hcs hl
   refine .elt X hB (fun h => hN (.inr h)) (fun h => hN (.inl h)) (freezeL_rowOk Hc n cs cs' hcs ho) (fun i hi => hc i (hlen ▸ hi)) fun i hi => ?_
   have h2 := this.2 i hi
   have hi' : i < cs.length := hlen ▸ hi
   simpa [List.getD_eq_getElem?_getD, hi'] using h2
  | nilsl => simp [freeze] at h; subst h; exact .nilsl
  | @lst cs m sz cap ex ad X hl hcap hex ha ho hc hr =>
   simp only [freeze, Option.map_eq_some_iff] at h
   obtain ⟨cs', hcs, rfl⟩ := h
   have hlen := freezeL_len Hc n cs cs' hcs
   have hl' : LRel C φc (N0 φ N) W cs ((List.range cs.length).map X) := ⟨by simp, fun i hi => by
    have := hr i hi; simpa [List.getD_eq_getElem?_getD, hi] using this⟩
   have := freezeL_ok hH hb n cs cs' _ hcs hl'
   refine .lst X (by rw [hlen]; exact hl) hcap hex (fun hne => ?_) (freezeL_rowOk Hc n cs cs' hcs ho) (fun i hi => hc i (hlen ▸ hi)) fun i hi => ?_
   ·have hne' : cs ≠ [] := by rintro rfl; apply hne; simpa using hlen
    obtain ⟨a1, a2, a3, a4⟩ := ha hne'
    exact ⟨a1, a2, fun h => a4 (.inr h), fun h => a4 (.inl h)⟩
   ·have h2 := this.2 i hi
    have hi' : i < cs.length := hlen ▸ hi
    simpa [List.getD_eq_getElem?_getD, hi'] using h2
  | @sl b o m sz v0 B O cap' cap ad Cs e fz hφ hcap hex hW hr ha =>
   simp only [freeze] at h
   split at h <;> try (simp at h; done)
   rename_i cs hrow
   split at h <;> simp at h
   rename_i cs' hcs
   subst h
   obtain ⟨hro, hr2⟩ := row_ok hH (.sl hφ hcap hex hW hr ha) hrow
   rcases hr2 with ⟨h1, _, _⟩ | ⟨ad', m', cap2, sz2, xs, hel, hX, hcap2, hlen, hl, hlie⟩
   ·simp at h1
   ·simp [elemOfA] at hel
    obtain ⟨rfl, rfl⟩ := hel
    simp at hX
    obtain ⟨rfl, rfl⟩ := hX
    have hlen' := freezeL_len Hc n cs cs' hcs
    have := freezeL_ok hH hb n cs cs' _ hcs hl
    have hmp : cs' ≠ [] → ad = ⟨B, O + o, none⟩ := by
     intro hne
     refine ha.resolve_right fun h0 => hne ?_
     have : m = 0 := by omega
     subst this
     simp at hlen
     subst hlen
     simpa using hlen'
    refine .lst (fun i => xs.getD i undef) (by rw [hlen']; exact hlen) hcap (fun he => ?_) (fun hne => ?_) (freezeL_rowOk Hc n cs cs' hcs hro) (fun i hi => ?_) fun i hi => ?_
    ·simp at he
     exact hex m he
    ·have := hmp hne
     subst this
     have hbb := hb.ok B ⟨b, v0, O, hφ⟩
     exact ⟨rfl, lt_of_heap hW, hbb.1, hbb.2⟩
    ·have hne : cs' ≠ [] := by rintro rfl; simp at hi
     have hx : i < xs.length := by rw [← hl.1, ← hlen']; exact hi
     have := hlie i xs[i] (by simp [hx])
     rw [add_spot (by rw [hmp hne])] at this
     simpa [List.getD_eq_getElem?_getD, hx] using this
    ·exact this.2 i hi
  | nilmap => simp [freeze] at h; subst h; exact .nilmap
  | map hp => simp [freeze] at h
  | yld hp => simp [freeze] at h
  | @func f as cs xs ys h1 h2 hxa hxc =>
   simp only [freeze] at h
   split at h <;> simp at h
   rename_i as' cs' ha hc
   subst h
   have i1 := freezeL_ok hH hb n as as' xs ha ⟨h1, hxa⟩
   have i2 := freezeL_ok hH hb n cs cs' ys hc ⟨h2, hxc⟩
   exact .func i1.1 i2.1 i1.2 i2.2
  | nilFunc => simp [freeze] at h; subst h; exact .nilFunc
  | iface ht hx =>
   simp only [freeze, Option.map_eq_some_iff] at h
   obtain ⟨v1, hv1, rfl⟩ := h
   exact .iface ht (freeze_ok hH hb n _ v1 _ hv1 hx)
  | nilIface => simp [freeze] at h; subst h; exact .nilIface
  | @agg cs xs hl ho hr =>
   simp only [freeze, Option.map_eq_some_iff] at h
   obtain ⟨cs', hcs, rfl⟩ := h
   have := freezeL_ok hH hb n cs cs' _ hcs ⟨hl, hr⟩
   exact .agg this.1 (freezeL_rowOk Hc n cs cs' hcs ho) this.2
  | @tuple cs xs hl hr =>
   simp only [freeze, Option.map_eq_some_iff] at h
   obtain ⟨cs', hcs, rfl⟩ := h
   have := freezeL_ok hH hb n cs cs' _ hcs ⟨hl, hr⟩
   exact .tuple this.1 this.2
theorem freezeL_ok (hH : HRel C φc (N0 φ N) Hc W) (hb : Below φ N φc) : ∀ (n : Nat) (l l' : List AV) (xs : List Value), freezeL Hc n l = some l' → LRel C φc (N0 φ N) W l xs → LRel C φ N W l' xs
 | _, [], l', xs, h, hl => by
  simp [freezeL] at h; subst h
  cases xs with
  | nil => exact LRel.nil
  | cons => simp [LRel] at hl
 | 0, _ :: _, _, _, h, _ => by simp [freezeL] at h
 | n + 1, v :: l, l', xs, h, hl => by
  simp only [freezeL] at h
  split at h <;> simp at h
  rename_i v' r h1 h2
  subst h
  cases xs with
  | nil => simp [LRel] at hl
  | cons x xs => exact LRel.cons (freeze_ok hH hb n v v' x h1 hl.tail.1) (freezeL_ok hH hb n l r xs h2 hl.tail.2)
end
end Go.AE
namespace Go.AE
open Go
variable {C : Ctx} {φ φ' : Loc} {N : Nat → Prop} {W W' : World} {T : Tmps} {a : Act} {H : AHeap}
theorem ety_notInt {n : Nat} {c : Bool} {t : TypeId} {e : ETy} (h : etyA C.P C.τ n c t = some e) (h1 : ∀ k, C.P.underlying t ≠ some (.int k)) (h2 : C.P.underlying t ≠ some .string) : e ≠ .i ∧ e ≠ .s := by
  cases n with
  | zero => simp [etyA] at h
  | succ n =>
    unfold etyA at h
    cases hd : C.P.underlying t with
    | none => simp [hd] at h
    | some d =>
      cases d <;> simp [hd] at h
      case int k => exact absurd hd (h1 k)
      case string => exact absurd hd h2
      all_goals first
        | (subst h; simp; done)
        | (obtain ⟨_, _, rfl⟩ := h; simp; done)
        | (obtain ⟨_, _, _, rfl⟩ := h; simp; done)
        | (split at h <;> simp at h; subst h; simp; done)
set_option maxHeartbeats 2000000 in
theorem op_sound {o : Oper} {op' : LOp} (hl : lowOp C.P C.τ o.op = some op') (hc : ∀ c, o.op ≠ .call c) (hS : Slots C φ N W T a) (hH : HRel C φ N H W) {v : AV} {H' : AHeap} {k : Kd} (h : opA T H op' = some (v, H', k)) :
    OpSound C N φ W o a v H' := by
  cases ho : o.op <;> rw [ho] at hl
  case makeFunc f xs ys =>
    cases f <;> simp only [lowOp] at hl <;> try (simp at hl; done)
    rename_i f
    split at hl <;> try (simp at hl; done)
    rename_i i x' y' hi hx hy
    simp at hl; subst hl
    exact s_mkFunc ho hi hx hy hS hH h
  case makeMap t r =>
    cases r <;> simp only [lowOp] at hl <;> try (simp at hl; done)
    simp at hl
    subst hl
    exact s_mkMap ho hH h
  case next x b =>
    cases b <;> simp only [lowOp] at hl <;> try (simp at hl; done)
    · simp only [Option.map_eq_some_iff] at hl
      obtain ⟨x', hx, rfl⟩ := hl
      exact s_nextMap ho hx hS hH h
    · simp only [Option.map_eq_some_iff] at hl
      obtain ⟨x', hx, rfl⟩ := hl
      exact s_nextStr ho hx hS hH h
  all_goals simp only [lowOp] at hl
  all_goals try (simp at hl; done)
  case move x => 
    simp only [Option.map_eq_some_iff] at hl
    obtain ⟨x', hx, rfl⟩ := hl
    exact s_mv (.inl ho) hx hS hH h
  case assign x =>
    simp only [Option.map_eq_some_iff] at hl
    obtain ⟨x', hx, rfl⟩ := hl
    exact s_mv (.inr ho) hx hS hH h
  case pick c x y =>
    split at hl <;> simp at hl
    rename_i c' x' y' h1 h2 h3
    subst hl
    exact s_pick ho h1 h2 h3 hS hH h
  case alloc t =>
    simp only [Option.map_eq_some_iff] at hl
    obtain ⟨z, hz, rfl⟩ := hl
    exact s_alloc ho hz hH h
  case box t x =>
    simp only [Option.map_eq_some_iff] at hl
    obtain ⟨x', hx, rfl⟩ := hl
    exact s_box ho hx hS hH h
  case build t parts =>
    split at hl <;> try (simp at hl; done)
    · rename_i z fs hz hd
      split at hl <;> try (simp at hl; done)
      rename_i hall
      simp only [Option.map_eq_some_iff] at hl
      obtain ⟨ps, hp, rfl⟩ := hl
      exact s_build_struct ho hz hd hall.2 hp hall.1 hS hH h
    · rename_i z n e hz hd
      split at hl <;> try (simp at hl; done)
      rename_i s hs
      split at hl <;> try (simp at hl; done)
      rename_i hz0
      simp only [Option.map_eq_some_iff] at hl
      obtain ⟨ps, hp, rfl⟩ := hl
      exact s_build_array ho hz hd hs hp hz0 hS hH h
  case buildSlice t n parts =>
    split at hl <;> try (simp at hl; done)
    rename_i e hd
    split at hl <;> try (simp at hl; done)
    rename_i s z hs hz
    split at hl <;> try (simp at hl; done)
    rename_i hcond
    simp only [Option.map_eq_some_iff] at hl
    obtain ⟨ps, hp, rfl⟩ := hl
    exact s_lit ho hd hs hz hcond.1 hcond.2.1 hcond.2.2 hp hS hH h
  case load t x =>
    split at hl <;> try (simp at hl; done)
    rename_i s ag x' hs hag hx
    split at hl <;> simp at hl
    rename_i hcond
    subst hl
    exact s_load ho hx hs hag (fun e => by simp [e] at hcond; exact hcond) hS hH h
  case store t x y =>
    split at hl <;> simp at hl
    rename_i s x' y' hs hx hy
    subst hl
    exact s_store ho hx hy hs hS hH h
  case nilCheck x =>
    simp only [Option.map_eq_some_iff] at hl
    obtain ⟨x', hx, rfl⟩ := hl
    exact s_nilChk ho hx hS hH h
  case binOp op t x y u =>
    split at hl <;> try (simp at hl; done)
    rename_i x' y' hx hy
    split at hl
    · simp at hl; subst hl; exact s_bin ho hx hy hS hH h
    · simp at hl; subst hl; exact s_bin ho hx hy hS hH h
    · rename_i hni hns
      split at hl <;> try (simp at hl; done)
      rename_i hg
      simp only [Option.map_eq_some_iff] at hl
      obtain ⟨e, he, rfl⟩ := hl
      obtain ⟨e1, e2⟩ := ety_notInt he (fun k hk => hni k hk) (fun hk => hns hk)
      exact s_eq ho (.inl ⟨rfl, rfl⟩) hx hy he hg e1 e2 hS hH h
    · rename_i hni hns
      split at hl <;> try (simp at hl; done)
      rename_i hg
      simp only [Option.map_eq_some_iff] at hl
      obtain ⟨e, he, rfl⟩ := hl
      obtain ⟨e1, e2⟩ := ety_notInt he (fun k hk => hni k hk) (fun hk => hns hk)
      exact s_eq ho (.inr ⟨rfl, rfl⟩) hx hy he hg e1 e2 hS hH h
    · simp at hl
  case unOp op t x =>
    simp only [Option.map_eq_some_iff] at hl
    obtain ⟨x', hx, rfl⟩ := hl
    exact s_un ho hx hS hH h
  case convert s d x =>
    split at hl <;> try (simp at hl; done)
    rename_i kk x' hk hx
    simp at hl; subst hl
    unfold lowConv at hk
    split at hk <;> try (simp at hk; done)
    · rename_i sd kd hs hd
      simp at hk; subst hk
      exact s_conv_int ho hx hs hd hS hH h
    · rename_i ks hs hd
      simp at hk; subst hk
      exact s_conv_ofInt ho hx hs hd hS hH h
    · rename_i hs hd
      simp at hk; subst hk
      exact s_conv_same ho hx hs hd hS hH h
    · rename_i e hs hd
      split at hk <;> simp at hk
      · rename_i he
        subst hk
        exact s_conv_toBytes ho hx hs hd he hS hH h
      · subst hk
        simp only [opA] at h
        unfold convA at h
        split at h <;> simp_all
    · rename_i e hs hd
      split at hk <;> try (simp at hk; done)
      rename_i sz hsz
      split at hk <;> simp at hk
      rename_i hn
      subst hk
      exact s_conv_toUns ho hx hs hd hsz hn hS hH h
    · rename_i u hs hd
      split at hk <;> try (simp at hk; done)
      rename_i sz hsz
      split at hk <;> simp at hk
      rename_i hu
      subst hk
      exact s_conv_ofUns ho hx hs hd hsz hu hS hH h
    · rename_i e hs hd
      split at hk <;> simp at hk
      · rename_i he
        subst hk
        exact s_conv_ofBytes ho hx hs he hd hS hH h
      · rename_i he
        subst hk
        exact s_conv_ofRunes ho hx hs he hd hS hH h
  case makeInterface t x =>
    split at hl <;> try (simp at hl; done)
    rename_i q d g x' hni hd hg hx
    simp at hl; subst hl
    exact s_mkIface ho hx hd (fun ms e => hni ms (e ▸ rfl)) hg hS hH h
  case makeSlice t n c =>
    split at hl <;> try (simp at hl; done)
    rename_i e hd
    split at hl <;> try (simp at hl; done)
    rename_i s b z n' c' hs hb hz hn hc'
    split at hl <;> simp at hl
    rename_i hz0
    subst hl
    exact s_mkSlice ho hn hc' hd hs hb hz hz0 hS hH h
  case slice t x lo hi mx =>
    split at hl <;> try (simp at hl; done)
    · rename_i x' lo' hi' hd hx hlo hhi hmx
      simp at hl; subst hl
      cases mx with
      | none => exact s_slStr ho hx hlo hhi hd hS hH h
      | some m => simp [lowO] at hmx
    · rename_i e x' lo' hi' mx' hd hx hlo hhi hmx
      simp only [Option.map_eq_some_iff] at hl
      obtain ⟨s, hs, rfl⟩ := hl
      exact s_slSl ho hx hlo hhi hmx hd hs hS hH h
    · rename_i n e x' lo' hi' mx' hd hx hlo hhi hmx
      simp only [Option.map_eq_some_iff] at hl
      obtain ⟨s, hs, rfl⟩ := hl
      exact s_slArr ho hx hlo hhi hmx hd hs hS hH h
  case fieldAddr t x i =>
    split at hl <;> try (simp at hl; done)
    rename_i fs x' hd hx
    split at hl <;> try (simp at hl; done)
    rename_i f hf
    split at hl <;> try (simp at hl; done)
    rename_i s hs
    split at hl <;> simp at hl
    rename_i hs0
    subst hl
    exact s_fieldAddr ho hx hd hf hs hs0 hS hH h
  case field t x i =>
    split at hl <;> try (simp at hl; done)
    rename_i fs x' hd hx
    split at hl <;> try (simp at hl; done)
    rename_i f hf
    split at hl <;> simp at hl
    rename_i s ag hs hag
    subst hl
    exact s_field ho hx hd hf hs hag hS hH h
  case indexAddr t x i =>
    split at hl <;> try (simp at hl; done)
    · rename_i e x' i' hd hx hi
      simp only [Option.map_eq_some_iff] at hl
      obtain ⟨s, hs, rfl⟩ := hl
      exact s_idxAddr ho hx hi hd hs hS hH h
    · rename_i n e x' i' hd hx hi
      simp only [Option.map_eq_some_iff] at hl
      obtain ⟨s, hs, rfl⟩ := hl
      exact s_idxArrAddr ho hx hi hd hs hS hH h
  case index t x i =>
    split at hl <;> try (simp at hl; done)
    · rename_i x' i' hd hx hi
      simp at hl; subst hl
      exact s_idxStr ho hx hi hd hS hH h
    · rename_i n e x' i' hd hx hi
      split at hl <;> simp at hl
      rename_i s ag hs hag
      subst hl
      exact s_idxArr ho hx hi hd hs hag hS hH h
  case lookup t x i ok =>
    split at hl <;> try (simp at hl; done)
    rename_i kt e x' i' hd hx hi
    split at hl <;> try (simp at hl; done)
    rename_i ke z hk hz
    split at hl <;> simp at hl
    rename_i hp
    subst hl
    exact s_lookup ho hx hi hd hk hp hz hS hH h
  case mapUpdate t m i x =>
    split at hl <;> try (simp at hl; done)
    rename_i kt e m' i' x' hd hm hi hx
    simp only [Option.map_eq_some_iff] at hl
    obtain ⟨ke, hk, rfl⟩ := hl
    exact s_mapUpd (.inl ho) hm hi hx hd hk hS hH h
  case insert t m i x =>
    split at hl <;> try (simp at hl; done)
    rename_i kt e m' i' x' hd hm hi hx
    simp only [Option.map_eq_some_iff] at hl
    obtain ⟨ke, hk, rfl⟩ := hl
    exact s_mapUpd (.inr ho) hm hi hx hd hk hS hH h
  case range t x =>
    split at hl <;> simp at hl
    · rename_i x' hd hx
      subst hl
      exact s_rangeStr ho hx hd hS hH h
    · rename_i kt et x' hd hx
      subst hl
      exact s_rangeMap ho hx hd hS hH h
  case extract x i =>
    simp only [Option.map_eq_some_iff] at hl
    obtain ⟨x', hx, rfl⟩ := hl
    exact s_extract ho hx hS hH h
  case call c => exact absurd ho (hc c)
end Go.AE
namespace Go.AE
open Go
variable {C : Ctx} {φ φ' φc : Loc} {N : Nat → Prop} {W W' : World} {T : Tmps} {a : Act} {H Hc : AHeap}
def Loc.join (φ φc : Loc) (k : Nat) : Loc := fun b v => if b < k then φ b v else φc (b - k) v
theorem join_new (φ φc : Loc) (k b v : Nat) : Loc.join φ φc k (k + b) v = φc b v := by
 simp [Loc.join]
 intro h; omega
theorem join_old {φ φc : Loc} {k b v : Nat} (h : b < k) : Loc.join φ φc k b v = φ b v := by simp [Loc.join, h]
theorem mutB_join {φ φc : Loc} {k B : Nat} (h : mutB (Loc.join φ φc k) B) : mutB φ B ∨ mutB φc B := by
 obtain ⟨b, v, o, hx⟩ := h
 unfold Loc.join at hx
 split at hx
 ·exact .inl ⟨_, _, _, hx⟩
 ·exact .inr ⟨_, _, _, hx⟩
theorem shift_one (k : Nat) (v : AV) : (v.shift k).one = v.one := by cases v <;> simp [AV.shift, AV.one]
theorem shiftL_eq (k : Nat) : ∀ l : List AV, shiftL k l = l.map (AV.shift k)
 | [] => rfl
 | v :: l => by simp [shiftL, shiftL_eq k l]
theorem shiftL_getD (k : Nat) (l : List AV) (i : Nat) (h : i < l.length) : (shiftL k l).getD i .bad = (l.getD i .bad).shift k := by
 rw [shiftL_eq]; simp [List.getD_eq_getElem?_getD, h]
theorem shiftL_len (k : Nat) (l : List AV) : (shiftL k l).length = l.length := by rw [shiftL_eq]; simp
theorem shiftL_rowOk {k : Nat} {l : List AV} (h : rowOk l) : rowOk (shiftL k l) := by
 rw [shiftL_eq]
 refine rowOk.iff.2 fun w hw => ?_
 obtain ⟨v, hv, rfl⟩ := List.mem_map.1 hw
 rw [shift_one]; exact rowOk.iff.1 h v hv
theorem VRel.shift {k : Nat} {v : AV} {x : Value} (h : VRel C φc (N0 φ N) W v x) : VRel C (Loc.join φ φc k) N W (v.shift k) x := by
  have nm : ∀ {B}, ¬ mutB φc B → ¬ N0 φ N B → ¬ mutB (Loc.join φ φc k) B := fun h1 h2 h3 => (mutB_join h3).elim (fun h => h2 (.inr h)) h1
  induction h with
  | bad x h => exact .bad x h
  | bool b => exact .bool b
  | int q n => exact .int q n
  | str s => exact .str s
  | nilptr => exact .nilptr
  | ptr hb => exact .ptr (by rw [join_new]; exact hb)
  | elt X hB hm hN ho hc _ ih =>
    exact .elt X hB (nm hm hN) (fun h => hN (.inl h)) (shiftL_rowOk ho) (fun i hi => hc i (by rwa [shiftL_len] at hi)) fun i hi => by
      rw [shiftL_len] at hi; rw [shiftL_getD _ _ _ hi]; exact ih i hi
  | nilsl => exact .nilsl
  | lst X hl hcap hex ha ho hc _ ih =>
    refine .lst X (by rw [shiftL_len]; exact hl) hcap hex (fun hne => ?_) (shiftL_rowOk ho) (fun i hi => hc i (by rwa [shiftL_len] at hi)) fun i hi => by
      rw [shiftL_len] at hi; rw [shiftL_getD _ _ _ hi]; exact ih i hi
    obtain ⟨a1, a2, a3, a4⟩ := ha (by rintro rfl; exact hne rfl)
    exact ⟨a1, a2, nm a3 a4, fun h => a4 (.inl h)⟩
  | sl hb hcap hex hW hr ha => exact .sl (by rw [join_new]; exact hb) hcap hex hW hr ha
  | nilmap => exact .nilmap
  | map hb => exact .map (by rw [join_new]; exact hb)
  | func h1 h2 _ _ ia ic =>
    exact .func (by rw [shiftL_len]; exact h1) (by rw [shiftL_len]; exact h2) (fun i hi => by rw [shiftL_len] at hi; rw [shiftL_getD _ _ _ hi]; exact ia i hi)
      fun i hi => by rw [shiftL_len] at hi; rw [shiftL_getD _ _ _ hi]; exact ic i hi
  | nilFunc => exact .nilFunc
  | iface ht _ ih => exact .iface ht ih
  | nilIface => exact .nilIface
  | agg hl ho _ ih => exact .agg (by rw [shiftL_len]; exact hl) (shiftL_rowOk ho) fun i hi => by rw [shiftL_len] at hi; rw [shiftL_getD _ _ _ hi]; exact ih i hi
  | yld hb => exact .yld (by rw [join_new]; exact hb)
  | tuple hl _ ih => exact .tuple (by rw [shiftL_len]; exact hl) fun i hi => by rw [shiftL_len] at hi; rw [shiftL_getD _ _ _ hi]; exact ih i hi
theorem shiftP_len (k : Nat) : ∀ es : List (AV × AV), (shiftP k es).length = es.length
 | [] => rfl
 | (a, b) :: l => by simp [shiftP, shiftP_len k l]
theorem shiftP_get (k : Nat) : ∀ (es : List (AV × AV)) (i : Nat), i < es.length → (shiftP k es).getD i default = ((es.getD i default).1.shift k, (es.getD i default).2.shift k)
  | [], i, h => by simp at h
  | (a, b) :: l, 0, _ => by simp [shiftP]
  | (a, b) :: l, i + 1, h => by simpa [shiftP] using shiftP_get k l i (by simpa using h)
theorem BRel.shift {k b : Nat} {blk : ABlk} (h : BRel C φc (N0 φ N) W b blk) : BRel C (Loc.join φ φc k) N W (k + b) (blk.shift k) := by
 cases blk with
 | cells cs tag wv st =>
  obtain ⟨h0, h1, h2, h3⟩ := h
  simp only [ABlk.shift, BRel, shiftL_len, join_new]
  refine ⟨h0, h1, h2, fun hst v B O hv hwv => ?_⟩
  obtain ⟨Cs, e, fz, g1, g2, g3, g4, g5, g6, g7⟩ := h3 hst v B O hv hwv
  have hle := (h1 v _ hv).1
  exact ⟨Cs, e, fz, g1, g2, g3, g4, fun i hi => by rw [shiftL_getD _ _ _ (by omega)]; exact (g5 i hi).shift, shiftL_rowOk g6, g7⟩
 | map es =>
  obtain ⟨B, M, clock, g1, g2, g3, g4⟩ := h
  exact ⟨B, M, clock, by rw [join_new]; exact g1, g2, by rw [shiftP_len]; exact g3, fun i hi => by
   rw [shiftP_len] at hi
   rw [shiftP_get _ _ _ hi]
   exact ⟨(g4 i hi).1.shift, (g4 i hi).2.shift⟩⟩
 | iter s pos =>
  obtain ⟨B, g1, g2⟩ := h
  exact ⟨B, by rw [join_new]; exact g1, g2⟩
 | miter m =>
  obtain ⟨B, M, since, clk, g1, g2, g3⟩ := h
  exact ⟨B, M, since, clk, by rw [join_new]; exact g1, by rw [join_new]; exact g2, g3⟩
 | loop st pd T ps as bd =>
  obtain ⟨B, r, g1, g2, g3, g4, g5, g6⟩ := h
  exact ⟨B, r, by rw [join_new]; exact g1, g2, g3, g4, ⟨by rw [shiftL_len]; exact g5.1, fun i hi => by
   rw [shiftL_len] at hi; rw [shiftL_getD _ _ _ hi]; exact (g5.2 i hi).shift⟩, g6⟩
theorem callee_fresh (h : Ext loc0 φc W W') {b v : Nat} {x : Nat × Nat} (hx : φc b v = some x) : W.heap.size ≤ x.1 := by
 rcases h.fresh b v x hx with h1 | h1 | h1
 ·simp [loc0] at h1
 ·exact h1
 ·exact absurd h1 (not_mut0 _)
theorem Ext.join (hH : HRel C φ N H W) (h : Ext loc0 φc W W') : Ext φ (Loc.join φ φc H.length) W W' where
 size := h.size
 mono b v x hx := by rw [join_old (hH.dom b v x hx).1]; exact hx
 fresh b v x hx := by
  unfold Loc.join at hx
  split at hx
  ·exact .inl hx
  ·exact .inr (.inl (callee_fresh h hx))
 keep B hB _ := h.keep B hB (not_mut0 B)
 shape := h.shape
 loops := h.loops
 os := h.os
 output := h.output
theorem HRel.join (hH : HRel C φ N H W) (hE : Ext loc0 φc W W') (hc : HRel C φc (N0 φ N) Hc W') : HRel C (Loc.join φ φc H.length) N (H ++ Hc.map (ABlk.shift H.length)) W' := by
 have hJ := Ext.join hH hE
 have alive_old : ∀ {b}, b < H.length → aliveAt (H ++ Hc.map (ABlk.shift H.length)) b → aliveAt H b := by
  intro b hb h
  simpa [aliveAt, List.getElem?_append_left hb] using h
 have alive_new : ∀ {b}, ¬ b < H.length → aliveAt (H ++ Hc.map (ABlk.shift H.length)) b → aliveAt Hc (b - H.length) := by
  intro b hb h
  simp only [aliveAt, List.getElem?_append_right (Nat.le_of_not_lt hb), List.getElem?_map] at h ⊢
  cases hq : Hc[b - H.length]? with
  | none => simp [hq] at h
  | some blk => 
   simp only [hq, Option.map_some] at h
   cases blk <;> simpa [ABlk.shift] using h
 refine ⟨fun b k hb => ?_, fun b v x hx => ?_, fun b1 v1 b2 v2 x1 x2 h1 h2 hne a1 a2 => ?_, fun B hB hN => ?_, fun B hB => Nat.lt_of_lt_of_le (hH.nS B hB) hE.size, fun g v hg => (hH.gl g v hg).mono hJ⟩
 ·by_cases e : b < H.length
  ·rw [List.getElem?_append_left e] at hb
   exact BRel.other hJ (fun v => join_old e) (hH.blk b k hb) fun v x hx _ => hE.keep x.1 (hH.dom b v x hx).2 (not_mut0 _)
  ·rw [List.getElem?_append_right (Nat.le_of_not_lt e), List.getElem?_map, Option.map_eq_some_iff] at hb
   obtain ⟨blk, hblk, rfl⟩ := hb
   have := (hc.blk _ _ hblk).shift (φ := φ) (k := H.length)
   rwa [show H.length + (b - H.length) = b by omega] at this
 ·unfold Loc.join at hx
  split at hx
  ·have := hH.dom b v x hx
   have := hE.size
   simp; omega
  ·have := hc.dom _ v x hx
   simp; omega
 ·unfold Loc.join at h1 h2
  split at h1
  ·rename_i e1
   split at h2
   ·rename_i e2
    exact hH.inj b1 v1 b2 v2 x1 x2 h1 h2 hne (alive_old e1 a1) (alive_old e2 a2)
   ·have := (hH.dom _ _ _ h1).2
    have := callee_fresh hE h2
    omega
  ·rename_i e1
   split at h2
   ·have := (hH.dom _ _ _ h2).2
    have := callee_fresh hE h1
    omega
   ·rename_i e2
    exact hc.inj _ v1 _ v2 x1 x2 h1 h2 (by omega) (alive_new e1 a1) (alive_new e2 a2)
 ·rcases mutB_join hB with h1 | h1
  ·exact hH.nN B h1 hN
  ·exact hc.nN B h1 (.inl hN)
abbrev Fn (ro : Option Nat) : Fence := { Fence.wide with round := ro }
theorem callsIn_fn {ro : Option Nat} {P : Program} {f : FuncId} {args : Array Value} {w : World} {R : Ending → World → Prop} (h : Calls P f args w R) : CallsIn (Fn ro) 0 P f args w R :=
 callsIn_wide (n := 0).2 h
def Answer (C : Ctx) (N : Nat → Prop) (φ : Loc) (W : World) (v : AV) (H' : AHeap) : Ending → World → Prop :=
 fun e w' => ∃ x φ', e = .returned x ∧ HRel C φ' N H' w' ∧ VRel C φ' N w' v x ∧ Ext φ φ' W w'
structure CallSound (C : Ctx) (keep : Nat → Bool) (call : ACall) : Prop where
  fn : ∀ f args H v H', call false f args H = some (v, H') → ∀ (φ : Loc) (N : Nat → Prop) (W : World) (xs : List Value), HRel C φ N H W → LRel C φ N W args xs →
    (∃ fn, C.P.funcs[C.fid f]? = some fn ∧ fn.body.isSome = true ∧ fn.name ≠ "runtime.NumGoroutine" ∧ Calls C.P (C.fid f) xs.toArray W (Answer C N φ W v H')) ∨
    (∃ fn x W' φ', keep f = false ∧ C.P.funcs[C.fid f]? = some fn ∧ (callFunc (C.fid f) xs.toArray).run C.P W = .ok (.value x) W' ∧ HRel C φ' N H' W' ∧ VRel C φ' N W' v x ∧ Ext φ φ' W W')
  round : ∀ b args H v H', call true b args H = some (v, H') → ∀ (φ : Loc) (N : Nat → Prop) (W : World) (xs : List Value) (l : Nat), HRel C φ N H W → LRel C φ N W args xs → φ b 0 = some (l, 0) →
    ∃ r, W.heap[l]? = some (.loop r) ∧ xs.length = r.params.size ∧
      RoundIn (Fn none) 0 C.P l r.fn ((r.params.zip xs.toArray).foldl (fun tmps (t, a) => tmps.setIfInBounds t a) r.tmps) r.assign r.body W (Answer C N φ W v H')
def OpWp (C : Ctx) (N : Nat → Prop) (φ : Loc) (W : World) (o : Oper) (a : Act) (v : AV) (H' : AHeap) : Prop :=
 ∀ (ro : Option Nat) (K : Act → World → Prop) (Q : Exit → Act → World → Prop), (∀ φ' x W', HRel C φ' N H' W' → VRel C φ' N W' v x → Ext φ φ' W W' → K (a.put o.dst x) W') → o.wpIn (Fn ro) 0 C.P a W K Q
theorem OpSound.wp {o : Oper} {v : AV} {H' : AHeap} (h : OpSound C N φ W o a v H') (hnd : ∀ c, o.op ≠ .defer c) : OpWp C N φ W o a v H' := by
 obtain ⟨φ', x, W', hg, h1, h2, h3⟩ := h
 intro ro K Q hK
 refine ⟨fun _ _ => trivial, ?_⟩
 rw [Oper.semAt_eq _ _ _ hnd]
 rcases hg with hg | ⟨hg, rfl⟩
 ·rw [hg]; exact hK φ' x W' h1 h2 h3
 ·rw [hg]; exact hK φ' _ W' h1 h2 h3
theorem call_wp {call : ACall} {keep : Nat → Bool} (hcall : CallSound C keep call) {f : Nat} {args : List AV} {v : AV} {H' : AHeap} {k : Kd} (h : callA keep call f args H = some (v, H', k))
    (hH : HRel C φ N H W) {xs : List Value} (hl : LRel C φ N W args xs) {o : Oper} (hnd : ∀ c, o.op ≠ .defer c) (ho : (execOp a.eval o).run C.P W = (callFunc (C.fid f) xs.toArray).run C.P W) : OpWp C N φ W o a v H' := by
  unfold callA at h
  -- in the caller's heap, or in one of its own
  have key : ∀ {φ0 : Loc} {N' : Nat → Prop} {H0 : AHeap} {u : AV} {Hc : AHeap}, call false f args H0 = some (u, Hc) → HRel C φ0 N' H0 W → LRel C φ0 N' W args xs →
      (∀ φ' x W', HRel C φ' N' Hc W' → VRel C φ' N' W' u x → Ext φ0 φ' W W' → ∃ φ2, HRel C φ2 N H' W' ∧ VRel C φ2 N W' v x ∧ Ext φ φ2 W W') → OpWp C N φ W o a v H' := by
    intro φ0 N' H0 u Hc hc hH0 hl0 hfin ro K Q hK
    refine ⟨fun _ _ => trivial, ?_⟩
    rw [Oper.semAt_eq _ _ _ hnd]
    rcases hcall.fn f args H0 u Hc hc φ0 N' W xs hH0 hl0 with ⟨fn, hfn, hb, hname, hcalls⟩ | ⟨fn, x, W', φ', _, hfn, hr, h1, h2, h3⟩
    · have hrun : (callFunc (C.fid f) xs.toArray).run C.P W = .ok (.enter (C.fid f) xs.toArray) W := by
        have hb' : fn.body ≠ none := by intro hq; simp [hq] at hb
        simp [callFunc, hfn, hname, hb']
      rw [ho, hrun, Oper.uponIn_enter]
      refine ⟨fun h => by simp [Fence.wide] at h, callsIn_fn (Calls.mono hcalls fun e w' he => ?_)⟩
      obtain ⟨x, φ', rfl, h1, h2, h3⟩ := he
      obtain ⟨φ2, g1, g2, g3⟩ := hfin φ' x w' h1 h2 h3
      exact hK φ2 x w' g1 g2 g3
    · rw [ho, hr]
      obtain ⟨φ2, g1, g2, g3⟩ := hfin φ' x W' h1 h2 h3
      exact hK φ2 x W' g1 g2 g3
  split at h
  · rename_i hfree
    split at h <;> try (simp at h; done)
    rename_i u Hc hc
    split at h <;> simp at h
    · rename_i v' hfz
      obtain ⟨rfl, rfl, rfl⟩ := h
      refine key hc hH.empty (hl.free hfree) fun φ' x W' h1 h2 h3 => ⟨φ, hH.after h3, ?_, h3.ofEmpty φ⟩
      split at hfz
      · simp at hfz
      · exact freeze_ok h1 (below_of hH h3) _ _ _ _ hfz h2
    · obtain ⟨rfl, rfl, rfl⟩ := h
      exact key hc hH.empty (hl.free hfree) fun φ' x W' h1 h2 h3 => ⟨_, hH.join h3 h1, h2.shift, Ext.join hH h3⟩
  · simp only [Option.map_eq_some_iff, Prod.mk.injEq] at h
    obtain ⟨⟨u, Hc⟩, hc, rfl, rfl, rfl⟩ := h
    exact key hc hH hl fun φ' x W' h1 h2 h3 => ⟨φ', h1, h2, h3⟩
theorem round_wp {call : ACall} {keep : Nat → Bool} (hcall : CallSound C keep call) {b : Nat} {args : List AV} {v : AV} {H' : AHeap} (h : call true b args H = some (v, H')) (hH : HRel C φ N H W) {xs : List Value} (hl : LRel C φ N W args xs) {l : Nat} (hφ : φ b 0 = some (l, 0))
    {o : Oper} (hnd : ∀ c, o.op ≠ .defer c) (ho : (execOp a.eval o).run C.P W = (Instr.yield l xs.toArray).run C.P W) : OpWp C N φ W o a v H' := by
  intro ro K Q hK
  refine ⟨fun _ _ => trivial, ?_⟩
  rw [Oper.semAt_eq _ _ _ hnd]
  obtain ⟨r, hr, hlen, hround⟩ := hcall.round b args H v H' h φ N W xs l hH hl hφ
  have hg : (getObj l).run C.P W = .ok (.loop r) W := by simp [getObj, Sem.run, hr]
  have hrun : (Instr.yield l xs.toArray).run C.P W = .ok (.round l r.fn ((r.params.zip xs.toArray).foldl (fun tmps (t, a) => tmps.setIfInBounds t a) r.tmps) r.assign r.body) W := by
    simp [Instr.yield, Instr.getLoop, hg, hlen]
  rw [ho, hrun, Oper.uponIn_round]
  refine ⟨fun h => by simp [Fence.wide] at h, ?_⟩
  refine RoundIn.mono (F := Fn ro) hround fun e w' he => ?_
  obtain ⟨x, φ', rfl, h1, h2, h3⟩ := he
  exact hK φ' x w' h1 h2 h3
end Go.AE
