/- Code, drawn orders, functions. -/
import Derived.Test.YtibjieaohbnpgaaGreatDoorA3
import Derived.Scope
import Derived.Orders
import Derived.Lib.Bytealg
import Derived.Conc.AtomicLaws2
set_option linter.all false
set_option linter.unusedSimpArgs false
set_option linter.unusedVariables false
set_option linter.unnecessarySimpa false
set_option linter.deprecated false
namespace Go.AE
open Go
variable {C : Ctx} {φ φ' φc : Loc} {N : Nat → Prop} {W W' : World} {T : Tmps} {a : Act} {H Hc : AHeap}
theorem lowOp_call {o : Op} {c : LCallee} {args : List Opd} (h : lowOp C.P C.τ o = some (.call c args)) : ∃ cl, o = .call cl := by
  cases o
  case call cl => exact ⟨cl, rfl⟩
  case makeFunc f xs ys => cases f <;> simp only [lowOp] at h <;> (try simp at h) <;> (split at h <;> simp at h)
  case makeMap t r => cases r <;> simp [lowOp] at h
  case next x b => cases b <;> simp [lowOp] at h
  all_goals simp only [lowOp] at h
  all_goals first
    | (simp at h; done)
    | (simp only [Option.map_eq_some_iff] at h; obtain ⟨_, _, h⟩ := h; simp at h; done)
    | (repeat' split at h) <;> first | (simp at h; done) | (simp only [Option.map_eq_some_iff] at h; obtain ⟨_, _, h⟩ := h; simp at h; done)
theorem extract_one (x : Value) (as : Array Value) : (#[x] ++ as).extract 1 (#[x] ++ as).size = as := by
 apply Array.ext'
 simp
theorem rowOfTag_mem : ∀ {l : List (Nat × Nat)} {g f : Nat}, rowOfTag l g = some f → (g, f) ∈ l
 | [], _, _, h => by simp [rowOfTag] at h
 | (g', f') :: l, g, f, h => by
  simp only [rowOfTag] at h
  split at h
  ·rename_i e; subst e; simp at h; subst h; simp
  ·exact List.mem_cons_of_mem _ (rowOfTag_mem h)
theorem oper_wp {call : ACall} {keep : Nat → Bool} (hcall : CallSound C keep call) {o : Oper} {op' : LOp} (hl : lowOp C.P C.τ o.op = some op') (hS : Slots C φ N W T a) (hH : HRel C φ N H W) {v : AV} {H' : AHeap} {k : Kd}
    (h : operA keep call T H op' = some (v, H', k)) : OpWp C N φ W o a v H' := by
  have hnd : ∀ c, o.op ≠ .defer c := by
    intro c e; rw [e] at hl; simp [lowOp] at hl
  by_cases hcall' : ∃ c, o.op = .call c
  · obtain ⟨c, ho⟩ := hcall'
    rw [ho] at hl
    simp only [lowOp] at hl
    split at hl <;> try (simp at hl; done)
    rename_i args' hargs
    split at hl
    · rename_i b hc
      simp only [Option.map_eq_some_iff] at hl
      obtain ⟨b', hb, rfl⟩ := hl
      exact (s_builtin ho hc hb hargs hS hH (by simpa [operA] using h)).wp hnd
    · rename_i f hc
      simp only [Option.map_eq_some_iff] at hl
      obtain ⟨i, hi, rfl⟩ := hl
      refine call_wp hcall (by simpa [operA] using h) hH (evs_ok hS hargs) hnd ?_
      have hid := C.fidOk f i hi
      have harr : c.args.map a.eval = (c.args.toList.map a.eval).toArray := Array.ext' (by simp)
      simp only [execOp, ho, resolve, hc, Act.eval, Deferred.ofValue, hid]
      simp [invoke, harr]
    · rename_i x hne hc
      simp only [Option.map_eq_some_iff] at hl
      obtain ⟨x', hx, rfl⟩ := hl
      have harr : c.args.map a.eval = (c.args.toList.map a.eval).toArray := Array.ext' (by simp)
      have hxv := ev_ok hS hx
      simp only [operA] at h
      split at h <;> try (simp at h; done)
      · rename_i f first captured hb
        rw [hb] at hxv
        generalize hX : a.eval x = X at hxv
        generalize hu0 : AV.func f first captured = u0 at hxv
        cases hxv <;> simp at hu0
        rename_i xs ys h1 h2 h3 h4
        obtain ⟨rfl, rfl, rfl⟩ := hu0
        refine call_wp hcall h hH (LRel.append (LRel.append ⟨h1, h3⟩ (evs_ok hS hargs)) ⟨h2, h4⟩) hnd ?_
        simp only [execOp, ho, resolve, hc, hX, Deferred.ofValue]
        simp [invoke, harr]
      · rename_i b hb
        rw [hb] at hxv
        generalize hX : a.eval x = X at hxv
        generalize hu0 : AV.yld b = u0 at hxv
        cases hxv <;> simp at hu0
        rename_i l hφ
        subst hu0
        simp only [Option.map_eq_some_iff, Prod.mk.injEq] at h
        obtain ⟨⟨v', H2⟩, hcl, rfl, rfl, rfl⟩ := h
        refine round_wp hcall hcl hH (evs_ok hS hargs) hφ hnd ?_
        simp only [execOp, ho, resolve, hc, hX, Deferred.ofValue]
        simp [invoke, harr]
    · rename_i x name hc
      simp only [Option.map_eq_some_iff] at hl
      obtain ⟨x', hx, rfl⟩ := hl
      have harr : c.args.map a.eval = (c.args.toList.map a.eval).toArray := Array.ext' (by simp)
      have hxv := ev_ok hS hx
      simp only [operA] at h
      split at h <;> try (simp at h; done)
      rename_i g u hb
      split at h <;> try (simp at h; done)
      rename_i f hrow
      rw [hb] at hxv
      generalize hX : a.eval x = X at hxv
      generalize hu0 : AV.iface g u = u0 at hxv
      cases hxv <;> simp at hu0
      rename_i g' t u' y ht hy
      obtain ⟨rfl, rfl⟩ := hu0
      refine call_wp hcall h hH (LRel.cons hy (evs_ok hS hargs)) hnd ?_
      have hm := C.meth name g f t (rowOfTag_mem hrow) ht y W
      have hex := extract_one (Value.iface t y) (c.args.map a.eval)
      have h0 : (#[Value.iface t y] ++ c.args.map a.eval)[0]? = some (.iface t y) := by rw [Array.getElem?_append_left (by simp)]; rfl
      have hrun : (execOp a.eval o).run C.P W = (callFunc (C.fid f) (#[y] ++ c.args.map a.eval)).run C.P W := by
        simp only [execOp, ho, resolve, hc, hX, Sem.run_bind, Sem.run_pure, Result.andThen_ok, invoke, h0, hex, callMethod]
        have hp : program.run C.P W = .ok C.P W := rfl
        simp only [hp, Result.andThen_ok, hm]
      rw [hrun, harr]
      congr 2
      simp
  · have hnc : ∀ c, o.op ≠ .call c := fun c e => hcall' ⟨c, e⟩
    refine (op_sound hl hnc hS hH (k := k) ?_).wp hnd
    cases op' <;> first
      | (simpa [operA] using h; done)
      | (obtain ⟨cl, e⟩ := lowOp_call hl; exact absurd e (hnc cl))
theorem wanted_ok {ops : Array Oper} {o : Oper} {g : Option (Nat × Bool)} (hl : lowGuard ops o.guard = some g) (hT : TRel C φ N W T a.tmps) {b : Bool} (h : wantedA T g = some b) : Region.wanted o (yielded ops a.tmps) = b := by
 unfold lowGuard at hl
 cases hg : o.guard with
 | none => simp [hg] at hl; subst hl; simp [wantedA] at h; subst h; simp [Region.wanted, hg]
 | some p =>
  obtain ⟨j, w⟩ := p
  simp only [hg, Option.map_eq_some_iff] at hl
  obtain ⟨d, hd, rfl⟩ := hl
  simp only [Region.wanted, hg, yielded, hd, Option.bind_some]
  have hv := hT.get d
  simp only [wantedA] at h
  split at h <;> simp at h
  ·rename_i q hq
   rw [hq] at hv
   have hlt : d < a.tmps.size := by
    rcases Nat.lt_or_ge d a.tmps.size with h1 | h1
    ·exact h1
    ·simp only [Array.getD, show ¬ d < a.tmps.size by omega, dif_neg, not_false_eq_true, Go.undef] at hv
     cases hv
   simp only [Array.getD, hlt, dif_pos, Array.getInternal_eq_getElem] at hv
   generalize hz : a.tmps[d] = z at hv
   cases hv
   simp only [Array.getElem?_eq_getElem hlt, hz]
   subst h
   cases q <;> cases w <;> rfl
  ·rename_i hq
   rw [hq] at hv
   subst h
   by_cases hlt : d < a.tmps.size
   ·simp only [Array.getD, hlt, dif_pos, Array.getInternal_eq_getElem] at hv
    generalize hz : a.tmps[d] = z at hv
    cases hv
    simp [Array.getElem?_eq_getElem hlt, hz]
   ·simp [Array.getElem?_eq_none (Nat.le_of_not_lt hlt)]
inductive Mk where
 | no (D : List Deferred)
 | from (b : Nat)
structure MarksF (φ : Loc) (W : World) (b0 : Nat) (ds : List Deferred) : Prop where
 ok : ∀ d ∈ ds, ∃ r, d.target = .collected r ∧ b0 ≤ r ∧ r < W.heap.size ∧ ¬ mutB φ r ∧ W.heap[r]? = some (.deferred (some []))
 nd : ds.Pairwise fun d d' => ∀ r, d.target = .collected r → d'.target ≠ .collected r
def Marks (φ : Loc) (W : World) : Mk → List Deferred → Prop
 | .no D, ds => ds = D
 | .from b, ds => MarksF φ W b ds
theorem MarksF.nil {b0 : Nat} : MarksF φ W b0 [] := ⟨fun d h => by simp at h, .nil⟩
theorem MarksF.mono {b0 : Nat} {ds : List Deferred} (h : MarksF φ W b0 ds) (hE : Ext φ φ' W W') : MarksF φ' W' b0 ds :=
 ⟨fun d hd => by
  obtain ⟨r, h1, h2, h3, h4, h5⟩ := h.ok d hd
  exact ⟨r, h1, h2, Nat.lt_of_lt_of_le h3 hE.size, hE.notMut h3 h4, by rw [hE.keep r h3 h4]; exact h5⟩, h.nd⟩
theorem Marks.mono {B0 : Mk} {ds : List Deferred} (h : Marks φ W B0 ds) (hE : Ext φ φ' W W') : Marks φ' W' B0 ds := by
 cases B0 with
 | no D => exact h
 | «from» b => exact MarksF.mono h hE
structure St (C : Ctx) (ro : Option Nat) (B0 : Mk) (φ : Loc) (N : Nat → Prop) (W : World) (a : Act) (T : Tmps) (H : AHeap) : Prop where
 t : TRel C φ N W T a.tmps
 h : HRel C φ N H W
 d : Marks φ W B0 a.defers
 r : ∀ l, ro = some l → ∃ r, W.heap[l]? = some (.loop r)
 b : ∀ b0, B0 = .from b0 → b0 ≤ W.heap.size
variable {ro : Option Nat} {B0 : Mk}
theorem St.slots (h : St C ro B0 φ N W a T H) : Slots C φ N W T a := ⟨h.t, h.h.gl⟩
theorem St.mono (h : St C ro B0 φ N W a T H) {H' : AHeap} (hE : Ext φ φ' W W') (hH : HRel C φ' N H' W') : St C ro B0 φ' N W' a T H' :=
 ⟨LRel.mono hE h.t, hH, h.d.mono hE, fun l hl => by obtain ⟨r, hr⟩ := h.r l hl; exact hE.loops l r hr, fun b0 hb => Nat.le_trans (h.b b0 hb) hE.size⟩
theorem St.put (h : St C ro B0 φ N W a T H) {v : AV} {x : Value} {H' : AHeap} (hE : Ext φ φ' W W') (hH : HRel C φ' N H' W') (hv : VRel C φ' N W' v x) (d : Option Nat) : St C ro B0 φ' N W' (a.put d x) (putT T d v) H' :=
 have h' := h.mono hE hH
 ⟨TRel.put h'.t d hv, hH, by cases d <;> exact h'.d, h'.r, h'.b⟩
theorem ops_wp' {call : ACall} {keep : Nat → Bool} (hcall : CallSound C keep call) {ops : Array Oper} {draw : Bool} {Q : Exit → Act → World → Prop} {tail : List Oper} {js : List Nat} : ∀ (rest : List Oper) (i : Nat) (rest' : List LOper) (φ : Loc) (W : World) (a : Act) (T : Tmps) (H : AHeap) {T' : Tmps} {H' : AHeap} {ks : List Kd},
    ops.toList.drop i = rest ++ tail → lowOps C.P C.τ draw ops rest = some rest' → opsA keep call rest' T H = some (T', H', ks) → St C ro B0 φ N W a T H →
    (∀ φ' a' W', St C ro B0 φ' N W' a' T' H' → Ext φ φ' W W' → wpOpsIn (Fn ro) 0 C.P ops Q js a' W') → wpOpsIn (Fn ro) 0 C.P ops Q (List.range' i rest.length ++ js) a W
  | [], i, rest', φ, W, a, T, H, T', H', ks, _, hl, h, hS, hQ => by
    simp [lowOps] at hl; subst hl
    simp [opsA] at h
    obtain ⟨rfl, rfl, rfl⟩ := h
    exact hQ φ a W hS (Ext.refl φ W)
  | o :: rest, i, rest', φ, W, a, T, H, T', H', ks, hd, hl, h, hS, hQ => by
    simp only [lowOps] at hl
    split at hl <;> simp at hl
    rename_i g l' hg hl'
    subst hl
    have hi : ops[i]? = some o := by
      have := congrArg (fun l => l[0]?) hd
      simpa [List.getElem?_drop] using this
    have hd' : ops.toList.drop (i + 1) = rest ++ tail := by
      have := congrArg List.tail hd
      simpa [List.tail_drop] using this
    simp only [List.length_cons, List.range'_succ, List.cons_append, wpOpsIn, hi]
    simp only [opsA] at h
    split at h
    · rename_i hw
      rw [wanted_ok hg hS.t hw]
      simp only [if_true]
      split at h <;> try (simp at h; done)
      rename_i v H1 k hop
      simp only [Option.map_eq_some_iff, Prod.mk.injEq] at h
      obtain ⟨⟨T2, H2, ks2⟩, hrest, rfl, rfl, rfl⟩ := h
      cases hlo : lowOp C.P C.τ o.op with
      | none => simp [hlo, operA, opA] at hop
      | some op' =>
        simp only [hlo, Option.getD_some] at hop
        refine oper_wp hcall hlo hS.slots hS.h hop ro _ _ fun φ' x W' h1 h2 h3 => ?_
        exact ops_wp' hcall rest (i + 1) l' φ' W' _ _ _ hd' hl' hrest (hS.put h3 h1 h2 o.dst) fun φ2 a2 W2 h4 h5 => hQ φ2 a2 W2 h4 (h3.trans h5)
    · rename_i hw
      rw [wanted_ok hg hS.t hw]
      simp only [Bool.false_eq_true, if_false]
      simp only [Option.map_eq_some_iff, Prod.mk.injEq] at h
      obtain ⟨⟨T2, H2, ks2⟩, hrest, rfl, rfl, rfl⟩ := h
      exact ⟨fun _ _ => trivial, ops_wp' hcall rest (i + 1) l' φ W _ _ _ hd' hl' hrest (hS.put (Ext.refl φ W) hS.h VRel.undef o.dst) hQ⟩
    · simp at h
theorem ops_wp {call : ACall} {keep : Nat → Bool} (hcall : CallSound C keep call) {ops : Array Oper} {draw : Bool} {Q : Exit → Act → World → Prop} (rest : List Oper) (i : Nat) (rest' : List LOper) (φ : Loc) (W : World) (a : Act) (T : Tmps) (H : AHeap) {T' : Tmps} {H' : AHeap} {ks : List Kd}
    (hd : ops.toList.drop i = rest) (hl : lowOps C.P C.τ draw ops rest = some rest') (h : opsA keep call rest' T H = some (T', H', ks)) (hS : St C ro B0 φ N W a T H)
    (hQ : ∀ φ' a' W', St C ro B0 φ' N W' a' T' H' → Ext φ φ' W W' → Q .normal a' W') : wpOpsIn (Fn ro) 0 C.P ops Q (List.range' i rest.length) a W := by
  have := ops_wp' (Q := Q) (tail := []) (js := []) hcall rest i rest' φ W a T H (by simpa using hd) hl h hS (fun φ' a' W' h1 h2 => hQ φ' a' W' h1 h2)
  simpa using this
theorem wpIn_loop_n {F : Fence} {j : Nat} {P : Program} {Q : Exit → Act → World → Prop} {c : Code} {w : World} (I : Nat → Act → World → Prop) {n : Nat} (h0 : I n a w) (hz : ∀ a w, ¬ I 0 a w)
    (round : ∀ n a w, I (n + 1) a w → c.wpIn F j P (Exit.then (I n) Q) a w) : (Code.loop c).wpIn F j P Q a w := by
  intro b k cs hro hb hr
  have key : ∀ n a w, I n a w → ∃ e a' w', Q e a' w' ∧ ArrivesIn (Machine.fenced P F) P (lone (b.atR a (.code c :: .inLoop c :: k)) cs w) b k cs e a' w' := by
    intro n
    induction n with
    | zero => intro a w h; exact absurd h (hz a w)
    | succ n ih =>
      intro a w hI
      obtain ⟨e, a₁, w₁, hq, harr⟩ := round n a w hI b (.inLoop c :: k) cs hro hb hr
      cases e with
      | normal =>
        obtain ⟨e₂, a₂, w₂, hq₂, harr₂⟩ := ih a₁ w₁ hq
        exact ⟨e₂, a₂, w₂, hq₂, .of_steps (StepsIn.trans harr (.one (fenced_calm hb hr rfl) stepR_inLoop)) harr₂⟩
      | exit id => exact ⟨_, a₁, w₁, hq, .pass (x := .inLoop c) rfl (fun _ _ => .inl (by simp)) harr⟩
      | goto l => exact ⟨_, a₁, w₁, hq, .pass (x := .inLoop c) rfl (fun _ _ => .inl (by simp)) harr⟩
      | ret => exact ⟨_, a₁, w₁, hq, .pass (x := .inLoop c) rfl (fun _ _ => .inl (by simp)) harr⟩
      | panic ch => exact ⟨_, a₁, w₁, hq, .pass (x := .inLoop c) rfl (fun _ _ => .inl (by simp)) harr⟩
      | outgrown => exact ⟨_, a₁, w₁, hq, .pass (x := .inLoop c) rfl (fun _ _ => .inl (by simp)) harr⟩
  obtain ⟨e, a', w', hq, harr⟩ := key _ a w h0
  exact ⟨e, a', w', hq, .of_steps (.one (fenced_calm hb hr rfl) stepR_loop) harr⟩
def AExit.to : AExit → Exit
 | .normal => .normal
 | .exit id => .exit id
 | .ret => .ret
def CodeWp (C : Ctx) (ro : Option Nat) (B0 : Mk) (N : Nat → Prop) (c : Code) (f : Tmps → AHeap → ACodeRes) : Prop :=
 ∀ (φ : Loc) (W : World) (a : Act) (T : Tmps) (H : AHeap) (e : AExit) (T' : Tmps) (H' : AHeap), f T H = some (e, T', H') → St C ro B0 φ N W a T H →
  ∀ (Q : Exit → Act → World → Prop), (∀ φ' a' W', St C ro B0 φ' N W' a' T' H' → Ext φ φ' W W' → Q e.to a' W') → c.wpIn (Fn ro) 0 C.P Q a W
def DrawSound (C : Ctx) (keep : Nat → Bool) (call : ACall) : Prop :=
 ∀ (ro : Option Nat) (B0 : Mk) (N : Nat → Prop) (id : Nat) (ops : Array Oper) (ops' : List LOper), lowOps C.P C.τ true ops ops.toList = some ops' →
  CodeWp C ro B0 N (.region id ops true) (fun T H => match opsA keep call ops' T H with
   | some (T', H', ks) => if drawOk ops' ks then some (.normal, T', H') else none
   | none => none)
theorem enter_ok {T : Tmps} (hz : ro = none → ∃ b0, B0 = .from b0) (hS : St C ro B0 φ N W a T H) (fn : FuncId) (ps : Array Tmp) {assign body : Code} {as bd : LCode} (has : lowCode C.P C.τ assign = some as) (hbd : lowCode C.P C.τ body = some bd) :
  ∃ l mark φ1 W1, (Instr.enterLoop fn a.tmps ps assign body ro).run C.P W = .ok (l, mark) W1 ∧ HRel C φ1 N (H ++ [.loop 0 none T ps.toList as bd]) W1 ∧ Ext φ φ1 W W1 ∧ φ1 H.length 0 = some (l, 0) ∧ Marks φ1 W1 B0 (mark ++ a.defers) := by
 have main : ∀ (W0 : World) (dd : Nat), HRel C φ N H W0 → Ext φ φ W W0 →
   HRel C (φ.add H.length 0 W0.heap.size 0) N (H ++ [.loop 0 none T ps.toList as bd]) (pushBlk W0 (.loop { state := .ready, pending := none, fn, tmps := a.tmps, params := ps, assign, body, defers := dd })) ∧
   Ext φ (φ.add H.length 0 W0.heap.size 0) W (pushBlk W0 (.loop { state := .ready, pending := none, fn, tmps := a.tmps, params := ps, assign, body, defers := dd })) := by
  intro W0 dd hH0 hE0
  have hE1 := Ext.push (W := W0) (φ := φ) (b := H.length) (v := 0) (hH0.noLoc (Nat.le_refl _)) (.loop { state := .ready, pending := none, fn, tmps := a.tmps, params := ps, assign, body, defers := dd })
  refine ⟨HRel.push hH0 ⟨W0.heap.size, _, Loc.add_same .., pushBlk_new, rfl, rfl, (LRel.mono (hE0.trans hE1) hS.t), rfl, has, hbd⟩, hE0.trans hE1⟩
 cases ro with
 | none =>
  obtain ⟨h1, h2⟩ := main (pushBlk W (.deferred (some []))) W.heap.size (hS.h.push0 _) (Ext.push0 φ W _)
  refine ⟨(pushBlk W (.deferred (some []))).heap.size, [{ target := .collected W.heap.size, args := #[] }], _, _, ?_, h1, h2, Loc.add_same .., ?_⟩
  ·simp [Instr.enterLoop, pushBlk]; rfl
  ·obtain ⟨b0, rfl⟩ := hz rfl
   have hold : MarksF _ _ b0 a.defers := hS.d.mono h2
   have hS' : MarksF φ W b0 a.defers := hS.d
   have hnm : ¬ mutB φ W.heap.size := by
    rintro ⟨b, v, o, hx⟩
    exact absurd (hS.h.dom b v _ hx).2 (Nat.lt_irrefl _)
   refine MarksF.mk (fun d hd => ?_) ?_
   ·rcases List.mem_cons.1 hd with rfl | hd
    ·refine ⟨W.heap.size, rfl, hS.b b0 rfl, by rw [pushBlk_size, pushBlk_size]; omega, ?_, ?_⟩
     ·rintro ⟨b, v, o, hx⟩
      by_cases e : b = H.length ∧ v = 0
      ·obtain ⟨rfl, rfl⟩ := e
       rw [Loc.add_same] at hx; simp [pushBlk_size] at hx
      ·rw [Loc.add_other e] at hx
       exact hnm ⟨b, v, o, hx⟩
     ·rw [pushBlk_old (by rw [pushBlk_size]; omega), pushBlk_new]
    ·exact hold.ok d hd
   ·refine List.Pairwise.cons (fun d hd r hr => ?_) hold.nd
    simp at hr; subst hr
    obtain ⟨r', h3, _, h4, _⟩ := hS'.ok d hd
    rw [h3]
    intro e; cases e; exact absurd h4 (Nat.lt_irrefl _)
 | some l0 =>
  obtain ⟨r0, hr0⟩ := hS.r l0 rfl
  obtain ⟨h1, h2⟩ := main W r0.defers hS.h (Ext.refl φ W)
  have hg : (getObj l0).run C.P W = .ok (.loop r0) W := by simp [getObj, Sem.run, hr0]
  exact ⟨W.heap.size, [], _, _, by simp [Instr.enterLoop, Instr.getLoop, hg, pushBlk], h1, h2, Loc.add_same .., hS.d.mono h2⟩
theorem rangeFunc_wp {call : ACall} {keep : Nat → Bool} (hz : ro = none → ∃ b0, B0 = .from b0) (hcall : CallSound C keep call) (n : Nat) {f : Operand} {f' : Opd} {ps : Array Tmp} {x y : Code} {x' y' : LCode} (hf : lowOpd C.τ f = some f') (hx : lowCode C.P C.τ x = some x') (hy : lowCode C.P C.τ y = some y') :
    CodeWp C ro B0 N (.rangeFunc f ps x y) (codeA keep call n (.rangeFunc f' ps.toList x' y')) := by
  intro φ W a T H e T' H' h hS Q hQ
  simp only [codeA] at h
  have hv := ev_ok hS.slots hf
  split at h <;> try (simp at h; done)
  rename_i g first captured hb
  split at h <;> try (simp at h; done)
  rename_i hkeep
  split at h <;> try (simp at h; done)
  rename_i v H2 hcl
  split at h <;> try (simp at h; done)
  rename_i st pd T2 ps2 as2 bd2 hblk
  split at h <;> simp at h
  rename_i hst
  obtain ⟨rfl, rfl, rfl⟩ := h
  rw [hb] at hv
  generalize hX : a.eval f = X at hv
  generalize hu0 : AV.func g first captured = u0 at hv
  cases hv <;> simp at hu0
  rename_i xs ys h1 h2 h3 h4
  obtain ⟨rfl, rfl, rfl⟩ := hu0
  refine wpIn_rangeFunc fun fn _ => ?_
  obtain ⟨l, mark, φ1, W1, hent, hH1, hE1, hφ1, hmk⟩ := enter_ok hz hS fn ps hx hy
  have hargs : LRel C φ1 N W1 (first ++ [.yld H.length] ++ captured) (xs ++ [Value.func (.yield l) #[] #[]] ++ ys) :=
    LRel.append (LRel.append (LRel.mono hE1 ⟨h1, h3⟩) (LRel.cons (.yld hφ1) LRel.nil)) (LRel.mono hE1 ⟨h2, h4⟩)
  rcases hcall.fn g _ _ v H2 hcl φ1 N W1 _ hH1 hargs with ⟨fnc, hfn, hbs, hname, hcalls⟩ | ⟨_, _, _, _, hk0, _⟩
  · have hrun : ∀ w, (callFunc (C.fid g) (xs ++ [Value.func (.yield l) #[] #[]] ++ ys).toArray).run C.P w = .ok (.enter (C.fid g) (xs ++ [Value.func (.yield l) #[] #[]] ++ ys).toArray) w := by
      intro w
      have hb' : fnc.body ≠ none := by intro hq; simp [hq] at hbs
      simp [callFunc, hfn, hname, hb']
    refine ⟨l, mark, W1, { target := .fn (.func (C.fid g)) ys.toArray, args := xs.toArray ++ #[Value.func (.yield l) #[] #[]] }, W1, C.fid g, (xs ++ [Value.func (.yield l) #[] #[]] ++ ys).toArray, W1, hent, ?_, fun _ _ => trivial, ?_, fun h => by simp [Fence.wide] at h, callsIn_fn (Calls.mono hcalls fun e' w3 he => ?_)⟩
    · have hmap : (#[Operand.const (.func (.yield l) #[] #[])] : Array Operand).map a.eval = #[Value.func (.yield l) #[] #[]] := by simp [Act.eval]
      simp only [resolve, rangeCall, hmap, hX, Deferred.ofValue]
      rfl
    · have := hrun W1
      simp only [invoke]
      rw [show xs.toArray ++ #[Value.func (.yield l) #[] #[]] ++ ys.toArray = (xs ++ [Value.func (.yield l) #[] #[]] ++ ys).toArray from by simp]
      exact this
    · obtain ⟨x0, φ2, rfl, hH2, _, hE2⟩ := he
      obtain ⟨B, r, g1, g2, g3, g4, g5, g6, g7, g8⟩ := hH2.blk _ _ hblk
      rw [hE2.mono _ _ _ hφ1] at g1
      simp at g1; subst g1
      have hnb : r.state ≠ .busy := by intro hq; rw [hq] at g3; simp [stOf] at g3; exact hst g3.symm
      have hg : (getObj l).run C.P w3 = .ok (.loop r) w3 := by simp [getObj, Sem.run, g2]
      have hset : ∀ o', (setObj l o').run C.P w3 = .ok () (setBlk w3 l o') := fun o' => by simp [setObj, Sem.run, g2, setBlk]
      have hend : (Instr.endLoop l).run C.P w3 = .ok r.pending (setBlk w3 l (.loop { r with state := .exhausted })) := by
        simp [Instr.endLoop, Instr.getLoop, hg, hnb, hset]
      have hE3 : Ext φ2 φ2 w3 (setBlk w3 l (.loop { r with state := .exhausted })) := Ext.setBlk (lt_of_heap g2) ⟨_, _, _, hE2.mono _ _ _ hφ1⟩ (fun _ _ => ⟨_, rfl⟩) fun Cs e fz h => by rw [g2] at h; simp at h
      have hH3 := HRel.put hH2 hblk (by simp [aliveAt, hblk]) (hE2.mono _ _ _ hφ1) hE3 (k := .loop 3 pd T2 ps2 as2 bd2) ⟨l, _, hE2.mono _ _ _ hφ1, setBlk_same (lt_of_heap g2), rfl, g4, g5.mono hE3, g6, g7, g8⟩
      have hE := (hE1.trans hE2).trans hE3
      have hfin := hQ φ2 { a with defers := mark ++ a.defers } _ ⟨LRel.mono hE hS.t, hH3, (hmk.mono hE2).mono hE3, (hS.mono hE hH3).r, (hS.mono hE hH3).b⟩ hE
      generalize setBlk w3 l (.loop { r with state := .exhausted }) = w4 at hend hfin
      refine ⟨r.pending, w4, hend, ?_⟩
      cases pd with
      | none => rw [show r.pending = none from g4]; exact hfin
      | some e0 =>
        cases e0 with
        | normal => exact absurd g4 (by simp [PdOk])
        | exit i => rw [show r.pending = some (.exit i) from g4]; exact wpIn_exit hfin
        | ret => rw [show r.pending = some .ret from g4]; exact wpIn_ret hfin
  · rw [hk0] at hkeep; exact absurd rfl hkeep
theorem stepR_scope {P : Program} {b : Frame} {a : Act} {k : List Item} {cs : List Frame} {w : World} {c : Code} :
  step P (lone (b.atR a (.code (.scope c) :: k)) cs w) = .next (lone (b.atR a (.code c :: .inScope c :: k)) cs w) :=
 step_lone_go (by simp [stepG, stepG.exec, Frame.atR])
theorem stepR_inScope {P : Program} {b : Frame} {a : Act} {k : List Item} {cs : List Frame} {w : World} {c : Code} :
  step P (lone (b.atR a (.inScope c :: k)) cs w) = .next (lone (b.atR a k) cs w) :=
 step_lone_go (by simp [stepG, stepG.exec, Frame.atR])
theorem wpIn_scope {F : Fence} {n : Nat} {P : Program} {Q : Exit → Act → World → Prop} {a : Act} {w : World} {c : Code} (h : c.wpIn F n P (Exit.noGoto Q) a w) : (Code.scope c).wpIn F n P Q a w := by
 intro b k cs hro hb hr
 have h0 : (lone (b.atR a (.code (.scope c) :: k)) cs w).fenced P F := fenced_calm hb hr rfl
 obtain ⟨e, a₁, w₁, hq, harr⟩ := h b (.inScope c :: k) cs hro hb hr
 cases e with
 | normal => exact ⟨.normal, a₁, w₁, hq, .head h0 stepR_scope (StepsIn.trans harr (.one (fenced_calm hb hr rfl) stepR_inScope))⟩
 | exit id' =>
  have hx : exitTo id' (.inScope c :: k) = exitTo id' k := by simp [exitTo]
  exact ⟨.exit id', a₁, w₁, hq, fun k' hk => .head h0 stepR_scope (harr.1 k' (by rw [hx]; exact hk)),
   fun hr' hk => let ⟨k₁, h1, h2⟩ := harr.2 hr' (by rw [hx]; exact hk); ⟨k₁, h1, .head h0 stepR_scope h2⟩⟩
 | goto l => exact hq.elim
 | ret => exact ⟨_, a₁, w₁, hq, .of_steps (.one h0 stepR_scope) harr⟩
 | panic ch => exact ⟨_, a₁, w₁, hq, .of_steps (.one h0 stepR_scope) harr⟩
 | outgrown => exact ⟨_, a₁, w₁, hq, .of_steps (.one h0 stepR_scope) harr⟩
def LCode.flat : LCode → Bool
 | .seq a b => a.flat && b.flat
 | .cond _ a b => a.flat && b.flat
 | .block _ c | .loop c => c.flat
 | .rangeFunc .. => false
 | _ => true
theorem code_wp {call : ACall} {keep : Nat → Bool} (hcall : CallSound C keep call) (hdraw : DrawSound C keep call) (n : Nat) : ∀ (c : Code) (c' : LCode), lowCode C.P C.τ c = some c' → (ro = none → (∀ b0, B0 ≠ .from b0) → c'.flat = true) → CodeWp C ro B0 N c (codeA keep call n c')
  | .skip, c', hl, hz => by
    simp [lowCode] at hl; subst hl
    intro φ W a T H e T' H' h hS Q hQ
    simp [codeA] at h
    obtain ⟨rfl, rfl, rfl⟩ := h
    exact wpIn_skip (hQ φ a W hS (Ext.refl φ W))
  | .region id ops draw, c', hl, hz => by
    simp only [lowCode] at hl
    split at hl <;> simp at hl
    · rename_i l hlo
      subst hl
      cases draw with
      | true =>
        intro φ W a T H e T' H' h hS Q hQ
        refine hdraw ro B0 N id ops l hlo φ W a T H e T' H' ?_ hS Q hQ
        simp only [codeA, Bool.true_and] at h
        split at h <;> try (simp at h; done)
        rename_i T1 H1 ks ho
        simp only [ho]
        split at h <;> simp at h
        rename_i hd
        simp only [Bool.not_eq_true', Bool.not_eq_false] at hd
        rw [if_pos hd]; simp [h]
      | false =>
        intro φ W a T H e T' H' h hS Q hQ
        simp only [codeA] at h
        split at h <;> try (simp at h; done)
        rename_i T1 H1 ks ho
        simp at h
        obtain ⟨rfl, rfl, rfl⟩ := h
        have := ops_wp (Q := Q) hcall ops.toList 0 l φ W a T H (by simp) hlo ho hS hQ
        refine wpIn_region ?_
        rw [List.range_eq_range']
        simpa using this
    · subst hl
      intro φ W a T H e T' H' h
      simp [codeA] at h
  | .seq x y, c', hl, hz => by
    simp only [lowCode] at hl
    split at hl <;> simp at hl
    rename_i x' y' hx hy
    subst hl
    intro φ W a T H e T' H' h hS Q hQ
    simp only [codeA] at h
    have ihx := code_wp hcall hdraw n x x' hx (fun h1 h2 => by have := hz h1 h2; simp [LCode.flat] at this; exact this.1)
    have ihy := code_wp hcall hdraw n y y' hy (fun h1 h2 => by have := hz h1 h2; simp [LCode.flat] at this; exact this.2)
    refine wpIn_seq ?_
    split at h
    · rename_i T1 H1 h1
      refine ihx φ W a T H .normal T1 H1 h1 hS _ fun φ' a' W' hS' hE => ?_
      exact ihy φ' W' a' T1 H1 e T' H' h hS' Q fun φ2 a2 W2 h2 h3 => hQ φ2 a2 W2 h2 (hE.trans h3)
    · rename_i hne
      refine ihx φ W a T H e T' H' h hS _ fun φ' a' W' hS' hE => ?_
      have := hQ φ' a' W' hS' hE
      cases e with
      | normal => exact absurd h (hne T' H')
      | exit id => exact this
      | ret => exact this
  | .cond c x y, c', hl, hz => by
    simp only [lowCode] at hl
    split at hl <;> simp at hl
    rename_i c1 x' y' hc hx hy
    subst hl
    intro φ W a T H e T' H' h hS Q hQ
    simp only [codeA] at h
    have hv := ev_ok hS.slots hc
    split at h <;> try (simp at h; done)
    · rename_i hb
      rw [hb] at hv
      generalize hX : a.eval c = X at hv
      cases hv
      exact wpIn_cond_true hX (code_wp hcall hdraw n x x' hx (fun h1 h2 => by have := hz h1 h2; simp [LCode.flat] at this; exact this.1) φ W a T H e T' H' h hS Q hQ)
    · rename_i hb
      rw [hb] at hv
      generalize hX : a.eval c = X at hv
      cases hv
      exact wpIn_cond_false hX (code_wp hcall hdraw n y y' hy (fun h1 h2 => by have := hz h1 h2; simp [LCode.flat] at this; exact this.2) φ W a T H e T' H' h hS Q hQ)
  | .block id x, c', hl, hz => by
    simp only [lowCode, Option.map_eq_some_iff] at hl
    obtain ⟨x', hx, rfl⟩ := hl
    intro φ W a T H e T' H' h hS Q hQ
    simp only [codeA] at h
    have ih := code_wp hcall hdraw n x x' hx hz
    refine wpIn_block ?_
    split at h
    · rename_i i T1 H1 h1
      split at h
      · rename_i hid
        simp at h
        obtain ⟨rfl, rfl, rfl⟩ := h
        refine ih φ W a T H _ T1 H1 h1 hS _ fun φ' a' W' hS' hE => ?_
        simp only [AExit.to, Exit.inBlock, hid, if_true]
        exact hQ φ' a' W' hS' hE
      · rename_i hid
        simp at h
        obtain ⟨rfl, rfl, rfl⟩ := h
        refine ih φ W a T H _ T1 H1 h1 hS _ fun φ' a' W' hS' hE => ?_
        simp only [AExit.to, Exit.inBlock, hid, if_false]
        exact hQ φ' a' W' hS' hE
    · rename_i hne
      refine ih φ W a T H e T' H' h hS _ fun φ' a' W' hS' hE => ?_
      have := hQ φ' a' W' hS' hE
      cases e with
      | normal => exact this
      | exit id => exact absurd h (hne id T' H')
      | ret => exact this
  | .loop x, c', hl, hz => by
    simp only [lowCode, Option.map_eq_some_iff] at hl
    obtain ⟨x', hx, rfl⟩ := hl
    intro φ W a T H e T' H' h hS Q hQ
    simp only [codeA] at h
    have ih := code_wp hcall hdraw n x x' hx hz
    refine wpIn_loop_n (n := n) (fun m a1 W1 => ∃ φ1 T1 H1, loopA (codeA keep call n x') m T1 H1 = some (e, T', H') ∧ St C ro B0 φ1 N W1 a1 T1 H1 ∧ Ext φ φ1 W W1) ⟨φ, T, H, h, hS, Ext.refl φ W⟩ ?_ ?_
    · rintro a1 W1 ⟨φ1, T1, H1, h1, _⟩
      simp [loopA] at h1
    · rintro m a1 W1 ⟨φ1, T1, H1, h1, hS1, hE1⟩
      simp only [loopA] at h1
      split at h1
      · rename_i T2 H2 h2
        refine ih φ1 W1 a1 T1 H1 .normal T2 H2 h2 hS1 _ fun φ2 a2 W2 hS2 hE2 => ?_
        exact ⟨φ2, T2, H2, h1, hS2, hE1.trans hE2⟩
      · rename_i hne
        refine ih φ1 W1 a1 T1 H1 e T' H' h1 hS1 _ fun φ2 a2 W2 hS2 hE2 => ?_
        have := hQ φ2 a2 W2 hS2 (hE1.trans hE2)
        cases e with
        | normal => exact absurd h1 (hne T' H')
        | exit id => exact this
        | ret => exact this
  | .exit id, c', hl, hz => by
    simp [lowCode] at hl; subst hl
    intro φ W a T H e T' H' h hS Q hQ
    simp [codeA] at h
    obtain ⟨rfl, rfl, rfl⟩ := h
    exact wpIn_exit (hQ φ a W hS (Ext.refl φ W))
  | .ret, c', hl, hz => by
    simp [lowCode] at hl; subst hl
    intro φ W a T H e T' H' h hS Q hQ
    simp [codeA] at h
    obtain ⟨rfl, rfl, rfl⟩ := h
    exact wpIn_ret (hQ φ a W hS (Ext.refl φ W))
  | .rangeFunc f ps x y, c', hl, hz => by
    simp only [lowCode] at hl
    split at hl <;> simp at hl
    rename_i f' x' y' hf hx hy
    subst hl
    exact rangeFunc_wp (fun h1 => by
      cases B0 with
      | no D => have := hz h1 (fun b0 h => by cases h); simp [LCode.flat] at this
      | «from» b => exact ⟨b, rfl⟩) hcall n hf hx hy
  | .scope x, c', hl, hz => by
    simp only [lowCode] at hl
    intro φ W a T H e T' H' h hS Q hQ
    refine wpIn_scope (code_wp hcall hdraw n x c' hl hz φ W a T H e T' H' h hS _ fun φ' a' W' hS' hE => ?_)
    have := hQ φ' a' W' hS' hE
    cases e <;> exact this
  | .label l, c', hl, hz => by
    simp [lowCode] at hl; subst hl
    intro φ W a T H e T' H' h hS Q hQ
    simp [codeA] at h
    obtain ⟨rfl, rfl, rfl⟩ := h
    exact wpIn_label (hQ φ a W hS (Ext.refl φ W))
  | .goto _, c', hl, _ | .refuse _, c', hl, _ => by
    simp [lowCode] at hl; subst hl
    intro φ W a T H e T' H' h
    simp [codeA] at h
end Go.AE
namespace Go.AE
open Go
theorem ev_congr {T T2 : Tmps} {x : Opd} (h : ∀ t ∈ x.tmps, T.getD t undefA = T2.getD t undefA) : ev T x = ev T2 x := by
  cases x with
  | t n => exact h n (by simp [Opd.tmps])
  | c v => rfl
  | f i => rfl
theorem evs_congr {T T2 : Tmps} : ∀ {xs : List Opd}, (∀ t ∈ xs.flatMap Opd.tmps, T.getD t undefA = T2.getD t undefA) → xs.map (ev T) = xs.map (ev T2)
 | [], _ => rfl
 | x :: xs, h => by
  simp only [List.flatMap_cons, List.mem_append] at h
  simp only [List.map_cons]
  rw [ev_congr fun t ht => h t (.inl ht), evs_congr fun t ht => h t (.inr ht)]
theorem evo_congr {T T2 : Tmps} {x : Option Opd} (h : ∀ t ∈ x.toList.flatMap Opd.tmps, T.getD t undefA = T2.getD t undefA) : evo T x = evo T2 x := by
  cases x with
  | none => rfl
  | some x => simp only [evo]; rw [ev_congr fun t ht => h t (by simpa using ht)]
theorem fill_congr {T T2 : Tmps} : ∀ {ps : List (Nat × Nat × Opd)} {cs : List AV}, (∀ t ∈ ps.flatMap (fun p => p.2.2.tmps), T.getD t undefA = T2.getD t undefA) → fillA T cs ps = fillA T2 cs ps
 | [], _, _ => rfl
 | (o, s, x) :: ps, cs, h => by
  simp only [List.flatMap_cons, List.mem_append] at h
  simp only [fillA]
  rw [ev_congr fun t ht => h t (.inl ht)]
  split
  ·exact fill_congr fun t ht => h t (.inr ht)
  ·rfl
theorem op_congr {T T2 : Tmps} {H : AHeap} {op : LOp} (h : ∀ t ∈ op.tmps, T.getD t undefA = T2.getD t undefA) : opA T H op = opA T2 H op := by
  cases op <;> simp only [LOp.tmps, List.mem_append] at h <;> try rfl
  case mv x | box g x | load s ag x | nilChk x | un op x | conv kd x | mkIface g x | fieldAddr o x | field o s ag x | rangeStr x | nextStr x | rangeMap x | nextMap x | extract i x =>
    simp only [opA, ev_congr (x := x) h]
  case pick c x y =>
    simp only [opA, ev_congr (x := c) (fun t ht => h t (.inl (.inl ht))), ev_congr (x := x) (fun t ht => h t (.inl (.inr ht))), ev_congr (x := y) (fun t ht => h t (.inr ht))]
  case build z ps => simp only [opA, fill_congr h]
  case lit z n s ps => simp only [opA, fill_congr h]
  case store s x y | bin op x y | eq ng e x y | idxAddr s x y | idxArrAddr l s x y | idxStr x y | idxArr l s ag x y | lookup ke z ok x y | mkSlice z s b g x y =>
    simp only [opA, ev_congr (x := x) (fun t ht => h t (.inl ht)), ev_congr (x := y) (fun t ht => h t (.inr ht))]
  case mapUpd ke x y z =>
    simp only [opA, ev_congr (x := x) (fun t ht => h t (.inl (.inl ht))), ev_congr (x := y) (fun t ht => h t (.inl (.inr ht))), ev_congr (x := z) (fun t ht => h t (.inr ht))]
  case mkFunc i xs ys =>
    simp only [List.flatMap_append, List.mem_append] at h
    simp only [opA, evs_congr (xs := xs) (fun t ht => h t (.inl ht)), evs_congr (xs := ys) (fun t ht => h t (.inr ht))]
  case slStr x lo hi =>
    simp only [List.flatMap_append, List.mem_append] at h
    simp only [opA, ev_congr (x := x) (fun t ht => h t (.inl ht)), evo_congr (x := lo) (fun t ht => h t (.inr (.inl ht))), evo_congr (x := hi) (fun t ht => h t (.inr (.inr ht)))]
  case slSl s x lo hi mx | slArr l s x lo hi mx =>
    simp only [List.flatMap_append, List.mem_append] at h
    simp only [opA, ev_congr (x := x) (fun t ht => h t (.inl ht)), evo_congr (x := lo) (fun t ht => h t (.inr (.inl (.inl ht)))), evo_congr (x := hi) (fun t ht => h t (.inr (.inl (.inr ht)))), evo_congr (x := mx) (fun t ht => h t (.inr (.inr ht)))]
theorem oper_congr {keep : Nat → Bool} {call : ACall} {T T2 : Tmps} {H : AHeap} {op : LOp} (h : ∀ t ∈ op.tmps, T.getD t undefA = T2.getD t undefA) : operA keep call T H op = operA keep call T2 H op := by
 cases op
 case call c args =>
  simp only [LOp.tmps, List.mem_append] at h
  have ha := evs_congr (xs := args) (fun t ht => h t (.inr ht))
  cases c with
  | builtin b => simp only [operA, ha]
  | fn f => simp only [operA, ha]
  | val x => simp only [operA, ha, ev_congr (x := x) (fun t ht => h t (.inl ht))]
  | invoke x r => simp only [operA, ha, ev_congr (x := x) (fun t ht => h t (.inl ht))]
 all_goals (simp only [operA]; exact op_congr h)
theorem wanted_congr {T T2 : Tmps} {g : Option (Nat × Bool)} (h : ∀ t ∈ (g.map (·.1)).toList, T.getD t undefA = T2.getD t undefA) : wantedA T g = wantedA T2 g := by
  cases g with
  | none => rfl
  | some p => obtain ⟨t, w⟩ := p; simp only [wantedA]; rw [h t (by simp)]
mutual
theorem same_eq : ∀ (u v : AV), u.same v = true → u = v
 | u, v, h => by
  cases u <;> cases v <;> simp only [AV.same, Bool.and_eq_true, decide_eq_true_eq, beq_iff_eq, Bool.false_eq_true] at h <;> first
   | rfl
   | (subst h; rfl)
   | (obtain ⟨rfl, rfl⟩ := h; rfl)
   | (obtain ⟨⟨rfl, rfl⟩, rfl⟩ := h; rfl)
   | (obtain ⟨⟨⟨⟨⟨rfl, rfl⟩, rfl⟩, rfl⟩, rfl⟩, rfl⟩ := h; rfl)
   | (rename_i a b; rw [sameL_eq _ _ h]; done)
   | (obtain ⟨h1, rfl⟩ := h; rw [sameL_eq _ _ h1]; done)
   | (obtain ⟨⟨⟨h1, rfl⟩, rfl⟩, rfl⟩ := h; rw [sameL_eq _ _ h1]; done)
   | (obtain ⟨⟨rfl, h1⟩, h2⟩ := h; rw [sameL_eq _ _ h1, sameL_eq _ _ h2]; done)
   | (obtain ⟨rfl, h1⟩ := h; rw [same_eq _ _ h1]; done)
theorem sameL_eq : ∀ (u v : List AV), sameL u v = true → u = v
 | [], [], _ => rfl
 | [], _ :: _, h => by simp [sameL] at h
 | _ :: _, [], h => by simp [sameL] at h
 | u :: l, v :: l', h => by
  simp only [sameL, Bool.and_eq_true] at h
  rw [same_eq u v h.1, sameL_eq l l' h.2]
end
theorem blkSame_eq {a b : Option ABlk} (h : blkSame a b = true) : a = b := by
 unfold blkSame at h
 split at h
 ·simp only [Bool.and_eq_true, decide_eq_true_eq] at h
  obtain ⟨⟨⟨h1, rfl⟩, rfl⟩, rfl⟩ := h
  rw [sameL_eq _ _ h1]
 ·simp at h
def KindOk (f : AHeap → ARes) (H : AHeap) : Prop := ∀ v H' kd, f H = some (v, H', kd) → match kd with
 | .p => H' = H ∧ ∀ H2, f H2 = some (v, H2, .p)
 | .r b => H' = H ∧ b < H.length ∧ ∀ H2 : AHeap, H2[b]? = H[b]? → f H2 = some (v, H2, .r b)
 | .a n => n = H.length ∧ ∃ l, H' = H ++ l ∧ ∀ H2 : AHeap, H2.length = n → f H2 = some (v, H2 ++ l, .a n)
 | .w b => ∀ c, c ≠ b → H'[c]? = H[c]?
 | .c H0 H1 => H0 = H ∧ H1 = H'
 | .l => True
theorem KindOk.pure {r : Option AV} {H : AHeap} {f : AHeap → ARes} (hf : ∀ H, f H = pureV H r) : KindOk f H := by
 intro v H' kd h
 rw [hf] at h
 obtain ⟨h1, rfl, rfl⟩ := pureV_some h
 exact ⟨rfl, fun H2 => by rw [hf, h1]; rfl⟩
theorem lt_of_get {H : AHeap} {b : Nat} {k : ABlk} (h : H[b]? = some k) : b < H.length := by
 rcases Nat.lt_or_ge b H.length with h1 | h1
 ·exact h1
 ·simp [List.getElem?_eq_none h1] at h
theorem KindOk.read {H : AHeap} {b : Nat} {g : Option ABlk → Option AV} {f : AHeap → ARes} (hf : ∀ H, f H = readV H b (g H[b]?)) (hg : g none = none) : KindOk f H := by
 intro v H' kd h
 rw [hf] at h
 obtain ⟨h1, rfl, rfl⟩ := readV_some h
 have hb : b < H'.length := by
  cases hq : H'[b]? with
  | none => rw [hq, hg] at h1; simp at h1
  | some k => exact lt_of_get hq
 exact ⟨rfl, hb, fun H2 h2 => by rw [hf, h2, h1]; rfl⟩
theorem KindOk.nil {H : AHeap} {f : AHeap → ARes} (hf : f H = none) : KindOk f H := by
 intro v H' kd h; rw [hf] at h; simp at h
theorem KindOk.loud {H : AHeap} {f : AHeap → ARes} (hf : ∀ v H' kd, f H = some (v, H', kd) → kd = .l) : KindOk f H := by
 intro v H' kd h
 obtain rfl := hf v H' kd h
 trivial
theorem KindOk.alloc {H : AHeap} {g : Nat → Option (AV × List ABlk)} {f : AHeap → ARes} (hf : ∀ H, f H = (g H.length).map fun p => (p.1, H ++ p.2, .a H.length)) : KindOk f H := by
 intro v H' kd h
 rw [hf] at h
 simp only [Option.map_eq_some_iff, Prod.mk.injEq] at h
 obtain ⟨⟨w, l⟩, h1, rfl, rfl, rfl⟩ := h
 exact ⟨rfl, l, rfl, fun H2 h2 => by rw [hf, h2, h1]; rfl⟩
theorem KindOk.congr {H : AHeap} {f g : AHeap → ARes} (h : ∀ H, f H = g H) (hg : KindOk g H) : KindOk f H := by
 have : f = g := funext h
 rw [this]; exact hg
theorem KindOk.row {H : AHeap} {x : AV} {g : List AV → Option AV} {f : AHeap → ARes} (hf : ∀ H, f H = match rowOf H x with | some cs => (g cs).map fun s => (s, H, kdOf x) | none => none) : KindOk f H := by
  cases x with
  | sl b o n sz v cap =>
    refine KindOk.read (b := b) (g := fun k => match (match k with | some (.cells cs _ wv st) => if st < 2 ∧ wv ≤ v ∧ v ≤ cs.length ∧ o + n * sz ≤ v then some ((cs.drop o).take (n * sz)) else none | _ => none) with | some cs => g cs | none => none) (fun H => ?_) rfl
    rw [hf]; simp only [rowOf, kdOf, readV]
    generalize H[b]? = q
    cases q with
    | none => rfl
    | some q =>
      cases q with
      | cells cs t w s => simp only; split <;> rfl
      | _ => rfl
  | nilsl => exact KindOk.pure (r := g []) fun H => by rw [hf]; simp only [rowOf, kdOf, pureV]
  | lst cs n sz e => exact KindOk.pure (r := g cs) fun H => by rw [hf]; simp only [rowOf, kdOf, pureV]
  | _ => exact KindOk.nil (by rw [hf]; rfl)
theorem load_kind {sz : Nat} {ag : Bool} {x : AV} {H : AHeap} : KindOk (fun H => loadA H sz ag x) H := by
 cases x with
 | elt cs o => exact KindOk.pure fun H => rfl
 | ptr b o v =>
  refine KindOk.read (b := b) (g := fun k => match k with | some (.cells cs _ wv st) => if st < 2 ∧ wv ≤ v ∧ v ≤ cs.length ∧ o + sz ≤ v then part cs o sz ag else none | _ => none) (fun H => ?_) rfl
  simp only [loadA]
  generalize H[b]? = q
  cases q with
  | none => rfl
  | some q => cases q <;> first | rfl | (simp only; split <;> rfl)
 | _ => exact KindOk.nil rfl
theorem conv_kind {k : LConv} {x : AV} {H : AHeap} : KindOk (fun H => convA H k x) H := by
  cases k with
  | ofBytes =>
    refine KindOk.row (x := x) (g := fun cs => if sz1 x then (bytesOfA cs).map .str else none) fun H => ?_
    simp only [convA]
    generalize rowOf H x = q
    cases q with
    | none => rfl
    | some q =>
      simp only
      split
      · simp [Option.map_map, Function.comp_def]
      · rfl
  | ofRunes =>
    refine KindOk.row (x := x) (g := fun cs => if sz1 x then (intsOfA cs).map (fun l => .str (l.flatMap utf8Enc)) else none) fun H => ?_
    simp only [convA]
    generalize rowOf H x = q
    cases q with
    | none => rfl
    | some q =>
      simp only
      split
      · simp [Option.map_map, Function.comp_def]
      · rfl
  | toBytes tag =>
    cases x with
    | str s => exact KindOk.alloc (g := fun n => some (.sl n 0 s.length 1 s.length none, [.cells (s.map fun b => AV.int .u8 b.toNat) tag s.length 0])) fun H => rfl
    | _ => exact KindOk.nil rfl
  | toUns =>
    cases x with
    | nilptr => exact KindOk.pure fun H => rfl
    | ptr b o v =>
      refine KindOk.read (b := b) (g := fun k => match k with | some (.cells cs _ wv st) => if st < 2 ∧ wv ≤ v ∧ v ≤ cs.length ∧ o < v then some (.ptr b o v) else none | _ => none) (fun H => ?_) rfl
      simp only [convA]
      generalize H[b]? = q
      cases q with
      | none => rfl
      | some q => cases q <;> first | rfl | (simp only; split <;> rfl)
    | _ => exact KindOk.nil rfl
  | ofUns sz =>
    cases x with
    | ptr b o v =>
      refine KindOk.read (b := b) (g := fun k => match k with | some (.cells cs tag wv st) => if st < 2 ∧ wv ≤ v ∧ v ≤ cs.length ∧ o = 0 ∧ tag = 2 ∧ sz ≤ v ∧ 0 < sz then some (.ptr b 0 v) else none | _ => none) (fun H => ?_) rfl
      simp only [convA]
      generalize H[b]? = q
      cases q with
      | none => rfl
      | some q => cases q <;> first | rfl | (simp only; split <;> rfl)
    | _ => exact KindOk.nil rfl
  | int k =>
    cases x with
    | int => exact KindOk.pure fun H => rfl
    | _ => exact KindOk.nil rfl
  | same =>
    cases x with
    | str => exact KindOk.pure fun H => rfl
    | _ => exact KindOk.nil rfl
  | ofInt =>
    cases x with
    | int => exact KindOk.pure fun H => rfl
    | _ => exact KindOk.nil rfl
  | toRunes => exact KindOk.nil (by cases x <;> rfl)
theorem op_kind {T : Tmps} {H : AHeap} {op : LOp} : KindOk (fun H => opA T H op) H := by
  cases op with
  | pick c a b =>
    simp only [opA]
    cases ev T c with
    | bool c => exact KindOk.pure fun H => rfl
    | _ => exact KindOk.nil rfl
  | alloc z tag =>
    refine KindOk.alloc (g := fun n => if z.length = 0 then none else some (.ptr n 0 z.length, [.cells z tag z.length 0])) fun H => ?_
    simp only [opA]
    split <;> rfl
  | box tag x =>
    refine KindOk.alloc (g := fun n => if 0 < (ev T x).cells.length then some (.ptr n 0 (ev T x).cells.length, [.cells (ev T x).cells tag (ev T x).cells.length 0]) else none) fun H => ?_
    simp only [opA, newVarA]
    split <;> rfl
  | load sz ag x => exact load_kind
  | store sz x y =>
    intro v H' kd h
    simp only [opA, storeA] at h
    split at h <;> try (simp at h; done)
    split at h <;> try (simp at h; done)
    simp only [Option.map_eq_some_iff, Prod.mk.injEq] at h
    obtain ⟨H2, h1, _, rfl, rfl⟩ := h
    intro c hc
    unfold storeCellsA at h1
    split at h1 <;> try (simp at h1; done)
    split at h1 <;> simp at h1
    subst h1
    rw [List.getElem?_set_ne (fun e => hc e.symm)]
  | nilChk x =>
    simp only [opA]
    cases ev T x with
    | ptr => exact KindOk.pure fun H => rfl
    | elt => exact KindOk.pure fun H => rfl
    | iface => exact KindOk.pure fun H => rfl
    | func => exact KindOk.pure fun H => rfl
    | _ => exact KindOk.nil rfl
  | conv k x => exact conv_kind
  | mkMap => exact KindOk.alloc (g := fun n => some (.map n, [.map []])) fun H => rfl
  | mkSlice z sz bytes tag n c =>
    simp only [opA]
    cases asI (ev T n) with
    | none => exact KindOk.nil rfl
    | some n =>
      cases asI (ev T c) with
      | none => exact KindOk.nil rfl
      | some c =>
        refine KindOk.alloc (g := fun l => if 0 ≤ n ∧ n ≤ c ∧ c * bytes ≤ 2 ^ 40 ∧ 0 < bytes ∧ 0 < sz then some (.sl l 0 n.toNat sz (n.toNat * sz) (some c.toNat), [.cells (repCells n.toNat z) tag (n.toNat * sz) 0]) else none) fun H => ?_
        simp only
        split <;> rfl
  | slStr x lo hi =>
    simp only [opA]
    cases ev T x with
    | str s =>
      simp only
      split
      · exact KindOk.pure fun H => rfl
      · exact KindOk.nil rfl
    | _ => exact KindOk.nil rfl
  | slArr len sz x lo hi mx =>
    simp only [opA]
    cases ev T x with
    | ptr b o v =>
      cases bounds len (evo T lo) (evo T hi) with
      | none => exact KindOk.nil rfl
      | some p =>
        obtain ⟨l, h⟩ := p
        refine KindOk.read (b := b) (g := fun k => if (evo T mx).isSome then none else if (match k with | some (.cells _ _ wv st) => decide (st < 2 ∧ wv ≤ v ∧ o + len * sz ≤ v) | _ => false) then some (.sl b (o + l * sz) (h - l) sz v (some (len - l))) else none) (fun H => ?_) (by simp)
        simp only
        split
        · rfl
        · generalize H[b]? = q
          cases q with
          | none => rfl
          | some q => cases q <;> first | rfl | (simp only; split <;> rfl)
    | _ => exact KindOk.nil rfl
  | field off sz ag x =>
    simp only [opA]
    cases ev T x with
    | agg => exact KindOk.pure fun H => rfl
    | _ => exact KindOk.nil rfl
  | idxArrAddr len sz x i =>
    simp only [opA]
    cases asI (ev T i) with
    | none => exact KindOk.nil rfl
    | some i =>
      simp only
      split
      · exact KindOk.pure fun H => rfl
      · exact KindOk.nil rfl
  | idxStr x i =>
    simp only [opA]
    cases ev T x with
    | str s =>
      cases asI (ev T i) with
      | none => exact KindOk.nil rfl
      | some i =>
        simp only
        split
        · exact KindOk.pure fun H => rfl
        · exact KindOk.nil rfl
    | _ => exact KindOk.nil rfl
  | idxArr len sz ag x i =>
    simp only [opA]
    cases ev T x with
    | agg s =>
      cases asI (ev T i) with
      | none => exact KindOk.nil rfl
      | some i =>
        simp only
        split
        · exact KindOk.pure fun H => rfl
        · exact KindOk.nil rfl
    | _ => exact KindOk.nil rfl
  | lookup k z ok x i =>
    cases hx : ev T x with
    | nilmap =>
      simp only [opA, hx]
      exact KindOk.pure fun H => rfl
    | map b =>
      refine KindOk.congr (g := fun H => readV H b (match H[b]? with | some (.map es) => if k.plainKey then ((findA k (ev T i) es 0).map fun r => (if ok then AV.tuple [(match r with | some (_, v) => v | none => z), .bool r.isSome] else (match r with | some (_, v) => v | none => z))) else none | _ => none)) (fun H => ?_) (KindOk.read (b := b) (g := fun m => match m with | some (.map es) => if k.plainKey then ((findA k (ev T i) es 0).map fun r => (if ok then AV.tuple [(match r with | some (_, v) => v | none => z), .bool r.isSome] else (match r with | some (_, v) => v | none => z))) else none | _ => none) (fun H => rfl) rfl)
      simp only [opA, hx]
      generalize H[b]? = q
      cases q with
      | none => rfl
      | some q => cases q <;> first | rfl | (simp only; split <;> rfl)
    | _ => exact KindOk.nil (by simp only [opA, hx])
  | mapUpd k m i x =>
    refine KindOk.loud fun v H' kd h => ?_
    simp only [opA] at h
    split at h <;> try (simp at h; done)
    split at h <;> try (simp at h; done)
    split at h <;> try (simp at h; done)
    split at h <;> simp at h <;> exact h.2.2.symm
  | rangeStr x =>
    simp only [opA]
    cases ev T x with
    | str s => exact KindOk.alloc (g := fun n => some (.ptr n 0 0, [.iter s 0])) fun H => rfl
    | _ => exact KindOk.nil rfl
  | nextStr x =>
    refine KindOk.loud fun v H' kd h => ?_
    simp only [opA] at h
    split at h <;> try (simp at h; done)
    split at h <;> try (simp at h; done)
    split at h <;> simp at h <;> exact h.2.2.symm
  | rangeMap x =>
    refine KindOk.loud fun v H' kd h => ?_
    simp only [opA] at h
    split at h <;> try (simp at h; done)
    split at h <;> simp at h
    exact h.2.2.symm
  | nextMap x =>
    refine KindOk.loud fun v H' kd h => ?_
    simp only [opA] at h
    split at h <;> try (simp at h; done)
    split at h <;> try (simp at h; done)
    split at h <;> simp at h
    exact h.2.2.symm
  | extract i x =>
    simp only [opA]
    cases ev T x with
    | tuple => exact KindOk.pure fun H => rfl
    | _ => exact KindOk.nil rfl
  | call => exact KindOk.nil rfl
  | fail => exact KindOk.nil rfl
  | _ => exact KindOk.pure fun H => rfl
theorem len_kind {b : LBuiltin} {x : AV} {H : AHeap} : KindOk (fun H => lenA H b x) H := by
  cases b with
  | lenMap =>
    cases x with
    | nilmap => exact KindOk.pure fun H => rfl
    | map b =>
      refine KindOk.read (b := b) (g := fun k => match k with | some (.map es) => some (.int .i64 es.length) | _ => none) (fun H => ?_) rfl
      simp only [lenA]
      generalize H[b]? = q
      cases q with
      | none => rfl
      | some q => cases q <;> rfl
    | _ => exact KindOk.nil rfl
  | lenStr =>
    cases x with
    | str => exact KindOk.pure fun H => rfl
    | _ => exact KindOk.nil rfl
  | lenSl =>
    cases x with
    | nilsl => exact KindOk.pure fun H => rfl
    | lst => exact KindOk.pure fun H => rfl
    | sl => exact KindOk.pure fun H => rfl
    | _ => exact KindOk.nil rfl
  | capSl =>
    cases x with
    | nilsl => exact KindOk.pure fun H => rfl
    | lst _ _ _ e =>
      cases e with
      | true => exact KindOk.pure fun H => rfl
      | false => exact KindOk.nil rfl
    | sl _ _ _ _ _ c =>
      cases c with
      | some c => exact KindOk.pure fun H => rfl
      | none => exact KindOk.nil rfl
    | _ => exact KindOk.nil rfl
  | lenArr n => exact KindOk.pure fun H => by cases x <;> rfl
  | capArr n => exact KindOk.pure fun H => by cases x <;> rfl
  | _ => exact KindOk.nil (by cases x <;> rfl)
theorem append_loud {sz bytes tag : Nat} {s x v : AV} {H H' : AHeap} {kd : Kd} (hq : ¬ ((∃ cs n z e, s = .lst cs n z e) ∧ quiet x = true)) (h : appendA H sz bytes tag s x = some (v, H', kd)) : kd = .l := by
 have fresh : ∀ (m n : Nat) (new old : List AV) (v : AV) (H' : AHeap) (kd : Kd), (if (n + m) * bytes ≤ 2 ^ 40 ∧ 0 < bytes ∧ 0 < sz then some (AV.sl H.length 0 (n + m) sz (old ++ new).length none, H ++ [.cells (old ++ new) tag (old ++ new).length 0], Kd.l) else none) = some (v, H', kd) → kd = .l := by
  intro m n new old v H' kd h
  split at h <;> simp at h
  exact h.2.2.symm
 unfold appendA at h
 split at h
 ·simp at h
 ·simp only at h
  split at h
  ·split at h
   ·simp at h; exact h.2.2.symm
   ·exact fresh _ _ _ _ _ _ _ h
  ·have hx : quiet x = false := by
    cases e : quiet x with
    | false => rfl
    | true => exact absurd ⟨⟨_, _, _, _, rfl⟩, e⟩ hq
   simp only [hx, Bool.false_eq_true, if_false] at h
   split at h
   ·simp at h
   ·split at h
    ·simp at h; exact h.2.2.symm
    ·split at h
     ·simp only [Option.map_eq_some_iff, Prod.exists, Prod.mk.injEq] at h
      obtain ⟨_, _, _, _, _, _, h⟩ := h
      exact h.symm
     ·simp at h
  ·split at h
   ·simp at h
   ·split at h
    ·split at h
     ·split at h
      ·simp at h; exact h.2.2.symm
      ·split at h
       ·exact fresh _ _ _ _ _ _ _ h
       ·split at h
        ·split at h <;> simp at h
         exact h.2.2.symm
        ·split at h
         ·simp only [Option.map_eq_some_iff, Prod.exists, Prod.mk.injEq] at h
          obtain ⟨a, b, c, h1, _, _, rfl⟩ := h
          exact fresh _ _ _ _ _ _ _ h1
         ·simp at h
     ·simp at h
    ·simp at h
  ·simp at h
theorem append_kind {sz bytes tag : Nat} {s x : AV} {H : AHeap} : KindOk (fun H => appendA H sz bytes tag s x) H := by
 by_cases hq : (∃ cs n z e, s = .lst cs n z e) ∧ quiet x = true
 ·obtain ⟨⟨cs, n, z, e, rfl⟩, hx⟩ := hq
  obtain ⟨c, hc⟩ : ∃ c, ∀ H, cellsIn H sz x = c := by
   cases x <;> first | exact ⟨_, fun _ => rfl⟩ | simp [quiet] at hx
  intro v H' kd h
  simp only [appendA, hc, hx, if_true] at h
  cases c with
  | none => simp at h
  | some p =>
   obtain ⟨m, new⟩ := p
   simp only at h
   split at h
   ·simp at h
   ·rename_i h1
    split at h
    ·rename_i h2
     simp at h
     obtain ⟨rfl, rfl, rfl⟩ := h
     refine ⟨rfl, fun H2 => ?_⟩
     simp only [appendA, hc, hx, if_true]
     rw [if_neg h1, if_pos h2]
    ·rename_i h2
     split at h
     ·rename_i h3
      split at h
      ·rename_i h4
       simp at h
       obtain ⟨rfl, rfl, rfl⟩ := h
       refine ⟨rfl, _, rfl, fun H2 hl => ?_⟩
       simp only [appendA, hc, hx, if_true]
       rw [if_neg h1, if_neg h2, if_pos h3, if_pos h4]
       simp [hl]
      ·simp at h
     ·simp at h
 ·exact KindOk.loud fun v H' kd h => append_loud hq h
theorem blt_kind {b : LBuiltin} {args : List AV} {H : AHeap} : KindOk (fun H => builtinA H b args) H := by
 by_cases h1 : ∃ x, args = [x] ∧ (∀ H, builtinA H b args = lenA H b x)
 ·obtain ⟨x, rfl, h1⟩ := h1
  exact KindOk.congr h1 len_kind
 cases b with
 | append sz bytes tag z =>
  rcases args with _ | ⟨s, _ | ⟨x, _ | ⟨y, r⟩⟩⟩
  ·exact KindOk.nil rfl
  ·exact KindOk.nil (by cases s <;> rfl)
  ·exact append_kind
  ·exact KindOk.nil rfl
 | copy sz =>
  rcases args with _ | ⟨s, _ | ⟨x, _ | ⟨y, r⟩⟩⟩
  ·exact KindOk.nil rfl
  ·exact KindOk.nil (by cases s <;> rfl)
  ·refine KindOk.loud fun v H' kd h => ?_
   simp only [builtinA, copyA] at h
   split at h <;> try (simp at h; done)
   ·simp at h; exact h.2.2.symm
   ·split at h <;> try (simp at h; done)
    simp only [Option.map_eq_some_iff, Prod.mk.injEq] at h
    obtain ⟨_, _, _, _, rfl⟩ := h; rfl
  ·exact KindOk.nil rfl
 | clearSl sz z =>
  rcases args with _ | ⟨x, _ | ⟨y, r⟩⟩
  ·exact KindOk.nil rfl
  ·refine KindOk.loud fun v H' kd h => ?_
   simp only [builtinA] at h
   split at h <;> try (simp at h; done)
   ·simp at h; exact h.2.2.symm
   ·split at h
    ·simp at h; exact h.2.2.symm
    ·split at h <;> try (simp at h; done)
     simp only [Option.map_eq_some_iff, Prod.mk.injEq] at h
     obtain ⟨_, _, _, _, rfl⟩ := h; rfl
  ·exact KindOk.nil rfl
 | max =>
  rcases args with _ | ⟨x, l⟩
  ·exact KindOk.nil rfl
  ·exact KindOk.pure fun H => rfl
 | min =>
  rcases args with _ | ⟨x, l⟩
  ·exact KindOk.nil rfl
  ·exact KindOk.pure fun H => rfl
 | sliceData =>
  rcases args with _ | ⟨x, _ | ⟨y, r⟩⟩
  ·exact KindOk.nil rfl
  ·simp only [builtinA]
   cases x with
   | nilsl => exact KindOk.pure fun H => rfl
   | sl =>
    simp only
    split
    ·exact KindOk.pure fun H => rfl
    ·exact KindOk.nil rfl
   | _ => exact KindOk.nil rfl
  ·exact KindOk.nil rfl
 | string =>
  rcases args with _ | ⟨s, _ | ⟨x, _ | ⟨y, r⟩⟩⟩
  ·exact KindOk.nil rfl
  ·exact KindOk.nil (by cases s <;> rfl)
  ·refine KindOk.loud fun v H' kd h => ?_
   simp only [builtinA] at h
   split at h <;> try (simp at h; done)
   ·simp at h; exact h.2.2.symm
   ·split at h
    ·simp at h; exact h.2.2.symm
    ·split at h <;> try (simp at h; done)
     split at h <;> try (simp at h; done)
     split at h <;> try (simp at h; done)
     simp only [Option.map_eq_some_iff, Prod.mk.injEq] at h
     obtain ⟨_, _, _, _, rfl⟩ := h; rfl
  ·exact KindOk.nil rfl
 | _ =>
  rcases args with _ | ⟨x, _ | ⟨y, r⟩⟩
  ·exact KindOk.nil rfl
  ·exact absurd ⟨x, rfl, fun H => rfl⟩ h1
  ·exact KindOk.nil rfl
theorem call_kind {keep : Nat → Bool} {call : ACall} {f : Nat} {args : List AV} {H : AHeap} : KindOk (fun H => callA keep call f args H) H := by
 by_cases hl : locFreeL args = true
 ·simp only [callA, hl, if_true]
  cases hc : call false f args [] with
  | none => exact KindOk.nil rfl
  | some r =>
   obtain ⟨v, Hc⟩ := r
   simp only
   cases hf : (if keep f = true then none else freeze Hc 1000000000 v) with
   | some v' => exact KindOk.pure (r := some v') fun H => rfl
   | none => exact KindOk.alloc (g := fun n => some (v.shift n, Hc.map (·.shift n))) fun H => rfl
 ·intro v H' kd h
  simp only [callA, hl] at h
  simp only [Bool.false_eq_true, if_false, Option.map_eq_some_iff, Prod.exists, Prod.mk.injEq] at h
  obtain ⟨_, _, _, _, rfl, rfl⟩ := h; exact ⟨rfl, rfl⟩
theorem oper_kind {keep : Nat → Bool} {call : ACall} {T : Tmps} {H : AHeap} {op : LOp} : KindOk (fun H => operA keep call T H op) H := by
 cases op with
 | call c args =>
  cases c with
  | builtin b => exact blt_kind
  | fn f => exact call_kind
  | val x =>
   simp only [operA]
   cases ev T x with
   | func f a b => exact call_kind
   | yld b =>
    intro v H' kd h
    simp only [Option.map_eq_some_iff, Prod.exists, Prod.mk.injEq] at h
    obtain ⟨_, _, _, _, rfl, rfl⟩ := h; exact ⟨rfl, rfl⟩
   | _ => exact KindOk.nil rfl
  | invoke x rows =>
   simp only [operA]
   cases ev T x with
   | iface g v =>
    simp only
    split
    ·exact call_kind
    ·exact KindOk.nil rfl
   | _ => exact KindOk.nil rfl
 | _ => simp only [operA]; exact op_kind
end Go.AE
namespace Go.AE
open Go
def stepA (keep : Nat → Bool) (call : ACall) (o : LOper) (T : Tmps) (H : AHeap) : ARes :=
 match wantedA T o.guard with
 | some true => operA keep call T H o.op
 | some false => some (undefA, H, .p)
 | none => none
theorem opsA_cons {keep : Nat → Bool} {call : ACall} {o : LOper} {l : List LOper} {T : Tmps} {H : AHeap} {r : Tmps × AHeap × List Kd} (h : opsA keep call (o :: l) T H = some r) :
  ∃ v H1 k r', stepA keep call o T H = some (v, H1, k) ∧ opsA keep call l (putT T o.d v) H1 = some r' ∧ r = (r'.1, r'.2.1, k :: r'.2.2) := by
 simp only [opsA] at h
 split at h
 ·rename_i hw
  split at h <;> try (simp at h; done)
  rename_i v H1 k ho
  simp only [Option.map_eq_some_iff] at h
  obtain ⟨r', h1, rfl⟩ := h
  exact ⟨v, H1, k, r', by simp [stepA, hw, ho], h1, rfl⟩
 ·rename_i hw
  simp only [Option.map_eq_some_iff] at h
  obtain ⟨r', h1, rfl⟩ := h
  exact ⟨undefA, H, .p, r', by simp [stepA, hw], h1, rfl⟩
 ·simp at h
structure Run (keep : Nat → Bool) (call : ACall) (ops : List LOper) (T : Tmps) (H : AHeap) (T' : Tmps) (H' : AHeap) (ks : List Kd) where
 Tf : Nat → Tmps
 Hf : Nat → AHeap
 V : Nat → AV
 t0 : Tf 0 = T
 h0 : Hf 0 = H
 tn : Tf ops.length = T'
 hn : Hf ops.length = H'
 step : ∀ j o, ops[j]? = some o → ∃ k, ks[j]? = some k ∧ stepA keep call o (Tf j) (Hf j) = some (V j, Hf (j + 1), k) ∧ Tf (j + 1) = putT (Tf j) o.d (V j)
theorem run_of {keep : Nat → Bool} {call : ACall} : ∀ {ops : List LOper} {T : Tmps} {H : AHeap} {T' : Tmps} {H' : AHeap} {ks : List Kd}, opsA keep call ops T H = some (T', H', ks) → Nonempty (Run keep call ops T H T' H' ks)
 | [], T, H, T', H', ks, h => by
  simp [opsA] at h
  obtain ⟨rfl, rfl, rfl⟩ := h
  exact ⟨⟨fun _ => T, fun _ => H, fun _ => undefA, rfl, rfl, rfl, rfl, fun j o h => by simp at h⟩⟩
 | o :: l, T, H, T', H', ks, h => by
  obtain ⟨v, H1, k, ⟨T2, H2, ks2⟩, h1, h2, h3⟩ := opsA_cons h
  simp at h3
  obtain ⟨rfl, rfl, rfl⟩ := h3
  obtain ⟨R⟩ := run_of h2
  refine ⟨⟨fun j => match j with | 0 => T | j + 1 => R.Tf j, fun j => match j with | 0 => H | j + 1 => R.Hf j, fun j => match j with | 0 => v | j + 1 => R.V j, rfl, rfl, R.tn, R.hn, fun j o' hj => ?_⟩⟩
  cases j with
  | zero =>
   simp at hj; subst hj
   exact ⟨k, rfl, by simp only [R.h0]; exact h1, by simp only [R.t0]⟩
  | succ j =>
   obtain ⟨k', g1, g2, g3⟩ := R.step j o' (by simpa using hj)
   exact ⟨k', by simpa using g1, g2, g3⟩
def maskOf (acc : List Nat) (o : LOper) : Nat := o.aft.foldl (fun s e => s ||| 2 ^ e ||| acc.getD e 0) 0
theorem before_fold : ∀ (l : List LOper) (acc : List Nat), ∃ r, l.foldl (fun acc o => acc ++ [maskOf acc o]) acc = acc ++ r ∧ r.length = l.length ∧
    ∀ j o, l[j]? = some o → r[j]? = some (maskOf ((acc ++ r).take (acc.length + j)) o)
  | [], acc => ⟨[], by simp, rfl, fun j o h => by simp at h⟩
  | o :: l, acc => by
    obtain ⟨r, h1, h2, h3⟩ := before_fold l (acc ++ [maskOf acc o])
    refine ⟨maskOf acc o :: r, by simp [h1], by simp [h2], fun j o' hj => ?_⟩
    cases j with
    | zero =>
      simp at hj; subst hj
      simp
    | succ j =>
      have := h3 j o' (by simpa using hj)
      simp only [List.getElem?_cons_succ, this, List.append_assoc, List.singleton_append, List.length_append, List.length_cons, List.length_nil]
      rw [show acc.length + (0 + 1) + j = acc.length + (j + 1) by omega]
theorem before_get (ops : List LOper) {j : Nat} {o : LOper} (hj : ops[j]? = some o) (ha : ∀ e ∈ o.aft, e < j) : (beforeA ops).getD j 0 = maskOf (beforeA ops) o := by
 obtain ⟨r, h1, h2, h3⟩ := before_fold ops []
 have hb : beforeA ops = r := by simpa [beforeA, maskOf] using h1
 have := h3 j o hj
 rw [hb, List.getD_eq_getElem?_getD, this]
 simp only [Option.getD_some, List.nil_append, List.length_nil, Nat.zero_add]
 unfold maskOf
 have key : ∀ (es : List Nat) (s : Nat), (∀ e ∈ es, e < j) → es.foldl (fun s e => s ||| 2 ^ e ||| (r.take j).getD e 0) s = es.foldl (fun s e => s ||| 2 ^ e ||| r.getD e 0) s := by
  intro es
  induction es with
  | nil => intro s _; rfl
  | cons e es ih =>
   intro s h
   simp only [List.foldl_cons]
   have he : e < j := h e (by simp)
   have : (r.take j).getD e 0 = r.getD e 0 := by simp [List.getD_eq_getElem?_getD, List.getElem?_take, he]
   rw [this]
   exact ih _ fun e' h' => h e' (by simp [h'])
 exact key _ _ ha
theorem mask_test {acc : List Nat} {i : Nat} : ∀ (es : List Nat) (s : Nat), (es.foldl (fun s e => s ||| 2 ^ e ||| acc.getD e 0) s).testBit i = true → s.testBit i = true ∨ ∃ e ∈ es, e = i ∨ (acc.getD e 0).testBit i = true
 | [], s, h => .inl h
 | e :: es, s, h => by
  simp only [List.foldl_cons] at h
  rcases mask_test es _ h with h1 | ⟨e', h1, h2⟩
  ·simp only [Nat.testBit_or, Bool.or_eq_true] at h1
   rcases h1 with (h1 | h1) | h1
   ·exact .inl h1
   ·refine .inr ⟨e, by simp, .inl ?_⟩
    rw [Nat.testBit_two_pow] at h1
    simpa using h1
   ·exact .inr ⟨e, by simp, .inr h1⟩
  ·exact .inr ⟨e', by simp [h1], h2⟩
def Down (ops : List LOper) (S : Nat → Prop) : Prop := ∀ j o, ops[j]? = some o → S j → ∀ e ∈ o.aft, S e
theorem before_done {ops : List LOper} {S : Nat → Prop} (hd : Down ops S) (ha : ∀ (j : Nat) (o : LOper), ops[j]? = some o → ∀ e ∈ o.aft, e < j) {i : Nat} : ∀ {j : Nat} {o : LOper}, ops[j]? = some o → (∀ e ∈ o.aft, S e) → ((beforeA ops).getD j 0).testBit i = true → S i := by
 intro j
 induction j using Nat.strongRecOn with
 | _ j ih =>
  intro o hj hs ht
  rw [before_get ops hj (ha j o hj)] at ht
  rcases mask_test _ _ ht with h1 | ⟨e, he, h1⟩
  ·simp at h1
  ·rcases h1 with rfl | h1
   ·exact hs e he
   ·have hlt := ha j o hj e he
    have hjl : j < ops.length := by
     rcases Nat.lt_or_ge j ops.length with h2 | h2
     ·exact h2
     ·simp [List.getElem?_eq_none h2] at hj
    have he2 : ops[e]? = some (ops[e]'(by omega)) := List.getElem?_eq_getElem (by omega)
    exact ih e hlt he2 (fun e' he' => hd e _ he2 (hs e he) e' he') h1
theorem draw_pair {ops : List LOper} {ks : List Kd} (h : drawOk0 ops ks = true) : (∀ (j : Nat) (o : LOper), ops[j]? = some o → ∀ e ∈ o.aft, e < j) ∧
    ∀ i j p o, ops[i]? = some p → ops[j]? = some o → i < j → ((beforeA ops).getD j 0).testBit i = true ∨
      (kindsApart (ks.getD i .p) (ks.getD j .p) = true ∧ (∀ d, p.d = some d → d ∉ o.names) ∧ (∀ d, o.d = some d → d ∉ p.names)) := by
  unfold drawOk0 at h
  simp only [List.all_eq_true] at h
  have get : ∀ {j o}, ops[j]? = some o → (o, j) ∈ ops.zipIdx := by
    intro j o hj
    rw [List.mem_zipIdx_iff_getElem?]; exact hj
  refine ⟨fun j o hj e he => ?_, fun i j p o hi hj hij => ?_⟩
  · have := h _ (get hj)
    simp only [Bool.and_eq_true, List.all_eq_true, decide_eq_true_eq] at this
    exact this.1 e he
  · have := h _ (get hj)
    simp only [Bool.and_eq_true, List.all_eq_true, decide_eq_true_eq] at this
    have := this.2 i (by simpa using hij)
    simp only [hi, Bool.or_eq_true, Bool.and_eq_true, List.all_eq_true, Option.mem_toList, Bool.not_eq_true', List.contains_eq_mem, decide_eq_false_iff_not] at this
    rcases this with h1 | ⟨h1, h2, h3⟩
    · exact .inl h1
    · exact .inr ⟨h1, fun d hd => h2 d hd, fun d hd => h3 d hd⟩
section
variable (ops : List LOper) (T : Tmps) (V : Nat → AV)
open Classical in
noncomputable def TS (S : Nat → Prop) : Nat → Tmps
 | 0 => T
 | m + 1 => if S m then (match ops[m]? with | some o => putT (TS S m) o.d (V m) | none => TS S m) else TS S m
end
theorem putT_getD {T : Tmps} {d : Option Nat} {v : AV} {t : Nat} (h : d ≠ some t) : (putT T d v).getD t undefA = T.getD t undefA := by
 cases d with
 | none => rfl
 | some d =>
  have : d ≠ t := fun e => h (by rw [e])
  simp [putT, List.getD_eq_getElem?_getD, List.getElem?_set, this]
theorem putT_same {T T2 : Tmps} {d : Option Nat} {v : AV} {t : Nat} (hl : T.length = T2.length) (h : T.getD t undefA = T2.getD t undefA) : (putT T d v).getD t undefA = (putT T2 d v).getD t undefA := by
 cases d with
 | none => exact h
 | some d =>
  by_cases e : d = t
  ·subst e
   by_cases hd : d < T.length
   ·have hd2 : d < T2.length := by omega
    simp [putT, List.getD_eq_getElem?_getD, hd, hd2]
   ·have hd2 : ¬ d < T2.length := by omega
    simp [putT, List.getD_eq_getElem?_getD, hd, hd2]
  ·simp only [putT, List.getD_eq_getElem?_getD, List.getElem?_set, e, if_false]
   simpa [List.getD_eq_getElem?_getD] using h
theorem putT_len (T : Tmps) (d : Option Nat) (v : AV) : (putT T d v).length = T.length := by cases d <;> simp [putT]
theorem TS_len (ops : List LOper) (T : Tmps) (V : Nat → AV) (S : Nat → Prop) : ∀ m, (TS ops T V S m).length = T.length
 | 0 => rfl
 | m + 1 => by
  simp only [TS]
  split
  ·split
   ·rw [putT_len, TS_len ops T V S m]
   ·exact TS_len ops T V S m
  ·exact TS_len ops T V S m
theorem TS_agree {ops : List LOper} {T : Tmps} {V : Nat → AV} {S S' : Nat → Prop} {t : Nat} : ∀ m, (∀ i o, i < m → ops[i]? = some o → o.d = some t → (S i ↔ S' i)) → (TS ops T V S m).getD t undefA = (TS ops T V S' m).getD t undefA
 | 0, _ => rfl
 | m + 1, h => by
  have ih := TS_agree (T := T) (V := V) m (fun i o hi => h i o (by omega))
  have hl : (TS ops T V S m).length = (TS ops T V S' m).length := by rw [TS_len, TS_len]
  simp only [TS]
  cases ho : ops[m]? with
  | none => simp only [ite_self]; exact ih
  | some o =>
   simp only
   by_cases hd : o.d = some t
   ·have := h m o (by omega) ho hd
    by_cases hs : S m
    ·rw [if_pos hs, if_pos (this.1 hs)]; exact putT_same hl ih
    ·rw [if_neg hs, if_neg (fun h => hs (this.2 h))]; exact ih
   ·split <;> split
    ·exact putT_same hl ih
    ·rw [putT_getD hd]; exact ih
    ·rw [putT_getD hd]; exact ih
    ·exact ih
theorem putT_comm {T : Tmps} {d d' : Option Nat} {v v' : AV} (h : ∀ t, d = some t → d' ≠ some t) : putT (putT T d v) d' v' = putT (putT T d' v') d v := by
 cases d with
 | none => rfl
 | some d =>
  cases d' with
  | none => rfl
  | some d' =>
   have : d ≠ d' := fun e => h d rfl (by rw [e])
   simp only [putT]
   rw [List.set_comm _ _ this]
theorem TS_insert {ops : List LOper} {T : Tmps} {V : Nat → AV} {S : Nat → Prop} {j : Nat} {o : LOper} (hj : ops[j]? = some o) (hS : ¬ S j) (h : ∀ i p, j < i → S i → ops[i]? = some p → ∀ t, o.d = some t → p.d ≠ some t) :
  ∀ m, TS ops T V (fun i => i = j ∨ S i) m = if j < m then putT (TS ops T V S m) o.d (V j) else TS ops T V S m
 | 0 => by simp [TS]
 | m + 1 => by
  have ih := TS_insert (T := T) (V := V) hj hS h m
  simp only [TS]
  by_cases e : m = j
  ·subst e
   rw [if_pos (.inl rfl), if_pos (Nat.lt_succ_self m), if_neg hS, hj]
   simp only
   rw [ih, if_neg (Nat.lt_irrefl m)]
  ·by_cases hs : S m
   ·rw [if_pos (show m = j ∨ S m from .inr hs), if_pos hs]
    cases ho : ops[m]? with
    | none =>
     simp only
     rw [ih]
     by_cases hlt : j < m
     ·rw [if_pos hlt, if_pos (by omega)]
     ·rw [if_neg hlt, if_neg (by omega)]
    | some p =>
     simp only
     rw [ih]
     by_cases hlt : j < m
     ·rw [if_pos hlt, if_pos (by omega)]
      exact putT_comm fun t ht => h m p hlt hs ho t ht
     ·rw [if_neg hlt, if_neg (by omega)]
   ·rw [if_neg (show ¬ (m = j ∨ S m) from fun h => h.elim e hs), if_neg hs]
    rw [ih]
    by_cases hlt : j < m
    ·rw [if_pos hlt, if_pos (by omega)]
    ·rw [if_neg hlt, if_neg (by omega)]
theorem TS_upto {keep : Nat → Bool} {call : ACall} {ops : List LOper} {T T' : Tmps} {H H' : AHeap} {ks : List Kd} (R : Run keep call ops T H T' H' ks) {S : Nat → Prop} : ∀ m, m ≤ ops.length → (∀ i, i < m → S i) → TS ops T R.V S m = R.Tf m
 | 0, _, _ => R.t0.symm
 | m + 1, hm, h => by
  have ih := TS_upto R m (by omega) (fun i hi => h i (by omega))
  have ho : ops[m]? = some (ops[m]'(by omega)) := List.getElem?_eq_getElem (by omega)
  obtain ⟨k, _, _, h3⟩ := R.step m _ ho
  simp only [TS]
  rw [if_pos (h m (by omega)), ho]
  simp only
  rw [ih, h3]
end Go.AE
namespace Go.AE
open Go
variable {C : Ctx} {φ φ' φc : Loc} {N : Nat → Prop} {W W' : World} {T : Tmps} {a : Act} {H Hc : AHeap}
theorem lowOps_get {P : Program} {τ : Ties} {draw : Bool} {ops : Array Oper} : ∀ {l : List Oper} {l' : List LOper}, lowOps P τ draw ops l = some l' → l'.length = l.length ∧
    ∀ (j : Nat) (o : Oper), l[j]? = some o → ∃ o' : LOper, l'[j]? = some o' ∧ lowGuard ops o.guard = some o'.guard ∧ o'.d = o.dst ∧ o'.op = (lowOp P τ o.op).getD .fail ∧ (draw = true → o'.aft = (o.after.toList.filter (Region.binds .any)).map (·.on))
  | [], l', h => by simp [lowOps] at h; subst h; exact ⟨rfl, fun j o h => by simp at h⟩
  | o :: l, l', h => by
    simp only [lowOps] at h
    split at h <;> simp at h
    rename_i g r hg hr
    subst h
    obtain ⟨h1, h2⟩ := lowOps_get hr
    refine ⟨by simp [h1], fun j o' hj => ?_⟩
    cases j with
    | zero =>
      simp at hj; subst hj
      exact ⟨_, rfl, hg, rfl, rfl, fun h => by simp [h]⟩
    | succ j => exact h2 j o' (by simpa using hj)
theorem TS_none {ops : List LOper} {T : Tmps} {V : Nat → AV} {S : Nat → Prop} (h : ∀ i, ¬ S i) : ∀ m, TS ops T V S m = T
 | 0 => rfl
 | m + 1 => by simp only [TS]; rw [if_neg (h m)]; exact TS_none h m
theorem TS_stop {ops : List LOper} {T : Tmps} {V : Nat → AV} {S : Nat → Prop} {j : Nat} (h : ∀ i, j ≤ i → ¬ S i) : ∀ m, j ≤ m → TS ops T V S m = TS ops T V S j := by
 intro m hm
 induction m with
 | zero => simp at hm; subst hm; rfl
 | succ m ih =>
  by_cases e : j = m + 1
  ·rw [e]
  ·simp only [TS]
   rw [if_neg (h m (by omega))]
   exact ih (by omega)
theorem step_kind {keep : Nat → Bool} {call : ACall} {o : LOper} {T : Tmps} {H : AHeap} : KindOk (fun H => stepA keep call o T H) H := by
 unfold stepA
 cases wantedA T o.guard with
 | none => exact KindOk.nil rfl
 | some w =>
  cases w with
  | true => exact oper_kind
  | false => exact KindOk.pure (r := some undefA) fun H => rfl
def Kd.moves : Kd → Bool
 | .a _ | .w _ | .c _ _ | .l => true
 | _ => false
theorem step_heap {keep : Nat → Bool} {call : ACall} {o : LOper} {T : Tmps} {H H' : AHeap} {v : AV} {k : Kd} (h : stepA keep call o T H = some (v, H', k)) (hk : k.moves = false) : H' = H := by
 have := step_kind (keep := keep) (call := call) (o := o) (T := T) (H := H) v H' k h
 cases k with
 | p => exact this.1
 | r b => exact this.1
 | a n => simp [Kd.moves] at hk
 | w b => simp [Kd.moves] at hk
 | c _ _ => simp [Kd.moves] at hk
 | l => simp [Kd.moves] at hk
theorem step_congr {keep : Nat → Bool} {call : ACall} {o : LOper} {T T2 : Tmps} {H : AHeap} (h : ∀ t ∈ o.names, T.getD t undefA = T2.getD t undefA) : stepA keep call o T H = stepA keep call o T2 H := by
 unfold stepA
 have h1 : ∀ t ∈ o.op.tmps, T.getD t undefA = T2.getD t undefA := fun t ht => h t (by simp [LOper.names, LOper.tmps, ht])
 rw [wanted_congr (T := T) (T2 := T2) fun t ht => h t (by simp only [LOper.names, LOper.tmps, List.mem_append]; exact .inl (.inr ht)), oper_congr (keep := keep) (call := call) (H := H) h1]
section
variable {keep : Nat → Bool} {call : ACall} {ops' : List LOper} {T' : Tmps} {H' : AHeap} {ks : List Kd}
theorem flat (R : Run keep call ops' T H T' H' ks) {lo : Nat} : ∀ {hi : Nat}, lo ≤ hi → hi ≤ ops'.length → (∀ i, lo ≤ i → i < hi → (ks.getD i .p).moves = false) → R.Hf hi = R.Hf lo := by
 intro hi hle hn h
 induction hi with
 | zero => simp at hle; subst hle; rfl
 | succ hi ih =>
  by_cases e : lo = hi + 1
  ·rw [e]
  ·have ho : ops'[hi]? = some (ops'[hi]'(by omega)) := List.getElem?_eq_getElem (by omega)
   obtain ⟨k, h1, h2, _⟩ := R.step hi _ ho
   have hk := h hi (by omega) (by omega)
   rw [List.getD_eq_getElem?_getD, h1] at hk
   rw [step_heap h2 hk]
   exact ih (by omega) (by omega) fun i h1 h2 => h i h1 (by omega)
theorem flatAt (R : Run keep call ops' T H T' H' ks) {b lo : Nat} : ∀ {hi : Nat}, lo ≤ hi → hi ≤ ops'.length → (∀ i, lo ≤ i → i < hi → (ks.getD i .p).moves = false ∨ (∃ n, ks.getD i .p = .a n ∧ b < n) ∨ (∃ c, ks.getD i .p = .w c ∧ b ≠ c) ∨ ∃ H0 H1 : AHeap, ks.getD i .p = .c H0 H1 ∧ H1[b]? = H0[b]?) → (R.Hf hi)[b]? = (R.Hf lo)[b]? := by
 intro hi hle hn h
 induction hi with
 | zero => simp at hle; subst hle; rfl
 | succ hi ih =>
  by_cases e : lo = hi + 1
  ·rw [e]
  ·have ho : ops'[hi]? = some (ops'[hi]'(by omega)) := List.getElem?_eq_getElem (by omega)
   obtain ⟨k, h1, h2, _⟩ := R.step hi _ ho
   have hk := h hi (by omega) (by omega)
   rw [List.getD_eq_getElem?_getD, h1] at hk
   have ih' := ih (by omega) (by omega) fun i h1 h2 => h i h1 (by omega)
   rcases hk with hk | ⟨n, hk, hb⟩ | ⟨c, hk, hb⟩ | ⟨H0, H1, hk, hb⟩
   ·rw [step_heap h2 hk]; exact ih'
   ·simp only [Option.getD_some] at hk
    subst hk
    obtain ⟨hn', l, hl, _⟩ := step_kind (keep := keep) (call := call) (o := ops'[hi]'(by omega)) (T := R.Tf hi) (H := R.Hf hi) _ _ _ h2
    rw [hl, List.getElem?_append_left (by omega)]; exact ih'
   ·simp only [Option.getD_some] at hk
    subst hk
    have := step_kind (keep := keep) (call := call) (o := ops'[hi]'(by omega)) (T := R.Tf hi) (H := R.Hf hi) _ _ _ h2
    rw [this b hb]; exact ih'
   ·simp only [Option.getD_some] at hk
    subst hk
    obtain ⟨rfl, rfl⟩ := step_kind (keep := keep) (call := call) (o := ops'[hi]'(by omega)) (T := R.Tf hi) (H := R.Hf hi) _ _ _ h2
    rw [hb]; exact ih'
theorem apart_moves {i j : Kd} (h : kindsApart i j = true) : i.moves = false ∨ j.moves = false := by
 cases i <;> cases j <;> simp_all [kindsApart, Kd.moves]
theorem apart_read {i : Kd} {b : Nat} (h : kindsApart i (.r b) = true ∨ kindsApart (.r b) i = true) : i.moves = false ∨ (∃ n, i = .a n ∧ b < n) ∨ (∃ c, i = .w c ∧ b ≠ c) ∨ ∃ H0 H1 : AHeap, i = .c H0 H1 ∧ H1[b]? = H0[b]? := by
  cases i with
  | c H0 H1 => right; right; right; exact ⟨H0, H1, rfl, (blkSame_eq (by rcases h with h | h <;> exact h)).symm⟩
  | _ => simp_all [kindsApart, Kd.moves] <;> omega
structure Done (R : Run keep call ops' T H T' H' ks) (S : Nat → Prop) (c : Nat) : Prop where
 lt : ∀ i, S i → i < ops'.length
 down : Down ops' S
 cn : c ≤ ops'.length
 loud : ∀ i, i < ops'.length → (ks.getD i .p).moves = true → (S i ↔ i < c)
theorem Done.step (R : Run keep call ops' T H T' H' ks) (hd : drawOk0 ops' ks = true) {S : Nat → Prop} {c : Nat} (h : Done R S c) {j : Nat} {o : LOper} (hj : ops'[j]? = some o) (hS : ¬ S j) (hr : ∀ e ∈ o.aft, S e) :
    ∃ k c', ks[j]? = some k ∧ stepA keep call o (TS ops' T R.V S ops'.length) (R.Hf c) = some (R.V j, R.Hf c', k) ∧
      TS ops' T R.V (fun i => i = j ∨ S i) ops'.length = putT (TS ops' T R.V S ops'.length) o.d (R.V j) ∧ Done R (fun i => i = j ∨ S i) c' := by
  obtain ⟨ha, hp⟩ := draw_pair hd
  have hjl : j < ops'.length := by
    rcases Nat.lt_or_ge j ops'.length with h1 | h1
    · exact h1
    · simp [List.getElem?_eq_none h1] at hj
  obtain ⟨k, hk, hstep, hTf⟩ := R.step j o hj
  have hkd : ks.getD j .p = k := by rw [List.getD_eq_getElem?_getD, hk]; rfl
  have get : ∀ {i} (hi : i < ops'.length), ops'[i]? = some (ops'[i]'hi) := fun hi => List.getElem?_eq_getElem hi
  have below : ∀ {i p}, ops'[i]? = some p → i < j → S i ∨ ((∀ d, p.d = some d → d ∉ o.names) ∧ (∀ d, o.d = some d → d ∉ p.names) ∧ kindsApart (ks.getD i .p) k = true) := by
    intro i p hi hij
    rcases hp i j p o hi hj hij with h1 | ⟨h1, h2, h3⟩
    · exact .inl (before_done h.down ha hj hr h1)
    · exact .inr ⟨h2, h3, hkd ▸ h1⟩
  have above : ∀ {i p}, ops'[i]? = some p → j < i → ¬ S i ∨ ((∀ d, p.d = some d → d ∉ o.names) ∧ (∀ d, o.d = some d → d ∉ p.names) ∧ kindsApart k (ks.getD i .p) = true) := by
    intro i p hi hij
    rcases hp j i o p hj hi hij with h1 | ⟨h1, h2, h3⟩
    · exact .inl fun hs => hS (before_done h.down ha hi (fun e he => h.down i p hi hs e he) h1)
    · exact .inr ⟨h3, h2, hkd ▸ h1⟩
  -- what lies between AE's run at j and at c
  have between : ∀ i, i < ops'.length → (ks.getD i .p).moves = true → (j ≤ i ∧ i < c) ∨ (c ≤ i ∧ i < j) → kindsApart (ks.getD i .p) k = true ∨ kindsApart k (ks.getD i .p) = true := by
    intro i hi hm hb
    rcases hb with ⟨h1, h2⟩ | ⟨h1, h2⟩
    · have hs := (h.loud i hi hm).2 h2
      have hne : i ≠ j := fun e => hS (e ▸ hs)
      rcases above (get hi) (show j < i by omega) with h3 | ⟨_, _, h3⟩
      · exact absurd hs h3
      · exact .inr h3
    · have hs : ¬ S i := fun hs => by have := (h.loud i hi hm).1 hs; omega
      rcases below (get hi) h2 with h3 | ⟨_, _, h3⟩
      · exact absurd h3 hs
      · exact .inl h3
  have hslots : ∀ t ∈ o.names, (TS ops' T R.V S ops'.length).getD t undefA = (R.Tf j).getD t undefA := by
    intro t ht
    have e1 : (TS ops' T R.V S ops'.length).getD t undefA = (TS ops' T R.V (· < j) ops'.length).getD t undefA := by
      refine TS_agree _ fun i p hi hip hpd => ?_
      rcases Nat.lt_trichotomy i j with h1 | h1 | h1
      · rcases below hip h1 with h2 | ⟨h2, _⟩
        · exact ⟨fun _ => h1, fun _ => h2⟩
        · exact absurd ht (h2 t hpd)
      · subst h1; exact ⟨fun h => absurd h hS, fun h => absurd h (Nat.lt_irrefl _)⟩
      · rcases above hip h1 with h2 | ⟨h2, _⟩
        · exact ⟨fun h => absurd h h2, fun h => by omega⟩
        · exact absurd ht (h2 t hpd)
    rw [e1, TS_stop (j := j) (fun i hi h => by omega) _ (by omega), TS_upto R j (by omega) (fun i hi => hi)]
  have hTS : TS ops' T R.V (fun i => i = j ∨ S i) ops'.length = putT (TS ops' T R.V S ops'.length) o.d (R.V j) := by
    have := TS_insert (T := T) (V := R.V) hj hS (fun i p hij hs hip t ht => ?_) ops'.length
    · rw [if_pos hjl] at this; exact this
    · rcases above hip hij with h2 | ⟨_, h2, _⟩
      · exact absurd hs h2
      · intro hpt
        exact h2 t ht (by simp [LOper.names, hpt])
  have hdown : Down ops' (fun i => i = j ∨ S i) := by
    intro i p hip hi e he
    rcases hi with rfl | hi
    · rw [hj] at hip; simp at hip; subst hip
      exact .inr (hr e he)
    · exact .inr (h.down i p hip hi e he)
  have still : k.moves = false → Done R (fun i => i = j ∨ S i) c := by
    intro hl
    refine ⟨fun i hi => hi.elim (fun e => e ▸ hjl) (h.lt i), hdown, h.cn, fun i hi hli => ?_⟩
    have hne : i ≠ j := by
      rintro rfl
      rw [hkd, hl] at hli; simp at hli
    rw [← h.loud i hi hli]
    exact ⟨fun h => h.elim (fun e => absurd e hne) id, .inr⟩
  have hkind := step_kind (keep := keep) (call := call) (o := o) (T := R.Tf j) (H := R.Hf j) _ _ _ hstep
  have moved : k.moves = true → R.Hf j = R.Hf c := by
    intro hm
    have hno : ∀ i, i < ops'.length → (j ≤ i ∧ i < c) ∨ (c ≤ i ∧ i < j) → (ks.getD i .p).moves = false := by
      intro i hi hb
      cases hmi : (ks.getD i .p).moves with
      | false => rfl
      | true =>
        rcases between i hi hmi hb with h1 | h1 <;> rcases apart_moves h1 with h2 | h2 <;> simp_all
    rcases Nat.le_total j c with hjc | hjc
    · exact (flat R hjc h.cn fun i h1 h2 => hno i (by have := h.cn; omega) (.inl ⟨h1, h2⟩)).symm
    · exact flat R hjc (by omega) fun i h1 h2 => hno i (by omega) (.inr ⟨h1, h2⟩)
  have onward : k.moves = true → ∃ k c', ks[j]? = some k ∧ stepA keep call o (TS ops' T R.V S ops'.length) (R.Hf c) = some (R.V j, R.Hf c', k) ∧
      TS ops' T R.V (fun i => i = j ∨ S i) ops'.length = putT (TS ops' T R.V S ops'.length) o.d (R.V j) ∧ Done R (fun i => i = j ∨ S i) c' := by
    intro hm
    refine ⟨k, j + 1, hk, by rw [step_congr hslots, ← moved hm]; exact hstep, hTS, fun i hi => hi.elim (fun e => e ▸ hjl) (h.lt i), hdown, by omega, fun i hi hli => ?_⟩
    rcases Nat.lt_trichotomy i j with h1 | h1 | h1
    · rcases below (get hi) h1 with h2 | ⟨_, _, h2⟩
      · exact ⟨fun _ => by omega, fun _ => .inr h2⟩
      · rcases apart_moves h2 with h3 | h3 <;> simp_all
    · exact ⟨fun _ => by omega, fun _ => .inl h1⟩
    · rcases above (get hi) h1 with h2 | ⟨_, _, h2⟩
      · exact ⟨fun h => h.elim (fun e => by omega) (fun h => absurd h h2), fun h => by omega⟩
      · rcases apart_moves h2 with h3 | h3 <;> simp_all
  cases k with
  | p => exact ⟨.p, c, hk, by rw [step_congr hslots]; exact hkind.2 _, hTS, still rfl⟩
  | r b =>
    have hat : (R.Hf c)[b]? = (R.Hf j)[b]? := by
      rcases Nat.le_total j c with hjc | hjc
      · refine flatAt R hjc h.cn fun i h1 h2 => ?_
        cases hmi : (ks.getD i .p).moves with
        | false => exact .inl rfl
        | true =>
          rcases apart_read (between i (by have := h.cn; omega) hmi (.inl ⟨h1, h2⟩)) with h3 | h3
          · simp_all
          · exact .inr h3
      · refine (flatAt R hjc (by omega) fun i h1 h2 => ?_).symm
        cases hmi : (ks.getD i .p).moves with
        | false => exact .inl rfl
        | true =>
          rcases apart_read (between i (by omega) hmi (.inr ⟨h1, h2⟩)) with h3 | h3
          · simp_all
          · exact .inr h3
    exact ⟨.r b, c, hk, by rw [step_congr hslots]; exact hkind.2.2 _ hat, hTS, still rfl⟩
  | a n => exact onward rfl
  | w b => exact onward rfl
  | c _ _ => exact onward rfl
  | l => exact onward rfl
theorem Done.full (R : Run keep call ops' T H T' H' ks) {S : Nat → Prop} {c : Nat} (h : Done R S c) (hf : ∀ i, i < ops'.length → S i) : TS ops' T R.V S ops'.length = T' ∧ R.Hf c = H' := by
 refine ⟨by rw [TS_upto R _ (Nat.le_refl _) hf, R.tn], ?_⟩
 refine Eq.trans ?_ R.hn
 refine (flat R h.cn (Nat.le_refl _) fun i h1 h2 => ?_).symm
 cases hmi : (ks.getD i .p).moves with
 | false => rfl
 | true => have := (h.loud i h2 hmi).1 (hf i h2); omega
end
theorem draw_sound0 {call : ACall} {keep : Nat → Bool} (hcall : CallSound C keep call) (hm : C.P.follows .mixedOrders = true) {ro : Option Nat} {B0 : Mk} {id : Nat} {ops : Array Oper} {ops' : List LOper} (hl : lowOps C.P C.τ true ops ops.toList = some ops')
    {T1 : Tmps} {H1 : AHeap} {ks : List Kd} (ho : opsA keep call ops' T H = some (T1, H1, ks)) (hd : drawOk0 ops' ks = true) (hS : St C ro B0 φ N W a T H) {Q : Exit → Act → World → Prop}
    (hQ : ∀ φ' a' W', St C ro B0 φ' N W' a' T1 H1 → Ext φ φ' W W' → Q .normal a' W') : (Code.region id ops true).wpIn (Fn ro) 0 C.P Q a W := by
  obtain ⟨R⟩ := run_of ho
  obtain ⟨hlen, hget⟩ := lowOps_get hl
  simp only [Array.length_toList] at hlen
  obtain ⟨ha, _⟩ := draw_pair hd
  refine wpIn_region_any hm ?_
  let Sof (listed : Array Bool) : Nat → Prop := fun i => listed[i]? = some true
  have key : ∀ (fuel : Nat) (listed : Array Bool) (φ1 : Loc) (W1 : World) (a1 : Act) (c : Nat), listed.size = ops.size → listed.toList.count false = fuel → Done R (Sof listed) c →
      St C ro B0 φ1 N W1 a1 (TS ops' T R.V (Sof listed) ops'.length) (R.Hf c) → Ext φ φ1 W W1 → wpAnyIn (Fn ro) 0 C.P .any ops Q fuel listed a1 W1 := by
    intro fuel
    induction fuel with
    | zero =>
      intro listed φ1 W1 a1 c hsz hcnt hdone hst hE
      have hfull : ∀ i, i < ops.size → listed[i]? = some true := by
        intro i hi
        have hi' : i < listed.size := by omega
        rw [List.count_eq_zero] at hcnt
        rw [Array.getElem?_eq_getElem hi']
        cases hb : listed[i] with
        | true => rfl
        | false => exact absurd (by rw [← hb]; simp) hcnt
      obtain ⟨h1, h2⟩ := hdone.full R (fun i hi => hfull i (by omega))
      rw [h1, h2] at hst
      refine ⟨?_, hQ φ1 a1 W1 hst hE⟩
      unfold Region.ready
      rw [List.filter_eq_nil_iff]
      intro i hi
      have hi' : i < ops.size := by simpa using hi
      have := hfull i hi'
      have hi2 : i < listed.size := by omega
      simp [Array.getD, hi2]
      rw [Array.getElem?_eq_getElem hi2] at this
      simp at this
      simp [this]
    | succ fuel ih =>
      intro listed φ1 W1 a1 c hsz hcnt hdone hst hE
      refine ⟨fun hnil => ?_, fun j hj => ?_⟩
      · have hfull : ∀ i, i < ops.size → listed[i]? = some true := by
          intro i
          induction i using Nat.strongRecOn with
          | _ i ihi =>
            intro hi
            have hi' : i < listed.size := by omega
            rw [Array.getElem?_eq_getElem hi']
            cases hb : listed[i] with
            | true => rfl
            | false =>
              exfalso
              have hmem : i ∈ Region.ready .any ops listed := by
                unfold Region.ready
                rw [List.mem_filter]
                refine ⟨by simpa using hi, ?_⟩
                have ho : ops[i]? = some (ops[i]) := Array.getElem?_eq_getElem hi
                have hol : ops.toList[i]? = some (ops[i]) := by simpa using ho
                obtain ⟨o', g1, _, _, _, g5⟩ := hget i _ hol
                simp only [Array.getD, hi', dif_pos, Array.getInternal_eq_getElem, hb, Bool.not_false, Bool.true_and, ho, Option.map_some, Option.getD_some, Array.all_eq_true']
                intro ed hed
                simp only [Bool.or_eq_true, Bool.not_eq_true']
                by_cases hbd : Region.binds .any ed = true
                · right
                  have hin : ed.on ∈ o'.aft := by
                    rw [g5 rfl]
                    exact List.mem_map.2 ⟨ed, List.mem_filter.2 ⟨by simpa using hed, hbd⟩, rfl⟩
                  have hlt := ha i o' g1 _ hin
                  have := ihi ed.on hlt (by omega)
                  have h2 : ed.on < listed.size := by omega
                  rw [Array.getElem?_eq_getElem h2] at this
                  simp at this
                  simp [h2, this]
                · left; simpa using hbd
              rw [hnil] at hmem; simp at hmem
        obtain ⟨h1, h2⟩ := hdone.full R (fun i hi => hfull i (by omega))
        rw [h1, h2] at hst
        exact hQ φ1 a1 W1 hst hE
      · unfold Region.ready at hj
        rw [List.mem_filter] at hj
        obtain ⟨hjr, hj2⟩ := hj
        have hjn : j < ops.size := by simpa using hjr
        have hjl : j < listed.size := by omega
        have hoj : ops[j]? = some ops[j] := Array.getElem?_eq_getElem hjn
        have hol : ops.toList[j]? = some (ops[j]) := by simpa using hoj
        obtain ⟨o', g1, g2, g3, g4, g5⟩ := hget j _ hol
        simp only [Array.getD, hjl, dif_pos, Array.getInternal_eq_getElem, hoj, Option.map_some, Option.getD_some, Bool.and_eq_true, Bool.not_eq_true', Array.all_eq_true'] at hj2
        obtain ⟨hfalse, hedges⟩ := hj2
        have hnS : ¬ Sof listed j := by
          show ¬ listed[j]? = some true
          rw [Array.getElem?_eq_getElem hjl, hfalse]; simp
        have hr : ∀ ed ∈ o'.aft, Sof listed ed := by
          intro ed hed
          rw [g5 rfl] at hed
          obtain ⟨edge, h1, rfl⟩ := List.mem_map.1 hed
          obtain ⟨h2, h3⟩ := List.mem_filter.1 h1
          have := hedges edge (by simpa using h2)
          simp only [h3, Bool.not_true, Bool.false_or] at this
          show listed[edge.on]? = some true
          by_cases h4 : edge.on < listed.size
          · simp [h4] at this
            rw [Array.getElem?_eq_getElem h4, this]
          · simp [h4] at this
        obtain ⟨k, c', hk, hstep, hTS, hdone'⟩ := hdone.step R hd g1 hnS hr
        have hSof : Sof (listed.setIfInBounds j true) = fun i => i = j ∨ Sof listed i := by
          funext i
          apply propext
          show (listed.setIfInBounds j true)[i]? = some true ↔ _
          rw [Array.getElem?_setIfInBounds]
          by_cases e : j = i
          · subst e; simp [hjl]
          · rw [if_neg e]
            exact ⟨.inr, fun h => h.elim (fun h => absurd h.symm e) fun h => h⟩
        have hcnt' : (listed.setIfInBounds j true).toList.count false = fuel := by
          have h1 : listed.toList[j]'(by simpa using hjl) = false := by simpa using hfalse
          rw [Array.toList_setIfInBounds, List.count_set (by simpa using hjl)]
          simp only [h1]
          simp [hcnt]
        have next : ∀ φ2 x W2, HRel C φ2 N (R.Hf c') W2 → VRel C φ2 N W2 (R.V j) x → Ext φ1 φ2 W1 W2 → wpAnyIn (Fn ro) 0 C.P .any ops Q fuel (listed.setIfInBounds j true) (a1.put ops[j].dst x) W2 := by
          intro φ2 x W2 hH2 hv2 hE2
          have hst' := hst.put hE2 hH2 hv2 o'.d
          rw [← hTS, ← hSof] at hst'
          rw [g3] at hst'
          exact ih (listed.setIfInBounds j true) φ2 W2 _ c' (by simpa using hsz) hcnt' (hSof ▸ hdone') hst' (hE.trans hE2)
        unfold wpOpIn
        rw [hoj]
        simp only
        unfold stepA at hstep
        split at hstep
        · rename_i hw
          rw [wanted_ok g2 hst.t hw, if_pos rfl]
          cases hlo : lowOp C.P C.τ ops[j].op with
          | none => rw [g4, hlo] at hstep; simp [operA, opA] at hstep
          | some op' =>
            rw [g4, hlo] at hstep
            exact oper_wp hcall hlo hst.slots hst.h hstep ro _ _ fun φ2 x W2 h1 h2 h3 => next φ2 x W2 h1 h2 h3
        · rename_i hw
          rw [wanted_ok g2 hst.t hw]
          simp only [Bool.false_eq_true, if_false]
          simp only [Option.some.injEq, Prod.mk.injEq] at hstep
          obtain ⟨hv, hh, _⟩ := hstep
          exact ⟨fun _ _ => trivial, next φ1 undef W1 (by rw [← hh]; exact hst.h) (by rw [← hv]; exact VRel.undef) (Ext.refl φ1 W1)⟩
        · simp at hstep
  have hempty : ∀ i, ¬ Sof (Array.replicate ops.size false) i := by
    intro i
    show ¬ (Array.replicate ops.size false)[i]? = some true
    rw [Array.getElem?_replicate]
    split <;> simp
  refine key ops.size (Array.replicate ops.size false) φ (drawW W) a 0 (by simp) (by simp) ⟨fun i hi => absurd hi (hempty i), fun j o _ hj => absurd hj (hempty j), Nat.zero_le _, fun i _ _ => ⟨fun h => absurd h (hempty i), fun h => absurd h (Nat.not_lt_zero _)⟩⟩ ?_ (Ext.draw φ W)
  rw [TS_none hempty, R.h0]
  exact hS.mono (Ext.draw φ W) hS.h.draw
end Go.AE
namespace Go.AE
open Go
variable {C : Ctx} {φ φ' : Loc} {N : Nat → Prop} {W W' : World} {T : Tmps} {a : Act} {H : AHeap}
theorem VRel.born {n v0 B : Nat} {N1 : Nat → Prop} (hn : φ n v0 = none) (hN : ∀ B', N B' → N1 B') (hB : N1 B) {v : AV} {x : Value} (hv : VRel C φ N1 W v x) : VRel C (φ.add n v0 B 0) N W v x := by
 have mono : ∀ b v x, φ b v = some x → φ.add n v0 B 0 b v = some x := fun b v x h => by
  rw [Loc.add_other]
  ·exact h
  ·rintro ⟨rfl, rfl⟩; rw [hn] at h; simp at h
 have notMut : ∀ B', ¬ mutB φ B' → ¬ N1 B' → ¬ mutB (φ.add n v0 B 0) B' := by
  rintro B' h1 h2 ⟨b, v, o, hb⟩
  by_cases e : b = n ∧ v = v0
  ·obtain ⟨rfl, rfl⟩ := e
   rw [Loc.add_same] at hb; simp at hb
   obtain ⟨rfl, _⟩ := hb
   exact h2 hB
  ·rw [Loc.add_other e] at hb; exact h1 ⟨b, v, o, hb⟩
 induction hv with
 | bad x h1 => exact .bad x h1
 | bool b => exact .bool b
 | int k n => exact .int k n
 | str s => exact .str s
 | nilptr => exact .nilptr
 | ptr hb => exact .ptr (mono _ _ _ hb)
 | elt X hB' hm hN' ho hc _ ih => exact .elt X hB' (notMut _ hm hN') (fun h => hN' (hN _ h)) ho hc ih
 | nilsl => exact .nilsl
 | @lst cs n sz cap ex a X hl hcap hex ha ho hc _ ih =>
  refine .lst X hl hcap hex (fun hne => ?_) ho hc ih
  obtain ⟨h1, h2, h3, h4⟩ := ha hne
  exact ⟨h1, h2, notMut _ h3 h4, fun h => h4 (hN _ h)⟩
 | sl hb hcap hex hW hr ha => exact .sl (mono _ _ _ hb) hcap hex hW hr ha
 | nilmap => exact .nilmap
 | map hb => exact .map (mono _ _ _ hb)
 | func h1 h2 _ _ ia ic => exact .func h1 h2 ia ic
 | nilFunc => exact .nilFunc
 | iface ht _ ih => exact .iface ht ih
 | nilIface => exact .nilIface
 | agg hl ho _ ih => exact .agg hl ho ih
 | tuple hl _ ih => exact .tuple hl ih
 | yld hb => exact .yld (mono _ _ _ hb)
theorem BRel.born {n v0 B b : Nat} {k : ABlk} {N1 : Nat → Prop} (hn : φ n v0 = none) (hN : ∀ B', N B' → N1 B') (hB : N1 B) (hb : b ≠ n) (h : BRel C φ N1 W b k) : BRel C (φ.add n v0 B 0) N W b k := by
 have hφ : ∀ v, φ.add n v0 B 0 b v = φ b v := fun v => Loc.add_other fun e => hb e.1
 have mono : ∀ b v x, φ b v = some x → φ.add n v0 B 0 b v = some x := fun b v x h => by
  rw [Loc.add_other]
  ·exact h
  ·rintro ⟨rfl, rfl⟩; rw [hn] at h; simp at h
 cases k with
 | cells cs tag wv st =>
  obtain ⟨h0, h1, h2, h3⟩ := h
  refine ⟨h0, fun v x hx => ⟨(h1 v x (hφ v ▸ hx)).1, fun v' x' hx' => (h1 v x (hφ v ▸ hx)).2 v' x' (hφ v' ▸ hx')⟩, by rw [hφ]; exact h2, fun hst v B' O hv hwv => ?_⟩
  rw [hφ] at hv
  obtain ⟨Cs, e, fz, g1, g2, g3, g4, g5, g6, g7⟩ := h3 hst v B' O hv hwv
  exact ⟨Cs, e, fz, g1, g2, g3, g4, fun i hi => (g5 i hi).born hn hN hB, g6, g7⟩
 | map es =>
  obtain ⟨B', M, clock, g1, g2, g3, g4⟩ := h
  exact ⟨B', M, clock, by rw [hφ]; exact g1, g2, g3, fun i hi => ⟨(g4 i hi).1.born hn hN hB, (g4 i hi).2.born hn hN hB⟩⟩
 | iter s pos =>
  obtain ⟨B', g1, g2⟩ := h
  exact ⟨B', by rw [hφ]; exact g1, g2⟩
 | miter m =>
  obtain ⟨B', M, since, clk, g1, g2, g3⟩ := h
  exact ⟨B', M, since, clk, by rw [hφ]; exact g1, mono _ _ _ g2, g3⟩
 | loop st pd T ps as bd =>
  obtain ⟨B', r, g1, g2, g3, g4, g5, g6⟩ := h
  exact ⟨B', r, by rw [hφ]; exact g1, g2, g3, g4, ⟨g5.1, fun i hi => (g5.2 i hi).born hn hN hB⟩, g6⟩
structure Unborn (C : Ctx) (N : Nat → Prop) (φ : Loc) (W : World) (a : Act) (d B : Nat) (z : AV) (t : TypeId) : Prop where
 size : B < W.heap.size
 notMut : ¬ mutB φ B
 notN : ¬ N B
 cell : ∃ X : Value, W.heap[B]? = some (.cells X.cells t (0, 0)) ∧ constA X = some z
 tmp : d < a.tmps.size → a.tmps[d]? = some (.pointer (some ⟨B, 0, none⟩))
def with1 (N : Nat → Prop) (B : Nat) : Nat → Prop := fun B' => N B' ∨ B' = B
theorem St.born {ro : Option Nat} {B0 : Mk} {d B : Nat} {z : AV} {t : TypeId} (h : St C ro B0 φ (with1 N B) W a (T.set d .bad) H) (u : Unborn C N φ W a d B z t) (hz : 0 < z.cells.length) :
  St C ro B0 (φ.add H.length z.cells.length B 0) N W a (T.set d (.ptr H.length 0 z.cells.length)) (H ++ [.cells z.cells (tagA C.P t) z.cells.length 0]) := by
 obtain ⟨X, hX, hc⟩ := u.cell
 have hnone : ∀ v, φ H.length v = none := fun v => h.h.noLoc (Nat.le_refl _)
 have hN : ∀ B', N B' → with1 N B B' := fun _ h => .inl h
 have hB : with1 N B B := .inr rfl
 have old : ∀ {b' v' x}, ¬ (b' = H.length ∧ v' = z.cells.length) → φ.add H.length z.cells.length B 0 b' v' = some x → φ b' v' = some x := by
  intro b' v' x hne hx; rwa [Loc.add_other hne] at hx
 have ne : ∀ b' v' x, φ b' v' = some x → x.1 ≠ B := fun b' v' x hx e => u.notMut ⟨b', v', x.2, by rw [hx, ← e]⟩
 have hal : ∀ c, c < H.length → aliveAt (H ++ [.cells z.cells (tagA C.P t) z.cells.length 0]) c → aliveAt H c := by
  intro c hc ha
  simpa [aliveAt, List.getElem?_append_left hc] using ha
 obtain ⟨z1, z2⟩ := (constA_ok (C := C) (φ := φ.add H.length z.cells.length B 0) (N := N) (W := W) X z hc).1.cellsOk hz
 have hT := h.t
 refine ⟨⟨by have := hT.1; simpa using this, fun i hi => ?_⟩, ⟨fun b' k' hb' => ?_, fun b' v' x hx => ?_, fun b1 v1 b2 v2 x1 x2 h1 h2 hne a1 a2 => ?_, fun B' hB' hNB => ?_, fun B' hB' => h.h.nS B' (hN _ hB'), fun g v hg => (h.h.gl g v hg).born (hnone _) hN hB⟩, ?_, h.r, h.b⟩
 ·have hi' : i < T.length := by simpa using hi
  by_cases e : i = d
  ·subst e
   have e1 : (T.set i (.ptr H.length 0 z.cells.length)).getD i .bad = .ptr H.length 0 z.cells.length := by simp [List.getD_eq_getElem?_getD, hi']
   have e2 : a.tmps.toList.getD i undef = .pointer (some ⟨B, 0, none⟩) := by
    have := u.tmp (by have := hT.1; simp at this; omega)
    rw [List.getD_eq_getElem?_getD, Array.getElem?_toList, this]; rfl
   rw [e1, e2]
   exact .ptr (O := 0) (by rw [Loc.add_same])
  ·have h2 := hT.2 i (by simpa using hi')
   have e1 : (T.set d (.ptr H.length 0 z.cells.length)).getD i .bad = (T.set d .bad).getD i .bad := by simp [List.getD_eq_getElem?_getD, List.getElem?_set, Ne.symm e]
   rw [e1]
   exact h2.born (hnone _) hN hB
 ·by_cases e : b' < H.length
  ·rw [List.getElem?_append_left e] at hb'
   exact (h.h.blk b' k' hb').born (hnone _) hN hB (by omega)
  ·have : b' = H.length := by
    rcases Nat.lt_or_ge b' (H.length + 1) with h1 | h1
    ·omega
    ·rw [List.getElem?_eq_none (by simp; omega)] at hb'; simp at hb'
   subst this
   simp at hb'; subst hb'
   have hloc : ∀ v x, φ.add H.length z.cells.length B 0 H.length v = some x → v = z.cells.length ∧ x = (B, 0) := by
    intro v x hx
    by_cases e : v = z.cells.length
    ·subst e; rw [Loc.add_same] at hx; simp at hx; exact ⟨rfl, hx.symm⟩
    ·rw [Loc.add_other (by omega), hnone] at hx; simp at hx
   refine ⟨Nat.le_refl _, fun v x hx => ⟨by have := (hloc v x hx).1; omega, fun v' x' hx' _ => by rw [(hloc v x hx).2, (hloc v' x' hx').2]⟩, ⟨_, Loc.add_same ..⟩, fun _ v B' O hx _ => ?_⟩
   obtain ⟨rfl, hx2⟩ := hloc v _ hx
   simp at hx2
   obtain ⟨rfl, rfl⟩ := hx2
   have hl := z2.1
   simp at hl
   refine ⟨_, t, (0, 0), hX, by omega, fun _ => rfl, rfl, fun i hi => ?_, z1, fun _ _ => .inl (Nat.le_refl _)⟩
   have := z2.2 i hi
   have e2 : X.cells.getD (0 + i) undef = X.cells.toList.getD i undef := by
    rw [Nat.zero_add, List.getD_eq_getElem?_getD, Array.getElem?_toList]
    simp [Array.getD_eq_getD_getElem?]
   rw [e2]; exact this
 ·by_cases e : b' = H.length ∧ v' = z.cells.length
  ·obtain ⟨rfl, rfl⟩ := e
   rw [Loc.add_same] at hx; simp at hx; subst hx
   simp [u.size]
  ·have := h.h.dom b' v' x (old e hx)
   simp; omega
 ·by_cases e1 : b1 = H.length ∧ v1 = z.cells.length
  ·obtain ⟨rfl, rfl⟩ := e1
   rw [Loc.add_same] at h1; simp at h1; subst h1
   exact fun e => ne b2 v2 x2 (old (fun h => hne h.1.symm) h2) e.symm
  ·by_cases e2 : b2 = H.length ∧ v2 = z.cells.length
   ·obtain ⟨rfl, rfl⟩ := e2
    rw [Loc.add_same] at h2; simp at h2; subst h2
    exact ne b1 v1 x1 (old e1 h1)
   ·exact h.h.inj b1 v1 b2 v2 x1 x2 (old e1 h1) (old e2 h2) hne (hal _ (h.h.dom _ _ _ (old e1 h1)).1 a1) (hal _ (h.h.dom _ _ _ (old e2 h2)).1 a2)
 ·obtain ⟨b', v', o', hx⟩ := hB'
  by_cases e : b' = H.length ∧ v' = z.cells.length
  ·obtain ⟨rfl, rfl⟩ := e
   rw [Loc.add_same] at hx; simp at hx
   exact u.notN (hx.1 ▸ hNB)
  ·exact h.h.nN B' ⟨b', v', o', old e hx⟩ (hN _ hNB)
 ·have hd0 := h.d
  cases B0 with
  | no D => exact hd0
  | «from» b =>
   refine ⟨fun dd hdd => ?_, hd0.nd⟩
   obtain ⟨r, h1, h2, h3, h4, h5⟩ := hd0.ok dd hdd
   refine ⟨r, h1, h2, h3, ?_, h5⟩
   rintro ⟨b', v', o', hx⟩
   by_cases e : b' = H.length ∧ v' = z.cells.length
   ·obtain ⟨rfl, rfl⟩ := e
    rw [Loc.add_same] at hx; simp at hx
    rw [← hx.1, hX] at h5; simp at h5
   ·exact h4 ⟨b', v', o', old e hx⟩
theorem Ext.born {W0 : World} {n v0 B : Nat} (h : Ext φ φ' W0 W) (hn : φ' n v0 = none) (hB : W0.heap.size ≤ B) : Ext φ (φ'.add n v0 B 0) W0 W :=
 ⟨h.size, fun b v x hx => by
  have := h.mono b v x hx
  rw [Loc.add_other]
  ·exact this
  ·rintro ⟨rfl, rfl⟩; rw [hn] at this; simp at this, fun b v x hx => by
  by_cases e : b = n ∧ v = v0
  ·obtain ⟨rfl, rfl⟩ := e
   rw [Loc.add_same] at hx; simp at hx; subst hx; exact .inr (.inl hB)
  ·rw [Loc.add_other e] at hx; exact h.fresh b v x hx, h.keep, h.shape, h.loops, h.os, h.output⟩
theorem VRel.hide {B : Nat} (hE : Ext φ φ W W') (hB : W.heap.size ≤ B) {v : AV} {x : Value} (hv : VRel C φ N W v x) : VRel C φ (with1 N B) W' v x := by
  induction hv with
  | bad x h1 => exact .bad x h1
  | bool b => exact .bool b
  | int k n => exact .int k n
  | str s => exact .str s
  | nilptr => exact .nilptr
  | ptr hb => exact .ptr hb
  | elt X hB' hm hN ho hc _ ih => exact .elt X (Nat.lt_of_lt_of_le hB' hE.size) hm (fun h => h.elim hN (by omega)) ho (fun i hi => by rw [hE.cell hB' hm]; exact hc i hi) ih
  | nilsl => exact .nilsl
  | @lst cs n sz cap ex a X hl hcap hex ha ho hc _ ih =>
    refine .lst X hl hcap hex (fun hne => ?_) ho (fun i hi => ?_) ih
    · obtain ⟨h1, h2, h3, h4⟩ := ha hne
      exact ⟨h1, Nat.lt_of_lt_of_le h2 hE.size, h3, fun h => h.elim h4 (by omega)⟩
    · have hne : cs ≠ [] := by intro e; subst e; simp at hi
      obtain ⟨h1, h2, h3, h4⟩ := ha hne
      rw [hE.cell h2 h3]; exact hc i hi
  | sl hb hcap hex hW hr ha =>
    obtain ⟨C', f', h1, h2⟩ := hE.shape _ _ _ _ hW
    exact .sl hb hcap hex h1 (by rw [h2]; exact hr) ha
  | nilmap => exact .nilmap
  | map hb => exact .map hb
  | func h1 h2 _ _ ia ic => exact .func h1 h2 ia ic
  | nilFunc => exact .nilFunc
  | iface ht _ ih => exact .iface ht ih
  | nilIface => exact .nilIface
  | agg hl ho _ ih => exact .agg hl ho ih
  | tuple hl _ ih => exact .tuple hl ih
  | yld hb => exact .yld hb
theorem BRel.hide {B b : Nat} {k : ABlk} (hE : Ext φ φ W W') (hB : W.heap.size ≤ B) (h : BRel C φ N W b k) (hk : ∀ v x, φ b v = some x → W'.heap[x.1]? = W.heap[x.1]?) : BRel C φ (with1 N B) W' b k := by
 cases k with
 | cells cs tag wv st =>
  obtain ⟨h0, h1, h2, h3⟩ := h
  refine ⟨h0, h1, h2, fun hst v B' O hv hwv => ?_⟩
  obtain ⟨Cs, e, fz, g1, g2, g3, g4, g5, g6, g7⟩ := h3 hst v B' O hv hwv
  exact ⟨Cs, e, fz, by rw [hk v _ hv]; exact g1, g2, g3, g4, fun i hi => (g5 i hi).hide hE hB, g6, g7⟩
 | map es =>
  obtain ⟨B', M, clock, g1, g2, g3, g4⟩ := h
  exact ⟨B', M, clock, g1, by rw [hk 0 _ g1]; exact g2, g3, fun i hi => ⟨(g4 i hi).1.hide hE hB, (g4 i hi).2.hide hE hB⟩⟩
 | iter s pos =>
  obtain ⟨B', g1, g2⟩ := h
  exact ⟨B', g1, by rw [hk 0 _ g1]; exact g2⟩
 | miter m =>
  obtain ⟨B', M, since, clk, g1, g2, g3⟩ := h
  exact ⟨B', M, since, clk, g1, g2, by rw [hk 0 _ g1]; exact g3⟩
 | loop st pd T ps as bd =>
  obtain ⟨B', r, g1, g2, g3, g4, g5, g6⟩ := h
  exact ⟨B', r, g1, by rw [hk 0 _ g1]; exact g2, g3, g4, ⟨g5.1, fun i hi => (g5.2 i hi).hide hE hB⟩, g6⟩
theorem St.hide {ro : Option Nat} {B0 : Mk} (h : St C ro B0 φ N W a T H) (o : Obj) : St C ro B0 φ (with1 N W.heap.size) (pushBlk W o) a T H := by
 have hE := Ext.push0 φ W o
 have hB := Nat.le_refl W.heap.size
 refine ⟨⟨h.t.1, fun i hi => (h.t.2 i hi).hide hE hB⟩, ⟨fun b k hb => (h.h.blk b k hb).hide hE hB fun v x hx => pushBlk_old (h.h.dom b v x hx).2, fun b v x hx => ⟨(h.h.dom b v x hx).1, Nat.lt_of_lt_of_le (h.h.dom b v x hx).2 hE.size⟩, h.h.inj, fun B' hB' hN => ?_, fun B' hN => ?_, fun g v hg => (h.h.gl g v hg).hide hE hB⟩, h.d.mono hE, fun l hl => by obtain ⟨r, hr⟩ := h.r l hl; exact hE.loops l r hr, fun b0 hb => Nat.le_trans (h.b b0 hb) hE.size⟩
 ·rcases hN with hN | rfl
  ·exact h.h.nN B' hB' hN
  ·obtain ⟨b, v, o', hx⟩ := hB'
   exact absurd (h.h.dom _ _ _ hx).2 (Nat.lt_irrefl _)
 ·rcases hN with hN | rfl
  ·exact Nat.lt_of_lt_of_le (h.h.nS B' hN) hE.size
  ·rw [pushBlk_size]; omega
theorem alloc_run {o : Oper} {t : TypeId} {z : AV} (ho : o.op = .alloc t) (hz : zeroA C.P t = some z) (W : World) (a : Act) : ∃ X, constA X = some z ∧ (execOp a.eval o).run C.P W = .ok (.value (.pointer (some ⟨W.heap.size, 0, none⟩))) (pushBlk W (.cells X.cells t)) := by
 obtain ⟨x, h1, h2⟩ := r_zero hz W
 have h3 : (newVar t x).run C.P W = .ok ⟨W.heap.size, 0, none⟩ (pushBlk W (.cells x.cells t)) := by simp [newVar, newRow, pushBlk]
 exact ⟨x, h2, by simp [execOp, ho, Instr.alloc, h1, h3]⟩
theorem op_run {call : ACall} {keep : Nat → Bool} (hcall : CallSound C keep call) {ops : Array Oper} {m : Nat} {o : Oper} {o' : LOper} (hoj : ops[m]? = some o) (g2 : lowGuard ops o.guard = some o'.guard) (g4 : o'.op = (lowOp C.P C.τ o.op).getD .fail)
    {ro : Option Nat} {B0 : Mk} (hst : St C ro B0 φ N W a T H) {v : AV} {H' : AHeap} {k : Kd} (hstep : stepA keep call o' T H = some (v, H', k)) {Q : Exit → Act → World → Prop} {K : Act → World → Prop}
    (next : ∀ φ2 x W2, HRel C φ2 N H' W2 → VRel C φ2 N W2 v x → Ext φ φ2 W W2 → K (a.put o.dst x) W2) : wpOpIn (Fn ro) 0 C.P ops Q m K a W := by
  unfold wpOpIn
  rw [hoj]
  simp only
  unfold stepA at hstep
  split at hstep
  · rename_i hw
    rw [wanted_ok g2 hst.t hw, if_pos rfl]
    cases hlo : lowOp C.P C.τ o.op with
    | none => rw [g4, hlo] at hstep; simp [operA, opA] at hstep
    | some op' =>
      rw [g4, hlo] at hstep
      exact oper_wp hcall hlo hst.slots hst.h hstep ro _ _ fun φ2 x W2 h1 h2 h3 => next φ2 x W2 h1 h2 h3
  · rename_i hw
    rw [wanted_ok g2 hst.t hw]
    simp only [Bool.false_eq_true, if_false]
    simp only [Option.some.injEq, Prod.mk.injEq] at hstep
    obtain ⟨hv, hh, _⟩ := hstep
    exact ⟨fun _ _ => trivial, next φ undef W (by rw [← hh]; exact hst.h) (by rw [← hv]; exact VRel.undef) (Ext.refl φ W)⟩
  · simp at hstep
theorem low_alloc {P : Program} {τ : Ties} {op : Op} {zs : List AV} {tag : Nat} (h : lowOp P τ op = some (.alloc zs tag)) : ∃ t z, op = .alloc t ∧ zeroA P t = some z ∧ zs = z.cells ∧ tag = tagA P t := by
 cases op with
 | alloc t =>
  simp only [lowOp, Option.map_eq_some_iff] at h
  obtain ⟨z, h1, h2⟩ := h
  simp at h2
  exact ⟨t, z, rfl, h1, h2.1.symm, h2.2.symm⟩
 | _ =>
  exfalso
  simp only [lowOp] at h
  repeat' first
   | (simp at h; done)
   | split at h
   | (simp only [Option.map_eq_some_iff] at h; obtain ⟨_, _, h⟩ := h; simp at h; done)
   | (simp_all; done)
theorem late_is {ops : List LOper} {ks : List Kd} {i j : Nat} (h : lateOk ops ks i j = true) : ∃ o zs tag d, i < j ∧ ops[j]? = some o ∧ o.op = .alloc zs tag ∧ o.guard = none ∧ o.d = some d ∧ drawOk0 (ops.set j { o with aft := i :: o.aft }) ks = true ∧
  ∀ m p, ops[m]? = some p → m ≠ j → p.d ≠ some d ∧ (d ∈ p.names → j ∈ p.aft) ∧ (j ∈ p.aft → i ∈ p.aft) := by
 unfold lateOk at h
 rw [Bool.and_eq_true] at h
 obtain ⟨h0, h⟩ := h
 split at h
 ·rename_i o ho
  split at h
  ·rename_i zs tag d h1 h2 h3
   rw [Bool.and_eq_true] at h
   refine ⟨o, zs, tag, d, by simpa using h0, ho, h1, h2, h3, h.1, fun m p hm hne => ?_⟩
   have := List.all_eq_true.1 h.2 (p, m) (by rw [List.mem_zipIdx_iff_getElem?]; exact hm)
   simp only [Bool.or_eq_true, beq_iff_eq, hne, false_or, Bool.and_eq_true, bne_iff_ne, ne_eq, Bool.not_eq_true', List.contains_eq_mem, decide_eq_false_iff_not, decide_eq_true_eq] at this
   obtain ⟨⟨g1, g2⟩, g3⟩ := this
   exact ⟨g1, fun hd => g2.elim (fun h => absurd hd h) id, fun hj => g3.elim (fun h => absurd hj h) id⟩
  ·simp at h
 ·simp at h
theorem set_getD {T : Tmps} {d t : Nat} {v : AV} (h : d ≠ t) : (T.set d v).getD t undefA = T.getD t undefA := by
 simp [List.getD_eq_getElem?_getD, List.getElem?_set, h]
theorem putT_set {T : Tmps} {d : Nat} {e : Option Nat} {v w : AV} (h : e ≠ some d) : putT (T.set d w) e v = (putT T e v).set d w := by
  cases e with
  | none => rfl
  | some e => exact List.set_comm _ _ (fun h' => h (by rw [h']))
theorem late_sound {call : ACall} {keep : Nat → Bool} (hcall : CallSound C keep call) (hm : C.P.follows .mixedOrders = true) {ro : Option Nat} {B0 : Mk} {id : Nat} {ops : Array Oper} {ops' : List LOper} (hl : lowOps C.P C.τ true ops ops.toList = some ops')
    {T1 : Tmps} {H1 : AHeap} {ks : List Kd} (ho : opsA keep call ops' T H = some (T1, H1, ks)) {i j : Nat} (hlate : lateOk ops' ks i j = true) (hS : St C ro B0 φ N W a T H) {Q : Exit → Act → World → Prop}
    (hQ : ∀ φ' a' W', St C ro B0 φ' N W' a' T1 H1 → Ext φ φ' W W' → Q .normal a' W') : (Code.region id ops true).wpIn (Fn ro) 0 C.P Q a W := by
  obtain ⟨R0⟩ := run_of ho
  obtain ⟨hlen, hget⟩ := lowOps_get hl
  simp only [Array.length_toList] at hlen
  obtain ⟨oj, zs, tag, d, hij, hoj, hop, hgd, hdd, hd, hall⟩ := late_is hlate
  have hjL : j < ops'.length := by
    rcases Nat.lt_or_ge j ops'.length with h1 | h1
    · exact h1
    · simp [List.getElem?_eq_none h1] at hoj
  have hiL : i < ops'.length := by omega
  have hne : i ≠ j := by omega
  have gj : (ops'.set j { oj with aft := i :: oj.aft })[j]? = some { oj with aft := i :: oj.aft } := by simp [hjL]
  have gm : ∀ {m}, m ≠ j → (ops'.set j { oj with aft := i :: oj.aft })[m]? = ops'[m]? := fun h => by simp [List.getElem?_set, Ne.symm h]
  have hL : (ops'.set j { oj with aft := i :: oj.aft }).length = ops'.length := by simp
  have R : Run keep call (ops'.set j { oj with aft := i :: oj.aft }) T H T1 H1 ks := by
    refine { Tf := R0.Tf, Hf := R0.Hf, V := R0.V, t0 := R0.t0, h0 := R0.h0, tn := by rw [hL]; exact R0.tn, hn := by rw [hL]; exact R0.hn, step := fun m o hm => ?_ }
    by_cases e : m = j
    · subst e
      rw [gj] at hm
      simp at hm
      subst hm
      exact R0.step m oj hoj
    · rw [gm e] at hm
      exact R0.step m o hm
  clear R0
  generalize hops2 : ops'.set j { oj with aft := i :: oj.aft } = ops2 at *
  obtain ⟨ha, _⟩ := draw_pair hd
  have ha' : ∀ (m : Nat) (o : LOper), ops'[m]? = some o → ∀ e ∈ o.aft, e < m := by
    intro m o hmo e he
    by_cases e1 : m = j
    · subst e1
      rw [hoj] at hmo
      simp at hmo
      subst hmo
      exact ha m _ gj e (by simp [he])
    · exact ha m o (by rw [gm e1]; exact hmo) e he
  refine wpIn_region_any hm ?_
  let Sof (listed : Array Bool) : Nat → Prop := fun i => listed[i]? = some true
  have key : ∀ (fuel : Nat) (listed : Array Bool) (φ1 : Loc) (W1 : World) (a1 : Act), listed.size = ops.size → listed.toList.count false = fuel → Ext φ φ1 W W1 →
      ((∃ c, (Sof listed j → Sof listed i) ∧ Done R (Sof listed) c ∧ St C ro B0 φ1 N W1 a1 (TS ops2 T R.V (Sof listed) ops2.length) (R.Hf c)) ∨
       (∃ c B z t, Sof listed j ∧ ¬ Sof listed i ∧ (∀ e ∈ oj.aft, Sof listed e) ∧ Done R (fun m => Sof listed m ∧ m ≠ j) c ∧ St C ro B0 φ1 (with1 N B) W1 a1 ((TS ops2 T R.V (fun m => Sof listed m ∧ m ≠ j) ops2.length).set d .bad) (R.Hf c) ∧
          Unborn C N φ1 W1 a1 d B z t ∧ W.heap.size ≤ B ∧ zs = z.cells ∧ tag = tagA C.P t)) → wpAnyIn (Fn ro) 0 C.P .any ops Q fuel listed a1 W1 := by
    intro fuel
    have full : ∀ (listed : Array Bool) (φ1 : Loc) (W1 : World) (a1 : Act), Ext φ φ1 W W1 → (∀ i, i < ops.size → listed[i]? = some true) →
      ((∃ c, (Sof listed j → Sof listed i) ∧ Done R (Sof listed) c ∧ St C ro B0 φ1 N W1 a1 (TS ops2 T R.V (Sof listed) ops2.length) (R.Hf c)) ∨
       (∃ c B z t, Sof listed j ∧ ¬ Sof listed i ∧ (∀ e ∈ oj.aft, Sof listed e) ∧ Done R (fun m => Sof listed m ∧ m ≠ j) c ∧ St C ro B0 φ1 (with1 N B) W1 a1 ((TS ops2 T R.V (fun m => Sof listed m ∧ m ≠ j) ops2.length).set d .bad) (R.Hf c) ∧
          Unborn C N φ1 W1 a1 d B z t ∧ W.heap.size ≤ B ∧ zs = z.cells ∧ tag = tagA C.P t)) → Q .normal a1 W1 := by
      intro listed φ1 W1 a1 hE hfull hinv
      rcases hinv with ⟨c, _, hdone, hst⟩ | ⟨c, B, z, t, _, hni, _⟩
      · obtain ⟨h1, h2⟩ := hdone.full R (fun i hi => hfull i (by omega))
        rw [h1, h2] at hst
        exact hQ φ1 a1 W1 hst hE
      · exact absurd (hfull i (by omega)) hni
    induction fuel with
    | zero =>
      intro listed φ1 W1 a1 hsz hcnt hE hinv
      have hfull : ∀ i, i < ops.size → listed[i]? = some true := by
        intro i hi
        have hi' : i < listed.size := by omega
        rw [List.count_eq_zero] at hcnt
        rw [Array.getElem?_eq_getElem hi']
        cases hb : listed[i] with
        | true => rfl
        | false => exact absurd (by rw [← hb]; simp) hcnt
      refine ⟨?_, full listed φ1 W1 a1 hE hfull hinv⟩
      unfold Region.ready
      rw [List.filter_eq_nil_iff]
      intro i hi
      have hi' : i < ops.size := by simpa using hi
      have := hfull i hi'
      have hi2 : i < listed.size := by omega
      simp [Array.getD, hi2]
      rw [Array.getElem?_eq_getElem hi2] at this
      simp at this
      simp [this]
    | succ fuel ih =>
      intro listed φ1 W1 a1 hsz hcnt hE hinv
      refine ⟨fun hnil => ?_, fun m hj => ?_⟩
      · have hfull : ∀ i, i < ops.size → listed[i]? = some true := by
          intro i
          induction i using Nat.strongRecOn with
          | _ i ihi =>
            intro hi
            have hi' : i < listed.size := by omega
            rw [Array.getElem?_eq_getElem hi']
            cases hb : listed[i] with
            | true => rfl
            | false =>
              exfalso
              have hmem : i ∈ Region.ready .any ops listed := by
                unfold Region.ready
                rw [List.mem_filter]
                refine ⟨by simpa using hi, ?_⟩
                have ho : ops[i]? = some (ops[i]) := Array.getElem?_eq_getElem hi
                have hol : ops.toList[i]? = some (ops[i]) := by simpa using ho
                obtain ⟨o', g1, _, _, _, g5⟩ := hget i _ hol
                simp only [Array.getD, hi', dif_pos, Array.getInternal_eq_getElem, hb, Bool.not_false, Bool.true_and, ho, Option.map_some, Option.getD_some, Array.all_eq_true']
                intro ed hed
                simp only [Bool.or_eq_true, Bool.not_eq_true']
                by_cases hbd : Region.binds .any ed = true
                · right
                  have hin : ed.on ∈ o'.aft := by
                    rw [g5 rfl]
                    exact List.mem_map.2 ⟨ed, List.mem_filter.2 ⟨by simpa using hed, hbd⟩, rfl⟩
                  have hlt := ha' i o' g1 _ hin
                  have := ihi ed.on hlt (by omega)
                  have h2 : ed.on < listed.size := by omega
                  rw [Array.getElem?_eq_getElem h2] at this
                  simp at this
                  simp [h2, this]
                · left; simpa using hbd
              rw [hnil] at hmem; simp at hmem
        exact full listed φ1 W1 a1 hE hfull hinv
      · unfold Region.ready at hj
        rw [List.mem_filter] at hj
        obtain ⟨hjr, hj2⟩ := hj
        have hjn : m < ops.size := by simpa using hjr
        have hjl : m < listed.size := by omega
        have hom : ops[m]? = some ops[m] := Array.getElem?_eq_getElem hjn
        have hol : ops.toList[m]? = some (ops[m]) := by simpa using hom
        obtain ⟨o', g1, g2, g3, g4, g5⟩ := hget m _ hol
        simp only [Array.getD, hjl, dif_pos, Array.getInternal_eq_getElem, hom, Option.map_some, Option.getD_some, Bool.and_eq_true, Bool.not_eq_true', Array.all_eq_true'] at hj2
        obtain ⟨hfalse, hedges⟩ := hj2
        have hnS : ¬ Sof listed m := by
          show ¬ listed[m]? = some true
          rw [Array.getElem?_eq_getElem hjl, hfalse]; simp
        have hr : ∀ ed ∈ o'.aft, Sof listed ed := by
          intro ed hed
          rw [g5 rfl] at hed
          obtain ⟨edge, h1, rfl⟩ := List.mem_map.1 hed
          obtain ⟨h2, h3⟩ := List.mem_filter.1 h1
          have := hedges edge (by simpa using h2)
          simp only [h3, Bool.not_true, Bool.false_or] at this
          show listed[edge.on]? = some true
          by_cases h4 : edge.on < listed.size
          · simp [h4] at this
            rw [Array.getElem?_eq_getElem h4, this]
          · simp [h4] at this
        have hSof : Sof (listed.setIfInBounds m true) = fun i => i = m ∨ Sof listed i := by
          funext i
          apply propext
          show (listed.setIfInBounds m true)[i]? = some true ↔ _
          rw [Array.getElem?_setIfInBounds]
          by_cases e : m = i
          · subst e; simp [hjl]
          · rw [if_neg e]
            exact ⟨.inr, fun h => h.elim (fun h => absurd h.symm e) fun h => h⟩
        have hcnt' : (listed.setIfInBounds m true).toList.count false = fuel := by
          have h1 : listed.toList[m]'(by simpa using hjl) = false := by simpa using hfalse
          rw [Array.toList_setIfInBounds, List.count_set (by simpa using hjl)]
          simp only [h1]
          simp [hcnt]
        have hsz' : (listed.setIfInBounds m true).size = ops.size := by simpa using hsz
        rcases hinv with ⟨c, himp, hdone, hst⟩ | ⟨c, B, z, t, hSj, hnSi, hoja, hdone, hst, hu, hWB, hzs, htg⟩
        · by_cases hc : m = j ∧ ¬ Sof listed i
          · obtain ⟨rfl, hni⟩ := hc
            rw [hoj] at g1
            simp at g1
            subst g1
            -- the variable, ahead of the call
            have hal : ∃ t z, ops[m].op = .alloc t ∧ zeroA C.P t = some z ∧ zs = z.cells ∧ tag = tagA C.P t := by
              rw [hop] at g4
              cases hlo : lowOp C.P C.τ ops[m].op with
              | none => rw [hlo] at g4; simp at g4
              | some op' =>
                rw [hlo] at g4
                simp only [Option.getD_some] at g4
                subst g4
                exact low_alloc hlo
            obtain ⟨t, z, h1, h2, h3, h4⟩ := hal
            obtain ⟨X, hX, hrun⟩ := alloc_run h1 h2 W1 a1
            unfold wpOpIn
            rw [hom]
            simp only
            rw [wanted_ok (b := true) g2 hst.t (by rw [hgd]; rfl), if_pos rfl]
            refine ⟨fun _ _ => trivial, ?_⟩
            rw [Oper.semAt_eq _ _ _ (by intro c e; rw [h1] at e; simp at e), hrun]
            have hst2 := (hst.hide (.cells X.cells t)).put (Ext.refl _ _) (hst.hide (.cells X.cells t)).h (VRel.bad (.pointer (some ⟨W1.heap.size, 0, none⟩)) rfl) (some d)
            have hd3 : ops[m].dst = some d := by rw [← g3, hdd]
            have hS' : (fun k => Sof (listed.setIfInBounds m true) k ∧ k ≠ m) = Sof listed := by
              rw [hSof]
              funext k
              apply propext
              constructor
              · rintro ⟨h | h, h'⟩
                · exact absurd h h'
                · exact h
              · exact fun h => ⟨.inr h, fun e => hnS (e ▸ h)⟩
            show wpAnyIn (Fn ro) 0 C.P .any ops Q fuel _ (a1.put ops[m].dst _) _
            rw [hd3]
            refine ih _ φ1 _ _ hsz' hcnt' (hE.trans (Ext.push0 φ1 W1 _)) (.inr ⟨c, W1.heap.size, z, t, by rw [hSof]; exact .inl rfl, by rw [hSof]; exact fun h => h.elim hne hni, fun e he => by rw [hSof]; exact .inr (hr e he), by rw [hS']; exact hdone, by rw [hS']; exact hst2, ?_, hE.size, h3, h4⟩)
            refine ⟨by rw [pushBlk_size]; omega, fun ⟨b, v, o2, hx⟩ => absurd (hst.h.dom _ _ _ hx).2 (Nat.lt_irrefl _), fun hN => absurd (hst.h.nS _ hN) (Nat.lt_irrefl _), ⟨X, pushBlk_new, hX⟩, fun hlt => ?_⟩
            simp only [Act.put] at hlt ⊢
            have hlt' : d < a1.tmps.size := by simpa using hlt
            simp [hlt']
          · have g1' : ∃ o2, ops2[m]? = some o2 ∧ o2.d = o'.d ∧ stepA keep call o2 = stepA keep call o' ∧ ∀ e ∈ o2.aft, Sof listed e := by
              by_cases e : m = j
              · subst e
                rw [hoj] at g1
                simp at g1
                subst g1
                refine ⟨_, gj, rfl, rfl, fun e he => ?_⟩
                rcases List.mem_cons.1 he with rfl | he
                · exact Classical.byContradiction fun h => hc ⟨rfl, h⟩
                · exact hr e he
              · exact ⟨o', by rw [gm e]; exact g1, rfl, rfl, hr⟩
            obtain ⟨o2, k1, k2, k3, k4⟩ := g1'
            obtain ⟨k, c', hk, hstep, hTS, hdone'⟩ := hdone.step R hd k1 hnS k4
            rw [k3] at hstep
            refine op_run hcall hom g2 g4 hst hstep fun φ2 x W2 hH2 hv2 hE2 => ?_
            have hst' := hst.put hE2 hH2 hv2 o2.d
            rw [← hTS, ← hSof, k2, g3] at hst'
            refine ih _ φ2 W2 _ hsz' hcnt' (hE.trans hE2) (.inl ⟨c', fun hsj => ?_, hSof ▸ hdone', hst'⟩)
            rw [hSof] at hsj ⊢
            rcases hsj with rfl | hsj
            · exact .inr (Classical.byContradiction fun h => hc ⟨rfl, h⟩)
            · exact .inr (himp hsj)
        · -- the variable is there, the call is not yet
          have hmj : m ≠ j := fun e => hnS (e ▸ hSj)
          obtain ⟨q1, q2, q3⟩ := hall m o' g1 hmj
          have hnja : j ∉ o'.aft := fun h => hnSi (hr i (q3 h))
          have hdn : d ∉ o'.names := fun h => hnja (q2 h)
          obtain ⟨k, c', hk, hstep, hTS, hdone'⟩ := hdone.step R hd (j := m) (o := o') (by rw [gm hmj]; exact g1) (fun h => hnS h.1) (fun e he => ⟨hr e he, fun h => hnja (h ▸ he)⟩)
          have hstep' := hstep
          rw [step_congr (T2 := (TS ops2 T R.V (fun m => Sof listed m ∧ m ≠ j) ops2.length).set d .bad) (fun t ht => (set_getD (d := d) (t := t) (fun h => hdn (by rw [h]; exact ht))).symm)] at hstep'
          refine op_run hcall hom g2 g4 hst hstep' fun φ2 x W2 hH2 hv2 hE2 => ?_
          have hst' := hst.put hE2 hH2 hv2 o'.d
          rw [putT_set q1, ← hTS] at hst'
          have hS2 : (fun i => i = m ∨ (Sof listed i ∧ i ≠ j)) = fun k => Sof (listed.setIfInBounds m true) k ∧ k ≠ j := by
            rw [hSof]
            funext k
            apply propext
            constructor
            · rintro (rfl | ⟨h, h'⟩)
              · exact ⟨.inl rfl, hmj⟩
              · exact ⟨.inr h, h'⟩
            · rintro ⟨h | h, h'⟩
              · exact .inl h
              · exact .inr ⟨h, h'⟩
          rw [hS2] at hst' hdone'
          rw [g3] at hst'
          have hu' : Unborn C N φ2 W2 (a1.put ops[m].dst x) d B z t := by
            obtain ⟨X, hX, hc⟩ := hu.cell
            refine ⟨Nat.lt_of_lt_of_le hu.size hE2.size, hE2.notMut hu.size hu.notMut, hu.notN, ⟨X, by rw [hE2.keep B hu.size hu.notMut]; exact hX, hc⟩, fun hlt => ?_⟩
            rw [← g3] at hlt ⊢
            cases hod : o'.d with
            | none => rw [hod] at hlt; exact hu.tmp hlt
            | some e =>
              have hne' : e ≠ d := fun h => q1 (by rw [hod, h])
              rw [hod] at hlt
              simp only [Act.put] at hlt ⊢
              have := hu.tmp (by simpa using hlt)
              rw [Array.getElem?_setIfInBounds, if_neg hne']
              exact this
          by_cases hmi : m = i
          · subst hmi
            -- now AE makes it, too
            have hS3 : (fun k => k = j ∨ (Sof (listed.setIfInBounds m true) k ∧ k ≠ j)) = Sof (listed.setIfInBounds m true) := by
              funext k
              apply propext
              constructor
              · rintro (rfl | h)
                · rw [hSof]; exact .inr hSj
                · exact h.1
              · intro h
                by_cases e : k = j
                · exact .inl e
                · exact .inr ⟨h, e⟩
            obtain ⟨kj, c2, hkj, hstepj, hTSj, hdonej⟩ := hdone'.step R hd gj (fun h => h.2 rfl) (fun e he => by
              rcases List.mem_cons.1 he with rfl | he
              · exact ⟨by rw [hSof]; exact .inl rfl, hne⟩
              · exact ⟨by rw [hSof]; exact .inr (hoja e he), fun h => by have := ha' j oj hoj e he; omega⟩)
            rw [hS3] at hTSj hdonej
            simp only [stepA, hgd, wantedA, hop, operA, opA] at hstepj
            split at hstepj
            · simp at hstepj
            · rename_i hz0
              simp only [Option.some.injEq, Prod.mk.injEq] at hstepj
              obtain ⟨hv, hh, _⟩ := hstepj
              have hborn := hst'.born hu' (by rw [← hzs]; omega)
              rw [← hzs, ← htg, hh, hv] at hborn
              have hput : putT (TS ops2 T R.V (fun k => Sof (listed.setIfInBounds m true) k ∧ k ≠ j) ops2.length) (some d) (R.V j) = TS ops2 T R.V (Sof (listed.setIfInBounds m true)) ops2.length := by rw [hTSj, hdd]
              have hborn' : St C ro B0 (φ2.add (R.Hf c').length zs.length B 0) N W2 (a1.put ops[m].dst x) (TS ops2 T R.V (Sof (listed.setIfInBounds m true)) ops2.length) (R.Hf c2) := by
                rw [← hput]; exact hborn
              exact ih _ _ W2 _ hsz' hcnt' ((hE.trans hE2).born (hst'.h.noLoc (Nat.le_refl _)) hWB) (.inl ⟨c2, fun _ => by rw [hSof]; exact .inl rfl, hdonej, hborn'⟩)
          · exact ih _ φ2 W2 _ hsz' hcnt' (hE.trans hE2) (.inr ⟨c', B, z, t, by rw [hSof]; exact .inr hSj, by rw [hSof]; exact fun h => h.elim (fun h => hmi h.symm) hnSi, fun e he => by rw [hSof]; exact .inr (hoja e he), hdone', hst', hu', hWB, hzs, htg⟩)
  have hempty : ∀ i, ¬ Sof (Array.replicate ops.size false) i := by
    intro i
    show ¬ (Array.replicate ops.size false)[i]? = some true
    rw [Array.getElem?_replicate]
    split <;> simp
  refine key ops.size (Array.replicate ops.size false) φ (drawW W) a (by simp) (by simp) (Ext.draw φ W) (.inl ⟨0, fun h => absurd h (hempty j), ⟨fun i hi => absurd hi (hempty i), fun j o _ hj => absurd hj (hempty j), Nat.zero_le _, fun i _ _ => ⟨fun h => absurd h (hempty i), fun h => absurd h (Nat.not_lt_zero _)⟩⟩, ?_⟩)
  rw [TS_none hempty, R.h0]
  exact hS.mono (Ext.draw φ W) hS.h.draw
theorem draw_sound {call : ACall} {keep : Nat → Bool} (hcall : CallSound C keep call) (hm : C.P.follows .mixedOrders = true) : DrawSound C keep call := by
 intro ro B0 N id ops ops' hl φ W a T H e T' H' h hS Q hQ
 simp only at h
 split at h <;> try (simp at h; done)
 rename_i T1 H1 ks ho
 split at h <;> simp at h
 rename_i hd
 obtain ⟨rfl, rfl, rfl⟩ := h
 unfold drawOk at hd
 rw [Bool.or_eq_true] at hd
 rcases hd with hd | hd
 ·exact draw_sound0 hcall hm hl ho hd hS hQ
 ·obtain ⟨j, _, hd⟩ := List.any_eq_true.1 hd
  obtain ⟨i, _, hd⟩ := List.any_eq_true.1 hd
  exact late_sound hcall hm hl ho hd hS hQ
end Go.AE
namespace Go.AE
open Go
variable {C : Ctx} {φ φ' φc : Loc} {N : Nat → Prop} {W W' : World} {T : Tmps} {a : Act} {H Hc : AHeap}
def resultOf (tmps : Array Value) : ResultVar → Sem Value
 | .tmp t => pure (tmps.getD t undef)
 | .cell a t => do loadVar t (← asAddr (tmps.getD a undef))
theorem results_eq (fn : Func) (tmps : Array Value) : results fn tmps = (do let vs ← fn.results.mapM (resultOf tmps); pure (if h : vs.size = 1 then vs[0] else .tuple vs)) := rfl
theorem res_ok (hH : HRel C φ N H W) {tmps : Array Value} (hT : TRel C φ N W T tmps) : ∀ {rs : List ResultVar} {rs' : List LRes} {vs : List AV}, lowRes C.P rs = some rs' → resA T H rs' = some vs →
  ∃ xs, (rs.mapM (resultOf tmps)).run C.P W = .ok xs W ∧ LRel C φ N W vs xs
 | [], rs', vs, hl, h => by
  simp [lowRes] at hl; subst hl
  simp [resA] at h; subst h
  exact ⟨[], by simp, LRel.nil⟩
 | .tmp t :: rs, rs', vs, hl, h => by
  simp only [lowRes, Option.map_eq_some_iff] at hl
  obtain ⟨r, hr, rfl⟩ := hl
  simp only [resA, Option.map_eq_some_iff] at h
  obtain ⟨vs', hv, rfl⟩ := h
  obtain ⟨xs, h1, h2⟩ := res_ok hH hT hr hv
  exact ⟨tmps.getD t undef :: xs, by simp [List.mapM_cons, resultOf, h1], LRel.cons (hT.get t) h2⟩
 | .cell q t :: rs, rs', vs, hl, h => by
  simp only [lowRes] at hl
  split at hl <;> try (simp at hl; done)
  rename_i s g l' hs hg hr
  split at hl <;> simp at hl
  rename_i hone
  subst hl
  simp only [resA] at h
  split at h <;> try (simp at h; done)
  rename_i v H1 k hload
  simp only [Option.map_eq_some_iff] at h
  obtain ⟨vs', hv, rfl⟩ := h
  obtain ⟨xs, h1, h2⟩ := res_ok hH hT hr hv
  obtain ⟨_, Z, h3, h4⟩ := load_ok hH hs hg (fun e => by simp [e] at hone; exact hone) (hT.get q) hload
  have h5 : (resultOf tmps (.cell q t)).run C.P W = .ok Z W := by
   have hp := hT.get q
   generalize hz : T.getD q undefA = z at hp hload
   generalize hX : tmps.getD q undef = X at hp h3
   simp only [resultOf, hX]
   cases hp <;> simp [loadA] at hload <;> simpa [Instr.loadAt, Instr.sureAddr, asAddr] using h3
  exact ⟨Z :: xs, by simp [List.mapM_cons, h5, h1], LRel.cons h4 h2⟩
theorem results_ok (hH : HRel C φ N H W) {fn : Func} {tmps : Array Value} (hT : TRel C φ N W T tmps) {rs' : List LRes} {vs : List AV} (hl : lowRes C.P fn.results.toList = some rs') (h : resA T H rs' = some vs) :
  ∃ x, (results fn tmps).run C.P W = .ok x W ∧ VRel C φ N W (tupA vs) x := by
 obtain ⟨xs, h1, h2⟩ := res_ok hH hT hl h
 rw [results_eq, Array.mapM_eq_mapM_toList]
 refine ⟨if h : xs.toArray.size = 1 then xs.toArray[0] else .tuple xs.toArray, by simp [h1], ?_⟩
 rcases vs with _ | ⟨v, _ | ⟨w, vs⟩⟩
 ·cases xs with
  | nil => exact VRel.undef
  | cons => simp [LRel] at h2
 ·obtain ⟨X, rfl, h3⟩ := LRel.one h2
  exact h3
 ·rcases xs with _ | ⟨x, _ | ⟨y, xs⟩⟩
  ·simp [LRel] at h2
  ·simp [LRel] at h2
  ·exact VRel.tuple h2.1 h2.2
structure LpOk (C : Ctx) (keep : Nat → Bool) (lp : Nat → Option LFunc) : Prop where
 keep : ∀ i e, lp i = some (.ext e) → keep i = false
 code : ∀ i np nt rs body, lp i = some (.code np nt rs body) → ∃ fn c, C.P.funcs[C.fid i]? = some fn ∧ fn.body = some c ∧ fn.name ≠ "runtime.NumGoroutine" ∧ fn.ntmps = nt ∧ np = fn.params.size + fn.nfree ∧ lowRes C.P fn.results.toList = some rs ∧ lowCode C.P C.τ c = some body
 ext : ∀ i e, lp i = some (.ext e) → ∀ args H v H', extA e args H = some (v, H') → ∀ (φ : Loc) (N : Nat → Prop) (W : World) (xs : List Value), HRel C φ N H W → LRel C φ N W args xs →
  ∃ fn x W' φ', C.P.funcs[C.fid i]? = some fn ∧ (callFunc (C.fid i) xs.toArray).run C.P W = .ok (.value x) W' ∧ HRel C φ' N H' W' ∧ VRel C φ' N W' v x ∧ Ext φ φ' W W'
def DefSound (C : Ctx) (lp : Nat → Option LFunc) (call : ACall) : Prop :=
 ∀ f np nt rs body, lp f = some (.code np nt rs body) → body.flat = true → ∀ args H v H', call false f args H = some (v, H') → ∀ (φ : Loc) (N : Nat → Prop) (W : World) (xs : List Value) (u : FrameMode), HRel C φ N H W → LRel C φ N W args xs →
  CallsDIn (Fn none) 0 C.P (C.fid f) xs.toArray u W fun e u' w' => u' = u ∧ Answer C N φ W v H' e w'
def HookSound (C : Ctx) (keep : Nat → Bool) (lp : Nat → Option LFunc) (hk : ACall → Nat → List AV → AHeap → Option (AV × AHeap)) : Prop :=
  ∀ call, CallSound C keep call → DefSound C lp call → ∀ f args H v H', hk call f args H = some (v, H') → ∀ (φ : Loc) (N : Nat → Prop) (W : World) (xs : List Value), HRel C φ N H W → LRel C φ N W args xs →
    (∃ fn, C.P.funcs[C.fid f]? = some fn ∧ fn.body.isSome = true ∧ fn.name ≠ "runtime.NumGoroutine" ∧ Calls C.P (C.fid f) xs.toArray W (Answer C N φ W v H')) ∨
    (∃ fn x W' φ', keep f = false ∧ C.P.funcs[C.fid f]? = some fn ∧ (callFunc (C.fid f) xs.toArray).run C.P W = .ok (.value x) W' ∧ HRel C φ' N H' W' ∧ VRel C φ' N W' v x ∧ Ext φ φ' W W')
theorem low_code_of {P : Program} {τ : Ties} {fn : Func} {np nt : Nat} {rs : List LRes} {body : LCode} (h : lowFunc P τ fn = some (.code np nt rs body)) :
  ∃ c, fn.body = some c ∧ fn.ntmps = nt ∧ np = fn.params.size + fn.nfree ∧ lowRes P fn.results.toList = some rs ∧ lowCode P τ c = some body := by
 unfold lowFunc at h
 split at h
 ·rename_i c hb
  split at h <;> simp at h
  rename_i c' r hc hr
  obtain ⟨rfl, rfl, rfl, rfl⟩ := h
  exact ⟨c, hb, rfl, rfl, hr, hc⟩
 ·simp at h
theorem VRel.take {r : Nat} {d d' : Option (List Deferred)} {v : AV} {x : Value} (hv : VRel C φ N W v x) (hr : W.heap[r]? = some (.deferred d)) : VRel C φ N (setBlk W r (.deferred d')) v x := by
  have hcell : ∀ {B o : Nat} {y : Value}, W.cell? ⟨B, o, none⟩ = some y → (setBlk W r (.deferred d')).cell? ⟨B, o, none⟩ = some y := by
    intro B o y h
    have hne : B ≠ r := by rintro rfl; simp [World.cell?, hr] at h
    unfold World.cell? at h ⊢; simp only at h ⊢
    rw [setBlk_other hne]; exact h
  induction hv with
  | bad x h1 => exact .bad x h1
  | bool b => exact .bool b
  | int k n => exact .int k n
  | str s => exact .str s
  | nilptr => exact .nilptr
  | ptr hb => exact .ptr hb
  | elt X hB hm hN ho hc _ ih => exact .elt X (by rw [setBlk_size]; exact hB) hm hN ho (fun i hi => hcell (hc i hi)) ih
  | nilsl => exact .nilsl
  | lst X hl hcap hex ha ho hc _ ih => exact .lst X hl hcap hex (fun hne => ⟨(ha hne).1, by rw [setBlk_size]; exact (ha hne).2.1, (ha hne).2.2⟩) ho (fun i hi => hcell (hc i hi)) ih
  | sl hb hcap hex hW hrr ha => exact .sl hb hcap hex (by rw [setBlk_other (by rintro rfl; rw [hr] at hW; simp at hW)]; exact hW) hrr ha
  | nilmap => exact .nilmap
  | map hb => exact .map hb
  | func h1 h2 _ _ ia ic => exact .func h1 h2 ia ic
  | nilFunc => exact .nilFunc
  | iface ht _ ih => exact .iface ht ih
  | nilIface => exact .nilIface
  | agg hl ho _ ih => exact .agg hl ho ih
  | tuple hl _ ih => exact .tuple hl ih
  | yld hb => exact .yld hb
theorem HRel.take {r : Nat} {d d' : Option (List Deferred)} (h : HRel C φ N H W) (hr : W.heap[r]? = some (.deferred d)) : HRel C φ N H (setBlk W r (.deferred d')) where
 blk b k hb := by
  have := h.blk b k hb
  have hne : ∀ {B : Nat} {o : Obj}, W.heap[B]? = some o → (∀ q, o ≠ .deferred q) → (setBlk W r (.deferred d')).heap[B]? = some o := by
   intro B o hB ho
   rw [setBlk_other (by rintro rfl; rw [hr] at hB; simp at hB; exact ho _ hB.symm)]; exact hB
  cases k with
  | cells cs tag wv st =>
   obtain ⟨h0, h1, h2, h3⟩ := this
   refine ⟨h0, h1, h2, fun hst v B O hv hwv => ?_⟩
   obtain ⟨Cs, e, fz, g1, g2, g3, g4, g5, g6, g7⟩ := h3 hst v B O hv hwv
   exact ⟨Cs, e, fz, hne g1 (by simp), g2, g3, g4, fun i hi => (g5 i hi).take hr, g6, g7⟩
  | map es =>
   obtain ⟨B, M, clock, g1, g2, g3, g4⟩ := this
   exact ⟨B, M, clock, g1, hne g2 (by simp), g3, fun i hi => ⟨(g4 i hi).1.take hr, (g4 i hi).2.take hr⟩⟩
  | iter s pos =>
   obtain ⟨B, g1, g2⟩ := this
   exact ⟨B, g1, hne g2 (by simp)⟩
  | miter m =>
   obtain ⟨B, M, since, clk, g1, g2, g3⟩ := this
   exact ⟨B, M, since, clk, g1, g2, hne g3 (by simp)⟩
  | loop st pd T ps as bd =>
   obtain ⟨B, q, g1, g2, g3, g4, g5, g6⟩ := this
   exact ⟨B, q, g1, hne g2 (by simp), g3, g4, ⟨g5.1, fun i hi => (g5.2 i hi).take hr⟩, g6⟩
 dom b v x hx := by rw [setBlk_size]; exact h.dom b v x hx
 inj := h.inj
 nN := h.nN
 nS B hB := by rw [setBlk_size]; exact h.nS B hB
 gl g v hg := (h.gl g v hg).take hr
theorem Ext.take {W0 : World} {r : Nat} {d d' : Option (List Deferred)} (h : Ext φ φ' W0 W) (hr : W.heap[r]? = some (.deferred d)) (hB : W0.heap.size ≤ r) : Ext φ φ' W0 (AE.setBlk W r (.deferred d')) where
 size := by rw [setBlk_size]; exact h.size
 mono := h.mono
 fresh := h.fresh
 keep B hB' hm := by rw [setBlk_other (by omega)]; exact h.keep B hB' hm
 shape B Cs e fz hB' := by
  obtain ⟨Cs', fz', h1, h2⟩ := h.shape B Cs e fz hB'
  have := lt_of_heap hB'
  exact ⟨Cs', fz', by rw [setBlk_other (by omega)]; exact h1, h2⟩
 loops B q hB' := by
  obtain ⟨q', h1⟩ := h.loops B q hB'
  have := lt_of_heap hB'
  exact ⟨q', by rw [setBlk_other (by omega)]; exact h1⟩
 os := h.os
 output := h.output
theorem leaves_ok {W0 : World} {fn : Func} {tmps : Array Value} {rs' : List LRes} {vs : List AV} (hl : lowRes C.P fn.results.toList = some rs') (h : resA T H rs' = some vs) : ∀ (ds : List Deferred) (W : World), MarksF φ' W W0.heap.size ds → HRel C φ' N H W →
  TRel C φ' N W T tmps → Ext φ φ' W0 W → LeavesInM (Fn none) 0 C.P fn tmps (Answer C N φ W0 (tupA vs) H) ds .returning W
 | [], W, _, hH, hT, hE => by
  obtain ⟨x, h1, h2⟩ := results_ok hH hT hl h
  exact ⟨x, h1, x, φ', rfl, hH, h2, hE⟩
 | d :: ds, W, hm, hH, hT, hE => by
  obtain ⟨r, h1, h2, h3, h4, h5⟩ := hm.ok d (by simp)
  refine ⟨by simp, .inl ⟨r, setBlk W r (.deferred none), h1, ?_, ?_⟩⟩
  ·have hg : (getObj r).run C.P W = .ok (.deferred (some [])) W := by simp [getObj, Sem.run, h5]
   have hset : (setObj r (.deferred none)).run C.P W = .ok () (setBlk W r (.deferred none)) := by simp [setObj, Sem.run, h5, setBlk]
   simp [Instr.takeDeferred, hg, hset]
  ·refine leaves_ok hl h ds _ ⟨fun d' hd' => ?_, ?_⟩ (hH.take h5) ⟨hT.1, fun i hi => (hT.2 i hi).take h5⟩ (hE.take h5 h2)
   ·obtain ⟨r', g1, g2, g3, g4, g5⟩ := hm.ok d' (by simp [hd'])
    have hne : r' ≠ r := by
     rintro rfl
     exact (List.pairwise_cons.1 hm.nd).1 d' hd' r' h1 g1
    exact ⟨r', g1, g2, by rw [setBlk_size]; exact g3, g4, by rw [setBlk_other hne]; exact g5⟩
   ·exact (List.pairwise_cons.1 hm.nd).2
theorem setPs_ok : ∀ {ps : List Nat} {vs : List AV} {xs : List Value} {T : Tmps} {tmps : Array Value}, TRel C φ N W T tmps → LRel C φ N W vs xs → TRel C φ N W (setPs T ps vs) ((ps.zip xs).foldl (fun tmps p => tmps.setIfInBounds p.1 p.2) tmps)
 | [], _, _, T, tmps, hT, _ => by simpa [setPs] using hT
 | p :: ps, [], [], T, tmps, hT, _ => by simpa [setPs] using hT
 | p :: ps, [], _ :: _, T, tmps, _, hl => by simp [LRel] at hl
 | p :: ps, _ :: _, [], T, tmps, _, hl => by simp [LRel] at hl
 | p :: ps, v :: vs, x :: xs, T, tmps, hT, hl => by
  simp only [setPs, List.zip_cons_cons, List.foldl_cons]
  refine setPs_ok ?_ hl.tail.2
  have := LRel.set hT p hl.tail.1
  simpa [TRel] using this
theorem def_sound {lp : Nat → Option LFunc} {keep : Nat → Bool} (hlp : LpOk C keep lp) {hk : ACall → Nat → List AV → AHeap → Option (AV × AHeap)} (hm : C.P.follows .mixedOrders = true) {n : Nat} (ih : CallSound C keep (callsA lp keep hk n)) : DefSound C lp (callsA lp keep hk (n + 1)) := by
 intro f np nt rs body hf hflat args H v H' h φ N W xs u hH hl
 simp only [callsA, hf] at h
 obtain ⟨fn, c, hfn, hb, hname, hnt, hnp, hrs, hc⟩ := hlp.code _ _ _ _ _ hf
 split at h <;> try (simp at h; done)
 rename_i hlen
 refine callsDIn_of_wp (F := Fn none) (n := 0) hfn hb trivial ?_
 have hcw := code_wp ih (draw_sound ih hm) n c body hc (N := N) (ro := none) (B0 := .no []) (fun _ _ => hflat)
 have hsz : xs.toArray.size = np := by have := hl.1; simp; omega
 have hst : St C none (.no []) φ N W { tmps := xs.toArray ++ Array.replicate (fn.ntmps - xs.toArray.size) undef, defers := [] } (args ++ List.replicate (nt - np) undefA) H := by
  refine ⟨?_, hH, rfl, fun l hl => by simp at hl, fun b0 hb => by cases hb⟩
  show LRel C φ N W _ _
  rw [hsz, hnt]
  simpa using LRel.append hl (LRel.replicate VRel.undef (nt - np))
 split at h <;> try (simp at h; done)
 rename_i e T1 H1 hne hrun
 simp only [Option.map_eq_some_iff, Prod.mk.injEq] at h
 obtain ⟨vs, hvs, rfl, rfl⟩ := h
 refine hcw φ W _ _ H e T1 H1 hrun hst _ fun φ' a' W' hS' hE => ?_
 obtain ⟨x, h1, h2⟩ := results_ok hS'.h hS'.t hrs hvs
 have hfin : a'.defers = [] ∧ ∃ v, (results fn a'.tmps).run C.P W' = .ok v W' ∧ Answer C N φ W (tupA vs) H1 (.returned v) W' := ⟨hS'.d, x, h1, x, φ', rfl, hS'.h, h2, hE⟩
 cases e with
 | exit id => exact absurd rfl (hne id)
 | normal => exact hfin
 | ret => exact hfin
theorem calls_both {lp : Nat → Option LFunc} {keep : Nat → Bool} (hlp : LpOk C keep lp) {hk : ACall → Nat → List AV → AHeap → Option (AV × AHeap)} (hhk : HookSound C keep lp hk) (hm : C.P.follows .mixedOrders = true) : ∀ n, CallSound C keep (callsA lp keep hk n) ∧ DefSound C lp (callsA lp keep hk n)
  | 0 => ⟨⟨fun f args H v H' h => by simp [callsA] at h, fun f args H v H' h => by simp [callsA] at h⟩, fun f np nt rs body hf hb args H v H' h => by simp [callsA] at h⟩
  | n + 1 => by
    obtain ⟨ih, ihd⟩ := calls_both hlp hhk hm n
    refine ⟨?_, def_sound hlp hm ih⟩
    refine ⟨fun f args H v H' h φ N W xs hH hl => ?_, fun b args H v H' h φ N W xs l hH hl hφ => ?_⟩
    · simp only [callsA] at h
      split at h
      · rename_i np nt rs body hf
        obtain ⟨fn, c, hfn, hb, hname, hnt, hnp, hrs, hc⟩ := hlp.code _ _ _ _ _ hf
        split at h <;> try (simp at h; done)
        rename_i hlen
        left
        refine ⟨fn, hfn, by rw [hb]; rfl, hname, callsIn_wide.1 (callsIn_of_wp_marks (F := Fn none) (n := 0) hfn hb trivial ?_)⟩
        have hcw := code_wp ih (draw_sound ih hm) n c body hc (N := N) (ro := none) (B0 := .from W.heap.size) (fun _ h => absurd rfl (h _))
        have hsz : xs.toArray.size = np := by have := hl.1; simp; omega
        have hst : St C none (.from W.heap.size) φ N W { tmps := xs.toArray ++ Array.replicate (fn.ntmps - xs.toArray.size) undef, defers := [] } (args ++ List.replicate (nt - np) undefA) H := by
          refine ⟨?_, hH, MarksF.nil, fun l hl => by simp at hl, fun b0 hb => by cases hb; exact Nat.le_refl _⟩
          show LRel C φ N W _ _
          rw [hsz, hnt]
          simpa using LRel.append hl (LRel.replicate VRel.undef (nt - np))
        split at h <;> try (simp at h; done)
        rename_i e T1 H1 hne hrun
        simp only [Option.map_eq_some_iff, Prod.mk.injEq] at h
        obtain ⟨vs, hvs, rfl, rfl⟩ := h
        refine hcw φ W _ _ H e T1 H1 hrun hst _ fun φ' a' W' hS' hE => ?_
        have := leaves_ok (φ := φ) (N := N) hrs hvs a'.defers W' hS'.d hS'.h hS'.t hE
        cases e with
        | exit id => exact absurd rfl (hne id)
        | normal => exact this
        | ret => exact this
      · rename_i e hf
        right
        obtain ⟨fn, x, W', φ', h1, h2⟩ := hlp.ext f e hf args H v H' h φ N W xs hH hl
        exact ⟨fn, x, W', φ', hlp.keep f e hf, h1, h2⟩
      · exact hhk _ ih ihd f args H v H' h φ N W xs hH hl
    · simp only [callsA, roundA] at h
      split at h <;> try (simp at h; done)
      rename_i st0 pd0 T ps as bd hblk
      split at h <;> try (simp at h; done)
      rename_i hlen
      split at h <;> try (simp at h; done)
      rename_i T1 H1 has
      split at h <;> try (simp at h; done)
      rename_i pd T2 ps2 as2 bd2 hblk1
      split at h <;> try (simp at h; done)
      rename_i e T3 H3 hbd
      split at h <;> try (simp at h; done)
      rename_i st4 pd4 T4 ps4 as4 bd4 hblk3
      obtain ⟨B, r, g1, g2, g3, g4, g5, g6, g7, g8⟩ := hH.blk _ _ hblk
      rw [hφ] at g1; simp at g1; subst g1
      have hxs : xs.length = r.params.size := by have := hl.1; rw [← this, hlen, ← g6]; simp
      refine ⟨r, g2, hxs, roundIn_of_wpIn (F := Fn none) trivial ?_⟩
      have hfold : (r.params.zip xs.toArray).foldl (fun tmps (t, a) => tmps.setIfInBounds t a) r.tmps = (ps.zip xs).foldl (fun tmps p => tmps.setIfInBounds p.1 p.2) r.tmps := by
        rw [← g6, ← Array.foldl_toList]
        simp
      rw [hfold]
      have hcwa := code_wp ih (draw_sound ih hm) n r.assign as g7 (N := N) (ro := some l) (B0 := .from 0) (fun h => by simp at h)
      have hT0 : TRel C φ N W (setPs T ps args) ((ps.zip xs).foldl (fun tmps p => tmps.setIfInBounds p.1 p.2) r.tmps) := setPs_ok g5 hl
      have hst : St C (some l) (.from 0) φ N W { tmps := (ps.zip xs).foldl (fun tmps p => tmps.setIfInBounds p.1 p.2) r.tmps, defers := [] } (setPs T ps args) H :=
        ⟨hT0, hH, MarksF.nil, fun l' hl' => by simp at hl'; subst hl'; exact ⟨r, g2⟩, fun b0 hb => by cases hb; exact Nat.zero_le _⟩
      refine hcwa φ W _ _ H .normal T1 H1 has hst _ fun φ1 a1 W1 hS1 hE1 => ?_
      obtain ⟨B1, r1, k1, k2, k3, k4, k5, k6, k7, k8⟩ := hS1.h.blk _ _ hblk1
      rw [hE1.mono _ _ _ hφ] at k1; simp at k1; subst k1
      have hset1 : ∀ o', (setObj l o').run C.P W1 = .ok () (setBlk W1 l o') := fun o' => by simp [setObj, Sem.run, k2, setBlk]
      have hgl1 : (getObj l).run C.P W1 = .ok (.loop r1) W1 := by simp [getObj, Sem.run, k2]
      have hready : r1.state = .ready := by cases hq : r1.state <;> simp [hq, stOf] at k3; rfl
      have hbegin : (Instr.beginRound l).run C.P W1 = .ok () (setBlk W1 l (.loop { r1 with state := .busy })) := by
        simp [Instr.beginRound, Instr.getLoop, hgl1, hset1, hready]
      refine ⟨_, hbegin, ?_⟩
      have hE2 : Ext φ1 φ1 W1 (setBlk W1 l (.loop { r1 with state := .busy })) := Ext.setBlk (lt_of_heap k2) ⟨_, _, _, hE1.mono _ _ _ hφ⟩ (fun _ _ => ⟨_, rfl⟩) fun Cs e fz h => by rw [k2] at h; simp at h
      have hH2 := HRel.put hS1.h hblk1 (by simp [aliveAt, hblk1]) (hE1.mono _ _ _ hφ) hE2 (k := .loop 1 pd T2 ps2 as2 bd2) ⟨l, _, hE1.mono _ _ _ hφ, setBlk_same (lt_of_heap k2), rfl, k4, k5.mono hE2, k6, k7, k8⟩
      have hS2 := hS1.mono hE2 hH2
      have hcwb := code_wp ih (draw_sound ih hm) n r.body bd g8 (N := N) (ro := some l) (B0 := .from 0) (fun h => by simp at h)
      refine hcwb φ1 _ a1 T1 _ e T3 H3 hbd hS2 _ fun φ3 a3 W3 hS3 hE3 => ?_
      obtain ⟨B3, r3, m1, m2, m3, m4, m5, m6, m7, m8⟩ := hS3.h.blk _ _ hblk3
      have hE13 := (hE1.trans hE2).trans hE3
      rw [hE13.mono _ _ _ hφ] at m1; simp at m1; subst m1
      have hset3 : ∀ o', (setObj l o').run C.P W3 = .ok () (setBlk W3 l o') := fun o' => by simp [setObj, Sem.run, m2, setBlk]
      have hgl3 : (getObj l).run C.P W3 = .ok (.loop r3) W3 := by simp [getObj, Sem.run, m2]
      have hal : aliveAt H3 b := by simp [aliveAt, hblk3]
      have fin : ∀ (st : LoopState) (jump : Option Code) (pdn : Option AExit), PdOk pdn jump → 
          ∃ φ', HRel C φ' N (H3.set b (.loop (stOf st) pdn T4 ps4 as4 bd4)) (setBlk W3 l (.loop { r3 with state := st, pending := jump })) ∧ Ext φ φ' W (setBlk W3 l (.loop { r3 with state := st, pending := jump })) := by
        intro st jump pdn hp
        have hE4 : Ext φ3 φ3 W3 (setBlk W3 l (.loop { r3 with state := st, pending := jump })) := Ext.setBlk (lt_of_heap m2) ⟨_, _, _, hE13.mono _ _ _ hφ⟩ (fun _ _ => ⟨_, rfl⟩) fun Cs e fz h => by rw [m2] at h; simp at h
        exact ⟨φ3, HRel.put hS3.h hblk3 hal (hE13.mono _ _ _ hφ) hE4 ⟨l, _, hE13.mono _ _ _ hφ, setBlk_same (lt_of_heap m2), rfl, hp, m5.mono hE4, m6, m7, m8⟩, hE13.trans hE4⟩
      have hend : ∀ jump, (Instr.endRound l jump).run C.P W3 = .ok (.bool jump.isNone) (setBlk W3 l (.loop { r3 with state := if jump.isNone then .ready else .done, pending := jump })) := by
        intro jump
        simp [Instr.endRound, Instr.getLoop, hgl3, hset3]
      cases e with
      | normal =>
        simp at h
        obtain ⟨rfl, rfl⟩ := h
        obtain ⟨φ', q1, q2⟩ := fin .ready none none rfl
        exact ⟨_, _, hend none, _, φ', rfl, q1, .bool true, q2⟩
      | exit i =>
        simp at h
        obtain ⟨rfl, rfl⟩ := h
        obtain ⟨φ', q1, q2⟩ := fin .done (some (.exit i)) (some (.exit i)) rfl
        exact ⟨_, _, hend (some (.exit i)), _, φ', rfl, q1, .bool false, q2⟩
      | ret =>
        simp at h
        obtain ⟨rfl, rfl⟩ := h
        obtain ⟨φ', q1, q2⟩ := fin .done (some .ret) (some .ret) rfl
        exact ⟨_, _, hend (some .ret), _, φ', rfl, q1, .bool false, q2⟩
theorem calls_sound {lp : Nat → Option LFunc} {keep : Nat → Bool} (hlp : LpOk C keep lp) {hk : ACall → Nat → List AV → AHeap → Option (AV × AHeap)} (hhk : HookSound C keep lp hk) (hm : C.P.follows .mixedOrders = true) (n : Nat) : CallSound C keep (callsA lp keep hk n) := (calls_both hlp hhk hm n).1
end Go.AE
namespace Go.AE
open Go
variable {C : Ctx} {φ φ' : Loc} {N : Nat → Prop} {W W' : World} {H : AHeap}
structure ExtFn (P : Program) (f : FuncId) (e : Array Value → Sem Value) : Prop where
 ok : ∃ fn, P.funcs[f]? = some fn ∧ fn.name ≠ "runtime.NumGoroutine" ∧ fn.body = none ∧ Extern.findNext fn = none ∧ Extern.find fn = some e
theorem run_ext {P : Program} {f : FuncId} {e : Array Value → Sem Value} (h : ExtFn P f e) (xs : Array Value) (w : World) : (callFunc f xs).run P w = ((e xs).run P w).andThen fun x w => .ok (.value x) w := by
 obtain ⟨fn, h1, h2, h3, h4, h5⟩ := h.ok
 simp [callFunc, h1, h2, h3, h4, h5]
def ExtSound (C : Ctx) (i : Nat) (e : LExt) : Prop :=
 ∀ args H v H', extA e args H = some (v, H') → ∀ (φ : Loc) (N : Nat → Prop) (W : World) (xs : List Value), HRel C φ N H W → LRel C φ N W args xs →
  ∃ fn x W' φ', C.P.funcs[C.fid i]? = some fn ∧ (callFunc (C.fid i) xs.toArray).run C.P W = .ok (.value x) W' ∧ HRel C φ' N H' W' ∧ VRel C φ' N W' v x ∧ Ext φ φ' W W'
theorem ext_of {i : Nat} {e : LExt} {ex : Array Value → Sem Value} (hf : ExtFn C.P (C.fid i) ex)
    (h : ∀ args H v H', extA e args H = some (v, H') → ∀ (φ : Loc) (N : Nat → Prop) (W : World) (xs : List Value), HRel C φ N H W → LRel C φ N W args xs → RunSound C N φ W (ex xs.toArray) v H') : ExtSound C i e := by
  intro args H v H' ha φ N W xs hH hl
  obtain ⟨φ', x, W', h1, h2, h3, h4⟩ := h args H v H' ha φ N W xs hH hl
  obtain ⟨fn, hfn, _⟩ := hf.ok
  exact ⟨fn, x, W', φ', hfn, by rw [run_ext hf, h1]; rfl, h2, h3, h4⟩
theorem ext_same {i : Nat} (hf : ExtFn C.P (C.fid i) Extern.AbiNoEscape.same) : ExtSound C i .same := ext_of hf fun args H v H' h φ N W xs hH hl => by
 rcases args with _ | ⟨x, _ | ⟨y, l⟩⟩ <;> simp [extA] at h
 obtain ⟨rfl, rfl⟩ := h
 obtain ⟨X, rfl, hX⟩ := LRel.one hl
 exact .same hH (by rfl) hX
theorem ext_nop {i : Nat} {ex : Array Value → Sem Value} (hf : ExtFn C.P (C.fid i) ex) (hx : ∀ xs w, (ex xs).run C.P w = .ok (.tuple #[]) w) : ExtSound C i .nop := ext_of hf fun args H v H' h φ N W xs hH hl => by
 simp only [extA] at h
 simp at h
 obtain ⟨rfl, rfl⟩ := h
 exact .same hH (hx _ _) VRel.undef
theorem ext_mark {i : Nat} {ex : Array Value → Sem Value} (hf : ExtFn C.P (C.fid i) ex) (hx : ∀ a w, (ex #[.pointer (some a)]).run C.P w = .ok (.tuple #[]) w) : ExtSound C i .mark := ext_of hf fun args H v H' h φ N W xs hH hl => by
 rcases args with _ | ⟨x, _ | ⟨y, l⟩⟩
 ·simp [extA] at h
 ·cases x <;> simp [extA] at h
  obtain ⟨rfl, rfl⟩ := h
  obtain ⟨X, rfl, hX⟩ := LRel.one hl
  cases hX
  exact .same hH (hx _ _) VRel.undef
 ·cases x <;> simp [extA] at h
theorem load1 (hH : HRel C φ N H W) {b o v : Nat} {X : Value} (hu : VRel C φ N W (.ptr b o v) X) {k : IntKind} {n : Int} {H1 : AHeap} {kk : Kd} (h : loadA H 1 false (.ptr b o v) = some (.int k n, H1, kk)) :
  ∃ B O, φ b v = some (B, O) ∧ X = .pointer (some ⟨B, O + o, none⟩) ∧ W.cell? ⟨B, O + o, none⟩ = some (.int k n) := by
 cases hu with
 | @ptr _ _ _ B O hφ =>
  refine ⟨B, O, hφ, rfl, ?_⟩
  simp only [loadA] at h
  split at h <;> try (simp at h; done)
  rename_i cs tag wv st hb
  split at h <;> try (simp at h; done)
  rename_i hc
  obtain ⟨hp, rfl, rfl⟩ := readV_some h
  obtain ⟨_, _, _, hB⟩ := hH.blk b _ hb
  obtain ⟨Cs, e, fz, g1, g2, _, _, g5, g6, _⟩ := hB hc.1 v B O hφ hc.2.1
  have hlt : o < v := by omega
  have := g5 o hlt
  simp only [AE.part, Bool.false_eq_true, if_false] at hp
  rw [List.getD_eq_getElem?_getD, hp] at this
  have hs : O + o < Cs.size := by omega
  simp only [Option.getD_some, Array.getD, hs, dif_pos, Array.getInternal_eq_getElem] at this
  rw [cell_of g1, Array.getElem?_eq_getElem hs]
  generalize Cs[O + o] = z at this
  cases this
  rfl
theorem ext_load {i : Nat} {k : IntKind} (hf : ExtFn C.P (C.fid i) (Extern.Atomic.loadT (.int k))) : ExtSound C i (.load k) := ext_of hf fun args H v H' h φ N W xs hH hl => by
 unfold extA at h
 split at h <;> try (simp at h; done)
 all_goals try (rename_i heq _; simp at heq; done)
 all_goals try (exfalso; simp_all; done)
 rename_i q b o vv heq
 simp at heq; subst heq
 split at h <;> try (simp at h; done)
 rename_i k' n _ _ hload
 split at h <;> simp at h
 rename_i hk; subst hk
 obtain ⟨rfl, rfl⟩ := h
 obtain ⟨X, rfl, hX⟩ := LRel.one hl
 obtain ⟨B, O, hφ, rfl, hc⟩ := load1 hH hX hload
 refine .same hH (x := .int k n) ?_ (.int ..)
 have hrun : (Extern.Atomic.read (.int k) ⟨B, O + o, none⟩).run C.P W = .ok (.int k n) W := by simp [Extern.Atomic.read, hc]
 exact hrun
theorem store1 (hH : HRel C φ N H W) {b o v B O : Nat} (hφ : φ b v = some (B, O)) {x : AV} {Y : Value} (hx : VRel C φ N W x Y) (ho : x.one = true) {H' : AHeap} (h : storeCellsA H b o v [x] = some H') :
  ∃ W', (Go.store ⟨B, O + o, none⟩ Y .atomic).run C.P W = .ok () W' ∧ HRel C φ N H' W' ∧ Ext φ φ W W' ∧ W.frozen? ⟨B, O + o, none⟩ = false ∧ ∃ Cs e fz, W.heap[B]? = some (.cells Cs e fz) := by
 obtain ⟨W', h1, h2, h3⟩ := store_cells_ok hH hφ (LRel.cons hx LRel.nil) (.cons ho .nil) h
 have hone := hx.one ho
 unfold storeCellsA at h
 split at h <;> try (simp at h; done)
 rename_i cs tag wv st hb
 split at h <;> simp at h
 rename_i hc
 obtain ⟨rfl, rfl, hlt⟩ := hc
 obtain ⟨k0, _, _, hB⟩ := hH.blk b _ hb
 obtain ⟨Cs, e, fz, g1, g2, _, _, g5, g6, g7⟩ := hB (by omega) cs.length B O hφ k0
 have hfr : W.frozen? ⟨B, O + o, none⟩ = false := by
  have := g7 rfl rfl
  simp at hlt
  simp only [World.frozen?, g1]
  rcases this with h | h <;> simp <;> omega
 refine ⟨W', ?_, h2, h3, hfr, Cs, e, fz, g1⟩
 simp only [storeCells, Sem.run_bind] at h1
 have hadd : (⟨B, O + o, none⟩ : Addr).add 0 = ⟨B, O + o, none⟩ := by rw [add_none]; rfl
 rw [hadd] at h1
 have hcell : ∃ y, W.cell? ⟨B, O + o, none⟩ = some y := by
  simp at hlt
  exact ⟨_, by rw [cell_of g1]; exact Array.getElem?_eq_getElem (by omega)⟩
 obtain ⟨y, hy⟩ := hcell
 rw [run_store C.P W _ Y _ hone, hy, hfr] at h1 ⊢
 simpa using h1
theorem ext_store {i : Nat} (hf : ExtFn C.P (C.fid i) Extern.Atomic.storeT) : ExtSound C i .store := ext_of hf fun args H v H' h φ N W xs hH hl => by
 rcases args with _ | ⟨p, _ | ⟨x, _ | ⟨y, l⟩⟩⟩ <;> try (simp [extA] at h; done)
 ·cases p <;> simp only [extA] at h <;> try (simp at h; done)
  rename_i b o vv
  split at h <;> try (simp at h; done)
  rename_i hone
  simp only [Option.map_eq_some_iff, Prod.mk.injEq] at h
  obtain ⟨H1, hst, rfl, rfl⟩ := h
  obtain ⟨X, Y, rfl, hX, hY⟩ := LRel.two hl
  generalize hu0 : AV.ptr b o vv = u0 at hX
  cases hX <;> simp at hu0
  rename_i B O hφ
  obtain ⟨rfl, rfl, rfl⟩ := hu0
  obtain ⟨W', h1, h2, h3, _⟩ := store1 hH hφ hY hone hst
  refine ⟨φ, .tuple #[], W', ?_, h2, VRel.undef, h3⟩
  have hrun : (Go.store ⟨B, O + o, none⟩ Y .atomic >>= fun _ => pure Extern.Atomic.none_).run C.P W = .ok (.tuple #[]) W' := by
   rw [Sem.run_bind, h1]
   rfl
  exact hrun
theorem idx_eq (c : UInt8) : ∀ l : List UInt8, Lib.indexByte l c = match l.findIdx? (· == c) with | some i => (i : Int) | none => -1
 | [] => rfl
 | b :: l => by
  unfold Lib.indexByte
  rw [List.findIdx?_cons, idx_eq c l]
  by_cases h : (b == c) = true
  ·simp [h]
  ·have h' : (b == c) = false := by simpa using h
   simp only [h', Bool.false_eq_true, if_false]
   cases l.findIdx? (· == c) with
   | none => simp
   | some i =>
    have : ((i : Int) == -1) = false := by rw [beq_eq_false_iff_ne]; omega
    simp [this]
theorem ext_indexByteString {i : Nat} (hf : ExtFn C.P (C.fid i) Extern.BytealgIndexByte.indexByte) : ExtSound C i .indexByteString := ext_of hf fun args H v H' h φ N W xs hH hl => by
 rcases args with _ | ⟨x, _ | ⟨y, _ | ⟨z, l⟩⟩⟩ <;> try (simp [extA] at h; done)
 ·cases x <;> cases y <;> try (simp [extA] at h; done)
  rename_i s k c
  cases k <;> simp [extA] at h
  obtain ⟨rfl, rfl⟩ := h
  obtain ⟨X, Y, rfl, hX, hY⟩ := LRel.two hl
  cases hX; cases hY
  have := Lib.run_indexByteString (P := C.P) ⟨s.toArray⟩ c W
  rw [idx_eq] at this
  exact .same hH this (.int ..)
theorem ext_countString {i : Nat} (hf : ExtFn C.P (C.fid i) Extern.BytealgCount.count) : ExtSound C i .countString := ext_of hf fun args H v H' h φ N W xs hH hl => by
 rcases args with _ | ⟨x, _ | ⟨y, _ | ⟨z, l⟩⟩⟩ <;> try (simp [extA] at h; done)
 ·cases x <;> cases y <;> try (simp [extA] at h; done)
  rename_i s k c
  cases k <;> simp [extA] at h
  obtain ⟨rfl, rfl⟩ := h
  obtain ⟨X, Y, rfl, hX, hY⟩ := LRel.two hl
  cases hX; cases hY
  have := Lib.run_countString (P := C.P) ⟨s.toArray⟩ c W
  have e : Lib.countByte s c.toNat.toUInt8 = (s.filter (· == c.toNat.toUInt8)).length := by
   simp [Lib.countByte, List.count, List.countP_eq_length_filter]
  simp only [e] at this
  exact .same hH this (.int ..)
theorem digits_size : ∀ (n t : Nat) (acc : Array Value), (Extern.BytealgMakeNoZero.digits n t acc).size = acc.size + n
 | 0, _, acc => by simp [Extern.BytealgMakeNoZero.digits]
 | n + 1, t, acc => by
  simp only [Extern.BytealgMakeNoZero.digits]
  rw [digits_size]; simp; omega
theorem digits_one : ∀ (n t : Nat) (acc : Array Value), (∀ x ∈ acc.toList, x.oneCell' = true) → ∀ x ∈ (Extern.BytealgMakeNoZero.digits n t acc).toList, x.oneCell' = true
 | 0, _, acc, h => by simpa [Extern.BytealgMakeNoZero.digits] using h
 | n + 1, t, acc, h => by
  simp only [Extern.BytealgMakeNoZero.digits]
  refine digits_one n _ _ fun x hx => ?_
  simp only [Array.toList_push, List.mem_append, List.mem_singleton] at hx
  rcases hx with hx | rfl
  ·exact h x hx
  ·rfl
theorem ext_makeNoZero {i : Nat} {ps rs : Array TypeId} {t e : TypeId} (hf : ExtFn C.P (C.fid i) (Extern.BytealgMakeNoZero.makeNoZero ps rs)) (hr : rs[0]? = some t) (ht : C.P.underlying t = some (.slice e)) :
  ExtSound C i (.makeNoZero (tagA C.P e)) := ext_of hf fun args H v H' h φ N W xs hH hl => by
 rcases args with _ | ⟨x, _ | ⟨y, l⟩⟩ <;> try (simp [extA] at h; done)
 ·cases x <;> try (simp [extA] at h; done)
  rename_i k n
  cases k <;> simp [extA] at h
  obtain ⟨⟨h0, hn⟩, rfl, rfl⟩ := h
  obtain ⟨X, rfl, hX⟩ := LRel.one hl
  cases hX
  let cap := grownCap W n.toNat 0 e
  have hge : n.toNat ≤ cap := grownCap_ge W n.toNat 0 e
  have hne : ¬ n < 0 := by omega
  have hnb : ¬ (281474976710656 < n) := by omega
  have hlen := digits_size cap
  obtain ⟨by0, hrun⟩ : ∃ by0, (Extern.BytealgMakeNoZero.makeNoZero ps rs #[.int .i64 n]).run C.P W = .ok (.slice (some ⟨W.heap.size, 0, none⟩) n.toNat cap) (pushBlk (drawW (drawW W)) (.cells (Extern.BytealgMakeNoZero.digits cap by0 #[]) e)) := by
   refine ⟨(Question.extern "internal/bytealg.MakeNoZero.bytes" 0).cut (W.tape (W.drawn + 1) (.extern "internal/bytealg.MakeNoZero.bytes" 0)), ?_⟩
   delta Extern.BytealgMakeNoZero.makeNoZero
   conv => lhs; arg 2; whnf
   simp [Array.getLit, asInt, hr, r_underlying ht, hne, hnb, Question.forced, newRow, pushBlk, drawW, cap, grownCap]
   rfl
  let D := Extern.BytealgMakeNoZero.digits cap by0 #[]
  have hDs : D.size = cap := by simp [D, digits_size]
  have hD1 : ∀ x ∈ D.toList, x.oneCell' = true := digits_one cap by0 #[] (fun x hx => by simp at hx)
  have hsplit : D = (D.toList.take n.toNat).toArray ++ (D.toList.drop n.toNat).toArray := by
   apply Array.ext'
   simp
  have hW2 : HRel C φ N H (drawW (drawW W)) := hH.draw.draw
  have hrel : LRel C φ N (drawW (drawW W)) (List.replicate n.toNat .bad) (D.toList.take n.toNat) := ⟨by simp [hDs]; omega, fun j hj => by
   have hj' : j < n.toNat := by simpa using hj
   have hjd : j < D.toList.length := by simp [hDs]; omega
   simp only [List.getD_eq_getElem?_getD, List.getElem?_replicate, hj', if_true, Option.getD_some, List.getElem?_take, List.getElem?_eq_getElem hjd]
   exact .bad _ (hD1 _ (List.getElem_mem hjd))⟩
  have hnew := BRel.new (e := e) (tag := tagA C.P e) (rest := (D.toList.drop n.toNat).toArray) (wv := n.toNat) (fz := (0, 0)) hW2 hrel (rowOk.iff.2 fun w hw => by rw [List.eq_of_mem_replicate hw]; rfl) rfl (.inl (Nat.le_refl _)) (by simp)
  rw [← hsplit] at hnew
  simp only [List.length_replicate] at hnew
  refine ⟨_, _, _, hrun, HRel.push hW2 hnew, ?_, ((Ext.draw φ W).trans (Ext.draw φ (drawW W))).trans (Ext.push (hW2.noLoc (Nat.le_refl _)) _)⟩
  exact .sl (Loc.add_same ..) hge (fun c hc => by simp at hc) pushBlk_new (by rw [show (Extern.BytealgMakeNoZero.digits cap by0 #[]).size = cap from hDs]; omega) (.inl rfl)
theorem add_run {k : IntKind} {A : Addr} {n y : Int} {W W' : World} {P : Program} (hc : W.cell? A = some (.int k n)) (h1 : (Go.store A (.int k (k.wrap (n + y))) .atomic).run P W = .ok () W') :
    (Extern.Atomic.update (Op.intArith .add) k true #[.pointer (some A), .int k y]).run P W = .ok (.int k (k.wrap (n + y))) W' := by
  cases hz : W.frozen? A
  · rw [Conc.run_add_entry hc hz]
    rw [run_store P W A _ .atomic rfl, hc] at h1
    simpa [hz] using h1
  · rw [run_store P W A _ .atomic rfl, hc] at h1
    simp [hz] at h1
theorem ext_add {i : Nat} {k : IntKind} (hf : ExtFn C.P (C.fid i) (Extern.Atomic.update (Op.intArith .add) k true)) : ExtSound C i (.add k) := ext_of hf fun args H v H' h φ N W xs hH hl => by
 rcases args with _ | ⟨p, _ | ⟨x, _ | ⟨y, l⟩⟩⟩ <;> try (simp [extA] at h; done)
 ·cases p <;> try (simp [extA] at h; done)
  cases x <;> try (simp [extA] at h; done)
  rename_i b o vv k2 y
  simp only [extA] at h
  split at h <;> try (simp at h; done)
  rename_i k' n _ _ hload
  split at h <;> try (simp at h; done)
  rename_i hk
  obtain ⟨rfl, rfl⟩ := hk
  simp only [Option.map_eq_some_iff, Prod.mk.injEq] at h
  obtain ⟨H1, hst, rfl, rfl⟩ := h
  obtain ⟨X, Y, rfl, hX, hY⟩ := LRel.two hl
  cases hY
  obtain ⟨B, O, hφ, rfl, hc⟩ := load1 hH hX hload
  obtain ⟨W', h1, h2, h3, _⟩ := store1 hH hφ (VRel.int (C := C) (φ := φ) (N := N) (W := W) k (k.wrap (n + y))) rfl hst
  refine ⟨φ, .int k (k.wrap (n + y)), W', ?_, h2, .int .., h3⟩
  exact add_run hc h1
theorem ext_cas {i : Nat} {k : IntKind} (hf : ExtFn C.P (C.fid i) (Extern.Atomic.casT (.int k))) : ExtSound C i (.cas k) := ext_of hf fun args H v H' h φ N W xs hH hl => by
 rcases args with _ | ⟨p, _ | ⟨x, _ | ⟨z, _ | ⟨y, l⟩⟩⟩⟩ <;> try (simp [extA] at h; done)
 ·cases p <;> try (simp [extA] at h; done)
  cases x <;> try (simp [extA] at h; done)
  cases z <;> try (simp [extA] at h; done)
  rename_i b o vv k2 y k3 z
  simp only [extA] at h
  split at h <;> try (simp at h; done)
  rename_i k' n _ _ hload
  split at h <;> try (simp at h; done)
  rename_i hk
  obtain ⟨rfl, rfl, rfl⟩ := hk
  obtain ⟨X, xs, rfl, hX, hrest⟩ : ∃ X xs', xs = X :: xs' ∧ VRel C φ N W (.ptr b o vv) X ∧ LRel C φ N W [.int k y, .int k z] xs' := by
   cases xs with
   | nil => simp [LRel] at hl
   | cons X xs => exact ⟨X, xs, rfl, hl.tail.1, hl.tail.2⟩
  obtain ⟨Y, Z, rfl, hY, hZ⟩ := LRel.two hrest
  cases hY
  cases hZ
  obtain ⟨B, O, hφ, rfl, hc⟩ := load1 hH hX hload
  split at h
  ·rename_i hny
   subst hny
   simp only [Option.map_eq_some_iff, Prod.mk.injEq] at h
   obtain ⟨H1, hst, rfl, rfl⟩ := h
   obtain ⟨W', h1, h2, h3, hfr, _⟩ := store1 hH hφ (VRel.int (C := C) (φ := φ) (N := N) (W := W) k z) rfl hst
   refine ⟨φ, .bool true, W', ?_, h2, .bool _, h3⟩
   rw [Conc.casT_eq, Conc.run_cas_hit_entry hc hfr]
   rw [run_store C.P W _ _ .atomic rfl, hc] at h1
   simpa [hfr] using h1
  ·simp at h
end Go.AE
namespace Go.AE
open Go
variable {C : Ctx} {φ φ' φc : Loc} {N : Nat → Prop} {W W' : World} {T : Tmps} {a : Act} {H Hc : AHeap}
structure OnceT where
 l0 : List LOper
 l1 : List LOper
 l2 : List LOper
 l3 : List LOper
 l4 : List LOper
 store : Nat
 unlock : Nat
def onceA (o : OnceT) (keep : Nat → Bool) (call : ACall) (args : List AV) (H : AHeap) : Option (AV × AHeap) :=
 if args.length = 2 then
  match opsA keep call o.l0 (args ++ List.replicate 19 undefA) H with
  | some (T0, H0, _) => match opsA keep call o.l1 T0 H0 with
   | some (T1, H1, _) => match opsA keep call o.l2 T1 H1 with
    | some (T2, H2, _) => match T2.getD 15 undefA with
     | .bool true => match opsA keep call o.l3 T2 H2 with
      | some (T3, H3, _) => match opsA keep call o.l4 T3 H3 with
       | some (_, H4, _) => match call false o.store [T3.getD 18 undefA, .bool true] H4 with
        | some (_, H5) => match call false o.unlock [T1.getD 10 undefA] H5 with
         | some (_, H6) => some (.tuple [], H6)
         | none => none
        | none => none
       | none => none
      | none => none
     | .bool false => match call false o.unlock [T1.getD 10 undefA] H2 with
      | some (_, H3) => some (.tuple [], H3)
      | none => none
     | _ => none
    | none => none
   | none => none
  | none => none
 else none
structure OnceOk (C : Ctx) (lp : Nat → Option LFunc) (o : OnceT) (f : Nat) : Prop where
 fn : ∃ fn ops0 ops2 ops4 a0 a1 a2 d1 b0 b1 b2 d3 i0 i1 i2 i3 i4 t1 t3 u s y1 y3, C.P.funcs[C.fid f]? = some fn ∧ fn.name ≠ "runtime.NumGoroutine" ∧ fn.results = #[] ∧ fn.ntmps = 21 ∧
  fn.body = some (.seq (.region i0 ops0 false) (.seq (.region i1 #[a0, a1, a2, d1] false) (.seq (.region i2 ops2 false) (.cond (.tmp 15) (.seq (.region i3 #[b0, b1, b2, d3] false) (.region i4 ops4 false)) .skip)))) ∧
  lowOps C.P C.τ false ops0 ops0.toList = some o.l0 ∧ lowOps C.P C.τ false ops2 ops2.toList = some o.l2 ∧ lowOps C.P C.τ false ops4 ops4.toList = some o.l4 ∧
  lowOps C.P C.τ false #[a0, a1, a2, d1] [a0, a1, a2] = some o.l1 ∧ lowOps C.P C.τ false #[b0, b1, b2, d3] [b0, b1, b2] = some o.l3 ∧
  d1 = { dst := none, op := .defer { callee := .value (.func u), args := #[.tmp 10], argTypes := y1 }, type := t1, pos := d1.pos, after := d1.after, guard := none } ∧
  d3 = { dst := none, op := .defer { callee := .value (.func s), args := #[.tmp 18, .const (.bool true)], argTypes := y3 }, type := t3, pos := d3.pos, after := d3.after, guard := none } ∧
  C.fid o.unlock = u ∧ C.fid o.store = s
 store : ∃ np nt rs body, lp o.store = some (.code np nt rs body) ∧ body.flat = true
 unlock : ∃ np nt rs body, lp o.unlock = some (.code np nt rs body) ∧ body.flat = true
 storeF : ∃ fn, C.P.funcs[C.fid o.store]? = some fn ∧ fn.body.isSome = true ∧ fn.name ≠ "runtime.NumGoroutine"
 unlockF : ∃ fn, C.P.funcs[C.fid o.unlock]? = some fn ∧ fn.body.isSome = true ∧ fn.name ≠ "runtime.NumGoroutine"
theorem leave_one {lp : Nat → Option LFunc} {call : ACall} (hdef : DefSound C lp call) {g : Nat} (hlp : ∃ np nt rs body, lp g = some (.code np nt rs body) ∧ body.flat = true) (hfn : ∃ fn, C.P.funcs[C.fid g]? = some fn ∧ fn.body.isSome = true ∧ fn.name ≠ "runtime.NumGoroutine")
    {args : List AV} {v : AV} {H' : AHeap} (hc : call false g args H = some (v, H')) {xs : List Value} (hH : HRel C φ N H W) (hl : LRel C φ N W args xs) {fn : Func} {tmps : Array Value} {R : Ending → World → Prop} {ds : List Deferred}
    (h : ∀ φ' W', HRel C φ' N H' W' → Ext φ φ' W W' → LeavesIn (Fn none) 0 C.P fn tmps R ds .returning W') :
    LeavesIn (Fn none) 0 C.P fn tmps R ({ target := .fn (.func (C.fid g)) #[], args := xs.toArray } :: ds) .returning W := by
  obtain ⟨np, nt, rs, body, h1, h2⟩ := hlp
  obtain ⟨fg, hfg, hb, hname⟩ := hfn
  have hrun : (invoke (.fn (.func (C.fid g)) #[]) xs.toArray).run C.P W = .ok (.enter (C.fid g) xs.toArray) W := by
    have hb' : fg.body ≠ none := by intro hq; simp [hq] at hb
    simp [invoke, callFunc, hfg, hname, hb']
  refine leavesIn_cons (f := C.fid g) (args := xs.toArray) (by simp) (fun h => by simp [Fence.wide] at h) hrun (fun _ _ => trivial) ?_
  refine CallsDIn.mono (hdef g np nt rs body h1 h2 args H v H' hc φ N W xs .returning hH hl) fun e u' w' he => ?_
  obtain ⟨rfl, x, φ', rfl, hH', _, hE⟩ := he
  exact h φ' w' hH' hE
theorem defer_wp {ops : Array Oper} {Q : Exit → Act → World → Prop} {D : List Deferred} {i : Nat} {d : Oper} (hi : ops[i]? = some d) {g : FuncId} {xs : Array Operand} {y : Array TypeId} {t : TypeId}
    (hd : d = { dst := none, op := .defer { callee := .value (.func g), args := xs, argTypes := y }, type := t, pos := d.pos, after := d.after, guard := none }) (hS : St C none (.no D) φ N W a T H)
    (hQ : St C none (.no ({ target := .fn (.func g) #[], args := xs.map a.eval } :: D)) φ N W { a with defers := { target := .fn (.func g) #[], args := xs.map a.eval } :: a.defers } T H → Q .normal { a with defers := { target := .fn (.func g) #[], args := xs.map a.eval } :: a.defers } W) :
    wpOpsIn (Fn none) 0 C.P ops Q [i] a W := by
  have ho : d.op = .defer { callee := .value (.func g), args := xs, argTypes := y } := by rw [hd]
  have hg : d.guard = none := by rw [hd]
  have hdst : d.dst = none := by rw [hd]
  simp only [wpOpsIn, hi]
  have hw : Region.wanted d (yielded ops a.tmps) = true := by simp [Region.wanted, hg]
  rw [hw]
  simp only [if_true]
  refine ⟨fun _ _ => trivial, ?_⟩
  have hrun : (Oper.semAt none a.eval d).run C.P W = .ok (.defer { target := .fn (.func g) #[], args := xs.map a.eval }) W := by
    rw [Oper.semAt_none]
    simp [execOp, ho, resolve, Act.eval, Deferred.ofValue]
  show Oper.uponIn (Fn none) 0 C.P d a _ Q ((Oper.semAt none a.eval d).run C.P W)
  rw [hrun, Oper.uponIn_defer, hdst]
  exact hQ ⟨hS.t, hS.h, by show _ :: a.defers = _ :: D; rw [show a.defers = D from hS.d], hS.r, fun b0 h => by cases h⟩
theorem once_sound {lp : Nat → Option LFunc} {keep : Nat → Bool} {o : OnceT} {f : Nat} (ho : OnceOk C lp o f) {call : ACall} (hcall : CallSound C keep call) (hdef : DefSound C lp call) {args : List AV} {v : AV} {H' : AHeap} (h : onceA o keep call args H = some (v, H'))
    {xs : List Value} (hH : HRel C φ N H W) (hl : LRel C φ N W args xs) : ∃ fn, C.P.funcs[C.fid f]? = some fn ∧ fn.body.isSome = true ∧ fn.name ≠ "runtime.NumGoroutine" ∧ Calls C.P (C.fid f) xs.toArray W (Answer C N φ W v H') := by
  obtain ⟨fn, ops0, ops2, ops4, a0, a1, a2, d1, b0, b1, b2, d3, i0, i1, i2, i3, i4, t1, t3, u, s, y1, y3, hfn, hname, hres, hnt, hbody, hl0, hl2, hl4, hl1, hl3, hd1, hd3, rfl, rfl⟩ := ho.fn
  unfold onceA at h
  split at h <;> try (simp at h; done)
  rename_i hlen
  split at h <;> try (simp at h; done)
  rename_i T0 H0 k0 e0
  split at h <;> try (simp at h; done)
  rename_i T1 H1 k1 e1
  split at h <;> try (simp at h; done)
  rename_i T2 H2 k2 e2
  refine ⟨fn, hfn, by rw [hbody]; rfl, hname, callsIn_wide.1 (callsIn_of_wp_defers (F := Fn none) (n := 0) hfn hbody trivial ?_)⟩
  have hsz : xs.toArray.size = 2 := by have := hl.1; simp; omega
  have hst : St C none (.no []) φ N W { tmps := xs.toArray ++ Array.replicate (fn.ntmps - xs.toArray.size) undef, defers := [] } (args ++ List.replicate 19 undefA) H := by
    refine ⟨?_, hH, rfl, fun l hl => by simp at hl, fun b0 hb => by cases hb⟩
    show LRel C φ N W _ _
    rw [hsz, hnt]
    simpa using LRel.append hl (LRel.replicate VRel.undef 19)
  have hfin : ∀ (tmps : Array Value) φ9 W9 H9, HRel C φ9 N H9 W9 → Ext φ φ9 W W9 → LeavesIn (Fn none) 0 C.P fn tmps (Answer C N φ W (.tuple []) H9) [] .returning W9 := by
    intro tmps φ9 W9 H9 h1 h2
    refine ⟨.tuple #[], by simp [results_eq, hres], .tuple #[], φ9, rfl, h1, VRel.undef, h2⟩
  refine wpIn_seq (wpIn_region ?_)
  rw [List.range_eq_range', ← Array.length_toList]
  refine ops_wp hcall _ 0 _ φ W _ _ H rfl hl0 e0 hst fun φ1 A1 W1 hS1 hE1 => ?_
  refine wpIn_seq (wpIn_region ?_)
  show wpOpsIn (Fn none) 0 C.P #[a0, a1, a2, d1] _ (List.range' 0 [a0, a1, a2].length ++ [3]) A1 W1
  refine ops_wp' (tail := [d1]) hcall [a0, a1, a2] 0 _ φ1 W1 A1 T0 H0 rfl hl1 e1 hS1 fun φ2 A2 W2 hS2 hE2 => ?_
  refine defer_wp (i := 3) rfl hd1 hS2 fun hS2' => ?_
  have hun : LRel C φ2 N W2 [T1.getD 10 undefA] [A2.eval (.tmp 10)] := LRel.cons (hS2.t.get 10) LRel.nil
  refine wpIn_seq (wpIn_region ?_)
  rw [List.range_eq_range', ← Array.length_toList]
  refine ops_wp hcall _ 0 _ φ2 W2 _ _ H1 rfl hl2 e2 hS2' fun φ3 A3 W3 hS3 hE3 => ?_
  have hE03 := (hE1.trans hE2).trans hE3
  have hq := hS3.t.get 15
  split at h <;> try (simp at h; done)
  · rename_i hb
    rw [hb] at hq
    have hev : A3.eval (.tmp 15) = .bool true := by
      show A3.tmps.getD 15 undef = _
      generalize A3.tmps.getD 15 undef = X at hq
      cases hq; rfl
    split at h <;> try (simp at h; done)
    rename_i T3 H3 k3 e3
    split at h <;> try (simp at h; done)
    rename_i T4 H4 k4 e4
    split at h <;> try (simp at h; done)
    rename_i v5 H5 e5
    split at h <;> simp at h
    rename_i v6 H6 e6
    obtain ⟨rfl, rfl⟩ := h
    refine wpIn_cond_true hev (wpIn_seq (wpIn_region ?_))
    show wpOpsIn (Fn none) 0 C.P #[b0, b1, b2, d3] _ (List.range' 0 [b0, b1, b2].length ++ [3]) A3 W3
    refine ops_wp' (tail := [d3]) hcall [b0, b1, b2] 0 _ φ3 W3 A3 T2 H2 rfl hl3 e3 hS3 fun φ4 A4 W4 hS4 hE4 => ?_
    refine defer_wp (i := 3) rfl hd3 hS4 fun hS4' => ?_
    have hsto : LRel C φ4 N W4 [T3.getD 18 undefA, .bool true] [A4.eval (.tmp 18), .bool true] := LRel.cons (hS4.t.get 18) (LRel.cons (.bool true) LRel.nil)
    refine wpIn_region ?_
    rw [List.range_eq_range', ← Array.length_toList]
    refine ops_wp hcall _ 0 _ φ4 W4 _ _ H3 rfl hl4 e4 hS4' fun φ5 A5 W5 hS5 hE5 => ?_
    show LeavesIn (Fn none) 0 C.P fn A5.tmps _ A5.defers .returning W5
    rw [show A5.defers = _ from hS5.d, show (#[Operand.tmp 18, Operand.const (.bool true)] : Array Operand).map A4.eval = [A4.eval (.tmp 18), Value.bool true].toArray by simp [Act.eval], show (#[Operand.tmp 10] : Array Operand).map A2.eval = [A2.eval (.tmp 10)].toArray by simp [Act.eval]]
    refine leave_one hdef ho.store ho.storeF e5 (xs := [A4.eval (.tmp 18), .bool true]) hS5.h (hsto.mono hE5) fun φ6 W6 hH6 hE6 => ?_
    refine leave_one hdef ho.unlock ho.unlockF e6 (xs := [A2.eval (.tmp 10)]) hH6 ((((hun.mono hE3).mono hE4).mono hE5).mono hE6) fun φ7 W7 hH7 hE7 => ?_
    exact hfin _ φ7 W7 H6 hH7 ((((hE03.trans hE4).trans hE5).trans hE6).trans hE7)
  · rename_i hb
    rw [hb] at hq
    have hev : A3.eval (.tmp 15) = .bool false := by
      show A3.tmps.getD 15 undef = _
      generalize A3.tmps.getD 15 undef = X at hq
      cases hq; rfl
    split at h <;> simp at h
    rename_i v5 H5 e5
    obtain ⟨rfl, rfl⟩ := h
    refine wpIn_cond_false hev (wpIn_skip ?_)
    show LeavesIn (Fn none) 0 C.P fn A3.tmps _ A3.defers .returning W3
    rw [show A3.defers = _ from hS3.d, show (#[Operand.tmp 10] : Array Operand).map A2.eval = [A2.eval (.tmp 10)].toArray by simp [Act.eval]]
    refine leave_one hdef ho.unlock ho.unlockF e5 (xs := [A2.eval (.tmp 10)]) hS3.h (hun.mono hE3) fun φ7 W7 hH7 hE7 => ?_
    exact hfin _ φ7 W7 H5 hH7 (hE03.trans hE7)
end Go.AE
