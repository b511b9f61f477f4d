/- Laws of code, in steps. -/
import Derived.Test.YtibjieaohbnpgaaGreatDoorA1
import Derived.Test.YtibjieaohbnpgaaGreatDoorA5
set_option linter.all false
set_option linter.unusedSimpArgs false
set_option linter.unusedVariables false
set_option linter.unnecessarySimpa false
set_option linter.deprecated false
namespace Go.AE
def ALe (c c' : ACall) : Prop := ∀ y f args H r, c y f args H = some r → c' y f args H = some r
abbrev AHook := ACall → Nat → List AV → AHeap → Option (AV × AHeap)
structure Env where
 lp : Nat → Option LFunc
 keep : Nat → Bool
 hk : AHook
 mono : ∀ {c c'}, ALe c c' → ∀ f args H r, hk c f args H = some r → hk c' f args H = some r
theorem callA_mono {keep : Nat → Bool} {c c' : ACall} (h : ALe c c') {f : Nat} {args : List AV} {H : AHeap} {r : AV × AHeap × Kd} (hr : callA keep c f args H = some r) : callA keep c' f args H = some r := by
 unfold callA at hr ⊢
 split
 ·rename_i hl
  rw [if_pos hl] at hr
  cases hc : c false f args [] with
  | none => rw [hc] at hr; simp at hr
  | some p => rw [hc] at hr; rw [h _ _ _ _ _ hc]; exact hr
 ·rename_i hl
  rw [if_neg hl] at hr
  simp only [Option.map_eq_some_iff] at hr ⊢
  obtain ⟨p, h1, h2⟩ := hr
  exact ⟨p, h _ _ _ _ _ h1, h2⟩
theorem operA_mono {keep : Nat → Bool} {c c' : ACall} (h : ALe c c') {T : Tmps} {H : AHeap} {op : LOp} {r : AV × AHeap × Kd} (hr : operA keep c T H op = some r) : operA keep c' T H op = some r := by
 cases op with
 | call cl args =>
  cases cl with
  | builtin b => exact hr
  | fn f => exact callA_mono h hr
  | val x =>
   simp only [operA] at hr ⊢
   cases hx : ev T x with
   | func f a b => rw [hx] at hr; exact callA_mono h hr
   | yld b =>
    rw [hx] at hr
    simp only [Option.map_eq_some_iff] at hr ⊢
    obtain ⟨p, h1, h2⟩ := hr
    exact ⟨p, h _ _ _ _ _ h1, h2⟩
   | _ => rw [hx] at hr; simp at hr
  | invoke x rows =>
   simp only [operA] at hr ⊢
   cases hx : ev T x with
   | iface g v =>
    rw [hx] at hr
    simp only at hr ⊢
    cases hg : rowOfTag rows g with
    | none => rw [hg] at hr; simp at hr
    | some f => rw [hg] at hr; exact callA_mono h hr
   | _ => rw [hx] at hr; simp at hr
 | _ => exact hr
theorem opsA_mono {keep : Nat → Bool} {c c' : ACall} (h : ALe c c') : ∀ {ops : List LOper} {T : Tmps} {H : AHeap} {r : Tmps × AHeap × List Kd}, opsA keep c ops T H = some r → opsA keep c' ops T H = some r
 | [], _, _, _, hr => hr
 | o :: l, T, H, r, hr => by
  simp only [opsA] at hr ⊢
  split
  ·rename_i hw
   simp only [hw] at hr
   cases ho : operA keep c T H o.op with
   | none => rw [ho] at hr; simp at hr
   | some p =>
    rw [ho] at hr; rw [operA_mono h ho]
    simp only [Option.map_eq_some_iff] at hr ⊢
    obtain ⟨q, h1, h2⟩ := hr
    exact ⟨q, opsA_mono h h1, h2⟩
  ·rename_i hw
   simp only [hw] at hr
   simp only [Option.map_eq_some_iff] at hr ⊢
   obtain ⟨q, h1, h2⟩ := hr
   exact ⟨q, opsA_mono h h1, h2⟩
  ·rename_i hw
   simp only [hw] at hr; simp at hr
theorem loopA_mono {b b' : Tmps → AHeap → ACodeRes} (h : ∀ T H r, b T H = some r → b' T H = some r) : ∀ {n m : Nat} {T : Tmps} {H : AHeap} {r : AExit × Tmps × AHeap}, n ≤ m → loopA b n T H = some r → loopA b' m T H = some r
  | 0, _, _, _, _, _, hr => by simp [loopA] at hr
  | n + 1, 0, _, _, _, hnm, _ => by omega
  | n + 1, m + 1, T, H, r, hnm, hr => by
    simp only [loopA] at hr ⊢
    cases hb : b T H with
    | none => rw [hb] at hr; simp at hr
    | some p =>
      rw [hb] at hr; rw [h _ _ _ hb]
      obtain ⟨e, T1, H1⟩ := p
      cases e with
      | normal => exact loopA_mono h (by omega) hr
      | exit i => exact hr
      | ret => exact hr
theorem codeA_mono {keep : Nat → Bool} {c c' : ACall} (h : ALe c c') {n m : Nat} (hnm : n ≤ m) : ∀ (cd : LCode) {T : Tmps} {H : AHeap} {r : AExit × Tmps × AHeap}, codeA keep c n cd T H = some r → codeA keep c' m cd T H = some r
 | .skip, _, _, _, hr => hr
 | .reg draw ops, T, H, r, hr => by
  simp only [codeA] at hr ⊢
  cases ho : opsA keep c ops T H with
  | none => rw [ho] at hr; simp at hr
  | some p => rw [ho] at hr; rw [opsA_mono h ho]; exact hr
 | .seq a b, T, H, r, hr => by
  simp only [codeA] at hr ⊢
  cases ha : codeA keep c n a T H with
  | none => rw [ha] at hr; simp at hr
  | some p =>
   rw [ha] at hr; rw [codeA_mono h hnm a ha]
   obtain ⟨e, T1, H1⟩ := p
   cases e with
   | normal => exact codeA_mono h hnm b hr
   | exit i => exact hr
   | ret => exact hr
 | .cond x a b, T, H, r, hr => by
  simp only [codeA] at hr ⊢
  split
  ·rename_i hb; rw [hb] at hr; exact codeA_mono h hnm a hr
  ·rename_i hb; rw [hb] at hr; exact codeA_mono h hnm b hr
  ·rename_i h1 h2
   split at hr
   ·rename_i hb; exact absurd hb h1
   ·rename_i hb; exact absurd hb h2
   ·exact hr
 | .block id a, T, H, r, hr => by
  simp only [codeA] at hr ⊢
  cases ha : codeA keep c n a T H with
  | none => rw [ha] at hr; simp at hr
  | some p => rw [ha] at hr; rw [codeA_mono h hnm a ha]; exact hr
 | .loop a, T, H, r, hr => by
  simp only [codeA] at hr ⊢
  exact loopA_mono (fun T H r hr => codeA_mono h hnm a hr) hnm hr
 | .exit _, _, _, _, hr => hr
 | .ret, _, _, _, hr => hr
 | .fail, _, _, _, hr => by simp [codeA] at hr
 | .rangeFunc f ps as bd, T, H, r, hr => by
  simp only [codeA] at hr ⊢
  cases hx : ev T f with
  | func g a b =>
   rw [hx] at hr
   simp only at hr ⊢
   split
   ·rename_i hk; rw [if_pos hk] at hr; exact hr
   ·rename_i hk
    rw [if_neg hk] at hr
    cases hc : c false g (a ++ [.yld H.length] ++ b) (H ++ [.loop 0 none T ps as bd]) with
    | none => rw [hc] at hr; simp at hr
    | some p => rw [hc] at hr; rw [h _ _ _ _ _ hc]; exact hr
  | _ => rw [hx] at hr; simp at hr
theorem roundA_mono {c c' : LCode → Tmps → AHeap → ACodeRes} (h : ∀ cd T H r, c cd T H = some r → c' cd T H = some r) {b : Nat} {args : List AV} {H : AHeap} {r : AV × AHeap} (hr : roundA c b args H = some r) : roundA c' b args H = some r := by
 unfold roundA at hr ⊢
 split at hr <;> try (simp at hr; done)
 split at hr <;> try (simp at hr; done)
 rename_i hlen
 rw [if_pos hlen]
 split at hr <;> try (simp at hr; done)
 rename_i h1
 rw [h _ _ _ _ h1]
 simp only
 split at hr <;> try (simp at hr; done)
 rename_i h2
 split at hr <;> try (simp at hr; done)
 rename_i h3
 rw [h _ _ _ _ h3]
 exact hr
namespace Env
variable (E : Env)
def call (n : Nat) : ACall := callsA E.lp E.keep E.hk n
theorem call_step : ∀ n, ALe (E.call n) (E.call (n + 1))
  | 0 => fun y f args H r hr => by simp [call, callsA] at hr
  | n + 1 => by
    have ih := call_step n
    intro y f args H r hr
    cases y with
    | true =>
      simp only [call, callsA] at hr ⊢
      exact roundA_mono (fun cd T H r hr => codeA_mono ih (Nat.le_succ n) cd hr) hr
    | false =>
      simp only [call, callsA] at hr ⊢
      split at hr
      · rename_i np nt rs body _
        split at hr <;> try (simp at hr; done)
        rename_i hlen
        rw [if_pos hlen]
        cases hc : codeA E.keep (E.call n) n body (args ++ List.replicate (nt - np) undefA) H with
        | none => rw [show callsA E.lp E.keep E.hk n = E.call n from rfl, hc] at hr; simp at hr
        | some p =>
          rw [show callsA E.lp E.keep E.hk n = E.call n from rfl, hc] at hr
          have := codeA_mono ih (Nat.le_succ n) body hc
          rw [show callsA E.lp E.keep E.hk (n + 1) = E.call (n + 1) from rfl, this]
          exact hr
      · exact hr
      · exact E.mono ih _ _ _ _ hr
theorem call_le {n m : Nat} (h : n ≤ m) : ALe (E.call n) (E.call m) := by
 induction h with
 | refl => exact fun _ _ _ _ _ h => h
 | step _ ih => exact fun y f a H r hr => E.call_step _ y f a H r (ih y f a H r hr)
def code (n : Nat) (c : LCode) (T : Tmps) (H : AHeap) : ACodeRes := codeA E.keep (E.call n) n c T H
theorem code_le {n m : Nat} (h : n ≤ m) {c : LCode} {T : Tmps} {H : AHeap} {r : AExit × Tmps × AHeap} (hr : E.code n c T H = some r) : E.code m c T H = some r := codeA_mono (E.call_le h) h c hr
def W (c : LCode) (T : Tmps) (H : AHeap) (Q : AExit → Tmps → AHeap → Prop) : Prop := ∃ n e T' H', E.code n c T H = some (e, T', H') ∧ Q e T' H'
def WO (ops : List LOper) (T : Tmps) (H : AHeap) (K : Tmps → AHeap → List Kd → Prop) : Prop := ∃ n T' H' ks, opsA E.keep (E.call n) ops T H = some (T', H', ks) ∧ K T' H' ks
def W1 (op : LOp) (T : Tmps) (H : AHeap) (K : AV → AHeap → Kd → Prop) : Prop := ∃ n v H' k, operA E.keep (E.call n) T H op = some (v, H', k) ∧ K v H' k
def C (f : Nat) (args : List AV) (H : AHeap) (K : AV → AHeap → Kd → Prop) : Prop := ∃ n v H' k, callA E.keep (E.call n) f args H = some (v, H', k) ∧ K v H' k
def Ans (f : Nat) (args : List AV) (H : AHeap) (v : AV) (H' : AHeap) : Prop := ∃ n, E.call n false f args H = some (v, H')
variable {E}
theorem W.mono {c : LCode} {T : Tmps} {H : AHeap} {Q Q' : AExit → Tmps → AHeap → Prop} (h : E.W c T H Q) (hq : ∀ e T' H', Q e T' H' → Q' e T' H') : E.W c T H Q' := by
 obtain ⟨n, e, T', H', h1, h2⟩ := h
 exact ⟨n, e, T', H', h1, hq _ _ _ h2⟩
theorem W_skip {T : Tmps} {H : AHeap} {Q : AExit → Tmps → AHeap → Prop} : E.W .skip T H Q ↔ Q .normal T H :=
 ⟨fun ⟨n, e, T', H', h1, h2⟩ => by simp [code, codeA] at h1; obtain ⟨rfl, rfl, rfl⟩ := h1; exact h2, fun h => ⟨0, _, _, _, rfl, h⟩⟩
theorem W_ret {T : Tmps} {H : AHeap} {Q : AExit → Tmps → AHeap → Prop} : E.W .ret T H Q ↔ Q .ret T H :=
 ⟨fun ⟨n, e, T', H', h1, h2⟩ => by simp [code, codeA] at h1; obtain ⟨rfl, rfl, rfl⟩ := h1; exact h2, fun h => ⟨0, _, _, _, rfl, h⟩⟩
theorem W_exit {i : Nat} {T : Tmps} {H : AHeap} {Q : AExit → Tmps → AHeap → Prop} : E.W (.exit i) T H Q ↔ Q (.exit i) T H :=
 ⟨fun ⟨n, e, T', H', h1, h2⟩ => by simp [code, codeA] at h1; obtain ⟨rfl, rfl, rfl⟩ := h1; exact h2, fun h => ⟨0, _, _, _, rfl, h⟩⟩
def andThen (K : Tmps → AHeap → Prop) (Q : AExit → Tmps → AHeap → Prop) : AExit → Tmps → AHeap → Prop
 | .normal, T, H => K T H
 | e, T, H => Q e T H
theorem W_seq {a b : LCode} {T : Tmps} {H : AHeap} {Q : AExit → Tmps → AHeap → Prop} : E.W (.seq a b) T H Q ↔ E.W a T H (andThen (fun T' H' => E.W b T' H' Q) Q) := by
  constructor
  · rintro ⟨n, e, T', H', h1, h2⟩
    simp only [code, codeA] at h1
    cases ha : codeA E.keep (E.call n) n a T H with
    | none => rw [ha] at h1; simp at h1
    | some p =>
      obtain ⟨e1, T1, H1⟩ := p
      rw [ha] at h1
      refine ⟨n, e1, T1, H1, ha, ?_⟩
      cases e1 with
      | normal => exact ⟨n, e, T', H', h1, h2⟩
      | exit i => simp at h1; obtain ⟨rfl, rfl, rfl⟩ := h1; exact h2
      | ret => simp at h1; obtain ⟨rfl, rfl, rfl⟩ := h1; exact h2
  · rintro ⟨n, e1, T1, H1, ha, hq⟩
    cases e1 with
    | normal =>
      obtain ⟨m, e, T', H', h1, h2⟩ := hq
      refine ⟨max n m, e, T', H', ?_, h2⟩
      have := E.code_le (Nat.le_max_left n m) ha
      simp only [code, codeA] at this ⊢
      rw [this]
      exact E.code_le (Nat.le_max_right n m) h1
    | exit i => exact ⟨n, _, _, _, by simp only [code, codeA] at ha ⊢; rw [ha], hq⟩
    | ret => exact ⟨n, _, _, _, by simp only [code, codeA] at ha ⊢; rw [ha], hq⟩
def Pick (c : AV) (A B : Prop) : Prop := match c with
 | .bool true => A
 | .bool false => B
 | _ => False
@[simp] theorem Pick_true {A B : Prop} : Pick (.bool true) A B = A := rfl
@[simp] theorem Pick_false {A B : Prop} : Pick (.bool false) A B = B := rfl
theorem W_cond {c : Opd} {a b : LCode} {T : Tmps} {H : AHeap} {Q : AExit → Tmps → AHeap → Prop} : E.W (.cond c a b) T H Q ↔ Pick (ev T c) (E.W a T H Q) (E.W b T H Q) := by
 unfold W code
 simp only [codeA]
 cases ev T c with
 | bool q => cases q <;> exact Iff.rfl
 | _ => simp [Pick]
theorem W_block {id : Nat} {c : LCode} {T : Tmps} {H : AHeap} {Q : AExit → Tmps → AHeap → Prop} : E.W (.block id c) T H Q ↔ E.W c T H (fun e T' H' => Q (if e = .exit id then .normal else e) T' H') := by
 constructor
 ·rintro ⟨n, e, T', H', h1, h2⟩
  simp only [code, codeA] at h1
  cases ha : codeA E.keep (E.call n) n c T H with
  | none => rw [ha] at h1; simp at h1
  | some p =>
   obtain ⟨e1, T1, H1⟩ := p
   rw [ha] at h1
   refine ⟨n, e1, T1, H1, ha, ?_⟩
   cases e1 with
   | normal => simp at h1; obtain ⟨rfl, rfl, rfl⟩ := h1; exact h2
   | ret => simp at h1; obtain ⟨rfl, rfl, rfl⟩ := h1; exact h2
   | exit i =>
    simp only at h1
    by_cases hi : i = id
    ·rw [if_pos hi] at h1; simp at h1; obtain ⟨rfl, rfl, rfl⟩ := h1
     rw [if_pos (by rw [hi])]; exact h2
    ·rw [if_neg hi] at h1; simp at h1; obtain ⟨rfl, rfl, rfl⟩ := h1
     rw [if_neg (by simpa using hi)]; exact h2
 ·rintro ⟨n, e1, T1, H1, ha, hq⟩
  refine ⟨n, _, T1, H1, ?_, hq⟩
  simp only [code, codeA] at ha ⊢
  rw [ha]
  cases e1 with
  | normal => rfl
  | ret => rfl
  | exit i =>
   simp only
   by_cases hi : i = id
   ·rw [if_pos hi, if_pos (by rw [hi])]
   ·rw [if_neg hi, if_neg (by simpa using hi)]
theorem W_loop {c : LCode} {T : Tmps} {H : AHeap} {Q : AExit → Tmps → AHeap → Prop} : E.W (.loop c) T H Q ↔ E.W c T H (andThen (fun T' H' => E.W (.loop c) T' H' Q) Q) := by
 constructor
 ·rintro ⟨n, e, T', H', h1, h2⟩
  simp only [code, codeA] at h1
  cases n with
  | zero => simp [loopA] at h1
  | succ n =>
   simp only [loopA] at h1
   cases ha : codeA E.keep (E.call (n + 1)) (n + 1) c T H with
   | none => rw [ha] at h1; simp at h1
   | some p =>
    obtain ⟨e1, T1, H1⟩ := p
    rw [ha] at h1
    refine ⟨n + 1, e1, T1, H1, ha, ?_⟩
    cases e1 with
    | normal =>
     refine ⟨n + 1, e, T', H', ?_, h2⟩
     simp only [code, codeA]
     exact loopA_mono (fun _ _ _ h => h) (Nat.le_succ n) h1
    | exit i => simp at h1; obtain ⟨rfl, rfl, rfl⟩ := h1; exact h2
    | ret => simp at h1; obtain ⟨rfl, rfl, rfl⟩ := h1; exact h2
 ·rintro ⟨n, e1, T1, H1, ha, hq⟩
  cases e1 with
  | normal =>
   obtain ⟨m, e, T', H', h1, h2⟩ := hq
   refine ⟨max n m + 1, e, T', H', ?_, h2⟩
   have h3 := E.code_le (Nat.le_trans (Nat.le_max_left n m) (Nat.le_succ _)) ha
   simp only [code, codeA] at h1 h3 ⊢
   simp only [loopA]
   rw [h3]
   exact loopA_mono (fun T H r h => codeA_mono (E.call_le (by omega)) (by omega) c h) (Nat.le_max_right n m) h1
  | exit i => 
   refine ⟨n + 1, _, _, _, ?_, hq⟩
   have h3 := E.code_le (Nat.le_succ n) ha
   simp only [code, codeA] at h3 ⊢
   simp only [loopA]
   rw [h3]
  | ret =>
   refine ⟨n + 1, _, _, _, ?_, hq⟩
   have h3 := E.code_le (Nat.le_succ n) ha
   simp only [code, codeA] at h3 ⊢
   simp only [loopA]
   rw [h3]
theorem W_reg {ops : List LOper} {T : Tmps} {H : AHeap} {Q : AExit → Tmps → AHeap → Prop} : E.W (.reg false ops) T H Q ↔ E.WO ops T H (fun T' H' _ => Q .normal T' H') := by
 constructor
 ·rintro ⟨n, e, T', H', h1, h2⟩
  simp only [code, codeA, Bool.false_and, Bool.false_eq_true, if_false] at h1
  cases ho : opsA E.keep (E.call n) ops T H with
  | none => rw [ho] at h1; simp at h1
  | some p =>
   rw [ho] at h1; simp at h1
   obtain ⟨rfl, rfl, rfl⟩ := h1
   exact ⟨n, _, _, _, ho, h2⟩
 ·rintro ⟨n, T', H', ks, h1, h2⟩
  exact ⟨n, _, _, _, by simp [code, codeA, h1], h2⟩
theorem W_draw {ops : List LOper} {T : Tmps} {H : AHeap} {Q : AExit → Tmps → AHeap → Prop} : E.W (.reg true ops) T H Q ↔ E.WO ops T H (fun T' H' ks => drawOk ops ks = true ∧ Q .normal T' H') := by
 constructor
 ·rintro ⟨n, e, T', H', h1, h2⟩
  simp only [code, codeA, Bool.true_and] at h1
  cases ho : opsA E.keep (E.call n) ops T H with
  | none => rw [ho] at h1; simp at h1
  | some p =>
   rw [ho] at h1
   cases hd : drawOk ops p.2.2 with
   | false => simp [hd] at h1
   | true =>
    simp [hd] at h1
    obtain ⟨rfl, rfl, rfl⟩ := h1
    exact ⟨n, _, _, _, ho, hd, h2⟩
 ·rintro ⟨n, T', H', ks, h1, h2, h3⟩
  exact ⟨n, _, _, _, by simp [code, codeA, h1, h2], h3⟩
theorem WO_nil {T : Tmps} {H : AHeap} {K : Tmps → AHeap → List Kd → Prop} : E.WO [] T H K ↔ K T H [] :=
 ⟨fun ⟨n, T', H', ks, h1, h2⟩ => by simp [opsA] at h1; obtain ⟨rfl, rfl, rfl⟩ := h1; exact h2, fun h => ⟨0, _, _, _, rfl, h⟩⟩
def Guard (T : Tmps) (g : Option (Nat × Bool)) (A B : Prop) : Prop := match wantedA T g with
 | some true => A
 | some false => B
 | none => False
theorem Guard_none {T : Tmps} {A B : Prop} : Guard T none A B ↔ A := Iff.rfl
theorem Guard_some {T : Tmps} {j : Nat} {w : Bool} {A B : Prop} : Guard T (some (j, w)) A B ↔ (match T.getD j undefA with | .bool b => (b = w → A) ∧ (b ≠ w → B) | .tuple [] => B | _ => False) := by
 unfold Guard wantedA
 simp only
 generalize T.getD j undefA = v
 split
 ·rename_i h
  split at h
  ·rename_i b; simp at h; subst h; simp
  ·simp at h
  ·simp at h
 ·rename_i h
  split at h
  ·rename_i b; simp at h
   simp [h]
  ·simp
  ·simp at h
 ·rename_i h
  split at h
  ·simp at h
  ·simp at h
  ·rename_i h1 h2
   simp
theorem WO_cons {o : LOper} {l : List LOper} {T : Tmps} {H : AHeap} {K : Tmps → AHeap → List Kd → Prop} : E.WO (o :: l) T H K ↔
  Guard T o.guard (E.W1 o.op T H fun v H' k => E.WO l (putT T o.d v) H' fun T' H'' ks => K T' H'' (k :: ks)) (E.WO l (putT T o.d undefA) H fun T' H'' ks => K T' H'' (.p :: ks)) := by
 unfold Guard
 constructor
 ·rintro ⟨n, T', H', ks, h1, h2⟩
  simp only [opsA] at h1
  split
  ·rename_i hw
   simp only [hw] at h1
   cases ho : operA E.keep (E.call n) T H o.op with
   | none => rw [ho] at h1; simp at h1
   | some p =>
    rw [ho] at h1
    simp only [Option.map_eq_some_iff, Prod.mk.injEq] at h1
    obtain ⟨⟨T1, H1, ks1⟩, h3, rfl, rfl, rfl⟩ := h1
    exact ⟨n, _, _, _, ho, n, _, _, _, h3, h2⟩
  ·rename_i hw
   simp only [hw, Option.map_eq_some_iff, Prod.mk.injEq] at h1
   obtain ⟨⟨T1, H1, ks1⟩, h3, rfl, rfl, rfl⟩ := h1
   exact ⟨n, _, _, _, h3, h2⟩
  ·rename_i hw
   simp [hw] at h1
 ·intro h
  split at h
  ·rename_i hw
   obtain ⟨n, v, H1, k, h1, m, T', H', ks, h2, h3⟩ := h
   refine ⟨max n m, T', H', k :: ks, ?_, h3⟩
   simp only [opsA, hw]
   rw [operA_mono (E.call_le (Nat.le_max_left n m)) h1]
   simp only
   rw [opsA_mono (E.call_le (Nat.le_max_right n m)) h2]
   rfl
  ·rename_i hw
   obtain ⟨n, T', H', ks, h1, h2⟩ := h
   exact ⟨n, T', H', .p :: ks, by simp [opsA, hw, h1], h2⟩
  ·exact h.elim
def Res (r : ARes) (K : AV → AHeap → Kd → Prop) : Prop := ∃ v H k, r = some (v, H, k) ∧ K v H k
@[simp] theorem Res_some {v : AV} {H : AHeap} {k : Kd} {K : AV → AHeap → Kd → Prop} : Res (some (v, H, k)) K ↔ K v H k :=
 ⟨fun ⟨v, H, k, h1, h2⟩ => by simp at h1; obtain ⟨rfl, rfl, rfl⟩ := h1; exact h2, fun h => ⟨v, H, k, rfl, h⟩⟩
@[simp] theorem Res_none {K : AV → AHeap → Kd → Prop} : Res none K ↔ False := ⟨fun ⟨v, H, k, h1, h2⟩ => by simp at h1, False.elim⟩
@[simp] theorem Res_pure {v : AV} {H : AHeap} {K : AV → AHeap → Kd → Prop} : Res (pureV H (some v)) K ↔ K v H .p := Res_some
@[simp] theorem Res_pure_none {H : AHeap} {K : AV → AHeap → Kd → Prop} : Res (pureV H none) K ↔ False := Res_none
theorem W1_op {op : LOp} {T : Tmps} {H : AHeap} {K : AV → AHeap → Kd → Prop} (h : ∀ c, operA E.keep c T H op = opA T H op) : E.W1 op T H K ↔ Res (opA T H op) K :=
 ⟨fun ⟨n, v, H', k, h1, h2⟩ => ⟨v, H', k, by rw [← h]; exact h1, h2⟩, fun ⟨v, H', k, h1, h2⟩ => ⟨0, v, H', k, by rw [h]; exact h1, h2⟩⟩
theorem W1_fn {f : Nat} {args : List Opd} {T : Tmps} {H : AHeap} {K : AV → AHeap → Kd → Prop} : E.W1 (.call (.fn f) args) T H K ↔ E.C f (args.map (ev T)) H K := Iff.rfl
theorem W1_builtin {b : LBuiltin} {args : List Opd} {T : Tmps} {H : AHeap} {K : AV → AHeap → Kd → Prop} : E.W1 (.call (.builtin b) args) T H K ↔ Res (builtinA H b (args.map (ev T))) K :=
 ⟨fun ⟨n, v, H', k, h1, h2⟩ => ⟨v, H', k, h1, h2⟩, fun ⟨v, H', k, h1, h2⟩ => ⟨0, v, H', k, h1, h2⟩⟩
def CV (E : Env) (x : AV) (args : List AV) (H : AHeap) (K : AV → AHeap → Kd → Prop) : Prop := match x with
 | .func f first captured => E.C f (first ++ args ++ captured) H K
 | .yld b => ∃ n v H', E.call n true b args H = some (v, H') ∧ K v H' (.c H H')
 | _ => False
theorem W1_val {x : Opd} {args : List Opd} {T : Tmps} {H : AHeap} {K : AV → AHeap → Kd → Prop} : E.W1 (.call (.val x) args) T H K ↔ CV E (ev T x) (args.map (ev T)) H K := by
 unfold W1 CV
 simp only [operA]
 cases ev T x with
 | func f a b => exact Iff.rfl
 | yld b =>
  constructor
  ·rintro ⟨n, v, H', k, h1, h2⟩
   simp only [Option.map_eq_some_iff, Prod.mk.injEq] at h1
   obtain ⟨⟨v1, H1⟩, h3, rfl, rfl, rfl⟩ := h1
   exact ⟨n, _, _, h3, h2⟩
  ·rintro ⟨n, v, H', h1, h2⟩
   exact ⟨n, v, H', _, by simp [h1], h2⟩
 | _ => simp
theorem C_iff {f : Nat} {args : List AV} {H : AHeap} {v : AV} {H' : AHeap} {k : Kd} (h : ∃ n, callA E.keep (E.call n) f args H = some (v, H', k)) {K : AV → AHeap → Kd → Prop} : E.C f args H K ↔ K v H' k := by
 obtain ⟨n, hn⟩ := h
 constructor
 ·rintro ⟨m, v1, H1, k1, h1, h2⟩
  have e1 := callA_mono (E.call_le (Nat.le_max_left n m)) hn
  have e2 := callA_mono (E.call_le (Nat.le_max_right n m)) h1
  rw [e1] at e2; simp at e2
  obtain ⟨rfl, rfl, rfl⟩ := e2; exact h2
 ·intro h2; exact ⟨n, v, H', k, hn, h2⟩
theorem C_pure {f : Nat} {args : List AV} {v v' : AV} {Hc : AHeap} (hl : locFreeL args = true) (h : E.Ans f args [] v Hc) (hk : E.keep f = false) (hf : freeze Hc 1000000000 v = some v') {H : AHeap} {K : AV → AHeap → Kd → Prop} : E.C f args H K ↔ K v' H .p := by
 obtain ⟨n, hn⟩ := h
 exact C_iff ⟨n, by simp [callA, hl, hn, hk, hf]⟩
theorem C_shared {f : Nat} {args : List AV} {v : AV} {H H' : AHeap} (hl : locFreeL args = false) (h : E.Ans f args H v H') {K : AV → AHeap → Kd → Prop} : E.C f args H K ↔ K v H' (.c H H') := by
 obtain ⟨n, hn⟩ := h
 exact C_iff ⟨n, by simp [callA, hl, hn]⟩
theorem Ans_of {f np nt : Nat} {rs : List LRes} {body : LCode} (hf : E.lp f = some (.code np nt rs body)) {args : List AV} (hl : args.length = np) {H : AHeap} {v : AV} {H' : AHeap}
    (h : E.W body (args ++ List.replicate (nt - np) undefA) H fun e T H2 => (∀ i, e ≠ .exit i) ∧ ∃ vs, resA T H2 rs = some vs ∧ v = tupA vs ∧ H' = H2) : E.Ans f args H v H' := by
  obtain ⟨n, e, T, H2, h1, h2, vs, h3, rfl, rfl⟩ := h
  refine ⟨n + 1, ?_⟩
  simp only [call, callsA, hf, hl, if_true]
  simp only [code, call] at h1
  rw [h1]
  cases e with
  | exit i => exact absurd rfl (h2 i)
  | normal => simp [h3]
  | ret => simp [h3]
end Env
end Go.AE
namespace Go.AE
def LCode.loops : LCode → List LCode
 | .loop c => .loop c :: c.loops
 | .seq a b => a.loops ++ b.loops
 | .cond _ a b => a.loops ++ b.loops
 | .block _ c => c.loops
 | .rangeFunc _ _ a b => a.loops ++ b.loops
 | _ => []
def LFunc.loop (f : LFunc) (i : Nat) : LCode := match f with
 | .code _ _ _ c => c.loops.getD i .skip
 | _ => .skip
namespace Env
variable {E : Env}
def gt (T : Tmps) (k : Nat) : AV := T.getD k undefA
theorem gt_ne {T : Tmps} {d k : Nat} {v : AV} (h : (d == k) = false) : gt (T.set d v) k = gt T k := by
 replace h : d ≠ k := by simpa using h
 simp [gt, List.getD_eq_getElem?_getD, List.getElem?_set, h]
theorem gt_eq {T : Tmps} {d : Nat} {v : AV} (h : decide (d < T.length) = true) : gt (T.set d v) d = v := by
 replace h : d < T.length := by simpa using h
 simp [gt, List.getD_eq_getElem?_getD, h]
theorem gp_ne {T : Tmps} {d k : Nat} {v : AV} (h : (d == k) = false) : gt (putT T (some d) v) k = gt T k := gt_ne h
theorem gp_eq {T : Tmps} {d : Nat} {v : AV} (h : decide (d < T.length) = true) : gt (putT T (some d) v) d = v := gt_eq h
def Bnd (v : AV) (K : AV → Prop) : Prop := K v
theorem Bnd_eq {v : AV} {K : AV → Prop} : Bnd v K = K v := rfl
@[congr] theorem Res_congr {r r' : ARes} {K : AV → AHeap → Kd → Prop} (h : r = r') : Res r K = Res r' K := by rw [h]
def Gd (c : AV) (w : Bool) (A B : Prop) : Prop := match c with
 | .bool b => (b = w → A) ∧ (b ≠ w → B)
 | .tuple [] => B
 | _ => False
theorem Guard_gt {T : Tmps} {j : Nat} {w : Bool} {A B : Prop} : Guard T (some (j, w)) A B ↔ Gd (gt T j) w A B := Guard_some
@[simp] theorem Gd_undef {w : Bool} {A B : Prop} : Gd (.tuple []) w A B ↔ B := Iff.rfl
@[simp] theorem Gd_tt {A B : Prop} : Gd (.bool true) true A B ↔ A := by simp [Gd]
@[simp] theorem Gd_tf {A B : Prop} : Gd (.bool true) false A B ↔ B := by simp [Gd]
@[simp] theorem Gd_ft {A B : Prop} : Gd (.bool false) true A B ↔ B := by simp [Gd]
@[simp] theorem Gd_ff {A B : Prop} : Gd (.bool false) false A B ↔ A := by simp [Gd]
section
variable {T : Tmps} {H : AHeap} {K : AV → AHeap → Kd → Prop} {x y z : Opd}
theorem w_mv : E.W1 (.mv x) T H K ↔ Bnd (ev T x) fun v => K v H .p := (W1_op fun _ => rfl).trans Res_pure
def Two (c a b : AV) (K : AV → Prop) : Prop := match c with
 | .bool c => Bnd (if c then a else b) K
 | _ => False
@[simp] theorem Two_true {a b : AV} {K : AV → Prop} : Two (.bool true) a b K ↔ Bnd a K := Iff.rfl
@[simp] theorem Two_false {a b : AV} {K : AV → Prop} : Two (.bool false) a b K ↔ Bnd b K := Iff.rfl
theorem w_pick {c : Opd} : E.W1 (.pick c x y) T H K ↔ Two (ev T c) (ev T x) (ev T y) fun v => K v H .p := by
 refine (W1_op fun _ => rfl).trans ?_
 simp only [opA, Two, Bnd]
 cases ev T c <;> simp
theorem w_bin {op : BinOp} : E.W1 (.bin op x y) T H K ↔ Res (pureV H (binA op (ev T x) (ev T y))) K := W1_op fun _ => rfl
theorem w_un {op : UnOp} : E.W1 (.un op x) T H K ↔ Res (pureV H (unA op (ev T x))) K := W1_op fun _ => rfl
theorem w_eq {ng : Bool} {t : ETy} : E.W1 (.eq ng t x y) T H K ↔ Res (pureV H ((aEq t (ev T x) (ev T y)).map fun b => .bool (if ng then !b else b))) K := W1_op fun _ => rfl
theorem w_extract {i : Nat} : E.W1 (.extract i x) T H K ↔ Res (match ev T x with | .tuple vs => pureV H vs[i]? | _ => none) K := W1_op fun _ => rfl
theorem w_load {sz : Nat} {ag : Bool} : E.W1 (.load sz ag x) T H K ↔ Res (loadA H sz ag (ev T x)) K := W1_op fun _ => rfl
theorem w_store {sz : Nat} : E.W1 (.store sz x y) T H K ↔ Res (storeA H sz (ev T x) (ev T y)) K := W1_op fun _ => rfl
theorem w_slStr {lo hi : Option Opd} : E.W1 (.slStr x lo hi) T H K ↔ Res (opA T H (.slStr x lo hi)) K := W1_op fun _ => rfl
theorem w_slSl {sz : Nat} {lo hi mx : Option Opd} : E.W1 (.slSl sz x lo hi mx) T H K ↔ Res (pureV H (sliceA sz (ev T x) (evo T lo) (evo T hi) (evo T mx))) K := W1_op fun _ => rfl
theorem w_idxAddr {sz : Nat} : E.W1 (.idxAddr sz x y) T H K ↔ Res (pureV H (idxAddrA sz (ev T x) (ev T y))) K := W1_op fun _ => rfl
theorem w_idxStr : E.W1 (.idxStr x y) T H K ↔ Res (opA T H (.idxStr x y)) K := W1_op fun _ => rfl
theorem w_fieldAddr {o : Nat} : E.W1 (.fieldAddr o x) T H K ↔ Res (pureV H (addA o (ev T x))) K := W1_op fun _ => rfl
theorem w_field {o sz : Nat} {ag : Bool} : E.W1 (.field o sz ag x) T H K ↔ Res (opA T H (.field o sz ag x)) K := W1_op fun _ => rfl
theorem w_box {g : Nat} : E.W1 (.box g x) T H K ↔ Res (newVarA H (ev T x) g) K := W1_op fun _ => rfl
theorem w_alloc {zs : List AV} {g : Nat} : E.W1 (.alloc zs g) T H K ↔ Res (opA T H (.alloc zs g)) K := W1_op fun _ => rfl
theorem w_build {zs : List AV} {ps : List (Nat × Nat × Opd)} : E.W1 (.build zs ps) T H K ↔ Res (pureV H ((fillA T zs ps).map .agg)) K := W1_op fun _ => rfl
theorem w_lit {zs : List AV} {n sz : Nat} {ps : List (Nat × Nat × Opd)} : E.W1 (.lit zs n sz ps) T H K ↔ Res (pureV H ((fillA T (repCells n zs) ps).map fun cs => .lst cs n sz true)) K := W1_op fun _ => rfl
theorem w_mkFunc {i : Nat} {a b : List Opd} : E.W1 (.mkFunc i a b) T H K ↔ Bnd (.func i (a.map (ev T)) (b.map (ev T))) fun v => K v H .p := (W1_op fun _ => rfl).trans Res_pure
theorem w_mkSlice {zs : List AV} {sz by_ g : Nat} : E.W1 (.mkSlice zs sz by_ g x y) T H K ↔ Res (opA T H (.mkSlice zs sz by_ g x y)) K := W1_op fun _ => rfl
theorem w_nilChk : E.W1 (.nilChk x) T H K ↔ Res (opA T H (.nilChk x)) K := W1_op fun _ => rfl
theorem w_conv {k : LConv} : E.W1 (.conv k x) T H K ↔ Res (convA H k (ev T x)) K := W1_op fun _ => rfl
theorem w_mkIface {g : Nat} : E.W1 (.mkIface g x) T H K ↔ Bnd (.iface g (ev T x)) fun v => K v H .p := (W1_op fun _ => rfl).trans Res_pure
end
section
variable {H : AHeap}
theorem len_str {s : List UInt8} : lenA H .lenStr (.str s) = some (.int .i64 s.length, H, .p) := Eq.trans rfl rfl
theorem len1i {c : UInt8} : ((List.length [c] : Nat) : Int) = 1 := Eq.trans rfl rfl
theorem len0i : ((List.length ([] : List UInt8) : Nat) : Int) = 0 := Eq.trans rfl rfl
theorem len_nil : lenA H .lenSl .nilsl = some (.int .i64 0, H, .p) := Eq.trans rfl rfl
theorem len_lst {cs : List AV} {n sz : Nat} {ex : Bool} : lenA H .lenSl (.lst cs n sz ex) = some (.int .i64 n, H, .p) := Eq.trans rfl rfl
theorem len_sl {b o n sz v : Nat} {c : Option Nat} : lenA H .lenSl (.sl b o n sz v c) = some (.int .i64 n, H, .p) := Eq.trans rfl rfl
theorem bi_lenStr {x : AV} : builtinA H .lenStr [x] = lenA H .lenStr x := Eq.trans rfl rfl
theorem bi_lenSl {x : AV} : builtinA H .lenSl [x] = lenA H .lenSl x := Eq.trans rfl rfl
theorem bi_append {sz b g : Nat} {z : List AV} {x y : AV} : builtinA H (.append sz b g z) [x, y] = appendA H sz b g x y := Eq.trans rfl rfl
theorem bin_lss {k : IntKind} {a b : Int} : binA .lss (.int k a) (.int k b) = some (.bool (decide (a < b))) := by simp [binA]
theorem bin_geq {k : IntKind} {a b : Int} : binA .geq (.int k a) (.int k b) = some (.bool (decide (a ≥ b))) := by simp [binA]
theorem bin_eql {k : IntKind} {a b : Int} : binA .eql (.int k a) (.int k b) = some (.bool (a == b)) := by simp [binA]
theorem bin_eqls {a b : List UInt8} : binA .eql (.str a) (.str b) = some (.bool (a == b)) := Eq.trans rfl rfl
theorem bin_neqs {a b : List UInt8} : binA .neq (.str a) (.str b) = some (.bool !(a == b)) := Eq.trans rfl rfl
theorem bin_add {k : IntKind} {a b : Int} : binA .add (.int k a) (.int k b) = some (.int k (k.wrap (a + b))) := by simp [binA]
theorem wrap64 {a : Int} (h : -(2 ^ 63 : Int) ≤ a ∧ a < 2 ^ 63) : IntKind.i64.wrap a = a := by
 show (if (true && decide (a % (2 ^ 64 : Int) ≥ (2 ^ 63 : Int))) = true then a % (2 ^ 64 : Int) - (2 ^ 64 : Int) else a % (2 ^ 64 : Int)) = a
 simp only [Bool.true_and, decide_eq_true_eq]
 split <;> omega
theorem un_not {b : Bool} : unA .not (.bool b) = some (.bool !b) := Eq.trans rfl rfl
end
theorem x_slStr {T : Tmps} {H : AHeap} {K : AV → AHeap → Kd → Prop} {x : Opd} {lo hi : Option Opd} : E.W1 (.slStr x lo hi) T H K ↔ Res (fSlStr (ev T x) (evo T lo) (evo T hi) H) K := w_slStr
theorem x_idxStr {T : Tmps} {H : AHeap} {K : AV → AHeap → Kd → Prop} {x y : Opd} : E.W1 (.idxStr x y) T H K ↔ Res (fIdxStr (ev T x) (ev T y) H) K := w_idxStr
theorem x_field {T : Tmps} {H : AHeap} {K : AV → AHeap → Kd → Prop} {x : Opd} {o sz : Nat} {ag : Bool} : E.W1 (.field o sz ag x) T H K ↔ Res (fField o sz ag (ev T x) H) K := w_field
theorem x_alloc {T : Tmps} {H : AHeap} {K : AV → AHeap → Kd → Prop} {zs : List AV} {g : Nat} : E.W1 (.alloc zs g) T H K ↔ Res (fAlloc zs g H) K := w_alloc
theorem x_mkSlice {T : Tmps} {H : AHeap} {K : AV → AHeap → Kd → Prop} {x y : Opd} {zs : List AV} {sz by_ g : Nat} : E.W1 (.mkSlice zs sz by_ g x y) T H K ↔ Res (fMkSlice zs sz by_ g (ev T x) (ev T y) H) K := w_mkSlice
theorem x_nilChk {T : Tmps} {H : AHeap} {K : AV → AHeap → Kd → Prop} {x : Opd} : E.W1 (.nilChk x) T H K ↔ Res (fNilChk (ev T x) H) K := w_nilChk
theorem sl_to {s : List UInt8} {k : IntKind} {h : Int} {H : AHeap} (hh : 0 ≤ h ∧ h ≤ s.length) : fSlStr (.str s) none (some (.int k h)) H = some (.str (s.take h.toNat), H, .p) := by
 have h2 : (0 : Int) ≤ 0 ∧ 0 ≤ h ∧ h ≤ s.length := ⟨by omega, hh⟩
 simp only [fSlStr, bounds, loI, hiI, asI, if_pos h2]
 rfl
theorem idx_str0 {c : UInt8} {s : List UInt8} {k : IntKind} {H : AHeap} : fIdxStr (.str (c :: s)) (.int k 0) H = some (.int .u8 c.toNat, H, .p) := Eq.trans rfl rfl
theorem idxA_sl {b o n v i : Nat} {c : Option Nat} {k : IntKind} (h : i < n) : idxAddrA 1 (.sl b o n 1 v c) (.int k i) = some (.ptr b (o + i) v) := by
 simp [idxAddrA, asI, h]
theorem idxA_lst {cs : List AV} {n i : Nat} {ex : Bool} {k : IntKind} (h : i < n) : idxAddrA 1 (.lst cs n 1 ex) (.int k i) = some (.elt cs i) := by
 simp [idxAddrA, asI, h]
theorem load_at {H : AHeap} {b o v : Nat} {cs : List AV} {g wv st : Nat} {x : AV} (hb : H[b]? = some (.cells cs g wv st)) (h1 : st < 2) (h2 : wv ≤ v) (h3 : v ≤ cs.length) (h4 : o + 1 ≤ v) (hx : cs[o]? = some x) : loadA H 1 false (.ptr b o v) = some (x, H, .r b) := by
 have hc : st < 2 ∧ wv ≤ v ∧ v ≤ cs.length ∧ o + 1 ≤ v := ⟨h1, h2, h3, h4⟩
 simp only [loadA, hb, if_pos hc, part, Bool.false_eq_true, if_false, hx, readV, Option.map_some]
theorem load_elt {H : AHeap} {o : Nat} {cs : List AV} {x : AV} (hx : cs[o]? = some x) : loadA H 1 false (.elt cs o) = some (x, H, .p) := by
 simp only [loadA, part, Bool.false_eq_true, if_false, hx, pureV, Option.map_some]
theorem nil_ptr {H : AHeap} {b o v : Nat} : fNilChk (.ptr b o v) H = some (.ptr b o v, H, .p) := Eq.trans rfl rfl
theorem add_ptr {b o v k : Nat} : addA k (.ptr b o v) = some (.ptr b (o + k) v) := Eq.trans rfl rfl
theorem C_val {f : Nat} {args : List AV} {v : AV} {Hc : AHeap} (h : E.Ans f args [] v Hc) (hl : locFreeL args = true) (hk : E.keep f = false) (hf : freeze Hc 1000000000 v = some v) {H : AHeap} {K : AV → AHeap → Kd → Prop} : E.C f args H K ↔ K v H .p := C_pure hl h hk hf
end Env
theorem onceA_mono {o : OnceT} {keep : Nat → Bool} {c c' : ACall} (h : ALe c c') {args : List AV} {H : AHeap} {r : AV × AHeap} (hr : onceA o keep c args H = some r) : onceA o keep c' args H = some r := by
 unfold onceA at hr ⊢
 split at hr <;> try (simp at hr; done)
 rename_i hl
 rw [if_pos hl]
 split at hr <;> try (simp at hr; done)
 rename_i h0
 rw [opsA_mono h h0]; simp only
 split at hr <;> try (simp at hr; done)
 rename_i h1
 rw [opsA_mono h h1]; simp only
 split at hr <;> try (simp at hr; done)
 rename_i h2
 rw [opsA_mono h h2]; simp only
 split at hr <;> try (simp at hr; done)
 ·rename_i hb
  split at hr <;> try (simp at hr; done)
  rename_i h3
  rw [opsA_mono h h3]; simp only
  split at hr <;> try (simp at hr; done)
  rename_i h4
  rw [opsA_mono h h4]; simp only
  split at hr <;> try (simp at hr; done)
  rename_i h5
  rw [h _ _ _ _ _ h5]; simp only
  split at hr <;> try (simp at hr; done)
  rename_i h6
  rw [h _ _ _ _ _ h6]
  exact hr
 ·rename_i hb
  split at hr <;> try (simp at hr; done)
  rename_i h3
  rw [h _ _ _ _ _ h3]
  exact hr
theorem hookA_mono {o : OnceT} {keep : Nat → Bool} {once : Nat} {c c' : ACall} (h : ALe c c') (f : Nat) (args : List AV) (H : AHeap) (r : AV × AHeap) (hr : hookA keep once o c f args H = some r) : hookA keep once o c' f args H = some r := by
 unfold hookA at hr ⊢
 split
 ·rename_i e; rw [if_pos e] at hr; exact onceA_mono h hr
 ·rename_i e; rw [if_neg e] at hr; exact hr
noncomputable def envOf (t : NT LFunc) (keep : Nat → Bool) (once : Nat) (o : OnceT) : Env := ⟨t.get, keep, hookA keep once o, fun h => hookA_mono h⟩
end Go.AE
namespace Go.AE.Env
open Go Go.AE
variable {E : Env}
theorem x_idxArrAddr {T : Tmps} {H : AHeap} {K : AV → AHeap → Kd → Prop} {len sz : Nat} {x i : Opd} : E.W1 (.idxArrAddr len sz x i) T H K ↔ Res (fIdxArrAddr len sz (ev T x) (ev T i) H) K := W1_op fun _ => rfl
theorem x_idxArr {T : Tmps} {H : AHeap} {K : AV → AHeap → Kd → Prop} {len sz : Nat} {ag : Bool} {x i : Opd} : E.W1 (.idxArr len sz ag x i) T H K ↔ Res (fIdxArr len sz ag (ev T x) (ev T i) H) K := W1_op fun _ => rfl
theorem x_rangeStr {T : Tmps} {H : AHeap} {K : AV → AHeap → Kd → Prop} {x : Opd} : E.W1 (.rangeStr x) T H K ↔ Res (fRangeStr (ev T x) H) K := W1_op fun _ => rfl
theorem x_nextStr {T : Tmps} {H : AHeap} {K : AV → AHeap → Kd → Prop} {x : Opd} : E.W1 (.nextStr x) T H K ↔ Res (fNextStr (ev T x) H) K := W1_op fun _ => rfl
theorem x_lookup {T : Tmps} {H : AHeap} {K : AV → AHeap → Kd → Prop} {k : ETy} {zero : AV} {ok : Bool} {x i : Opd} : E.W1 (.lookup k zero ok x i) T H K ↔ Res (fLookup k zero ok (ev T x) (ev T i) H) K := W1_op fun _ => rfl
theorem x_mapUpd {T : Tmps} {H : AHeap} {K : AV → AHeap → Kd → Prop} {k : ETy} {m i x : Opd} : E.W1 (.mapUpd k m i x) T H K ↔ Res (fMapUpd k (ev T m) (ev T i) (ev T x) H) K := W1_op fun _ => rfl
theorem x_mkMap {T : Tmps} {H : AHeap} {K : AV → AHeap → Kd → Prop} : E.W1 .mkMap T H K ↔ Res (some (.map H.length, H ++ [.map []], .a H.length)) K := W1_op fun _ => rfl
theorem x_slArr {T : Tmps} {H : AHeap} {K : AV → AHeap → Kd → Prop} {len sz : Nat} {x : Opd} {lo hi mx : Option Opd} : E.W1 (.slArr len sz x lo hi mx) T H K ↔ Res (fSlArr len sz (ev T x) (evo T lo) (evo T hi) (evo T mx) H) K := W1_op fun _ => rfl
end Go.AE.Env
