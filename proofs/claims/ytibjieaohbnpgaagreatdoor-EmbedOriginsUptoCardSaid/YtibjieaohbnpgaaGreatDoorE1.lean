/- The law 'EmbedOrigins': for all that have a feature and every three origins that together are of bulk at most 1048576, the call returns true and leaves its arguments as they were. -/
import Derived.Test.YtibjieaohbnpgaaGreatDoorB3
import Derived.Test.YtibjieaohbnpgaaGreatDoorA8
import Derived.Test.YtibjieaohbnpgaaGreatDoorC3
import Derived.Test.YtibjieaohbnpgaaGreatDoorCards
import Derived.Test.YtibjieaohbnpgaaGreatDoorTie
import Derived.WalkKit
import Derived.ProofKit
import Derived.OpenShut
import Derived.Deep.DeepHandedRow
import Derived.Lib.LaidTab
set_option linter.all false
set_option linter.unusedSimpArgs false
set_option linter.unusedVariables false
set_option linter.unnecessarySimpa false
set_option linter.deprecated false
namespace Go.Proofs.YtibjieaohbnpgaaGreatDoor.Ae
open Go Go.AE Go.AE.Fns
set_option maxRecDepth 100000
theorem sound (n : Nat) : CallSound ctx keep (callsA lpT.get keep (hookA keep onceN once) n) :=
 AE.calls_sound (lp_of (tied keep (by kernel_rfl) (by kernel_rfl) (by kernel_rfl) (by kernel_rfl) (by kernel_rfl) (by kernel_rfl) (by kernel_rfl) (by kernel_rfl) (by kernel_rfl) (by kernel_rfl))) (hook_of onceOk) (by kernel_rfl) n
theorem own : ownKnob Tryz.prog.godebug = none := by kernel_rfl
theorem laidOut : laidOutB Tryz.prog = true := by kernel_rfl
theorem bulk_mem {H : Type} : ∀ {l : List (DataW H)} {d : DataW H}, d ∈ l → Rows.uptoBulk d ≤ Rows.uptoBulkAll l
 | x :: l, d, h => by
  simp only [Rows.uptoBulkAll]
  rcases List.mem_cons.1 h with rfl | h
  ·omega
  ·have := bulk_mem h; omega
theorem bulk_pos {H : Type} (d : DataW H) : 1 ≤ Rows.uptoBulk d := by
 unfold Rows.uptoBulk
 split <;> omega
theorem bulk_len {H : Type} : ∀ {l : List (DataW H)}, l.length ≤ Rows.uptoBulkAll l
 | [] => Nat.zero_le _
 | x :: l => by
  simp only [Rows.uptoBulkAll, List.length_cons]
  have h1 := bulk_pos x
  have h2 := bulk_len (l := l)
  omega
theorem bulkOk {H : Type} : BulkOk (Rows.uptoBulk (H := H)) where
 str s := by simp only [Rows.uptoBulk]; omega
 agg ds d h := by have := bulk_mem h; simp only [Rows.uptoBulk]; omega
 sl es sp d h := by have := bulk_mem h; simp only [Rows.uptoBulk]; omega
 len es sp := by have := bulk_len (l := es); simp only [Rows.uptoBulk]; omega
theorem u3 : ctx.P.underlying 3 = some (.int .i64) := by kernel_rfl
theorem u4 : ctx.P.underlying 4 = some .bool := by kernel_rfl
theorem u9 : ctx.P.underlying 9 = some .string := by kernel_rfl
theorem z9 : ctx.P.cellsOf 9 = 1 := by kernel_rfl
theorem u22 : ctx.P.underlying 23 = some (.int .u8) := by kernel_rfl
theorem u23 : ctx.P.underlying 24 = some (.int .u32) := by kernel_rfl
theorem u24 : ctx.P.underlying 25 = some (.int .u16) := by kernel_rfl
theorem z24 : ctx.P.cellsOf 25 = 1 := by kernel_rfl
theorem u25 : ctx.P.underlying 26 = some (.array 8 25) := by kernel_rfl
theorem cf_str {M k : Nat} {a : AV} (h : ArgOk ctx.P M (k + 1) 9 a) : ∃ s, a = .str s ∧ s.length ≤ M := by
 unfold ArgOk at h
 rw [u9] at h
 simp only [Cf, u9] at h
 obtain ⟨s, h, h1⟩ := h
 exact ⟨s, by simpa using h, h1⟩
def fldsOf (P : Program) (t : TypeId) : List (TypeId × Nat) := match P.underlying t with
 | some (.struct fs) => fs.toList.map fun f => (f.type, f.offset)
 | _ => []
theorem cf_flds {P : Program} {M k : Nat} {t : TypeId} {xs : List AV} {l : List (TypeId × Nat)} (hl : fldsOf P t = l) (hne : l.isEmpty = false) (h : Cf P M (k + 1) t xs) : xs.length = P.cellsOf t ∧ ∀ x ∈ l, Cf P M k x.1 ((xs.drop x.2).take (P.cellsOf x.1)) := by
 unfold fldsOf at hl
 split at hl
 ·rename_i fs hu
  simp only [Cf, hu] at h
  refine ⟨h.1, ?_⟩
  subst hl
  intro x hx
  obtain ⟨f, hf, rfl⟩ := List.mem_map.1 hx
  exact h.2 f hf
 ·subst hl; simp at hne
theorem isStruct {P : Program} {t : TypeId} {l : List (TypeId × Nat)} (hl : fldsOf P t = l) (hne : l.isEmpty = false) {M k : Nat} {a : AV} (h : ArgOk P M k t a) : ∃ xs, a = .agg xs ∧ Cf P M k t xs := by
 unfold fldsOf at hl
 unfold ArgOk at h
 split at hl
 ·rename_i fs hu
  rw [hu] at h
  exact h
 ·subst hl; simp at hne
theorem f27 : fldsOf ctx.P 28 = [(23, 0), (9, 1), (24, 2), (26, 3)] := by kernel_rfl
theorem f40 : fldsOf ctx.P 30 = [(4, 0), (3, 1), (9, 2), (28, 3), (3, 14), (4, 15), (9, 16), (4, 17)] := by kernel_rfl
theorem z3 : ctx.P.cellsOf 3 = 1 := by kernel_rfl
theorem z4 : ctx.P.cellsOf 4 = 1 := by kernel_rfl
theorem z22 : ctx.P.cellsOf 23 = 1 := by kernel_rfl
theorem z23 : ctx.P.cellsOf 24 = 1 := by kernel_rfl
theorem z25 : ctx.P.cellsOf 26 = 8 := by kernel_rfl
theorem z27 : ctx.P.cellsOf 28 = 11 := by kernel_rfl
theorem z40 : ctx.P.cellsOf 30 = 18 := by kernel_rfl
theorem cf_nat {M k t b : Nat} {kd : IntKind} {xs : List AV} (hu : ctx.P.underlying t = some (.int kd)) (h1 : kd.min = 0) (h2 : kd.max = (b : Int) - 1) (h : Cf ctx.P M (k + 1) t xs) : ∃ n : Nat, xs = [.int kd (n : Nat)] ∧ n < b := by
 simp only [Cf, hu] at h
 obtain ⟨i, h, g1, g2⟩ := h
 rw [h1] at g1
 rw [h2] at g2
 refine ⟨i.toNat, by rw [h, Int.toNat_of_nonneg g1], by omega⟩
theorem cf_arr {P : Program} {M k m : Nat} {t e : TypeId} {xs : List AV} (hu : P.underlying t = some (.array m e)) (h : Cf P M (k + 1) t xs) : xs.length = P.cellsOf t ∧ ∀ i, i < m → Cf P M k e ((xs.drop (i * P.cellsOf e)).take (P.cellsOf e)) := by
 simp only [Cf, hu] at h
 exact h
theorem len8 {α : Type} : ∀ {l : List α}, l.length = 8 → ∃ a b c d e f g h, l = [a, b, c, d, e, f, g, h]
 | [a, b, c, d, e, f, g, h], _ => ⟨a, b, c, d, e, f, g, h, rfl⟩
theorem cf_host {M k : Nat} {xs : List AV} (hM : M ≤ 2 ^ 29) (h : Cf ctx.P M (k + 4) 28 xs) : ∃ o : Host, xs = o.cells ∧ o.In := by
 obtain ⟨hl, h⟩ := cf_flds (k := k + 3) f27 rfl h
 rw [z27] at hl
 simp only [List.mem_cons, List.not_mem_nil, or_false, forall_eq_or_imp, forall_eq, z22, z9, z23, z25, List.drop_zero] at h
 obtain ⟨h1, h2, h3, h4⟩ := h
 obtain ⟨kind, h1, k1⟩ := cf_nat (b := 256) u22 rfl rfl h1
 simp only [Cf, u9] at h2
 obtain ⟨name, h2, k2⟩ := h2
 obtain ⟨v4, h3, k3⟩ := cf_nat (b := 2 ^ 32) u23 rfl rfl h3
 obtain ⟨h4, h5⟩ := cf_arr u25 h4
 rw [z25] at h4
 rw [z24] at h5
 have e : xs = xs.take 1 ++ ((xs.drop 1).take 1 ++ ((xs.drop 2).take 1 ++ (xs.drop 3).take 8)) := by
  have e3 : (xs.drop 3).take 8 = xs.drop 3 := List.take_of_length_le (by simp; omega)
  rw [e3]
  have d2 : xs.drop 3 = (xs.drop 2).drop 1 := by simp
  have d1 : xs.drop 2 = (xs.drop 1).drop 1 := by simp
  rw [d2, List.take_append_drop, d1, List.take_append_drop, List.take_append_drop]
 generalize (xs.drop 3).take 8 = ws at h4 h5 e
 obtain ⟨w0, w1, w2, w3, w4, w5, w6, w7, rfl⟩ := len8 h4
 obtain ⟨b0, g0, j0⟩ := cf_nat (b := 65536) u24 rfl rfl (h5 0 (by omega))
 obtain ⟨b1, g1, j1⟩ := cf_nat (b := 65536) u24 rfl rfl (h5 1 (by omega))
 obtain ⟨b2, g2, j2⟩ := cf_nat (b := 65536) u24 rfl rfl (h5 2 (by omega))
 obtain ⟨b3, g3, j3⟩ := cf_nat (b := 65536) u24 rfl rfl (h5 3 (by omega))
 obtain ⟨b4, g4, j4⟩ := cf_nat (b := 65536) u24 rfl rfl (h5 4 (by omega))
 obtain ⟨b5, g5, j5⟩ := cf_nat (b := 65536) u24 rfl rfl (h5 5 (by omega))
 obtain ⟨b6, g6, j6⟩ := cf_nat (b := 65536) u24 rfl rfl (h5 6 (by omega))
 obtain ⟨b7, g7, j7⟩ := cf_nat (b := 65536) u24 rfl rfl (h5 7 (by omega))
 simp at g0 g1 g2 g3 g4 g5 g6 g7
 subst g0 g1 g2 g3 g4 g5 g6 g7
 rw [h1, h2, h3] at e
 exact ⟨{ kind, name, v4, b0, b1, b2, b3, b4, b5, b6, b7 }, e, ⟨by show name.length ≤ _; omega, k1, k3, by intro x hx; simp [Host.v6] at hx; omega⟩⟩
theorem cf_origin {M k : Nat} {a : AV} (hM : M ≤ 2 ^ 29) (h : ArgOk ctx.P M (k + 5) 30 a) : ∃ o : Origin, a = .agg o.cells ∧ o.In := by
 obtain ⟨xs, rfl, h'⟩ := isStruct f40 rfl h
 clear h
 obtain ⟨hl, h⟩ := cf_flds (k := k + 4) f40 rfl h'
 rw [z40] at hl
 simp only [List.mem_cons, List.not_mem_nil, or_false, forall_eq_or_imp, forall_eq, z3, z4, z9, z27, List.drop_zero] at h
 obtain ⟨h1, h2, h3, h4, h5, h6, h7, h8⟩ := h
 obtain ⟨host, h4, i4⟩ := cf_host hM h4
 simp only [Cf, u3, u4, u9] at h1 h2 h3 h5 h6 h7 h8
 obtain ⟨opaq, h1⟩ := h1
 obtain ⟨id, h2, k2⟩ := h2
 obtain ⟨scheme, h3, k3⟩ := h3
 obtain ⟨port, h5, k5⟩ := h5
 obtain ⟨hasPort, h6⟩ := h6
 obtain ⟨domain, h7, k7⟩ := h7
 obtain ⟨hasDomain, h8⟩ := h8
 have e : xs = xs.take 1 ++ ((xs.drop 1).take 1 ++ ((xs.drop 2).take 1 ++ ((xs.drop 3).take 11 ++ ((xs.drop 14).take 1 ++ ((xs.drop 15).take 1 ++ ((xs.drop 16).take 1 ++ (xs.drop 17).take 1)))))) := by
  have e3 : (xs.drop 17).take 1 = xs.drop 17 := List.take_of_length_le (by simp; omega)
  rw [e3]
  have d17 : xs.drop 17 = (xs.drop 16).drop 1 := by simp
  have d16 : xs.drop 16 = (xs.drop 15).drop 1 := by simp
  have d15 : xs.drop 15 = (xs.drop 14).drop 1 := by simp
  have d14 : xs.drop 14 = (xs.drop 3).drop 11 := by simp
  have d3 : xs.drop 3 = (xs.drop 2).drop 1 := by simp
  have d2 : xs.drop 2 = (xs.drop 1).drop 1 := by simp
  rw [d17, List.take_append_drop, d16, List.take_append_drop, d15, List.take_append_drop, d14, List.take_append_drop, d3, List.take_append_drop, d2, List.take_append_drop, List.take_append_drop]
 rw [h1, h2, h3, h4, h5, h6, h7, h8] at e
 have e1 : IntKind.i64.min = -(2 ^ 63 : Int) := by decide
 have e2 : IntKind.i64.max = (2 ^ 63 - 1 : Int) := by decide
 rw [e1, e2] at k2 k5
 exact ⟨{ opaq, id, scheme, host, port, hasPort, domain, hasDomain }, by rw [e]; rfl, ⟨i4, by show scheme.length ≤ _; omega, by show domain.length ≤ _; omega, by show _ ≤ id ∧ id < _; omega, by show _ ≤ port ∧ port < _; omega⟩⟩
theorem args4 {P : Program} {M k : Nat} {t t1 t2 t3 : TypeId} {xs : List AV} (h : ArgsOk P M k [t, t1, t2, t3] xs) : ∃ a b c d, xs = [a, b, c, d] ∧ ArgOk P M k t a ∧ ArgOk P M k t1 b ∧ ArgOk P M k t2 c ∧ ArgOk P M k t3 d := by
 match xs, h with
 | [a, b, c, d], ⟨h1, h2, h3, h4, _⟩ => exact ⟨a, b, c, d, rfl, h1, h2, h3, h4⟩
section
variable {H : Type} {enc : TypeId × Value → H} {P : Program} {w : World} {base : Nat} {spare : Nat → Bool} {held : Bool} {vs : List Value} {ds : List (DataW H)} {ps : List MemPlace}
theorem trod_len : ∀ {ts : List TypeId} {vs : List Value} {ds : List (DataW H)} {ps : List MemPlace}, DataW.TrodAll enc P w base spare held ts vs ds ps → ds.length = ts.length
 | [], [], [], _, _ => rfl
 | _ :: _, _ :: _, _ :: _, _, h => by
  obtain ⟨p, q, h1, h2, _⟩ := h
  simp [trod_len h2]
 | [], [], _ :: _, _, h => by simp [DataW.TrodAll] at h
 | [], _ :: _, _, _, h => by simp [DataW.TrodAll] at h
 | _ :: _, [], _, _, h => by simp [DataW.TrodAll] at h
 | _ :: _, _ :: _, [], _, h => by simp [DataW.TrodAll] at h
theorem data4 (h : ds.length = 4) : ∃ a b c d, ds = [a, b, c, d] := by
 match ds, h with
 | [a, b, c, d], _ => exact ⟨a, b, c, d, rfl⟩
end
end Go.Proofs.YtibjieaohbnpgaaGreatDoor.Ae
namespace Go.Proofs.YtibjieaohbnpgaaGreatDoor.Ae
open Go Go.AE Go.AE.Fns
set_option maxRecDepth 100000
theorem cf_arg {P : Program} {t : TypeId} {l : List (TypeId × Nat)} (hl : fldsOf P t = l) (hne : l.isEmpty = false) {M k : Nat} {xs : List AV} (h : Cf P M k t xs) : ArgOk P M k t (.agg xs) := by
 unfold fldsOf at hl
 unfold ArgOk
 split at hl
 ·rename_i fs hu
  rw [hu]
  exact ⟨xs, rfl, h⟩
 ·subst hl; simp at hne
theorem rows_of {α : Type} {sz : Nat} {f : α → List AV} {p : List AV → Prop} {q : α → Prop} (hp : ∀ xs, p xs → ∃ a, xs = f a ∧ q a) : ∀ (m : Nat) (cs : List AV), cs.length = m * sz → (∀ i, i < m → p ((cs.drop (i * sz)).take sz)) → ∃ l : List α, cs = l.flatMap f ∧ l.length = m ∧ ∀ a ∈ l, q a
  | 0, cs, hl, _ => ⟨[], by simpa using hl, rfl, by simp⟩
  | m + 1, cs, hl, h => by
    obtain ⟨a, e, ha⟩ := hp _ (h 0 (by omega))
    obtain ⟨l, e2, h2, h3⟩ := rows_of (sz := sz) hp m (cs.drop sz) (by rw [List.length_drop, hl, Nat.succ_mul]; omega) fun i hi => by
      have := h (i + 1) (by omega)
      rwa [List.drop_drop, show sz + i * sz = (i + 1) * sz by rw [Nat.succ_mul]; omega]
    refine ⟨a :: l, ?_, by simp [h2], ?_⟩
    · rw [List.flatMap_cons, ← e2, ← e]
      simp
    · intro x hx
      rcases List.mem_cons.1 hx with rfl | hx
      · exact ha
      · exact h3 x hx
theorem cf_sl {P : Program} {M k : Nat} {t e : TypeId} {xs : List AV} (hu : P.underlying t = some (.slice e)) (h : Cf P M (k + 1) t xs) : xs = [.nilsl] ∨ ∃ cs m, xs = [.lst cs m (P.cellsOf e) false] ∧ m ≤ M ∧ cs.length = m * P.cellsOf e ∧ ∀ i, i < m → Cf P M k e ((cs.drop (i * P.cellsOf e)).take (P.cellsOf e)) := by
 simp only [Cf, hu] at h
 exact h
theorem uo : ctx.P.underlying 47 = some (.slice 30) := by kernel_rfl
theorem cf_orgs {M k : Nat} {xs : List AV} (hM : M ≤ 2 ^ 29) (h : Cf ctx.P M (k + 6) 47 xs) : ∃ (r : AV) (l : List Origin), xs = [r] ∧ IsO l r ∧ l.length ≤ M := by
 rcases cf_sl (k := k + 5) uo h with h | ⟨cs, m, h, h1, h2, h3⟩
 ·exact ⟨_, [], h, .nil rfl, by simp⟩
 ·rw [z40] at h h2 h3
  obtain ⟨l, e, h4, _⟩ := rows_of (f := Origin.cells) (q := fun _ => True) (fun ys hy => by
   obtain ⟨o, ho, _⟩ := cf_origin (k := k) hM (cf_arg f40 rfl hy)
   exact ⟨o, by simpa using ho, trivial⟩) m cs h2 h3
  refine ⟨_, l, h, ?_, by omega⟩
  rw [e, ← h4]
  exact IsO.lst false
theorem fa : fldsOf ctx.P 49 = [(4, 0), (4, 1), (47, 2)] := by kernel_rfl
theorem za : ctx.P.cellsOf 49 = 3 := by kernel_rfl
theorem zo : ctx.P.cellsOf 47 = 1 := by kernel_rfl
theorem cf_allow {M k : Nat} {xs : List AV} (hM : M ≤ 2 ^ 29) (h : Cf ctx.P M (k + 7) 49 xs) : ∃ a : Al, xs = a.cells ∧ IsO a.os a.r ∧ a.os.length ≤ M := by
 obtain ⟨hl, h⟩ := cf_flds (k := k + 6) fa rfl h
 rw [za] at hl
 simp only [List.mem_cons, List.not_mem_nil, or_false, forall_eq_or_imp, forall_eq, z4, zo, List.drop_zero] at h
 obtain ⟨h1, h2, h3⟩ := h
 obtain ⟨r, l, h3, h4, h5⟩ := cf_orgs hM h3
 simp only [Cf, u4] at h1 h2
 obtain ⟨all, h1⟩ := h1
 obtain ⟨self, h2⟩ := h2
 have e : xs = xs.take 1 ++ ((xs.drop 1).take 1 ++ (xs.drop 2).take 1) := by
  have e3 : (xs.drop 2).take 1 = xs.drop 2 := List.take_of_length_le (by simp; omega)
  have d2 : xs.drop 2 = (xs.drop 1).drop 1 := by simp
  rw [e3, d2, List.take_append_drop, List.take_append_drop]
 rw [h1, h2, h3] at e
 exact ⟨{ all, self, r, os := l }, e, h4, h5⟩
theorem cf_allowA {M k : Nat} {a : AV} (hM : M ≤ 2 ^ 29) (h : ArgOk ctx.P M (k + 7) 49 a) : ∃ x : Al, a = .agg x.cells ∧ IsO x.os x.r ∧ x.os.length ≤ M := by
 obtain ⟨xs, rfl, h'⟩ := isStruct fa rfl h
 obtain ⟨x, rfl, h1⟩ := cf_allow hM h'
 exact ⟨x, rfl, h1⟩
theorem fg : fldsOf ctx.P 56 = [(9, 0), (49, 1)] := by kernel_rfl
end Go.Proofs.YtibjieaohbnpgaaGreatDoor.Ae
namespace Go.Proofs.YtibjieaohbnpgaaGreatDoor.embedOrigins
open Go.ChangeShapes Go.WideShapes Go.ChangeAt Go.RowKit Go.AE Go.AE.Fns
open Go.Proofs.YtibjieaohbnpgaaGreatDoor.Ae
set_option maxRecDepth 100000
theorem contract (H : Type) (enc : TypeId × Value → H) (W : World) (base : Nat) (args : Array Value) (ds gs : List (DataW H)) (before : List MemPlace)
    (hval : ∀ (j : Nat) t v, Tryz.f5.params[j]? = some t → args[j]? = some v → Value.okWide Tryz.prog W .any base t v)
    (hW : DataW.Whole enc Tryz.prog Tryz.f5.params.toList Rows.embedOriginsSpec.vars false W args.toList ds gs before) (hsmall : Rows.uptoBulkAll (ds ++ gs) ≤ 1048576) (hlaid : laidMetH Tryz.prog Rows.embedOriginsUptoRow.laid W) :
    Calls Tryz.prog 5 args W fun e W' => ∃ v, e = .returned v ∧ Rows.embedOriginsSpec.post enc Tryz.prog Tryz.f5 false true false false W args v W' := by
  have hW0 := hW
  obtain ⟨p, q, hA0, hV, rfl, hfz, hnd⟩ := hW
  have hA : DataW.TrodAll enc ctx.P W 0 (fun _ => true) true [49, 30, 30, 30] args.toList ds p := by
    have := hA0
    rw [Tryz.params5] at this
    exact this
  rw [Tryz.params5] at hval
  obtain ⟨rfl, rfl⟩ := trodVars_none hV
  rw [List.append_nil] at hsmall
  have e5 : ctx.fid 380 = 5 := by kernel_rfl
  have hpar : ∀ t ∈ Tryz.f5.params.toList, Tryz.prog.readableRec t = true ∧ t < Tryz.prog.types.size := by
    intro t ht
    have k : Tryz.f5.params.toList.all (fun t => Tryz.prog.readableRec t && decide (t < Tryz.prog.types.size)) = true := by kernel_rfl
    have := List.all_eq_true.1 k t ht
    simpa using this
  have hty : ∀ t ∈ ([49, 30, 30, 30] : List TypeId), argTy ctx.P 9 t = true := by
    have k : ([49, 30, 30, 30] : List TypeId).all (argTy ctx.P 9) = true := by kernel_rfl
    exact List.all_eq_true.1 k
  obtain ⟨xs, hok, hrel⟩ := args_read (C := ctx) (M := 1048576) bulkOk (k := 9) hA hty (fun j t v h1 h2 => hval j t v (by simpa using h1) (by simpa using h2)) (fun d hd => by have := bulk_mem hd; omega)
  obtain ⟨d0, d1, d2, d3, rfl⟩ := data4 (trod_len hA)
  obtain ⟨x0, x1, x2, x3, rfl, h0, h1, h2, h3⟩ := args4 hok
  obtain ⟨al, rfl, i0, j0⟩ := cf_allowA (k := 2) (by decide) h0
  obtain ⟨o1, rfl, i1⟩ := cf_origin (k := 4) (by decide) h1
  obtain ⟨o2, rfl, i2⟩ := cf_origin (k := 4) (by decide) h2
  obtain ⟨o3, rfl, i3⟩ := cf_origin (k := 4) (by decide) h3
  obtain ⟨H', n, hn⟩ := embedOrigins_ans i0 (by omega) o1 o2 o3
  obtain ⟨ps, hl, _⟩ := laid_of (by kernel_rfl) hlaid
  have hc := AE.calls_top (C := ctx) (sound n) (f := 380) (fn := Tryz.f5) (by rw [e5]; exact Tryz.func5) rfl (by kernel_rfl) hn (AE.HRel.start (fun g v hg => gl_ok hl g v hg)) hrel
  rw [e5, Array.toArray_toList] at hc
  exact Calls.mono hc fun e W' ha => AE.post_true (C := ctx) laidOut (f := Tryz.f5) rfl Tryz.underlying4 hpar rfl hW0 rfl ha
end Go.Proofs.YtibjieaohbnpgaaGreatDoor.embedOrigins
