/- What the call does, at every argument that is small enough. -/
import Derived.Test.YtnblehjhpjfilaaGreatDoorB3
import Derived.Test.YtnblehjhpjfilaaGreatDoorC2
import Derived.Test.YtnblehjhpjfilaaGreatDoorB5
import Derived.Test.YtnblehjhpjfilaaGreatDoorA5
import Derived.Test.YtnblehjhpjfilaaGreatDoorCards
import Derived.Test.YtnblehjhpjfilaaGreatDoorTie
import Derived.WalkKit
import Derived.ProofKit
import Derived.OpenShut
import Derived.Deep.DeepHandedRow
import Derived.Lib.LaidTab
set_option linter.all false
set_option linter.unusedSimpArgs false
set_option linter.unusedVariables false
set_option linter.unnecessarySimpa false
set_option linter.deprecated false
/- The law 'OriginRules' of chapter 12: for every list of rules, every name and every further rule that together are of bulk at most 1048576, the call returns true and leaves its arguments as they were. -/
namespace Go.Proofs.YtnblehjhpjfilaaGreatDoor.originRules
open Go.ChangeShapes Go.WideShapes Go.ChangeAt Go.RowKit
open Go.AE (AV CallSound lp_of hook_of callsA callsF callsF_eq hookA)
open Go.AE.Fns (lpT keep onceN once run isT)
open Go.Proofs.YtnblehjhpjfilaaGreatDoor.Ae
set_option maxRecDepth 100000

theorem sound (n : Nat) : CallSound ctx keep (callsA lpT.get keep (hookA keep onceN once) n) :=
  AE.calls_sound (lp_of (tied keep (by kernel_rfl) (by kernel_rfl) (by kernel_rfl) (by kernel_rfl) (by kernel_rfl) (by kernel_rfl) (by kernel_rfl) (by kernel_rfl) (by kernel_rfl) (by kernel_rfl) (by kernel_rfl) (by kernel_rfl))) (hook_of onceOk) (by kernel_rfl) n

theorem lives : ∃ Hl, AE.Env.Ans AE.Fns.E 47 [] [] (.bool true) Hl := by
  have h := AE.Fns.r
  unfold run at h
  rw [callsF_eq] at h
  cases hc : callsA lpT.get keep (hookA keep onceN once) 100000 false 47 [] [] with
  | none => rw [hc] at h; simp [isT] at h
  | some p =>
    obtain ⟨v, Hl⟩ := p
    rw [hc] at h
    unfold isT at h
    split at h
    · rename_i heq
      simp at heq
      obtain ⟨rfl, rfl⟩ := heq
      exact ⟨_, 100000, hc⟩
    · simp at h

theorem own : ownKnob Tryz.prog.godebug = none := by kernel_rfl
theorem laidOut : laidOutB Tryz.prog = true := by kernel_rfl
theorem cells9 : Tryz.prog.cellsOf 9 = 1 := by kernel_rfl

/-- what is small is made of what is small -/
theorem bulk_mem {H : Type} : ∀ {l : List (DataW H)} {d : DataW H}, d ∈ l → Rows.uptoBulk d ≤ Rows.uptoBulkAll l
  | x :: l, d, h => by
    simp only [Rows.uptoBulkAll]
    rcases List.mem_cons.1 h with rfl | h
    · omega
    · have := bulk_mem h; omega
theorem bulk_len {H : Type} : ∀ {l : List (DataW H)}, (∀ d ∈ l, 1 ≤ Rows.uptoBulk d) → l.length ≤ Rows.uptoBulkAll l
  | [], _ => Nat.zero_le _
  | x :: l, h => by
    simp only [Rows.uptoBulkAll, List.length_cons]
    have h1 := h x (by simp)
    have h2 := bulk_len (l := l) (fun d hd => h d (by simp [hd]))
    omega

/-- WHAT THE CALL DOES, at every argument that is small enough. -/
theorem contract (H : Type) (enc : TypeId × Value → H) (W : World) (base : Nat) (args : Array Value) (ds gs : List (DataW H)) (before : List MemPlace)
    (hval : ∀ (j : Nat) t v, Tryz.f4.params[j]? = some t → args[j]? = some v → Value.okWide Tryz.prog W .any base t v)
    (hW : DataW.Whole enc Tryz.prog Tryz.f4.params.toList Rows.originRulesSpec.vars false W args.toList ds gs before) (hsmall : Rows.uptoBulkAll (ds ++ gs) ≤ 1048576) :
    Calls Tryz.prog 4 args W fun e W' => ∃ v, e = .returned v ∧ Rows.originRulesSpec.post enc Tryz.prog Tryz.f4 false true false false W args v W' := by
  have hW0 := hW
  obtain ⟨p, q, hA0, hV, rfl, hfz, hnd⟩ := hW
  have hA : DataW.TrodAll enc Tryz.prog W 0 (fun _ => true) true Tryz.f4.params.toList args.toList ds p := hA0
  rw [Tryz.params4] at hA hval
  obtain ⟨v0, v1, v2, d0, d1, d2, p0, p1, p2, rfl, rfl, rfl, h0, h1, h2⟩ := trodAll_three hA
  obtain ⟨rfl, rfl⟩ := trodVars_none hV
  obtain ⟨s1, rfl, rfl, rfl, _⟩ := Go.ChangeMaps.open_string Tryz.underlying9 (hval 1 9 v1 rfl rfl) h1
  obtain ⟨s2, rfl, rfl, rfl, _⟩ := Go.ChangeMaps.open_string Tryz.underlying9 (hval 2 9 v2 rfl rfl) h2
  obtain ⟨a0, len, cap, rfl⟩ := okWide_slice Tryz.underlying28 (hval 0 28 v0 rfl rfl)
  obtain ⟨fuel, hf⟩ := h0
  simp only [Rows.uptoBulkAll, Rows.uptoBulk, List.cons_append, List.nil_append] at hsmall
  have e4 : ctx.fid 46 = 4 := by kernel_rfl
  have hpar : ∀ t ∈ Tryz.f4.params.toList, Tryz.prog.readableRec t = true ∧ t < Tryz.prog.types.size := by
    intro t ht
    rw [Tryz.params4] at ht
    have r28 : Tryz.prog.readableRec 28 = true := by kernel_rfl
    have r9 : Tryz.prog.readableRec 9 = true := by kernel_rfl
    have l28 : 28 < Tryz.prog.types.size := of_decide_eq_true (by kernel_rfl)
    have l9 : 9 < Tryz.prog.types.size := of_decide_eq_true (by kernel_rfl)
    simp at ht
    rcases ht with rfl | rfl
    · exact ⟨r28, l28⟩
    · exact ⟨r9, l9⟩
  have key : ∀ (rules : List (List UInt8)) (r : AV), AE.Fns.IsSl rules r → (∀ s ∈ rules, s.length ≤ 2 ^ 29) → s2.data.toList.length ≤ 2 ^ 29 → AE.VRel ctx AE.loc0 (fun _ => False) W r (.slice a0 len cap) →
      Calls Tryz.prog 4 #[.slice a0 len cap, .string s1, .string s2] W fun e W' => ∃ v, e = .returned v ∧ Rows.originRulesSpec.post enc Tryz.prog Tryz.f4 false true false false W #[.slice a0 len cap, .string s1, .string s2] v W' := by
    intro rules r hr hrs hmore hrel
    obtain ⟨Hl, hlive⟩ := lives
    obtain ⟨H', n, hn⟩ := AE.Fns.originRules_ans hlive rules s1.data.toList s2.data.toList hr hrs hmore []
    have hargs : AE.LRel ctx AE.loc0 (fun _ => False) W [r, .str s1.data.toList, .str s2.data.toList] [.slice a0 len cap, .string s1, .string s2] :=
      AE.LRel.cons hrel (AE.LRel.cons (AE.str_rel s1) (AE.LRel.cons (AE.str_rel s2) AE.LRel.nil))
    have hc := AE.calls_top (C := ctx) (sound n) (f := 46) (fn := Tryz.f4) (by rw [e4]; exact Tryz.func4) rfl (by kernel_rfl) hn (AE.HRel.start (fun g v hg => by cases hg)) hargs
    rw [e4] at hc
    exact Calls.mono hc fun e W' ha => AE.post_true (C := ctx) laidOut (f := Tryz.f4) rfl Tryz.underlying4 hpar rfl hW0 rfl ha
  have hs2 : s2.data.toList.length ≤ 2 ^ 29 := by omega
  rcases Go.Deep.open_strs Tryz.underlying28 Tryz.underlying9 cells9 hf with ⟨hcs, hx⟩ | ⟨a, len', cap', m, Sx, hcs, _, hle, _, hm, hx, hcell⟩
  · have hv : (.slice a0 len cap : Value) = .slice none 0 0 := by simpa [Value.cells] using hcs
    cases hv
    exact key [] .nilsl (.nil rfl) (by simp) hs2 .nilsl
  · have hv : (.slice a0 len cap : Value) = .slice (some a) len' cap' := by simpa [Value.cells] using hcs
    cases hv
    simp only [Prod.mk.injEq] at hx
    obtain ⟨rfl, _⟩ := hx
    simp only [Rows.uptoBulk] at hsmall
    have hlm : len ≤ m := by rw [hm]; split <;> omega
    have hrel := AE.strs_rel (C := ctx) (W := W) (a := a) (len := len) (cap := cap) (Sx := Sx) hle (fun i hi => (hcell i (by omega)).1)
    refine key ((List.range len).map fun i => (Sx i).data.toList) (.lst (AE.Fns.txts ((List.range len).map fun i => (Sx i).data.toList)) ((List.range len).map fun i => (Sx i).data.toList).length 1 false) (.lst false) ?_ hs2 ?_
    · intro s hs
      simp only [List.mem_map, List.mem_range] at hs
      obtain ⟨i, hi, rfl⟩ := hs
      have hm := bulk_mem (H := H) (l := (List.range len).map fun i => DataW.lit (.string (Sx i).data.toList)) (d := .lit (.string (Sx i).data.toList)) (by simp; exact ⟨i, hi, rfl⟩)
      simp only [Rows.uptoBulk] at hm
      omega
    · have e : AE.Fns.txts ((List.range len).map fun i => (Sx i).data.toList) = (List.range len).map fun i => AV.str (Sx i).data.toList := by simp [AE.Fns.txts]
      rw [e, List.length_map, List.length_range]
      exact hrel
end Go.Proofs.YtnblehjhpjfilaaGreatDoor.originRules
