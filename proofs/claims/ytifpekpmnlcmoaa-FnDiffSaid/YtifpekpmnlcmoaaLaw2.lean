/- The law FnDiff. -/
import Derived.Test.YtifpekpmnlcmoaaRows
import Derived.Test.YtifpekpmnlcmoaaL2
import Derived.Test.YtifpekpmnlcmoaaE20
namespace Go.Proofs.Ytifpekpmnlcmoaa.fnDiff
open Go.ChangeShapes Go.WideShapes Go.ChangeAt Go.RowKit Go.Proofs.YtifpekpmnlcmoaaE
open Go.ChangeMaps (open_string shut_string)
set_option linter.unusedVariables false
set_option linter.unusedSimpArgs false
theorem own : ownKnob Try.prog.godebug = none := by kernel_rfl
theorem laidOut : laidOutB Try.prog = true := by kernel_rfl
theorem ft5 : FT Try.prog 5 (.cons (.i .u8) .nil) := .i (by kernel_rfl)
theorem ft34 : FT Try.prog 34 (.cons (.l KB) .nil) := .l (e := 5) (by kernel_rfl) (by kernel_rfl) (by decide) ft5
set_option maxRecDepth 100000 in
theorem lifted (os : Os) (started : os.Started) (H : Type) (enc : TypeId × Value → H) :
    ReturnsInHanded {} Try.checked os 5 .any (Rows.fnDiffSpec.pre6 enc Try.prog Try.f5 Rows.fnDiffRow.domain false) (Rows.fnDiffSpec.post enc Try.prog Try.f5 false true false false) := by
  refine returnsInHanded_of_change_sized (C := Try.checked) own started (by kernel_rfl) Try.func5
    (ChangeSpec.witness6 (enc := enc) (C := Try.checked) false ⟨#[], #[.slice none 0 0, .slice none 0 0], []⟩ 8 (by kernel_rfl) (by kernel_rfl) (by kernel_rfl) (by kernel_rfl)) ?_
  intro W base args ds gs before hval0 hW hcnd hsz0 _
  have hval : ∀ (j : Nat) t v, Try.f5.params[j]? = some t → args[j]? = some v → Value.okWide Try.prog W .any base t v := hval0
  have hW' := hW
  obtain ⟨p, q, hA0, hV, rfl, hfz, hnd⟩ := hW
  have hA : DataW.TrodAll enc Try.prog W 0 (fun _ => true) true Try.f5.params.toList args.toList ds p := hA0
  rw [Try.params5] at hA hval
  obtain ⟨v0, vs0, d0, ds0, p0, q0, hargs0, rfl, rfl, h0, r0⟩ := trodAll_cons hA
  obtain ⟨v1, vs1, d1, ds1, p1, q1, hargs1, rfl, rfl, h1, r1⟩ := trodAll_cons r0
  obtain ⟨rfl, rfl, rfl⟩ := trodAll_nil r1
  obtain rfl : args = #[v0, v1] := by cases args; simp_all
  obtain ⟨rfl, rfl⟩ := trodVars_none hV
  obtain ⟨a0, len0, cap0, rfl⟩ := okWide_slice Try.underlying34 (hval 0 34 v0 rfl rfl)
  have k0 := h0
  have lt0 : ∀ x ∈ p0, x.block < W.heap.size := by obtain ⟨m, hm⟩ := k0; exact DataW.trod_lt m _ _ _ hm
  obtain ⟨x0, hx0⟩ := arg_VR ft34 h0 rfl
  have hl0 : x0.length ≤ 140737488355328 := arg_len (tl := _) (ds := _) (j := 0) Try.underlying34 (of_decide_eq_true (by kernel_rfl)) h0 rfl hsz0 rfl rfl hx0
  obtain ⟨a1, len1, cap1, rfl⟩ := okWide_slice Try.underlying34 (hval 1 34 v1 rfl rfl)
  have k1 := h1
  have lt1 : ∀ x ∈ p1, x.block < W.heap.size := by obtain ⟨m, hm⟩ := k1; exact DataW.trod_lt m _ _ _ hm
  obtain ⟨x1, hx1⟩ := arg_VR ft34 h1 rfl
  have hl1 : x1.length ≤ 140737488355328 := arg_len (tl := _) (ds := _) (j := 1) Try.underlying34 (of_decide_eq_true (by kernel_rfl)) h1 rfl hsz0 rfl rfl hx1
  clear hA0 hval0 hsz0
  refine (row_walk c_laws_FnDiff (x0, x1) ⟨hl0, hl1⟩ rfl ⟨_, _, rfl, hx0, ⟨_, _, rfl, hx1, rfl⟩⟩).mono fun e W' ⟨he, bel⟩ => ?_
  subst he
  exact ⟨_, rfl, _, _, _, [], _, [], hW', trodAll_mk1 (shut_bool Try.underlying4 _), (trodAll_cons_mk (Below.trod laidOut (by kernel_rfl) (of_decide_eq_true (by kernel_rfl)) k0 bel lt0) (trodAll_cons_mk (Below.trod laidOut (by kernel_rfl) (of_decide_eq_true (by kernel_rfl)) k1 bel lt1) trodAll_mk0)), rfl, bel.frame _, fun h => by cases h⟩
theorem over : Rows.fnDiffRow.holds Try.pinned (OpenSpec.ofChange Rows.fnDiffSpec) :=
  OpenClaim.holds_of_wide 5 Try.f5 rfl rfl rfl rfl rfl rfl rfl ⟨rfl, rfl, rfl, rfl, rfl⟩ rfl rfl rfl rfl rfl (by kernel_rfl) Try.func5 (by kernel_rfl)
    (of_decide_eq_true (by kernel_rfl)) (by unfold Func.isWrapper; first | (rw [if_pos (by decide +kernel)]; kernel_rfl) | (rw [if_neg (by decide +kernel)]; exact ⟨rfl, rfl⟩))
    (fun os started H enc _ => lifted os started H enc)
theorem proved : Rows.FnDiffSaid := over
#print axioms proved
end Go.Proofs.Ytifpekpmnlcmoaa.fnDiff
namespace Go.Proofs.Ytifpekpmnlcmoaa
/-- The row, under a short name. -/
theorem fnDiff_holds : Rows.FnDiffSaid := fnDiff.proved
end Go.Proofs.Ytifpekpmnlcmoaa
