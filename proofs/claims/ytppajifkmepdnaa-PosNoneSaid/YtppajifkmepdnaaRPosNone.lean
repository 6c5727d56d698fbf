/- PosNone: for every input, the call returns true, and what it was given reads as it did. No condition. -/
import Derived.Test.YtppajifkmepdnaaU7
import Derived.Test.YtppajifkmepdnaaSlP
import Derived.Test.YtppajifkmepdnaaRows
import Derived.Test.YtppajifkmepdnaaChecked
import Derived.ProofKit
set_option linter.unusedSimpArgs false
set_option linter.unusedVariables false
namespace Go.Proofs.Ytppajifkmepdnaa
open Go.ChangeShapes Go.WideShapes Go.ChangeAt Go.RowKit Go.SL

theorem posNone_own : ownKnob Try.prog.godebug = none := by kernel_rfl
theorem posNone_laidOut : laidOutB Try.prog = true := by kernel_rfl

set_option maxRecDepth 100000 in
theorem posNone_lifted (os : Os) (started : os.Started) (H : Type) (enc : TypeId × Value → H) :
    ReturnsInHanded {} Try.checked os 9 .any (Rows.posNoneSpec.pre6 enc Try.prog Try.f9 Rows.posNoneRow.domain false) (Rows.posNoneSpec.post enc Try.prog Try.f9 false true false false) := by
  refine returnsInHanded_of_change (C := Try.checked) posNone_own started (by kernel_rfl) Try.func9
    (ChangeSpec.witness6 (enc := enc) (C := Try.checked) false ⟨#[], #[.int .i64 0], []⟩ 8 (by kernel_rfl) (by kernel_rfl) (by kernel_rfl) (by kernel_rfl)) ?_
  intro W base args ds gs before hval0 hW hcnd _
  have hval : ∀ (j : Nat) t v, Try.f9.params[j]? = some t → args[j]? = some v → Value.okWide Try.prog W .any base t v := hval0
  have hW' := hW
  have hlt0 : ∀ x ∈ before, x.block < W.heap.size := fun x hx => by simpa using hW.lt x hx
  obtain ⟨p, q, hA0, hV, rfl, _, _⟩ := hW
  have hA : DataW.TrodAll enc Try.prog W 0 (fun _ => true) true Try.f9.params.toList args.toList ds p := hA0
  rw [Try.params9] at hA hval
  obtain ⟨v0, d0, rfl, rfl, h0⟩ := trodAll_one hA
  obtain ⟨rfl, rfl⟩ := trodVars_none hV
  obtain ⟨a0, rfl, rfl, rfl, wa0⟩ := open_int Try.underlying3 (hval 0 3 v0 rfl rfl) h0
  exact law_post (P := Try.prog) (f := Try.f9) posNone_laidOut (by kernel_rfl) Try.underlying4 (by kernel_rfl) rfl hW' rfl (acall_of_quiet hb9 (.inl ⟨hb9, c_PosNone W a0 [] _ rfl⟩))

theorem posNone_holds : Rows.PosNoneSaid :=
  OpenClaim.holds_of_wide 9 Try.f9 rfl rfl rfl rfl rfl rfl rfl ⟨rfl, rfl, rfl, rfl, rfl⟩ rfl rfl rfl rfl rfl (by kernel_rfl) Try.func9 (by kernel_rfl)
    (of_decide_eq_true (by kernel_rfl)) (by unfold Func.isWrapper; first | (rw [if_pos (by decide +kernel)]; kernel_rfl) | (rw [if_neg (by decide +kernel)]; exact ⟨rfl, rfl⟩))
    (fun os started H enc _ => posNone_lifted os started H enc)
end Go.Proofs.Ytppajifkmepdnaa
