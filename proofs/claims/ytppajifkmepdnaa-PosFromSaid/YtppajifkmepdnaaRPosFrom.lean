/- PosFrom: for every input, the call returns true, and what it was given reads as it did. No condition. -/
import Derived.Test.YtppajifkmepdnaaU6
import Derived.Test.YtppajifkmepdnaaSlP
import Derived.Test.YtppajifkmepdnaaRows
import Derived.Test.YtppajifkmepdnaaChecked
import Derived.ProofKit
set_option linter.unusedSimpArgs false
set_option linter.unusedVariables false
namespace Go.Proofs.Ytppajifkmepdnaa
open Go.ChangeShapes Go.WideShapes Go.ChangeAt Go.RowKit Go.SL

theorem posFrom_own : ownKnob Try.prog.godebug = none := by kernel_rfl
theorem posFrom_laidOut : laidOutB Try.prog = true := by kernel_rfl

set_option maxRecDepth 100000 in
theorem posFrom_lifted (os : Os) (started : os.Started) (H : Type) (enc : TypeId × Value → H) :
    ReturnsInHanded {} Try.checked os 7 .any (Rows.posFromSpec.pre6 enc Try.prog Try.f7 Rows.posFromRow.domain false) (Rows.posFromSpec.post enc Try.prog Try.f7 false true false false) := by
  refine returnsInHanded_of_change (C := Try.checked) posFrom_own started (by kernel_rfl) Try.func7
    (ChangeSpec.witness6 (enc := enc) (C := Try.checked) false ⟨#[], #[.agg #[.int .i64 0, .int .i64 0], .slice none 0 0], []⟩ 8 (by kernel_rfl) (by kernel_rfl) (by kernel_rfl) (by kernel_rfl)) ?_
  intro W base args ds gs before hval0 hW hcnd _
  have hval : ∀ (j : Nat) t v, Try.f7.params[j]? = some t → args[j]? = some v → Value.okWide Try.prog W .any base t v := hval0
  have hW' := hW
  have hlt0 : ∀ x ∈ before, x.block < W.heap.size := fun x hx => by simpa using hW.lt x hx
  obtain ⟨p, q, hA0, hV, rfl, _, _⟩ := hW
  have hA : DataW.TrodAll enc Try.prog W 0 (fun _ => true) true Try.f7.params.toList args.toList ds p := hA0
  rw [Try.params7] at hA hval
  obtain ⟨v0, v1, d0, d1, p0, p1, rfl, rfl, rfl, h0, h1⟩ := trodAll_two hA
  obtain ⟨rfl, rfl⟩ := trodVars_none hV
  obtain ⟨bw0, bh0, rfl⟩ := open_two Try.underlying46 (by kernel_rfl) (by kernel_rfl) Try.underlying3 Try.underlying3 (hval 0 46 v0 rfl rfl)
  obtain ⟨xs1, hxs1⟩ := IntsIn.of Try.underlying22 Try.underlying3 (by kernel_rfl) (hval 1 22 v1 rfl rfl) h1 (fun x hx => hlt0 x (by simp [hx]))
  exact law_post (P := Try.prog) (f := Try.f7) posFrom_laidOut (by kernel_rfl) Try.underlying4 (by kernel_rfl) rfl hW' rfl (acall_of_quiet hb7 (c_PosFrom W ⟨bw0, bh0⟩ v1 xs1 hxs1))

theorem posFrom_holds : Rows.PosFromSaid :=
  OpenClaim.holds_of_wide 7 Try.f7 rfl rfl rfl rfl rfl rfl rfl ⟨rfl, rfl, rfl, rfl, rfl⟩ rfl rfl rfl rfl rfl (by kernel_rfl) Try.func7 (by kernel_rfl)
    (of_decide_eq_true (by kernel_rfl)) (by unfold Func.isWrapper; first | (rw [if_pos (by decide +kernel)]; kernel_rfl) | (rw [if_neg (by decide +kernel)]; exact ⟨rfl, rfl⟩))
    (fun os started H enc _ => posFrom_lifted os started H enc)
end Go.Proofs.Ytppajifkmepdnaa
