/- The pure statement of the law QueueRight: both functions report whether a queue can be one. -/
import Derived.Test.YtkpljfckfljddaaPQx4
import Derived.Test.YtkpljfckfljddaaM2
namespace Go.Proofs.Ytkpljfckfljddaa.Pure
open Go.RowKit Go.Proofs.YtkpljfckfljddaaW.PrintWords Go.Proofs.YtkpljfckfljddaaW.PrintMore Go.Proofs.Ytkpljfckfljddaa.PQ
theorem QueueRight : ∀ (l0_0 : List Int) (a0_1 : Int), l0_0.length ≤ maxLen → (∀ x ∈ l0_0, (Lit.int .i64 x).wf = true) → (Lit.int .i64 a0_1).wf = true → ∃ k, PQ.skiarealaw18_QueueRight.f k l0_0 a0_1 = some true := by
  intro l a _ _ _
  obtain ⟨K, hK⟩ := alive_true
  refine ⟨K + 400, ?_⟩
  unfold skiarealaw18_QueueRight.f
  rw [hK _ (by omega), small_eq]
  simp only [Option.bind_some, if_true]
  by_cases h : (l.length : Int) ≤ 300
  · rw [if_pos (by simpa using h), right_eq l a (by omega) _ (by omega), refRight_eq l a (by omega) _ (by omega)]
    simp
  · rw [if_neg (by simpa using h)]
end Go.Proofs.Ytkpljfckfljddaa.Pure
