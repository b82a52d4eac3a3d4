/- The pure statement of the law QueueWaits: both count the same persons and the same carriers. -/
import Derived.Test.YtkpljfckfljddaaM3
import Derived.Test.YtkpljfckfljddaaPQx7
namespace Go.Proofs.Ytkpljfckfljddaa.Pure
open Go.RowKit Go.Proofs.YtkpljfckfljddaaW.PrintWords Go.Proofs.YtkpljfckfljddaaW.PrintMore Go.Proofs.Ytkpljfckfljddaa.PQ
theorem QueueWaits : ∀ (l0_0 : List Int) (a0_1 : Int) (a1 : Int), l0_0.length ≤ maxLen → (∀ x ∈ l0_0, (Lit.int .i64 x).wf = true) → (Lit.int .i64 a0_1).wf = true → (Lit.int .i64 a1).wf = true → ∃ k, PQ.skiarealaw18_QueueWaits.f k l0_0 a0_1 a1 = some true := by
  intro l a s _ _ _ _
  obtain ⟨K, hK⟩ := alive_true
  refine ⟨K + 14000 + 1, ?_⟩
  unfold skiarealaw18_QueueWaits.f
  rw [hK _ (by omega), small_eq]
  simp only [Option.bind_some, if_true]
  by_cases h : (l.length : Int) ≤ 300
  · rw [if_pos (by simpa using h), refRight_eq l a (by omega) _ (by omega)]
    simp only [Option.bind_some, skiarealaw18_QueueWaits.j0]
    by_cases hq : okQ l a
    · rw [if_neg (by simpa using hq), length_eq l a hq _ (by have := hq.2.1; omega), refLength_eq l a hq _ (by have := hq.2.1; omega)]
      by_cases hs : 1 ≤ s ∧ s ≤ 16
      · rw [wait_eq l a s hs hq _ (by omega), refWait_eq l a s hs hq _ (by omega)]
        simp
      · rw [wait_bad l a s hs hq _ (by omega), refWait_bad l a s hs _ (by omega)]
        simp
    · rw [if_pos (by simpa using hq)]
  · rw [if_neg (by simpa using h)]
    simp only [skiarealaw18_QueueWaits.j0]
    rw [if_pos (by first | trivial | rfl)]
end Go.Proofs.Ytkpljfckfljddaa.Pure
