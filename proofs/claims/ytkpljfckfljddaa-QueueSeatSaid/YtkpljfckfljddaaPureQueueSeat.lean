/- The pure statement of the law QueueSeat: both functions seat alike. -/
import Derived.Test.YtkpljfckfljddaaM3
namespace Go.Proofs.Ytkpljfckfljddaa.Pure
open Go.RowKit Go.Proofs.YtkpljfckfljddaaW.PrintWords Go.Proofs.YtkpljfckfljddaaW.PrintMore Go.Proofs.Ytkpljfckfljddaa.PQ
theorem QueueSeat : ∀ (l0_0 : List Int) (a0_1 : Int) (a1 : Int), l0_0.length ≤ maxLen → (∀ x ∈ l0_0, (Lit.int .i64 x).wf = true) → (Lit.int .i64 a0_1).wf = true → (Lit.int .i64 a1).wf = true → ∃ k, PQ.skiarealaw18_QueueSeat.f k l0_0 a0_1 a1 = some true := by
  intro l a s _ _ _ _
  obtain ⟨K, hK⟩ := alive_true
  refine ⟨K + 400 + 1, ?_⟩
  unfold skiarealaw18_QueueSeat.f
  rw [hK _ (by omega), small_eq]
  simp only [Option.bind_some, if_true]
  by_cases h : (l.length : Int) ≤ 300
  · rw [if_pos (by simpa using h), refRight_eq l a (by omega) _ (by omega)]
    simp only [Option.bind_some, skiarealaw18_QueueSeat.j0]
    by_cases hq : okQ l a
    · rw [if_neg (by simpa using hq), seat_eq l a s hq _ (by omega), refSeat_eq l a s hq _ (by omega)]
      simp only [Option.bind_some]
      have hl : (seatM l a s).1.length ≤ 300 := by
        by_cases hs : 1 ≤ s ∧ s ≤ 16
        · have := (seatM_props l a s hq hs).ok.2.1; omega
        · rw [seatM_bad l a s hs]; simp
      rw [same_self _ _ (by omega) _ (by omega)]
      simp
    · rw [if_pos (by simpa using hq)]
  · rw [if_neg (by simpa using h)]
    simp only [skiarealaw18_QueueSeat.j0]
    rw [if_pos (by first | trivial | rfl)]
end Go.Proofs.Ytkpljfckfljddaa.Pure
