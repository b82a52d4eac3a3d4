/- The pure statement of the law QueueCounts: Wait counts the carriers one by one. -/
import Derived.Test.YtkpljfckfljddaaM1
import Derived.Test.YtkpljfckfljddaaPQx9
namespace Go.Proofs.Ytkpljfckfljddaa.Pure
open Go.RowKit Go.Proofs.YtkpljfckfljddaaW.PrintWords Go.Proofs.YtkpljfckfljddaaW.PrintMore Go.Proofs.Ytkpljfckfljddaa.PQ
theorem carr_succ (s : Int) (d : Nat) (l : List Int) (a : Int) : carr s (d + 1) l a = if a + l.sum = 0 then 0 else 1 + carr s d (seatM l a s).1 (seatM l a s).2.1 := rfl
theorem QueueCounts : ∀ (l0_0 : List Int) (a0_1 : Int) (a1 : Int), l0_0.length ≤ maxLen → (∀ x ∈ l0_0, (Lit.int .i64 x).wf = true) → (Lit.int .i64 a0_1).wf = true → (Lit.int .i64 a1).wf = true → ∃ k, PQ.skiarealaw18_QueueCounts.f k l0_0 a0_1 a1 = some true := by
  intro l a s _ _ _ _
  obtain ⟨K, hK⟩ := alive_true
  refine ⟨K + 14000 + 2, ?_⟩
  unfold skiarealaw18_QueueCounts.f
  rw [hK _ (by omega), small_eq]
  simp only [Option.bind_some, if_true]
  by_cases h : (l.length : Int) ≤ 300
  · rw [if_pos (by simpa using h), right_eq l a (by omega) _ (by omega)]
    simp only [Option.bind_some, skiarealaw18_QueueCounts.j0]
    by_cases hq : okQ l a
    · have hT := total_nonneg hq
      have hl := hq.2.1
      rw [if_neg (by simpa using hq), seat_eq l a s hq _ (by omega)]
      by_cases hs : 1 ≤ s ∧ s ≤ 16
      · have p := seatM_props l a s hq hs
        rw [wait_eq l a s hs hq _ (by omega)]
        simp only [Option.bind_some]
        rw [if_pos (by first | trivial | rfl), p.noerr]
        simp only [skiarealaw18_QueueCounts.j1, bne_self_eq_false]
        rw [if_neg (by simp), wait_eq _ _ s hs p.ok _ (by omega), length_eq l a hq _ (by omega)]
        simp only [Option.bind_some]
        rw [if_pos (by first | trivial | rfl)]
        have c := carr_props s hs 13200 l a hq (by omega)
        have e : carr s 13200 l a = if a + l.sum = 0 then 0 else 1 + carr s 13200 (seatM l a s).1 (seatM l a s).2.1 := by
          have e1 : carr s 13200 l a = carr s 13201 l a := carr_stable s hs _ _ l a hq (by omega) (by omega)
          rw [e1]; exact carr_succ s 13200 l a
        generalize carr s 13200 (seatM l a s).1 (seatM l a s).2.1 = m' at *
        generalize hm : carr s 13200 l a = m at *
        have hms : 0 ≤ m * s ∧ m * s ≤ 13200 * 16 := ⟨Int.mul_nonneg (by omega) (by omega), Int.mul_le_mul (by omega) (by omega) (by omega) (by omega)⟩
        rw [w64 (x := m * s) (by omega) (by omega)]
        by_cases e0 : a + l.sum = 0
        · rw [if_pos (by omega), if_pos e0, if_pos (by omega)]
          congr 1
          exact decide_eq_true (by omega)
        · rw [if_neg e0] at e
          rw [if_neg (by omega), if_neg e0, w64 (by omega) (by omega), if_pos (by omega), if_pos (by omega)]
          congr 1
          exact decide_eq_true (by omega)
      · rw [wait_bad l a s hs hq _ (by omega), seatM_bad l a s hs]
        simp only [Option.bind_some]
        rw [if_neg (by decide)]
        simp only [skiarealaw18_QueueCounts.j1]
        rw [if_pos (by first | trivial | rfl), if_pos (by first | trivial | rfl)]
        rfl
    · rw [if_pos (by simpa using hq)]
  · rw [if_neg (by simpa using h)]
    simp only [skiarealaw18_QueueCounts.j0]
    rw [if_pos (by first | trivial | rfl)]
end Go.Proofs.Ytkpljfckfljddaa.Pure
