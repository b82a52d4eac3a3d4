/- The pure statement of the law QueueJoins: both join alike. -/
import Derived.Test.YtkpljfckfljddaaM4
import Derived.Test.YtkpljfckfljddaaPQx12
namespace Go.Proofs.Ytkpljfckfljddaa.Pure
open Go.RowKit Go.Proofs.YtkpljfckfljddaaW.PrintWords Go.Proofs.YtkpljfckfljddaaW.PrintMore Go.Proofs.Ytkpljfckfljddaa.PQ
def singleM (l : List Int) (a n : Int) : List Int × Int × Int := if 1 ≤ n ∧ n ≤ 1000 then (if a + n > 10000 then ([], 0, 9) else (l, a + n, 0)) else ([], 0, 2)
theorem singleM_length (l : List Int) (a n : Int) (h : l.length ≤ 300) : (singleM l a n).1.length ≤ 300 := by
  unfold singleM
  split
  · split
    · simp
    · simpa using h
  · simp
theorem single_eq (l : List Int) (a n : Int) (h : okQ l a) : queue_Single.f l a n = some (singleM l a n) := by
  obtain ⟨hx, hl, ha⟩ := h
  unfold queue_Single.f singleM
  rw [within_eq]
  simp only [Option.bind_some]
  by_cases hs : 1 ≤ n ∧ n ≤ 1000
  · rw [if_pos (by simpa using hs), if_pos hs, w64 (by omega) (by omega)]
    by_cases h2 : a + n > 10000
    · rw [if_pos h2, if_pos h2]
    · rw [if_neg h2, if_neg h2, copied_eq l 0 (by omega) (by omega) (by omega)]; rfl
  · rw [if_neg (by simpa using hs), if_neg hs]
theorem refSingle_eq (l : List Int) (a n : Int) (h : okQ l a) (k : Nat) (hk : 0 < k) : skiarearef18_Single.f k l a n = some (singleM l a n) := by
  obtain ⟨hx, hl, ha⟩ := h
  obtain ⟨k, rfl⟩ : ∃ m, k = m + 1 := ⟨k - 1, by omega⟩
  unfold skiarearef18_Single.f singleM
  by_cases h1 : n < 1
  · rw [if_pos h1, if_neg (by omega)]; simp only [skiarearef18_Single.j0]; rw [if_pos (by first | trivial | rfl)]
  · rw [if_neg h1]
    simp only [skiarearef18_Single.j0]
    by_cases h2 : n > 1000
    · rw [if_pos (by simpa using h2), if_neg (by omega)]
    · have e : (if 1 ≤ n ∧ n ≤ 1000 then (if a + n > 10000 then ([], 0, 9) else (l, a + n, 0)) else ([], 0, 2) : List Int × Int × Int) = (if a + n > 10000 then ([], 0, 9) else (l, a + n, 0)) := if_pos (by omega)
      rw [if_neg (by simpa using h2), e, w64 (by omega) (by omega)]
      by_cases h3 : a + n > 10000
      · rw [if_pos h3, if_pos h3]
      · rw [if_neg h3, if_neg h3, own_eq l a (by omega)]
        simp only [Option.bind_some]
        rw [w64 (by omega) (by omega)]
theorem QueueJoins : ∀ (l0_0 : List Int) (a0_1 : Int) (a1 : Int), l0_0.length ≤ maxLen → (∀ x ∈ l0_0, (Lit.int .i64 x).wf = true) → (Lit.int .i64 a0_1).wf = true → (Lit.int .i64 a1).wf = true → ∃ k, PQ.skiarealaw18_QueueJoins.f k l0_0 a0_1 a1 = some true := by
  intro l a n _ _ _ _
  obtain ⟨K, hK⟩ := alive_true
  refine ⟨K + 400 + 1, ?_⟩
  unfold skiarealaw18_QueueJoins.f
  rw [hK _ (by omega), small_eq]
  simp only [Option.bind_some, if_true]
  by_cases h : (l.length : Int) ≤ 300
  · rw [if_pos (by simpa using h), refRight_eq l a (by omega) _ (by omega)]
    simp only [Option.bind_some, skiarealaw18_QueueJoins.j0]
    by_cases hq : okQ l a
    · have hl := hq.2.1
      rw [if_neg (by simpa using hq), join_eq l a n (by omega), refJoin_eq l a n (by omega) _ (by omega), single_eq l a n hq, refSingle_eq l a n hq _ (by omega)]
      simp only [Option.bind_some]
      have h1 : (joinM l a n).1.length ≤ 300 := joinM_length l a n (by omega)
      have h2 : (singleM l a n).1.length ≤ 300 := singleM_length l a n (by omega)
      rw [same_self _ _ (by omega) _ (by omega), same_self _ _ (by omega) _ (by omega)]
      simp
    · rw [if_pos (by simpa using hq)]
  · rw [if_neg (by simpa using h)]
    simp only [skiarealaw18_QueueJoins.j0]
    rw [if_pos (by first | trivial | rfl)]
end Go.Proofs.Ytkpljfckfljddaa.Pure
