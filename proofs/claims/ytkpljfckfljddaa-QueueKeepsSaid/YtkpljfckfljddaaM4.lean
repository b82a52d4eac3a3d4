/- Plain laws on both Joins. -/
import Derived.Test.YtkpljfckfljddaaM2
import Derived.Test.YtkpljfckfljddaaPQx10
import Derived.Test.YtkpljfckfljddaaPQx9
namespace Go.Proofs.Ytkpljfckfljddaa.Pure
open Go.RowKit Go.Proofs.YtkpljfckfljddaaW.PrintWords Go.Proofs.YtkpljfckfljddaaW.PrintMore Go.Proofs.Ytkpljfckfljddaa.PQ
def joinM (l : List Int) (a n : Int) : List Int × Int × Int := if 1 ≤ n ∧ n ≤ 16 then (if l.length ≥ 200 then ([], 0, 9) else (l ++ [n], a, 0)) else ([], 0, 2)
theorem joinM_length (l : List Int) (a n : Int) (h : l.length ≤ 300) : (joinM l a n).1.length ≤ 300 := by
  unfold joinM
  split
  · split
    · simp
    · simp; omega
  · simp
theorem join_eq (l : List Int) (a n : Int) (hl : l.length ≤ 300) : queue_Join.f l a n = some (joinM l a n) := by
  unfold queue_Join.f joinM
  rw [within_eq]
  simp only [Option.bind_some]
  by_cases hs : 1 ≤ n ∧ n ≤ 16
  · rw [if_pos (by simpa using hs), if_pos hs]
    by_cases h2 : l.length ≥ 200
    · rw [if_pos (by omega), if_pos h2]
    · rw [if_neg (by omega), if_neg h2, copied_eq l 1 (by omega) (by omega) (by omega)]
      simp only [Option.bind_some]
      rw [if_pos (by simp; omega)]
  · rw [if_neg (by simpa using hs), if_neg hs]
theorem refJoin_eq (l : List Int) (a n : Int) (hl : l.length ≤ 300) (k : Nat) (hk : 0 < k) : skiarearef18_Join.f k l a n = some (joinM l a n) := by
  obtain ⟨k, rfl⟩ : ∃ m, k = m + 1 := ⟨k - 1, by omega⟩
  unfold skiarearef18_Join.f joinM
  by_cases h1 : n < 1
  · rw [if_pos h1, if_neg (by omega)]; simp only [skiarearef18_Join.j0]; rw [if_pos (by first | trivial | rfl)]
  · rw [if_neg h1]
    simp only [skiarearef18_Join.j0]
    by_cases h2 : n > 16
    · rw [if_pos (by simpa using h2), if_neg (by omega)]
    · have e : (if 1 ≤ n ∧ n ≤ 16 then (if l.length ≥ 200 then ([], 0, 9) else (l ++ [n], a, 0)) else ([], 0, 2) : List Int × Int × Int) = (if l.length ≥ 200 then ([], 0, 9) else (l ++ [n], a, 0)) := if_pos (by omega)
      rw [if_neg (by simpa using h2), e]
      by_cases h3 : l.length ≥ 200
      · rw [if_pos (by omega), if_pos h3]
      · rw [if_neg (by omega), if_neg h3, own_eq l a (by omega)]
        simp only [Option.bind_some]
        rw [if_pos (by omega)]
end Go.Proofs.Ytkpljfckfljddaa.Pure
