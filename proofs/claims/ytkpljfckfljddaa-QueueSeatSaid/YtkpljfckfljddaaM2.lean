/- Plain laws on the reference's Right and its copy. -/
import Derived.Test.YtkpljfckfljddaaM1
import Derived.Test.YtkpljfckfljddaaPQx4
namespace Go.Proofs.Ytkpljfckfljddaa.Pure
open Go.RowKit Go.Proofs.YtkpljfckfljddaaW.PrintWords Go.Proofs.YtkpljfckfljddaaW.PrintMore Go.Proofs.Ytkpljfckfljddaa.PQ
theorem refRight_l0 (l : List Int) (a : Int) (hl : l.length ≤ 300) (d : Nat) : ∀ (k i : Nat), l.length - i = d → i ≤ l.length → d < k →
    skiarearef18_Right.l0 k (i : Int) l a = some (decide (∀ x ∈ l.drop i, 1 ≤ x ∧ x ≤ 16)) := by
  induction d with
  | zero =>
    intro k i hd hi hk
    obtain ⟨k, rfl⟩ : ∃ m, k = m + 1 := ⟨k - 1, by omega⟩
    simp only [skiarearef18_Right.l0]
    rw [if_neg (by omega), List.drop_eq_nil_of_le (by omega)]
    simp
  | succ d ih =>
    intro k i hd hi hk
    obtain ⟨k, rfl⟩ : ∃ m, k = m + 1 := ⟨k - 1, by omega⟩
    have hlt : i < l.length := by omega
    have e : (∀ x ∈ l.drop i, 1 ≤ x ∧ x ≤ 16) ↔ (1 ≤ l[i] ∧ l[i] ≤ 16) ∧ (∀ x ∈ l.drop (i + 1), 1 ≤ x ∧ x ≤ 16) := by
      rw [List.drop_eq_getElem_cons hlt]; exact List.forall_mem_cons
    simp only [skiarearef18_Right.l0]
    rw [if_pos (by omega), if_pos (by omega), rd_nat l i hlt]
    by_cases h1 : l[i] < 1
    · rw [if_pos h1]
      congr 1
      refine (decide_eq_false ?_).symm
      rw [e]
      exact fun hh => by have := hh.1.1; omega
    · rw [if_neg h1]
      by_cases h2 : l[i] > 16
      · rw [if_pos h2]
        congr 1
        refine (decide_eq_false ?_).symm
        rw [e]
        exact fun hh => by have := hh.1.2; omega
      · rw [if_neg h2, w64 (by omega) (by omega), show ((i : Int) + 1) = ((i + 1 : Nat) : Int) by omega, ih k (i + 1) (by omega) (by omega) (by omega)]
        congr 1
        refine decide_eq_decide.2 ?_
        rw [e]
        exact ⟨fun a => ⟨by omega, a⟩, fun a => a.2⟩
theorem refRight_eq (l : List Int) (a : Int) (hl : l.length ≤ 300) (k : Nat) (hk : l.length + 1 < k) : skiarearef18_Right.f k l a = some (decide (okQ l a)) := by
  obtain ⟨k, rfl⟩ : ∃ m, k = m + 1 := ⟨k - 1, by omega⟩
  have h := refRight_l0 l a hl l.length k 0 (by omega) (by omega) (by omega)
  rw [show ((0 : Nat) : Int) = 0 from rfl, List.drop_zero] at h
  unfold skiarearef18_Right.f
  have no : ∀ b : Bool, b = true → (¬ okQ l a) → skiarearef18_Right.j0 (k + 1) b l a = some (decide (okQ l a)) := fun b hb hn => by
    simp only [skiarearef18_Right.j0]; rw [if_pos hb]; congr 1; exact (decide_eq_false hn).symm
  by_cases h1 : (l.length : Int) > 200
  · rw [if_pos h1]; exact no true rfl (fun hh => by have := hh.2.1; omega)
  · rw [if_neg h1]
    by_cases h2 : a < 0
    · rw [if_pos h2]; exact no true rfl (fun hh => by have := hh.2.2.1; omega)
    · rw [if_neg h2]
      by_cases h3 : a > 10000
      · exact no _ (by simpa using h3) (fun hh => by have := hh.2.2.2; omega)
      · simp only [skiarearef18_Right.j0]
        rw [if_neg (by simpa using h3), h]
        congr 1
        refine decide_eq_decide.2 ?_
        exact ⟨fun hh => ⟨hh, by omega, by omega, by omega⟩, fun hh => hh.1⟩
theorem own_eq (l : List Int) (a : Int) (hl : l.length ≤ 1000000) : skiarearef18_own.f l a = some (l, a) := by
  unfold skiarearef18_own.f
  rw [if_pos (by simp; omega)]
  simp
end Go.Proofs.Ytkpljfckfljddaa.Pure
