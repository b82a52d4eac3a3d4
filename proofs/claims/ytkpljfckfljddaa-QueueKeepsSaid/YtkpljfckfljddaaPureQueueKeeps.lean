/- The pure statement of the law QueueKeeps. -/
import Derived.Test.YtkpljfckfljddaaM4
import Derived.Test.YtkpljfckfljddaaPQx11
namespace Go.Proofs.Ytkpljfckfljddaa.Pure
open Go.RowKit Go.Proofs.YtkpljfckfljddaaW.PrintWords Go.Proofs.YtkpljfckfljddaaW.PrintMore Go.Proofs.Ytkpljfckfljddaa.PQ
theorem keeps_j1 (k : Nat) (hk : 400 ≤ k) (l : List Int) (a n : Int) (hl : l.length ≤ 200) (x : List Int) (b : Int) :
    skiarealaw18_QueueKeeps.j1 (k + 1) n l a l a (joinM l a n).1 (joinM l a n).2.1 x b = some true := by
  have hj : (joinM l a n).1.length ≤ 300 := joinM_length l a n (by omega)
  simp only [skiarealaw18_QueueKeeps.j1]
  have e : ((skiarearef18_Join.f k l a n).bind fun bt => (skiarearef18_Same.f k l a l a).bind fun t => if t = true then (skiarearef18_Same.f k (joinM l a n).1 (joinM l a n).2.1 bt.1 bt.2.1).bind fun t2 => some t2 else none) = some true := by
    rw [refJoin_eq l a n (by omega) _ (by omega), same_self l a (by omega) _ (by omega)]
    simp only [Option.bind_some]
    rw [if_pos (by first | trivial | rfl), same_self _ _ (by omega) _ (by omega)]
    rfl
  by_cases h0 : (x.length : Int) > 0
  · rw [if_pos h0, if_pos h0]; exact e
  · rw [if_neg h0]; exact e
theorem keeps_j0 (k : Nat) (hk : 400 ≤ k) (l : List Int) (a n s : Int) (hq : okQ l a) : skiarealaw18_QueueKeeps.j0 (k + 2) n s false l a = some true := by
  have hl := hq.2.1
  have fin := keeps_j1 k hk l a n hl (joinM l a 1).1 (joinM l a 1).2.1
  have h1 : ([] : List Int).length + l.length < 17592186044416 := by simp; omega
  have h2 : (List.replicate 0 (0 : Int)).length + l.length < 17592186044416 := by simp; omega
  have h3 : 0 ≤ wrap64 ((l.length : Int) + 9) := by rw [w64 (by omega) (by omega)]; omega
  have h4 : (wrap64 ((l.length : Int) + 9)).toNat ≤ 35184372088832 := by rw [w64 (by omega) (by omega)]; omega
  rw [skiarealaw18_QueueKeeps.j0]
  refine (if_neg (by decide)).trans ?_
  refine (Option.bind_some _ _).trans ?_
  refine (if_pos h1).trans ?_
  refine (Option.bind_some _ _).trans ?_
  refine (if_pos h3).trans ?_
  refine (if_pos h4).trans ?_
  refine (Option.bind_some _ _).trans ?_
  refine (if_pos h2).trans ?_
  refine (Option.bind_some _ _).trans ?_
  have e1 : List.replicate 0 (0 : Int) ++ l = l := rfl
  have e2 : ([] : List Int) ++ l = l := rfl
  rw [e1, e2, join_eq l a n (by omega), join_eq l a 1 (by omega), seat_eq l a s hq _ (by omega)]
  refine (Option.bind_some _ _).trans ?_
  refine (Option.bind_some _ _).trans ?_
  refine (Option.bind_some _ _).trans ?_
  by_cases h0 : ((seatM l a s).1.length : Int) > 0
  · exact (if_pos h0).trans ((if_pos h0).trans fin)
  · exact (if_neg h0).trans fin
theorem QueueKeeps : ∀ (l0_0 : List Int) (a0_1 : Int) (a1 : Int) (a2 : Int), l0_0.length ≤ maxLen → (∀ x ∈ l0_0, (Lit.int .i64 x).wf = true) → (Lit.int .i64 a0_1).wf = true → (Lit.int .i64 a1).wf = true → (Lit.int .i64 a2).wf = true → ∃ k, PQ.skiarealaw18_QueueKeeps.f k l0_0 a0_1 a1 a2 = some true := by
  intro l a n s _ _ _ _ _
  obtain ⟨K, hK⟩ := alive_true
  obtain ⟨k, hk1, hk2⟩ : ∃ k, K ≤ k ∧ 400 ≤ k := ⟨K + 400, by omega, by omega⟩
  refine ⟨k + 2, ?_⟩
  have tr : ∀ x, skiarealaw18_QueueKeeps.j0 (k + 2) n s true l x = some true := fun x => by
    simp only [skiarealaw18_QueueKeeps.j0]
    rw [if_pos (by first | trivial | rfl)]
  unfold skiarealaw18_QueueKeeps.f
  rw [hK _ (by omega), small_eq]
  simp only [Option.bind_some]
  rw [if_pos (by first | trivial | rfl)]
  by_cases h : (l.length : Int) ≤ 300
  · rw [if_pos (by simpa using h), right_eq l a (by omega) _ (by omega)]
    simp only [Option.bind_some]
    by_cases hq : okQ l a
    · rw [decide_eq_true hq]; exact keeps_j0 k hk2 l a n s hq
    · rw [decide_eq_false hq]; exact tr a
  · rw [if_neg (by simpa using h)]
    exact tr a
end Go.Proofs.Ytkpljfckfljddaa.Pure
