/- The pure statement of the law QueueSeats: persons board in order, and none is lost. -/
import Derived.Test.YtkpljfckfljddaaM1
import Derived.Test.YtkpljfckfljddaaPQx8
namespace Go.Proofs.Ytkpljfckfljddaa.Pure
open Go.RowKit Go.Proofs.YtkpljfckfljddaaW.PrintWords Go.Proofs.YtkpljfckfljddaaW.PrintMore Go.Proofs.Ytkpljfckfljddaa.PQ
theorem seats_l0 (s a b : Int) (l x : List Int) (hl : l.length ≤ 200) (hx : x.length ≤ l.length) (g : Nat) (hg : g + x.length = l.length)
    (hs : ∀ i : Nat, (hi : i < x.length) → x[i] = l[g + i]'(by omega) ∨ (i = 0 ∧ g = 0 ∧ x[i] = wrap64 (l[0]'(by omega) - s))) (d : Nat) : ∀ (k i : Nat), x.length - i = d → i ≤ x.length → d < k →
    skiarealaw18_QueueSeats.l0 k s (g : Int) (i : Int) l a x b = some true := by
  induction d with
  | zero =>
    intro k i hd hi hk
    obtain ⟨k, rfl⟩ : ∃ m, k = m + 1 := ⟨k - 1, by omega⟩
    simp only [skiarealaw18_QueueSeats.l0]
    rw [if_neg (by omega)]
  | succ d ih =>
    intro k i hd hi hk
    obtain ⟨k, rfl⟩ : ∃ m, k = m + 1 := ⟨k - 1, by omega⟩
    have hlt : i < x.length := by omega
    have next := ih k (i + 1) (by omega) (by omega) (by omega)
    rw [show ((i + 1 : Nat) : Int) = (i : Int) + 1 by omega] at next
    simp only [skiarealaw18_QueueSeats.l0]
    rw [if_pos (by omega), if_pos (by omega), w64 (x := (g : Int) + i) (by omega) (by omega), if_pos (by omega), if_pos (by omega), rd_nat x i hlt, show ((g : Int) + i) = ((g + i : Nat) : Int) by omega, rd_nat l (g + i) (by omega), w64 (x := (i : Int) + 1) (by omega) (by omega)]
    by_cases e : x[i] = l[g + i]
    · rw [if_pos e]; exact next
    · rw [if_neg e]
      rcases hs i hlt with h | ⟨rfl, rfl, h⟩
      · exact absurd h e
      · rw [if_neg (by simp), if_neg (by simp), if_pos (by omega), if_pos (by omega)]
        have e0 : rd x 0 = x[0] := rd_nat x 0 hlt
        have e1 : rd l 0 = l[0] := rd_nat l 0 (by omega)
        rw [e0, e1, if_pos h]
        exact next
theorem QueueSeats : ∀ (l0_0 : List Int) (a0_1 : Int) (a1 : Int), l0_0.length ≤ maxLen → (∀ x ∈ l0_0, (Lit.int .i64 x).wf = true) → (Lit.int .i64 a0_1).wf = true → (Lit.int .i64 a1).wf = true → ∃ k, PQ.skiarealaw18_QueueSeats.f k l0_0 a0_1 a1 = some true := by
  intro l a s _ _ _ _
  obtain ⟨K, hK⟩ := alive_true
  refine ⟨K + 400 + 2, ?_⟩
  unfold skiarealaw18_QueueSeats.f
  rw [hK _ (by omega), small_eq]
  simp only [Option.bind_some, if_true]
  by_cases h : (l.length : Int) ≤ 300
  · rw [if_pos (by simpa using h), right_eq l a (by omega) _ (by omega)]
    simp only [Option.bind_some, skiarealaw18_QueueSeats.j0]
    by_cases hq : okQ l a
    · have hT := total_nonneg hq
      have hl := hq.2.1
      rw [if_neg (by simpa using hq), seat_eq l a s hq _ (by omega)]
      simp only [Option.bind_some]
      by_cases hs : 1 ≤ s ∧ s ≤ 16
      · have p := seatM_props l a s hq hs
        generalize hr : seatM l a s = r at *
        obtain ⟨x, b, n, e⟩ := r
        obtain ⟨hok, he, hp, hm, ht, h0, hle, hfull, hform⟩ := p
        simp only at hok he hp hm ht h0 hle hfull hform
        subst he
        have hT' := total_nonneg hok
        have hlen : x.length ≤ l.length := by
          rcases hform with ⟨g, hg, rfl⟩ | ⟨y, ys, rfl, _, rfl⟩
          · simp
          · simp
        have hlx := hok.2.1
        rw [if_pos (by first | trivial | rfl), right_eq x b (by omega) _ (by omega)]
        simp only [Option.bind_some]
        rw [if_pos (by simpa using hok), if_neg (by omega), if_neg (by omega), length_eq l a hq _ (by omega), length_eq x b hok _ (by omega)]
        simp only [Option.bind_some]
        have hgo : skiarealaw18_QueueSeats.j1 (K + 400 + 1) s false l a x b = some true := by
          simp only [skiarealaw18_QueueSeats.j1]
          rw [if_neg (by simp), w64 (by omega) (by omega), show ((l.length : Int) - x.length) = ((l.length - x.length : Nat) : Int) by omega]
          refine seats_l0 s a b l x hl hlen (l.length - x.length) (by omega) (fun i hi => ?_) x.length (K + 400) 0 (by omega) (by omega) (by omega)
          rcases hform with ⟨g, hg, rfl⟩ | ⟨y, ys, rfl, hy, rfl⟩
          · left
            have e : l.length - (l.drop g).length = g := by rw [List.length_drop]; omega
            simp only [e]
            exact List.getElem_drop
          · have hy0 := hq.1 y (by simp)
            cases i with
            | zero => right; simp; exact (w64 (by omega) (by omega)).symm
            | succ i => left; simp
        have hgo2 : (if b > 0 then skiarealaw18_QueueSeats.j1 (K + 400 + 1) s (n != s) l a x b else skiarealaw18_QueueSeats.j1 (K + 400 + 1) s false l a x b) = some true := by
          by_cases hb : b > 0
          · rw [if_pos hb, hfull hb, bne_self_eq_false]; exact hgo
          · rw [if_neg hb]; exact hgo
        by_cases hn : n = 0
        · rw [if_pos hn, if_neg (by have := h0 hn; omega), w64 (by omega) (by omega), if_pos (by omega), if_neg (by omega), if_neg (by omega)]
          exact hgo2
        · rw [if_neg hn, w64 (by omega) (by omega), if_pos (by omega), if_neg (by omega), if_neg (by omega)]
          exact hgo2
      · rw [seatM_bad l a s hs]
        simp only
        rw [if_neg (by decide), if_pos (by first | trivial | rfl)]
        by_cases h1 : s < 1
        · rw [if_pos h1]
        · rw [if_neg h1]; congr 1; exact decide_eq_true (by omega)
    · rw [if_pos (by simpa using hq)]
  · rw [if_neg (by simpa using h)]
    simp only [skiarealaw18_QueueSeats.j0]
    rw [if_pos (by first | trivial | rfl)]
end Go.Proofs.Ytkpljfckfljddaa.Pure
