/- What two scripts one after the other mean. -/
import Derived.Test.YtjeicglkanfbjaaDoorS2
namespace Go.Proofs.YtjeicglkanfbjaaDoor
theorem evS_err {l : List UInt8} {c : Int} (h : evS l = .error c) : c = 18 ∨ c = 3 ∨ c = 2 := by
  unfold evS at h
  split at h
  · injection h with h; omega
  · split at h
    · injection h with h; omega
    · split at h
      · split at h
        · simp at h
        · injection h with h; omega
      · injection h with h; omega
theorem goS_app : ∀ (A B : List (List UInt8)) (i : Int) (acc : List (Int × List Int)), goS (A ++ B) i acc = match goS A i acc with
    | .ok l => goS B (i + A.length) l
    | .error e => .error e
  | [], B, i, acc => by simp [goS]
  | t :: A, B, i, acc => by
    rw [List.cons_append, goS, goS]
    have ih := fun a => goS_app A B (i + 1) a
    have e : i + 1 + (A.length : Int) = i + ((t :: A).length : Nat) := by simp; omega
    split
    · rw [ih, e]
    · split
      · rfl
      · cases evS t with
        | ok r => simp only [ih, e]
        | error c => rfl
theorem goS_ok : ∀ (B : List (List UInt8)) (i : Int) (acc r : List (Int × List Int)), acc.length ≤ 400 → goS B i acc = .ok r → ∃ es, r = acc ++ es ∧ r.length ≤ 400 ∧ ∀ (j : Int) (acc' : List (Int × List Int)), acc'.length + es.length ≤ 400 → goS B j acc' = .ok (acc' ++ es)
  | [], i, acc, r, ha, h => by
    simp only [goS, Except.ok.injEq] at h
    exact ⟨[], by simp [h], by rw [← h]; exact ha, fun j acc' _ => by simp [goS]⟩
  | t :: B, i, acc, r, ha, h => by
    rw [goS] at h
    by_cases hs : skipS t = true
    · rw [if_pos hs] at h
      obtain ⟨es, h1, h2, h3⟩ := goS_ok B _ _ _ ha h
      exact ⟨es, h1, h2, fun j acc' hl => by rw [goS, if_pos hs]; exact h3 _ _ hl⟩
    · rw [if_neg hs] at h
      by_cases h4 : acc.length = 400
      · rw [if_pos h4] at h; simp at h
      · rw [if_neg h4] at h
        cases he : evS t with
        | error c => rw [he] at h; simp at h
        | ok e =>
          rw [he] at h
          obtain ⟨es, h1, h2, h3⟩ := goS_ok B _ _ _ (by simp; omega) h
          refine ⟨e :: es, by rw [h1]; simp, h2, fun j acc' hl => ?_⟩
          simp only [List.length_cons] at hl
          rw [goS, if_neg hs, if_neg (by omega), he]
          have := h3 (j + 1) (acc' ++ [e]) (by simp; omega)
          simpa using this
theorem goS_err : ∀ (B : List (List UInt8)) (i : Int) (acc : List (Int × List Int)) (n c : Int), goS B i acc = .error (n, c) → i < n ∧ n ≤ i + B.length ∧ c ≠ 0
  | [], i, acc, n, c, h => by simp [goS] at h
  | t :: B, i, acc, n, c, h => by
    rw [goS] at h
    simp only [List.length_cons]
    split at h
    · have := goS_err B _ _ _ _ h; omega
    · split at h
      · simp only [Except.error.injEq, Prod.mk.injEq] at h; omega
      · split at h
        · have := goS_err B _ _ _ _ h; omega
        · next c' he =>
          simp only [Except.error.injEq, Prod.mk.injEq] at h
          have := evS_err he; omega
theorem parse_err {l : List UInt8} {n c : Int} (h : parseS l = .error (n, c)) (hl : l.length ≤ 20000) : 0 < n ∧ c ≠ 0 := by
  unfold parseS at h
  rw [if_neg (by omega)] at h
  have := goS_err _ _ _ _ _ h
  omega
theorem parse_ok_len {l : List UInt8} {r : List (Int × List Int)} (h : parseS l = .ok r) : r.length ≤ 400 := by
  unfold parseS at h
  split at h
  · simp at h
  · obtain ⟨es, _, h2, _⟩ := goS_ok _ _ _ _ (by simp) h
    exact h2
/-- The arguments of what is parsed are few. -/
theorem goS_args (N : Nat) : ∀ (B : List (List UInt8)) (i : Int) (acc r : List (Int × List Int)), (∀ t ∈ B, t.length ≤ N) → (∀ e ∈ acc, e.2.length ≤ N) → goS B i acc = .ok r → ∀ e ∈ r, e.2.length ≤ N
  | [], i, acc, r, _, ha, h => by
    simp only [goS, Except.ok.injEq] at h
    rw [← h]; exact ha
  | t :: B, i, acc, r, hB, ha, h => by
    rw [goS] at h
    have hB' := fun t' ht' => hB t' (List.mem_cons_of_mem _ ht')
    split at h
    · exact goS_args N B _ _ _ hB' ha h
    · split at h
      · simp at h
      · cases he : evS t with
        | error c => rw [he] at h; simp at h
        | ok e =>
          rw [he] at h
          refine goS_args N B _ _ _ hB' ?_ h
          intro x hx
          rcases List.mem_append.1 hx with hx | hx
          · exact ha x hx
          · have hx : x = e := by simpa using hx
            subst hx
            unfold evS at he
            have hl := splitOn_len' 32 t
            split at he
            · simp at he
            · next w ps hw =>
              rw [hw] at hl
              split at he
              · simp at he
              · split at he
                · split at he
                  · simp only [Except.ok.injEq] at he
                    rw [← he]
                    have := hB t (by simp)
                    simp at hl ⊢; omega
                  · simp at he
                · simp at he
theorem parse_args {l : List UInt8} {r : List (Int × List Int)} (h : parseS l = .ok r) : ∀ e ∈ r, e.2.length ≤ 20000 := by
  unfold parseS at h
  split at h
  · simp at h
  · refine goS_args 20000 _ _ _ _ ?_ (by simp) h
    intro t ht
    have := splitOn_part 10 l t ht
    omega
theorem parts_law (s t : List UInt8) (hs : s.length ≤ 9900) (ht : t.length ≤ 9900) :
    (∀ l m, parseS s = .ok l → parseS t = .ok m → l.length + m.length ≤ 400 → parseS (s ++ 10 :: t) = .ok (l ++ m)) ∧
    ((∃ n c, parseS s = .error (n, c)) ∨ (∃ n c, parseS t = .error (n, c)) ∨ (∃ l m, parseS s = .ok l ∧ parseS t = .ok m ∧ 400 < l.length + m.length) → ∃ n c, parseS (s ++ 10 :: t) = .error (n, c)) := by
  have hx : parseS (s ++ 10 :: t) = goS (splitOn 10 s ++ splitOn 10 t) 0 [] := by
    unfold parseS; rw [if_neg (by simp; omega), splitOn_join]
  have hS : parseS s = goS (splitOn 10 s) 0 [] := by unfold parseS; rw [if_neg (by omega)]
  have hT : parseS t = goS (splitOn 10 t) 0 [] := by unfold parseS; rw [if_neg (by omega)]
  rw [hx, goS_app, hS, hT]
  constructor
  · intro l m h1 h2 h3
    obtain ⟨es, e1, e2, e3⟩ := goS_ok _ _ _ _ (by simp) h2
    simp only [List.nil_append] at e1
    subst e1
    rw [h1]
    exact e3 _ _ h3
  · rintro (⟨n, c, h⟩ | ⟨n, c, h⟩ | ⟨l, m, h1, h2, h3⟩)
    · rw [h]; exact ⟨n, c, rfl⟩
    · cases h1 : goS (splitOn 10 s) 0 [] with
      | error e => exact ⟨e.1, e.2, rfl⟩
      | ok l =>
        show ∃ n c, goS (splitOn 10 t) _ l = .error (n, c)
        cases h2 : goS (splitOn 10 t) (0 + ((splitOn 10 s).length : Int)) l with
        | error e => exact ⟨e.1, e.2, rfl⟩
        | ok r =>
          obtain ⟨_, _, hl, _⟩ := goS_ok _ _ _ _ (by simp) h1
          obtain ⟨es, e1, e2, e3⟩ := goS_ok _ _ _ _ hl h2
          have := e3 0 [] (by rw [e1] at e2; simp at e2 ⊢; omega)
          rw [h] at this; simp at this
    · rw [h1]
      show ∃ n c, goS (splitOn 10 t) _ l = .error (n, c)
      cases h4 : goS (splitOn 10 t) (0 + ((splitOn 10 s).length : Int)) l with
      | error e => exact ⟨e.1, e.2, rfl⟩
      | ok r =>
        obtain ⟨_, _, hl, _⟩ := goS_ok _ _ _ _ (by simp) h1
        obtain ⟨es, e1, e2, e3⟩ := goS_ok _ _ _ _ hl h4
        have := e3 0 [] (by rw [e1] at e2; simp at e2 ⊢; omega)
        rw [h2] at this
        simp only [List.nil_append, Except.ok.injEq] at this
        rw [e1, ← this] at e2
        simp at e2; omega
end Go.Proofs.YtjeicglkanfbjaaDoor
