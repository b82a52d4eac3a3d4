/- The parts of a text between a byte: what the library's Cut and Split give, in plain words. -/
import Derived.Lib.SplitLaws
import Derived.Lib.IndexBytes
import Derived.Lib.IndexMore
import Derived.Lib.Bytealg
import Derived.Lib.CountLaws
namespace Go.Proofs.YtjeicglkanfbjaaDoor
/-- The parts between the bytes c. -/
def splitOn (c : UInt8) : List UInt8 → List (List UInt8)
  | [] => [[]]
  | x :: r => if x = c then [] :: splitOn c r else match splitOn c r with
    | [] => [[x]]
    | h :: t => (x :: h) :: t
theorem splitOn_ne (c : UInt8) : ∀ l, splitOn c l ≠ []
  | [] => by simp [splitOn]
  | x :: r => by
    unfold splitOn
    split
    · simp
    · split <;> simp
theorem splitOn_cons_ne (c x : UInt8) (r : List UInt8) (h : x ≠ c) : ∃ hd tl, splitOn c r = hd :: tl ∧ splitOn c (x :: r) = (x :: hd) :: tl := by
  cases hs : splitOn c r with
  | nil => exact absurd hs (splitOn_ne c r)
  | cons hd tl => exact ⟨hd, tl, rfl, by rw [splitOn, if_neg h, hs]⟩
theorem splitOn_none (c : UInt8) : ∀ l, c ∉ l → splitOn c l = [l]
  | [], _ => rfl
  | x :: r, h => by
    simp only [List.mem_cons, not_or] at h
    rw [splitOn, if_neg (fun e => h.1 e.symm), splitOn_none c r h.2]
theorem splitOn_hit (c : UInt8) : ∀ p q, c ∉ p → splitOn c (p ++ c :: q) = p :: splitOn c q
  | [], q, _ => by rw [List.nil_append, splitOn, if_pos rfl]
  | x :: p, q, h => by
    simp only [List.mem_cons, not_or] at h
    rw [List.cons_append, splitOn, if_neg (fun e => h.1 e.symm), splitOn_hit c p q h.2]
theorem splitOn_join (c : UInt8) : ∀ s t, splitOn c (s ++ c :: t) = splitOn c s ++ splitOn c t
  | [], t => by
    show splitOn c (c :: t) = [] :: splitOn c t
    rw [splitOn, if_pos rfl]
  | x :: s, t => by
    by_cases h : x = c
    · rw [List.cons_append, splitOn, if_pos h, splitOn_join c s t, splitOn, if_pos h]; rfl
    · obtain ⟨hd, tl, h1, h2⟩ := splitOn_cons_ne c x s h
      rw [List.cons_append, splitOn, if_neg h, splitOn_join c s t, h1, h2]
      rfl
theorem byte_index (c : UInt8) : ∀ l, (Lib.indexByte l c = -1 ∧ c ∉ l) ∨ ∃ p q, l = p ++ c :: q ∧ c ∉ p ∧ Lib.indexByte l c = p.length
  | [] => .inl ⟨rfl, by simp⟩
  | x :: r => by
    by_cases h : x = c
    · subst h
      exact .inr ⟨[], r, rfl, by simp, by simp [Lib.indexByte]⟩
    · rcases byte_index c r with ⟨h1, h2⟩ | ⟨p, q, rfl, h2, h3⟩
      · refine .inl ⟨?_, ?_⟩
        · rw [Lib.indexByte, if_neg (by simpa using h), h1]; rfl
        · simp only [List.mem_cons, not_or]; exact ⟨fun e => h e.symm, h2⟩
      · refine .inr ⟨x :: p, q, rfl, ?_, ?_⟩
        · simp only [List.mem_cons, not_or]; exact ⟨fun e => h e.symm, h2⟩
        · rw [Lib.indexByte, if_neg (by simpa using h), h3, if_neg (by simp)]; simp
theorem splitK_eq (c : UInt8) : ∀ n l, l.count c ≤ n → Lib.splitK [c] 0 n l = splitOn c l
  | 0, l, h => by
    rw [splitOn_none c l (by rw [← List.count_eq_zero]; omega)]; rfl
  | n + 1, l, h => by
    unfold Lib.splitK
    rw [Lib.index_one]
    rcases byte_index c l with ⟨h1, h2⟩ | ⟨p, q, rfl, h2, h3⟩
    · rw [h1, if_pos (by rfl), splitOn_none c l h2]
    · rw [h3, if_neg (by simp), splitOn_hit c p q h2, splitK_eq c n]
      · simp
      · simp only [List.count_append, List.count_cons_self] at h
        simp; omega
theorem cut_eq (c : UInt8) (l : List UInt8) : ∃ hd tl, splitOn c l = hd :: tl ∧ (Lib.cut l [c]).1 = hd ∧ ((tl = [] ∧ (Lib.cut l [c]).2.2 = false) ∨ (tl ≠ [] ∧ (Lib.cut l [c]).2.2 = true ∧ splitOn c (Lib.cut l [c]).2.1 = tl)) := by
  unfold Lib.cut
  rw [Lib.index_one]
  rcases byte_index c l with ⟨h1, h2⟩ | ⟨p, q, rfl, h2, h3⟩
  · rw [h1, if_neg (by omega), splitOn_none c l h2]
    exact ⟨l, [], rfl, rfl, .inl ⟨rfl, rfl⟩⟩
  · rw [h3, if_pos (by omega), splitOn_hit c p q h2]
    refine ⟨p, splitOn c q, rfl, by simp, .inr ⟨splitOn_ne c q, rfl, by simp⟩⟩
theorem countFrom_eq (c : UInt8) : ∀ n l, l.length < n → Lib.countFrom [c] n l = l.count c
  | 0, l, h => absurd h (by omega)
  | n + 1, l, h => by
    unfold Lib.countFrom
    rw [Lib.index_one]
    rcases byte_index c l with ⟨h1, h2⟩ | ⟨p, q, rfl, h2, h3⟩
    · rw [h1, if_pos (by rfl), List.count_eq_zero.2 h2]
    · have e : (p ++ c :: q).drop ((p.length : Int).toNat + [c].length) = q := by simp
      rw [h3, if_neg (by simp), e, countFrom_eq c n q (by simp at h; omega), List.count_append, List.count_cons_self, List.count_eq_zero.2 h2]
      omega
/-- What strings.Split gives at a separator of one byte. -/
theorem split_words (c : UInt8) (s : ByteArray) : (Lib.splitB ⟨#[c]⟩ 0 (Lib.countB s ⟨#[c]⟩) s).map (·.data.toList) = splitOn c s.data.toList := by
  rw [Lib.splitB_data]
  refine splitK_eq c _ _ ?_
  have : Lib.countB s ⟨#[c]⟩ = s.data.toList.count c := countFrom_eq c _ _ (Nat.lt_succ_self _)
  omega
theorem splitOn_len0 (c : UInt8) : ∀ l, (splitOn c l).length ≤ l.length + 1 ∧ ∀ p ∈ splitOn c l, p.length ≤ l.length
  | [] => by simp [splitOn]
  | x :: r => by
    obtain ⟨h1, h2⟩ := splitOn_len0 c r
    by_cases h : x = c
    · rw [splitOn, if_pos h]
      refine ⟨by simp; omega, ?_⟩
      intro p hp
      rcases List.mem_cons.1 hp with rfl | hp
      · simp
      · have := h2 p hp; simp; omega
    · obtain ⟨hd, tl, e1, e2⟩ := splitOn_cons_ne c x r h
      rw [e2]
      rw [e1] at h1 h2
      refine ⟨by simpa using Nat.le_succ_of_le h1, ?_⟩
      intro p hp
      rcases List.mem_cons.1 hp with rfl | hp
      · have := h2 hd (by simp); simp; omega
      · have := h2 p (by simp [hp]); simp; omega
theorem splitOn_len' (c : UInt8) (l : List UInt8) : (splitOn c l).length ≤ l.length + 1 := (splitOn_len0 c l).1
theorem splitOn_part (c : UInt8) (l : List UInt8) : ∀ p ∈ splitOn c l, p.length ≤ l.length := (splitOn_len0 c l).2
end Go.Proofs.YtjeicglkanfbjaaDoor
