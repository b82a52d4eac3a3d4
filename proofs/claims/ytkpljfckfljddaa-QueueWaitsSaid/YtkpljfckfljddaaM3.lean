/- Plain laws on the reference's Seat, Length and Wait. -/
import Derived.Test.YtkpljfckfljddaaM2
import Derived.Test.YtkpljfckfljddaaPQx6
namespace Go.Proofs.Ytkpljfckfljddaa.Pure
open Go.RowKit Go.Proofs.YtkpljfckfljddaaW.PrintWords Go.Proofs.YtkpljfckfljddaaW.PrintMore Go.Proofs.Ytkpljfckfljddaa.PQ
theorem refSeat_end (s a left : Int) (l : List Int) (hs : 1 ≤ s ∧ s ≤ 16) (ha : 0 ≤ a ∧ a ≤ 10000) (h0 : 0 ≤ left) (h1 : left ≤ s) :
    (if a > left then (some (l, wrap64 (a - left), wrap64 ((wrap64 (s - left)) + left), 0)) else (some (l, 0, wrap64 ((wrap64 (s - left)) + a), 0)) : Option (List Int × Int × Int × Int)) = some (l, a - mn left a, s - left + mn left a, 0) := by
  rw [w64 (x := s - left) (by omega) (by omega)]
  unfold mn
  by_cases h : a > left
  · rw [if_pos h, if_neg (by omega), w64 (by omega) (by omega), w64 (by omega) (by omega)]
  · rw [if_neg h, w64 (by omega) (by omega)]
    by_cases e : a < left
    · rw [if_pos e]; congr 2; rw [Int.sub_self]
    · have : a = left := by omega
      subst this
      rw [if_neg e, Int.sub_self]
theorem refSeat_l0 (s a : Int) (hs : 1 ≤ s ∧ s ≤ 16) (ha : 0 ≤ a ∧ a ≤ 10000) : ∀ (l : List Int) (k : Nat) (left : Int), (∀ x ∈ l, 1 ≤ x ∧ x ≤ 16) → 0 ≤ left → left ≤ s → l.length < k →
    skiarearef18_Seat.l0 k s left l a = some (seatGo s a left l) := by
  intro l
  induction l with
  | nil =>
    intro k left _ h0 h1 hk
    obtain ⟨k, rfl⟩ : ∃ m, k = m + 1 := ⟨k - 1, by simp at hk; omega⟩
    simp only [skiarearef18_Seat.l0, seatGo]
    rw [if_neg (by simp)]
    exact refSeat_end s a left [] hs ha h0 h1
  | cons x xs ih =>
    intro k left hx h0 h1 hk
    obtain ⟨k, rfl⟩ : ∃ m, k = m + 1 := ⟨k - 1, by omega⟩
    have hx0 := hx x (by simp)
    simp only [skiarearef18_Seat.l0, seatGo]
    have hr : rd (x :: xs) 0 = x := by simp [rd]
    rw [if_pos (by simp), if_pos (by simp), hr]
    by_cases h : x ≤ left
    · rw [if_pos h, if_pos h, if_pos (by simp; omega), w64 (by omega) (by omega)]
      exact ih k (left - x) (fun y hy => hx y (by simp [hy])) (by omega) (by omega) (by simp at hk; omega)
    · rw [if_neg h, if_neg h]
      exact refSeat_end s a left (x :: xs) hs ha h0 h1
theorem refSeat_eq (l : List Int) (a s : Int) (h : okQ l a) (k : Nat) (hk : l.length + 2 < k) : skiarearef18_Seat.f k l a s = some (seatM l a s) := by
  obtain ⟨hx, hl, ha⟩ := h
  obtain ⟨k, rfl⟩ : ∃ m, k = m + 2 := ⟨k - 2, by omega⟩
  unfold skiarearef18_Seat.f
  have bad : ∀ b : Bool, b = true → ¬ (1 ≤ s ∧ s ≤ 16) → skiarearef18_Seat.j0 (k + 2) s b l a = some (seatM l a s) := fun b hb hs => by
    simp only [skiarearef18_Seat.j0]; rw [if_pos hb, seatM_bad l a s hs]
  by_cases h1 : s < 1
  · rw [if_pos h1]; exact bad true rfl (by omega)
  · rw [if_neg h1]
    by_cases h2 : s > 16
    · exact bad _ (by simpa using h2) (by omega)
    · have hs : 1 ≤ s ∧ s ≤ 16 := by omega
      simp only [skiarearef18_Seat.j0]
      rw [if_neg (by simpa using h2), own_eq l a (by omega)]
      simp only [Option.bind_some]
      cases l with
      | nil =>
        rw [if_neg (by simp)]
        simp only [skiarearef18_Seat.j1]
        rw [if_neg (by simp)]
        have e : seatM [] a s = seatGo s a s [] := by simp only [seatM]; rw [if_pos hs]
        rw [e]
        exact refSeat_l0 s a hs ha [] k s (by simp) (by omega) (by omega) (by simp at hk ⊢; omega)
      | cons x xs =>
        have hx0 := hx x (by simp)
        have hr : rd (x :: xs) 0 = x := by simp [rd]
        rw [if_pos (by simp), if_pos (by simp), hr]
        simp only [skiarearef18_Seat.j1, seatM]
        rw [if_pos hs]
        by_cases h : x > s
        · rw [if_pos (by simpa using h), if_pos (by simp), hr, if_pos h, w64 (by omega) (by omega)]
          rfl
        · rw [if_neg (by simpa using h), if_neg h]
          exact refSeat_l0 s a hs ha (x :: xs) k s hx (by omega) (by omega) (by omega)
theorem refLength_l0 (l : List Int) (a : Int) (hx : ∀ x ∈ l, 1 ≤ x ∧ x ≤ 16) (hl : l.length ≤ 200) (d : Nat) : ∀ (k i : Nat) (acc : Int), l.length - i = d → i ≤ l.length → d < k → 0 ≤ acc → acc ≤ 10000 + 16 * i →
    skiarearef18_Length.l0 k acc (i : Int) l a = some (acc + (l.drop i).sum) := by
  induction d with
  | zero =>
    intro k i acc hd hi hk _ _
    obtain ⟨k, rfl⟩ : ∃ m, k = m + 1 := ⟨k - 1, by omega⟩
    simp only [skiarearef18_Length.l0]
    rw [if_neg (by omega), List.drop_eq_nil_of_le (by omega)]
    simp
  | succ d ih =>
    intro k i acc hd hi hk h0 h1
    obtain ⟨k, rfl⟩ : ∃ m, k = m + 1 := ⟨k - 1, by omega⟩
    have hlt : i < l.length := by omega
    have hxi := hx l[i] (List.getElem_mem hlt)
    simp only [skiarearef18_Length.l0]
    rw [if_pos (by omega), if_pos (by omega), rd_nat l i hlt, w64 (by omega) (by omega), w64 (by omega) (by omega), show ((i : Int) + 1) = ((i + 1 : Nat) : Int) by omega,
      ih k (i + 1) (acc + l[i]) (by omega) (by omega) (by omega) (by omega) (by omega), List.drop_eq_getElem_cons hlt, List.sum_cons]
    congr 1
    omega
theorem refLength_eq (l : List Int) (a : Int) (h : okQ l a) (k : Nat) (hk : l.length < k) : skiarearef18_Length.f k l a = some (a + l.sum) := by
  obtain ⟨hx, hl, h0, h1⟩ := h
  have := refLength_l0 l a hx hl l.length k 0 a (by omega) (by omega) hk h0 (by omega)
  simpa [skiarearef18_Length.f] using this
theorem refWait_l0 (s : Int) (hs : 1 ≤ s ∧ s ≤ 16) : ∀ (d : Nat) (l : List Int) (a : Int) (k : Nat) (n : Int), okQ l a → a + l.sum ≤ d → d + 210 < k → 0 ≤ n → n + (a + l.sum) ≤ 1000000 →
    skiarearef18_Wait.l0 k s n l a = some (n + carr s d l a, 0) := by
  intro d
  induction d with
  | zero =>
    intro l a k n h hd hk h0 h1
    have hT := total_nonneg h
    have hl := h.2.1
    obtain ⟨k, rfl⟩ : ∃ m, k = m + 1 := ⟨k - 1, by omega⟩
    simp only [skiarearef18_Wait.l0]
    rw [refLength_eq l a h k (by omega)]
    simp only [Option.bind_some, carr]
    rw [if_neg (by omega)]
    simp
  | succ d ih =>
    intro l a k n h hd hk h0 h1
    have hT := total_nonneg h
    have hl := h.2.1
    have p := seatM_props l a s h hs
    obtain ⟨k, rfl⟩ : ∃ m, k = m + 1 := ⟨k - 1, by omega⟩
    simp only [skiarearef18_Wait.l0]
    rw [refLength_eq l a h k (by omega)]
    simp only [Option.bind_some, carr]
    by_cases e0 : a + l.sum = 0
    · rw [if_neg (by omega), if_pos e0]; simp
    · rw [if_pos (by omega), if_neg e0, refSeat_eq l a s h k (by omega)]
      simp only [Option.bind_some]
      rw [w64 (by omega) (by omega)]
      have hn : (seatM l a s).2.2.1 ≠ 0 := fun e => e0 (p.none e)
      have hp := p.pos; have ht := p.total
      rw [ih _ _ k (n + 1) p.ok (by omega) (by omega) (by omega) (by omega)]
      congr 2
      omega
theorem refWait_eq (l : List Int) (a s : Int) (hs : 1 ≤ s ∧ s ≤ 16) (h : okQ l a) (k : Nat) (hk : 13500 < k) : skiarearef18_Wait.f k l a s = some (carr s 13200 l a, 0) := by
  have hT := total_nonneg h
  have hl := h.2.1
  obtain ⟨k, rfl⟩ : ∃ m, k = m + 1 := ⟨k - 1, by omega⟩
  unfold skiarearef18_Wait.f
  rw [if_neg (by omega)]
  simp only [skiarearef18_Wait.j0]
  rw [if_neg (by simp; omega), own_eq l a (by omega)]
  simp only [Option.bind_some]
  have := refWait_l0 s hs 13200 l a k 0 h (by omega) (by omega) (by omega) (by omega)
  simpa using this
theorem refWait_bad (l : List Int) (a s : Int) (hs : ¬ (1 ≤ s ∧ s ≤ 16)) (k : Nat) (hk : 0 < k) : skiarearef18_Wait.f k l a s = some (0, 2) := by
  obtain ⟨k, rfl⟩ : ∃ m, k = m + 1 := ⟨k - 1, by omega⟩
  unfold skiarearef18_Wait.f
  by_cases h : s < 1
  · rw [if_pos h]; simp only [skiarearef18_Wait.j0]; rw [if_pos (by first | trivial | rfl)]
  · rw [if_neg h]; simp only [skiarearef18_Wait.j0]; rw [if_pos (by simp; omega)]
end Go.Proofs.Ytkpljfckfljddaa.Pure
