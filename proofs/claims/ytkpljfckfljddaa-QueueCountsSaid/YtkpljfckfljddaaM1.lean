/- Plain laws on the queue's functions as they are printed: what each of them computes. -/
import Derived.Test.YtkpljfckfljddaaPQx3
namespace Go.Proofs.Ytkpljfckfljddaa.Pure
open Go.RowKit Go.Proofs.YtkpljfckfljddaaW.PrintWords Go.Proofs.YtkpljfckfljddaaW.PrintMore Go.Proofs.Ytkpljfckfljddaa.PQ

theorem w64 {x : Int} (h0 : -9223372036854775808 ≤ x) (h1 : x ≤ 9223372036854775807) : wrap64 x = x := by
  unfold wrap64; omega

theorem alive_true : ∃ K, ∀ k, K ≤ k → skiarealaw18_alive.f k = some true := by
  refine ⟨20, fun k hk => ?_⟩
  obtain ⟨d, rfl⟩ : ∃ d, k = 20 + d := ⟨k - 20, by omega⟩
  induction d with
  | zero => decide +kernel
  | succ d ih => exact skiarealaw18_alive.mono (20 + d) _ (ih (by omega))

theorem small_eq (l : List Int) (a : Int) : skiarealaw18_small.f l a = some (decide ((l.length : Int) ≤ 300)) := rfl

theorem within_eq (a b c : Int) : queue_within.f a b c = some (decide (b ≤ a ∧ a ≤ c)) := by
  unfold queue_within.f
  by_cases h : a ≥ b
  · rw [if_pos h]; congr 1; simp [show b ≤ a from h]
  · rw [if_neg h]; congr 1; simp; omega

/-- A queue as Right accepts it. -/
def okQ (l : List Int) (a : Int) : Prop := (∀ x ∈ l, 1 ≤ x ∧ x ≤ 16) ∧ l.length ≤ 200 ∧ 0 ≤ a ∧ a ≤ 10000
instance (l : List Int) (a : Int) : Decidable (okQ l a) := by unfold okQ; infer_instance

theorem rd_nat (l : List Int) (i : Nat) (h : i < l.length) : rd l (i : Int) = l[i] := by simp [rd, h]

theorem right_l0 (l : List Int) (a : Int) (hl : l.length ≤ 300) (d : Nat) : ∀ (k i : Nat), l.length - i = d → i ≤ l.length → d < k →
    queue_Right.l0 k l (l.length : Int) (i : Int) l a = some (decide ((∀ x ∈ l.drop i, 1 ≤ x ∧ x ≤ 16) ∧ l.length ≤ 200 ∧ 0 ≤ a ∧ a ≤ 10000)) := by
  induction d with
  | zero =>
    intro k i hd hi hk
    obtain ⟨k, rfl⟩ : ∃ m, k = m + 1 := ⟨k - 1, by omega⟩
    simp only [queue_Right.l0]
    rw [if_neg (by omega), within_eq]
    have e : l.drop i = [] := List.drop_eq_nil_of_le (by omega)
    rw [e]
    by_cases h : (l.length : Int) ≤ 200
    · rw [if_pos h]; simp only [Option.bind_some]; congr 1; simp; omega
    · rw [if_neg h]; congr 1; simp; omega
  | succ d ih =>
    intro k i hd hi hk
    obtain ⟨k, rfl⟩ : ∃ m, k = m + 1 := ⟨k - 1, by omega⟩
    have hlt : i < l.length := by omega
    simp only [queue_Right.l0]
    rw [if_pos (by omega), if_pos (by omega), if_pos (by omega), within_eq, rd_nat l i hlt]
    simp only [Option.bind_some]
    have e : (∀ x ∈ l.drop i, 1 ≤ x ∧ x ≤ 16) ↔ (1 ≤ l[i] ∧ l[i] ≤ 16) ∧ (∀ x ∈ l.drop (i + 1), 1 ≤ x ∧ x ≤ 16) := by
      rw [List.drop_eq_getElem_cons hlt]; exact List.forall_mem_cons
    by_cases h : 1 ≤ l[i] ∧ l[i] ≤ 16
    · rw [if_pos (by simpa using h), w64 (by omega) (by omega), show ((i : Int) + 1) = ((i + 1 : Nat) : Int) by omega, ih k (i + 1) (by omega) (by omega) (by omega)]
      congr 1
      refine decide_eq_decide.2 ?_
      rw [e]
      exact ⟨fun ⟨a, b⟩ => ⟨⟨h, a⟩, b⟩, fun ⟨a, b⟩ => ⟨a.2, b⟩⟩
    · rw [if_neg (by simpa using h)]
      congr 1
      refine (decide_eq_false ?_).symm
      rw [e]
      exact fun hh => h hh.1.1

theorem right_eq (l : List Int) (a : Int) (hl : l.length ≤ 300) (k : Nat) (hk : l.length < k) : queue_Right.f k l a = some (decide (okQ l a)) := by
  have h := right_l0 l a hl l.length k 0 (by omega) (by omega) hk
  unfold queue_Right.f
  rw [show ((0 : Nat) : Int) = 0 from rfl] at h
  rw [h]
  congr 1

/-! ### Seat -/
/-- How groups board from the first one on, then singles. -/
def seatGo (s a : Int) : Int → List Int → List Int × Int × Int × Int
  | left, [] => ([], a - mn left a, s - left + mn left a, 0)
  | left, x :: xs => if x ≤ left then seatGo s a (left - x) xs else (x :: xs, a - mn left a, s - left + mn left a, 0)
def seatM (l : List Int) (a s : Int) : List Int × Int × Int × Int :=
  if 1 ≤ s ∧ s ≤ 16 then
    match l with
    | [] => seatGo s a s []
    | x :: xs => if x > s then ((x - s) :: xs, a, s, 0) else seatGo s a s (x :: xs)
  else ([], 0, 0, 2)

theorem mn_le (a b : Int) : mn a b ≤ a ∧ mn a b ≤ b ∧ (mn a b = a ∨ mn a b = b) := by unfold mn; split <;> omega

theorem seat_l0 (s a : Int) (hs : 1 ≤ s ∧ s ≤ 16) (ha : 0 ≤ a ∧ a ≤ 10000) : ∀ (l : List Int) (k : Nat) (left : Int), (∀ x ∈ l, 1 ≤ x ∧ x ≤ 16) → 0 ≤ left → left ≤ s → l.length < k →
    queue_Seat.l0 k s left l a = some (seatGo s a left l) := by
  intro l
  induction l with
  | nil =>
    intro k left _ h0 h1 hk
    obtain ⟨k, rfl⟩ : ∃ m, k = m + 1 := ⟨k - 1, by simp at hk; omega⟩
    simp only [queue_Seat.l0, seatGo]
    have hm := mn_le left a
    rw [if_neg (by simp), w64 (by omega) (by omega), w64 (x := s - left) (by omega) (by omega), w64 (by omega) (by omega)]
  | cons x xs ih =>
    intro k left hx h0 h1 hk
    obtain ⟨k, rfl⟩ : ∃ m, k = m + 1 := ⟨k - 1, by omega⟩
    have hx0 := hx x (by simp)
    simp only [queue_Seat.l0, seatGo]
    have hm := mn_le left a
    have hr : rd (x :: xs) 0 = x := by simp [rd]
    rw [if_pos (by simp), if_pos (by simp), hr]
    by_cases h : x ≤ left
    · rw [if_pos h, if_pos h, if_pos (by simp; omega), w64 (by omega) (by omega)]
      exact ih k (left - x) (fun y hy => hx y (by simp [hy])) (by omega) (by omega) (by simp at hk; omega)
    · rw [if_neg h, if_neg h, w64 (by omega) (by omega), w64 (x := s - left) (by omega) (by omega), w64 (by omega) (by omega)]

theorem copied_eq (l : List Int) (a : Int) (h : l.length ≤ 1000000) (h0 : 0 ≤ a) (h1 : a ≤ 1000) : queue_copied.f l a = some l := by
  unfold queue_copied.f; rw [if_pos ⟨h0, h1, h⟩]

theorem seat_eq (l : List Int) (a s : Int) (h : okQ l a) (k : Nat) (hk : l.length + 1 < k) : queue_Seat.f k l a s = some (seatM l a s) := by
  obtain ⟨hx, hl, ha⟩ := h
  unfold queue_Seat.f seatM
  rw [within_eq]
  simp only [Option.bind_some]
  by_cases hs : 1 ≤ s ∧ s ≤ 16
  · rw [if_pos (by simpa using hs), if_pos hs, copied_eq l 0 (by omega) (by omega) (by omega)]
    simp only [Option.bind_some]
    obtain ⟨k, rfl⟩ : ∃ m, k = m + 1 := ⟨k - 1, by omega⟩
    cases l with
    | nil =>
      rw [if_neg (by simp)]
      simp only [queue_Seat.j0]
      rw [if_neg (by simp)]
      exact seat_l0 s a hs ha [] k s (by simp) (by omega) (by omega) (by simp at hk ⊢; omega)
    | cons x xs =>
      have hx0 := hx x (by simp)
      have hr : rd (x :: xs) 0 = x := by simp [rd]
      rw [if_pos (by simp), if_pos (by simp), hr]
      simp only [queue_Seat.j0]
      by_cases h : x > s
      · rw [if_pos (by simpa using h), if_pos (by simp), hr, if_pos h, w64 (by omega) (by omega)]
        rfl
      · rw [if_neg (by simpa using h), if_neg h]
        exact seat_l0 s a hs ha (x :: xs) k s hx (by omega) (by omega) (by omega)
  · rw [if_neg (by simpa using hs), if_neg hs]

/-- What the boarding leaves. -/
def GoOK (s a left : Int) (l : List Int) (r : List Int × Int × Int × Int) : Prop :=
  ∃ g, g ≤ l.length ∧ r.1 = l.drop g ∧ r.2.2.2 = 0 ∧ 0 ≤ r.2.1 ∧ r.2.1 ≤ a ∧ s - left ≤ r.2.2.1 ∧ r.2.2.1 ≤ s ∧
    r.2.1 + (l.drop g).sum + r.2.2.1 = a + l.sum + (s - left) ∧ (0 < r.2.1 → r.2.2.1 = s) ∧ (r.2.2.1 = s - left → g = 0 ∧ (a = 0 ∨ left = 0) ∧ (∀ x xs, l = x :: xs → left < x))
theorem goOK_end (s a left : Int) (l : List Int) (ha : 0 ≤ a) (h0 : 0 ≤ left) (_h1 : left ≤ s) (hx : ∀ x xs, l = x :: xs → left < x) : GoOK s a left l (l, a - mn left a, s - left + mn left a, 0) := by
  obtain ⟨m1, m2, m3⟩ := mn_le left a
  have m4 : 0 ≤ mn left a := by rcases m3 with h | h <;> omega
  unfold GoOK
  generalize mn left a = m at *
  refine ⟨0, Nat.zero_le _, by simp, rfl, ?_, ?_, ?_, ?_, ?_, ?_, ?_⟩
  · show 0 ≤ a - m; omega
  · show a - m ≤ a; omega
  · show s - left ≤ s - left + m; omega
  · show s - left + m ≤ s; omega
  · show a - m + (l.drop 0).sum + (s - left + m) = a + l.sum + (s - left); rw [List.drop_zero]; omega
  · show 0 < a - m → s - left + m = s; omega
  · show s - left + m = s - left → _
    exact fun h => ⟨rfl, by omega, hx⟩
theorem seatGo_props (s a : Int) (ha : 0 ≤ a) : ∀ (l : List Int) (left : Int), (∀ x ∈ l, 1 ≤ x ∧ x ≤ 16) → 0 ≤ left → left ≤ s → GoOK s a left l (seatGo s a left l) := by
  intro l
  induction l with
  | nil => intro left _ h0 h1; exact goOK_end s a left [] ha h0 h1 (fun _ _ h => by simp at h)
  | cons x xs ih =>
    intro left hx h0 h1
    have hx0 := hx x (by simp)
    by_cases h : x ≤ left
    · have hr := ih (left - x) (fun y hy => hx y (by simp [hy])) (by omega) (by omega)
      have e : seatGo s a left (x :: xs) = seatGo s a (left - x) xs := by simp only [seatGo]; rw [if_pos h]
      rw [e]
      generalize seatGo s a (left - x) xs = r at *
      obtain ⟨g, hg, h2, h3, h4, h5, h6, h7, h8, h9, h10⟩ := hr
      refine ⟨g + 1, by simp; omega, by simpa using h2, h3, h4, h5, by omega, h7, ?_, h9, ?_⟩
      · simp only [List.drop_succ_cons, List.sum_cons]; omega
      · intro hn; omega
    · have e : seatGo s a left (x :: xs) = (x :: xs, a - mn left a, s - left + mn left a, 0) := by simp only [seatGo]; rw [if_neg h]
      rw [e]
      refine goOK_end s a left (x :: xs) ha h0 h1 (fun y ys hy => ?_)
      simp only [List.cons.injEq] at hy
      omega

theorem sum_pos : ∀ (l : List Int), (∀ x ∈ l, 1 ≤ x ∧ x ≤ 16) → (l.length : Int) ≤ l.sum ∧ l.sum ≤ 16 * l.length := by
  intro l
  induction l with
  | nil => intro _; simp
  | cons x xs ih =>
    intro h
    have h1 := h x (by simp)
    have h2 := ih (fun y hy => h y (by simp [hy]))
    simp only [List.length_cons, List.sum_cons]
    omega

/-- What Seat leaves, of a queue that is one, with a good number of seats. -/
structure SeatOK (l : List Int) (a s : Int) (r : List Int × Int × Int × Int) : Prop where
  ok : okQ r.1 r.2.1
  noerr : r.2.2.2 = 0
  pos : 0 ≤ r.2.2.1
  most : r.2.2.1 ≤ s
  total : r.2.1 + r.1.sum + r.2.2.1 = a + l.sum
  none : r.2.2.1 = 0 → a + l.sum = 0
  less : r.2.1 ≤ a
  full : 0 < r.2.1 → r.2.2.1 = s
  form : (∃ g, g ≤ l.length ∧ r.1 = l.drop g) ∨ (∃ x xs, l = x :: xs ∧ x > s ∧ r.1 = (x - s) :: xs)

theorem seatM_props (l : List Int) (a s : Int) (h : okQ l a) (hs : 1 ≤ s ∧ s ≤ 16) : SeatOK l a s (seatM l a s) := by
  obtain ⟨hx, hl, ha⟩ := h
  have gen : (∀ x xs, l = x :: xs → x ≤ s) → SeatOK l a s (seatGo s a s l) := fun hle => by
    obtain ⟨g, hg, h2, h3, h4, h5, h6, h7, h8, h9, h10⟩ := seatGo_props s a ha.1 l s hx (by omega) (by omega)
    generalize seatGo s a s l = r at *
    refine ⟨⟨?_, ?_, h4, by omega⟩, h3, by omega, h7, ?_, ?_, h5, h9, .inl ⟨g, hg, h2⟩⟩
    · rw [h2]; exact fun y hy => hx y (List.mem_of_mem_drop hy)
    · rw [h2, List.length_drop]; omega
    · rw [h2]; omega
    · intro hn
      obtain ⟨_, h11, h12⟩ := h10 (by omega)
      cases l with
      | nil => simp; omega
      | cons x xs => have := h12 x xs rfl; have := hle x xs rfl; omega
  cases l with
  | nil =>
    have e : seatM [] a s = seatGo s a s [] := by simp only [seatM]; rw [if_pos hs]
    rw [e]; exact gen (fun _ _ h => by simp at h)
  | cons x xs =>
    by_cases h : x > s
    · have e : seatM (x :: xs) a s = ((x - s) :: xs, a, s, 0) := by simp only [seatM]; rw [if_pos hs, if_pos h]
      have hx0 := hx x (by simp)
      have hl' : xs.length + 1 ≤ 200 := by simpa using hl
      rw [e]
      refine ⟨⟨?_, by simpa using hl', ha⟩, rfl, ?_, Int.le_refl _, ?_, ?_, Int.le_refl _, fun _ => rfl, .inr ⟨x, xs, rfl, h, rfl⟩⟩
      · intro y hy
        simp only [List.mem_cons] at hy
        rcases hy with rfl | hy
        · omega
        · exact hx y (by simp [hy])
      · show 0 ≤ s; omega
      · show a + ((x - s) :: xs).sum + s = a + (x :: xs).sum
        simp only [List.sum_cons]; omega
      · show s = 0 → _
        intro hn; omega
    · have e : seatM (x :: xs) a s = seatGo s a s (x :: xs) := by simp only [seatM]; rw [if_pos hs, if_neg h]
      rw [e]
      refine gen (fun y ys hy => ?_)
      simp only [List.cons.injEq] at hy
      omega

/-! ### Same -/
theorem same_l0 (l : List Int) (a : Int) (hl : l.length ≤ 1000000) (d : Nat) : ∀ (k i : Nat), l.length - i = d → i ≤ l.length → d < k → skiarearef18_Same.l0 k (i : Int) l a l a = some true := by
  induction d with
  | zero =>
    intro k i hd hi hk
    obtain ⟨k, rfl⟩ : ∃ m, k = m + 1 := ⟨k - 1, by omega⟩
    simp only [skiarearef18_Same.l0]
    rw [if_neg (by omega)]
  | succ d ih =>
    intro k i hd hi hk
    obtain ⟨k, rfl⟩ : ∃ m, k = m + 1 := ⟨k - 1, by omega⟩
    simp only [skiarearef18_Same.l0]
    rw [if_pos (by omega), if_pos (by omega), if_pos (by omega), if_true, w64 (by omega) (by omega), show ((i : Int) + 1) = ((i + 1 : Nat) : Int) by omega]
    exact ih k (i + 1) (by omega) (by omega) (by omega)
theorem same_self (l : List Int) (a : Int) (hl : l.length ≤ 1000000) (k : Nat) (hk : l.length + 1 < k) : skiarearef18_Same.f k l a l a = some true := by
  obtain ⟨k, rfl⟩ : ∃ m, k = m + 1 := ⟨k - 1, by omega⟩
  unfold skiarearef18_Same.f
  rw [if_pos rfl]
  simp only [skiarearef18_Same.j0, bne_self_eq_false]
  rw [if_neg (by simp)]
  exact same_l0 l a hl l.length k 0 (by omega) (by omega) (by omega)

/-! ### Length -/
theorem length_l0 (l : List Int) (hx : ∀ x ∈ l, 1 ≤ x ∧ x ≤ 16) (hl : l.length ≤ 200) (d : Nat) : ∀ (k i : Nat) (acc : Int), l.length - i = d → i ≤ l.length → d < k → 0 ≤ acc → acc ≤ 10000 + 16 * i →
    queue_Length.l0 k acc l (l.length : Int) (i : Int) = some (acc + (l.drop i).sum) := by
  induction d with
  | zero =>
    intro k i acc hd hi hk _ _
    obtain ⟨k, rfl⟩ : ∃ m, k = m + 1 := ⟨k - 1, by omega⟩
    simp only [queue_Length.l0]
    rw [if_neg (by omega), List.drop_eq_nil_of_le (by omega)]
    simp
  | succ d ih =>
    intro k i acc hd hi hk h0 h1
    obtain ⟨k, rfl⟩ : ∃ m, k = m + 1 := ⟨k - 1, by omega⟩
    have hlt : i < l.length := by omega
    have hxi := hx l[i] (List.getElem_mem hlt)
    simp only [queue_Length.l0]
    rw [if_pos (by omega), if_pos (by omega), if_pos (by omega), rd_nat l i hlt, w64 (by omega) (by omega), w64 (by omega) (by omega), show ((i : Int) + 1) = ((i + 1 : Nat) : Int) by omega,
      ih k (i + 1) (acc + l[i]) (by omega) (by omega) (by omega) (by omega) (by omega), List.drop_eq_getElem_cons hlt, List.sum_cons]
    congr 1
    omega
theorem length_eq (l : List Int) (a : Int) (h : okQ l a) (k : Nat) (hk : l.length < k) : queue_Length.f k l a = some (a + l.sum) := by
  obtain ⟨hx, hl, h0, h1⟩ := h
  have := length_l0 l hx hl l.length k 0 a (by omega) (by omega) hk h0 (by omega)
  simpa [queue_Length.f] using this

/-! ### Wait -/
/-- How many carriers are loaded until nobody waits: at most d of them. -/
def carr (s : Int) : Nat → List Int → Int → Int
  | 0, _, _ => 0
  | d + 1, l, a => if a + l.sum = 0 then 0 else 1 + carr s d (seatM l a s).1 (seatM l a s).2.1
theorem total_nonneg {l : List Int} {a : Int} (h : okQ l a) : 0 ≤ a + l.sum ∧ a + l.sum ≤ 13200 := by
  have := sum_pos l h.1
  obtain ⟨_, hl, h0, h1⟩ := h
  omega
theorem carr_props (s : Int) (hs : 1 ≤ s ∧ s ≤ 16) : ∀ (d : Nat) (l : List Int) (a : Int), okQ l a → a + l.sum ≤ d → 0 ≤ carr s d l a ∧ carr s d l a ≤ a + l.sum ∧ a + l.sum ≤ carr s d l a * s ∧ (carr s d l a = 0 ↔ a + l.sum = 0) := by
  intro d
  induction d with
  | zero =>
    intro l a h hd
    have h1 := total_nonneg h
    have h2 : a + l.sum ≤ 0 := hd
    have e : carr s 0 l a = 0 := rfl
    rw [e, Int.zero_mul]
    exact ⟨Int.le_refl _, by omega, by omega, ⟨fun _ => by omega, fun _ => rfl⟩⟩
  | succ d ih =>
    intro l a h hd
    have hT := total_nonneg h
    simp only [carr]
    by_cases h0 : a + l.sum = 0
    · rw [if_pos h0]; omega
    · rw [if_neg h0]
      have p := seatM_props l a s h hs
      have hn : (seatM l a s).2.2.1 ≠ 0 := fun e => h0 (p.none e)
      have hp := p.pos; have hm := p.most; have ht := p.total
      have q := ih _ _ p.ok (by omega)
      generalize carr s d (seatM l a s).1 (seatM l a s).2.1 = m at *
      have e : (1 + m) * s = s + m * s := by rw [Int.add_mul, Int.one_mul]
      rw [e]
      omega
theorem carr_stable (s : Int) (hs : 1 ≤ s ∧ s ≤ 16) : ∀ (d e : Nat) (l : List Int) (a : Int), okQ l a → a + l.sum ≤ d → a + l.sum ≤ e → carr s d l a = carr s e l a := by
  intro d
  induction d with
  | zero =>
    intro e l a h hd _
    have hT := total_nonneg h
    have h0 : a + l.sum = 0 := by omega
    cases e with
    | zero => rfl
    | succ e => simp only [carr]; rw [if_pos h0]
  | succ d ih =>
    intro e l a h hd he
    have hT := total_nonneg h
    by_cases h0 : a + l.sum = 0
    · cases e with
      | zero => simp only [carr]; rw [if_pos h0]
      | succ e => simp only [carr]; rw [if_pos h0, if_pos h0]
    · cases e with
      | zero => omega
      | succ e =>
        simp only [carr]
        rw [if_neg h0, if_neg h0]
        have p := seatM_props l a s h hs
        have hn : (seatM l a s).2.2.1 ≠ 0 := fun e => h0 (p.none e)
        have hp := p.pos; have ht := p.total
        rw [ih e _ _ p.ok (by omega) (by omega)]
theorem wait_l0 (s : Int) (hs : 1 ≤ s ∧ s ≤ 16) : ∀ (d : Nat) (l : List Int) (a : Int) (k : Nat) (n : Int), okQ l a → a + l.sum ≤ d → d + 210 < k → 0 ≤ n → n + (a + l.sum) ≤ 1000000 →
    queue_Wait.l0 k s n l a = some (n + carr s d l a, 0) := by
  intro d
  induction d with
  | zero =>
    intro l a k n h hd hk h0 h1
    have hT := total_nonneg h
    have hl := h.2.1
    obtain ⟨k, rfl⟩ : ∃ m, k = m + 1 := ⟨k - 1, by omega⟩
    simp only [queue_Wait.l0]
    rw [seat_eq l a s h k (by omega)]
    simp only [Option.bind_some]
    rw [if_pos (seatM_props l a s h hs).noerr, length_eq l a h k (by omega)]
    simp only [Option.bind_some, carr]
    rw [if_pos (by omega)]
    simp
  | succ d ih =>
    intro l a k n h hd hk h0 h1
    have hT := total_nonneg h
    have hl := h.2.1
    have p := seatM_props l a s h hs
    obtain ⟨k, rfl⟩ : ∃ m, k = m + 1 := ⟨k - 1, by omega⟩
    simp only [queue_Wait.l0]
    rw [seat_eq l a s h k (by omega)]
    simp only [Option.bind_some]
    rw [if_pos p.noerr, length_eq l a h k (by omega)]
    simp only [Option.bind_some, carr]
    by_cases e0 : a + l.sum = 0
    · rw [if_pos e0, if_pos e0]; simp
    · rw [if_neg e0, if_neg e0, w64 (by omega) (by omega)]
      have hn : (seatM l a s).2.2.1 ≠ 0 := fun e => e0 (p.none e)
      have hp := p.pos; have ht := p.total
      rw [ih _ _ k (n + 1) p.ok (by omega) (by omega) (by omega) (by omega)]
      congr 2
      omega
/-- Wait of a queue that is one. -/
theorem wait_eq (l : List Int) (a s : Int) (hs : 1 ≤ s ∧ s ≤ 16) (h : okQ l a) (k : Nat) (hk : 13500 < k) : queue_Wait.f k l a s = some (carr s 13200 l a, 0) := by
  have hT := total_nonneg h
  have := wait_l0 s hs 13200 l a k 0 h (by omega) (by omega) (by omega) (by omega)
  simpa [queue_Wait.f] using this
theorem seatM_bad (l : List Int) (a s : Int) (hs : ¬ (1 ≤ s ∧ s ≤ 16)) : seatM l a s = ([], 0, 0, 2) := by unfold seatM; rw [if_neg hs]
theorem wait_bad (l : List Int) (a s : Int) (hs : ¬ (1 ≤ s ∧ s ≤ 16)) (h : okQ l a) (k : Nat) (hk : 300 < k) : queue_Wait.f k l a s = some (0, 2) := by
  have hl := h.2.1
  obtain ⟨k, rfl⟩ : ∃ m, k = m + 1 := ⟨k - 1, by omega⟩
  unfold queue_Wait.f
  simp only [queue_Wait.l0]
  rw [seat_eq l a s h k (by omega), seatM_bad l a s hs]
  rfl
end Go.Proofs.Ytkpljfckfljddaa.Pure
