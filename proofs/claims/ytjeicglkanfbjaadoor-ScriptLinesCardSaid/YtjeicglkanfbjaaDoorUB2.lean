/- Lines, printed and read back, in plain words. -/
import Derived.Test.YtjeicglkanfbjaaDoorUB1
import Derived.Test.YtjeicglkanfbjaaDoorS3
namespace Go.Proofs.YtjeicglkanfbjaaDoor
/-- An event's line, without its end. -/
def lineS (e : Int × List Int) : List UInt8 := wordAt e.1 ++ e.2.flatMap fun n => 32 :: Lib.itoa n
/-- An event that can be printed. -/
def goodS (e : Int × List Int) : Prop := 1 ≤ e.1 ∧ e.1 ≤ 44 ∧ fitsS e.1 e.2.length = true ∧ e.2.all inN = true
theorem word_facts : ((List.range 44).all fun i => decide (kindS (wordAt ((i : Int) + 1)) = (i : Int) + 1) && decide (wordAt ((i : Int) + 1) ≠ []) && (wordAt ((i : Int) + 1)).all fun c => decide (c ≠ 32) && decide (c ≠ 10) && decide (c ≠ 35)) = true := by decide +kernel
theorem word_fact (K : Int) (h1 : 1 ≤ K) (h2 : K ≤ 44) : kindS (wordAt K) = K ∧ wordAt K ≠ [] ∧ ∀ c ∈ wordAt K, c ≠ 32 ∧ c ≠ 10 ∧ c ≠ 35 := by
  have h := List.all_eq_true.1 word_facts (K - 1).toNat (by rw [List.mem_range]; omega)
  rw [show (((K - 1).toNat : Nat) : Int) + 1 = K by omega] at h
  simp only [Bool.and_eq_true, decide_eq_true_eq, List.all_eq_true] at h
  exact ⟨h.1.1, h.1.2, fun c hc => ⟨(h.2 c hc).1.1, (h.2 c hc).1.2, (h.2 c hc).2⟩⟩
theorem split_flat {α : Type} (c : UInt8) (f : α → List UInt8) : ∀ (l : List α) (w : List UInt8), c ∉ w → (∀ x ∈ l, c ∉ f x) → splitOn c (w ++ l.flatMap fun x => c :: f x) = w :: l.map f
  | [], w, hw, _ => by simp only [List.flatMap_nil, List.append_nil, List.map_nil]; exact splitOn_none c w hw
  | x :: l, w, hw, hf => by
    rw [List.flatMap_cons, List.cons_append, splitOn_hit c w _ hw, split_flat c f l (f x) (hf x (by simp)) (fun y hy => hf y (by simp [hy]))]
    rfl
theorem split_line (e : Int × List Int) (h : goodS e) : splitOn 32 (lineS e) = wordAt e.1 :: e.2.map Lib.itoa :=
  split_flat 32 Lib.itoa e.2 (wordAt e.1) (fun hm => ((word_fact e.1 h.1 h.2.1).2.2 _ hm).1 rfl) (fun n _ hm => (itoa_bytes n _ hm).1 rfl)
theorem evS_line (e : Int × List Int) (h : goodS e) : evS (lineS e) = .ok e := by
  obtain ⟨h1, h2, h3, h4⟩ := h
  unfold evS
  rw [split_line e ⟨h1, h2, h3, h4⟩]
  have hk := (word_fact e.1 h1 h2).1
  have ho : (e.2.map Lib.itoa).all okNum = true := by simp [List.all_map, okNum_itoa]
  have hr : (e.2.map Lib.itoa).all inR = true := by
    rw [List.all_map]
    rw [List.all_eq_true] at h4 ⊢
    intro n hn
    show inR (Lib.itoa n) = true
    rw [inR_itoa]; exact h4 n hn
  have hm : (e.2.map Lib.itoa).map valS = e.2 := by
    rw [List.map_map]
    have : (valS ∘ Lib.itoa) = id := by funext n; exact valS_itoa n
    rw [this, List.map_id]
  simp only [hk]
  rw [if_neg (by omega), ho, List.length_map, h3, hr, hm]
  rfl
theorem split_join (c : UInt8) : ∀ (x w : List UInt8) (ps : List (List UInt8)), splitOn c x = w :: ps → x = w ++ ps.flatMap fun p => c :: p
  | [], w, ps, h => by
    simp only [splitOn, List.cons.injEq] at h
    obtain ⟨rfl, rfl⟩ := h
    rfl
  | b :: r, w, ps, h => by
    by_cases hb : b = c
    · rw [splitOn, if_pos hb] at h
      injection h with h1 h2
      cases hs : splitOn c r with
      | nil => exact absurd hs (splitOn_ne c r)
      | cons w1 ps1 =>
        rw [← h1, ← h2, hs, List.flatMap_cons, hb, split_join c r w1 ps1 hs]
        simp
    · obtain ⟨hd, tl, e1, e2⟩ := splitOn_cons_ne c b r hb
      rw [e2] at h
      injection h with h1 h2
      rw [← h1, ← h2, List.cons_append, ← split_join c r hd tl e1]
theorem kind_word (w : List UInt8) : ∀ (l : List (List UInt8 × Int × Bool)) (i : Int), 0 ≤ i → kindFrom w l i ≠ 0 → i < kindFrom w l i ∧ (l[(kindFrom w l i - i - 1).toNat]?).map (·.1) = some w
  | [], i, hi, h => absurd rfl h
  | f :: r, i, hi, h => by
    rw [kindFrom] at h ⊢
    by_cases hf : f.1 = w
    · rw [if_pos hf]
      refine ⟨by omega, ?_⟩
      rw [show i + 1 - i - 1 = 0 by omega]
      simp [hf]
    · rw [if_neg hf] at h ⊢
      obtain ⟨h1, h2⟩ := kind_word w r (i + 1) (by omega) h
      refine ⟨by omega, ?_⟩
      rw [show (kindFrom w r (i + 1) - i - 1).toNat = (kindFrom w r (i + 1) - (i + 1) - 1).toNat + 1 by omega]
      simpa using h2
theorem word_kind (w : List UInt8) (h : kindS w ≠ 0) : wordAt (kindS w) = w := by
  obtain ⟨_, h2⟩ := kind_word w formsS 0 (by decide) h
  unfold wordAt
  have e : kindFrom w formsS 0 - 0 - 1 = kindS w - 1 := by unfold kindS; omega
  rw [e] at h2
  rw [h2]; rfl
theorem evS_inv {x : List UInt8} {e : Int × List Int} (h : evS x = .ok e) : goodS e ∧ lineS e = x := by
  unfold evS at h
  cases hs : splitOn 32 x with
  | nil => exact absurd hs (splitOn_ne 32 x)
  | cons w ps =>
    rw [hs] at h
    dsimp only at h
    by_cases hk : kindS w = 0
    · rw [if_pos hk] at h; simp at h
    · rw [if_neg hk] at h
      split at h
      · next h2 =>
        rw [Bool.and_eq_true] at h2
        obtain ⟨ho, hf⟩ := h2
        split at h
        · next hr =>
          simp only [Except.ok.injEq] at h
          subst h
          have hrg := kindS_range w
          refine ⟨⟨?_, ?_, ?_, ?_⟩, ?_⟩
          · show 1 ≤ kindS w; omega
          · show kindS w ≤ 44; omega
          · show fitsS (kindS w) ((ps.map valS).length : Nat) = true
            rw [List.length_map]; exact hf
          · show (ps.map valS).all inN = true
            rw [List.all_map, List.all_eq_true]
            intro p hp
            exact List.all_eq_true.1 hr p hp
          · show wordAt (kindS w) ++ (ps.map valS).flatMap (fun n => 32 :: Lib.itoa n) = x
            rw [word_kind w hk, split_join 32 x w ps hs]
            congr 1
            have : ∀ (l : List (List UInt8)), (∀ p ∈ l, okNum p = true) → (l.map valS).flatMap (fun n => 32 :: Lib.itoa n) = l.flatMap fun p => 32 :: p := by
              intro l
              induction l with
              | nil => intro _; rfl
              | cons p l ih =>
                intro hl
                rw [List.map_cons, List.flatMap_cons, List.flatMap_cons, itoa_val (hl p (by simp)), ih (fun q hq => hl q (by simp [hq]))]
            exact this ps (List.all_eq_true.1 ho)
        · simp at h
      · simp at h
/-! ### what is printed -/
theorem args_go : ∀ (l : List Int) (acc : List UInt8), argsGo l acc = if l.all inN = true then some (acc ++ l.flatMap fun n => 32 :: Lib.itoa n) else none
  | [], acc => by simp [argsGo]
  | n :: l, acc => by
    rw [argsGo, List.all_cons, List.flatMap_cons]
    by_cases h : inN n = true
    · rw [if_pos h, args_go l, h, Bool.true_and]
      simp
    · rw [if_neg h]
      have : inN n = false := by simpa using h
      rw [this, Bool.false_and]; rfl
def textS (L : List (Int × List Int)) : List UInt8 := L.flatMap fun e => lineS e ++ [10]
theorem print_good : ∀ (L : List (Int × List Int)) (acc : List UInt8), (∀ e ∈ L, goodS e) → printGo L acc = .ok (acc ++ textS L)
  | [], acc, _ => by simp [printGo, textS]
  | e :: L, acc, h => by
    obtain ⟨h1, h2, h3, h4⟩ := h e (by simp)
    rw [printGo, if_neg (by omega), if_pos h3, args_go, if_pos h4]
    dsimp only
    rw [print_good L _ (fun x hx => h x (by simp [hx]))]
    simp [textS, lineS]
theorem print_inv : ∀ (L : List (Int × List Int)) (acc s : List UInt8), printGo L acc = .ok s → (∀ e ∈ L, goodS e) ∧ s = acc ++ textS L
  | [], acc, s, h => by
    simp only [printGo, Except.ok.injEq] at h
    exact ⟨by simp, by rw [h]; simp [textS]⟩
  | e :: L, acc, s, h => by
    rw [printGo] at h
    split at h
    · simp at h
    · next hk =>
      split at h
      · next hf =>
        rw [args_go] at h
        by_cases hr : e.2.all inN = true
        · rw [if_pos hr] at h
          obtain ⟨h1, h2⟩ := print_inv L _ _ h
          refine ⟨?_, by rw [h2]; simp [textS, lineS]⟩
          intro x hx
          rcases List.mem_cons.1 hx with rfl | hx
          · exact ⟨by omega, by omega, hf, hr⟩
          · exact h1 x hx
        · rw [if_neg hr] at h; simp at h
      · simp at h
theorem print_err : ∀ (L : List (Int × List Int)) (acc : List UInt8) (c : Int), printGo L acc = .error c → c ≠ 0
  | [], acc, c, h => by simp [printGo] at h
  | e :: L, acc, c, h => by
    rw [printGo] at h
    split at h
    · simp only [Except.error.injEq] at h; omega
    · split at h
      · split at h
        · exact print_err L _ _ h
        · simp only [Except.error.injEq] at h; omega
      · simp only [Except.error.injEq] at h; omega
theorem line_nl (e : Int × List Int) (h : goodS e) : (10 : UInt8) ∉ lineS e := by
  unfold lineS
  rw [List.mem_append, List.mem_flatMap]
  rintro (hm | ⟨n, _, hm⟩)
  · exact ((word_fact e.1 h.1 h.2.1).2.2 _ hm).2.1 rfl
  · rcases List.mem_cons.1 hm with hm | hm
    · exact absurd hm (by decide)
    · exact (itoa_bytes n _ hm).2 rfl
theorem split_text : ∀ (L : List (Int × List Int)), (∀ e ∈ L, goodS e) → splitOn 10 (textS L) = L.map lineS ++ [[]]
  | [], _ => rfl
  | e :: L, h => by
    have e1 : textS (e :: L) = lineS e ++ 10 :: textS L := by simp [textS]
    rw [e1, splitOn_hit 10 _ _ (line_nl e (h e (by simp))), split_text L (fun x hx => h x (by simp [hx]))]
    rfl
theorem line_skip (e : Int × List Int) (h : goodS e) : skipS (lineS e) = false := by
  obtain ⟨_, h2, h3⟩ := word_fact e.1 h.1 h.2.1
  unfold lineS skipS
  cases hw : wordAt e.1 with
  | nil => exact absurd hw h2
  | cons b t =>
    have hb : b ≠ 35 := (h3 b (by rw [hw]; simp)).2.2
    simpa using hb
theorem go_lines : ∀ (L : List (Int × List Int)) (i : Int) (acc : List (Int × List Int)), (∀ e ∈ L, goodS e) → acc.length ≤ 400 → goS (L.map lineS ++ [[]]) i acc = if acc.length + L.length ≤ 400 then .ok (acc ++ L) else .error (i + (400 - acc.length : Nat) + 1, 4)
  | [], i, acc, _, ha => by
    rw [if_pos (by simpa using ha)]
    simp [goS, skipS]
  | e :: L, i, acc, h, ha => by
    rw [List.map_cons, List.cons_append, goS, line_skip e (h e (by simp)), if_neg (by simp)]
    by_cases h4 : acc.length = 400
    · rw [if_pos h4, if_neg (by simp; omega)]
      congr 2; omega
    · rw [if_neg h4, evS_line e (h e (by simp))]
      dsimp only
      rw [go_lines L (i + 1) (acc ++ [e]) (fun x hx => h x (by simp [hx])) (by simp; omega)]
      simp only [List.length_append, List.length_cons, List.length_nil, List.append_assoc, List.singleton_append]
      by_cases hl : acc.length + (L.length + 1) ≤ 400
      · rw [if_pos (by omega), if_pos hl]
      · rw [if_neg (by omega), if_neg hl]
        congr 2; omega
/-- What is read of a printed text. -/
theorem back_law (L : List (Int × List Int)) (h : ∀ e ∈ L, goodS e) : parseS (textS L) = if 20000 < (textS L).length then .error (0, 4) else if L.length ≤ 400 then .ok L else .error (401, 4) := by
  unfold parseS
  by_cases hs : 20000 < (textS L).length
  · rw [if_pos hs, if_pos hs]
  · rw [if_neg hs, if_neg hs, split_text L h, go_lines L 0 [] h (by simp)]
    simp
theorem text_nl : ∀ (L : List (Int × List Int)), (∀ e ∈ L, goodS e) → (textS L).count 10 = L.length
  | [], _ => rfl
  | e :: L, h => by
    have e1 : textS (e :: L) = lineS e ++ 10 :: textS L := by simp [textS]
    rw [e1, List.count_append, List.count_eq_zero_of_not_mem (line_nl e (h e (by simp))), List.count_cons_self, text_nl L (fun x hx => h x (by simp [hx]))]
    simp
/-! ### a line ahead -/
theorem go_shift (d : Int) : ∀ (B : List (List UInt8)) (i : Int) (acc : List (Int × List Int)), goS B (i + d) acc = match goS B i acc with
    | .ok r => .ok r
    | .error (n, c) => .error (n + d, c)
  | [], i, acc => rfl
  | t :: B, i, acc => by
    have ih := fun a => go_shift d B (i + 1) a
    rw [goS, goS]
    have e : i + d + 1 = i + 1 + d := by omega
    rw [e]
    split
    · exact ih acc
    · split
      · rfl
      · cases evS t with
        | ok r => exact ih _
        | error c => rfl
theorem ahead_law (w s : List UInt8) (hw : (10 : UInt8) ∉ w) (hk : skipS w = true) (hl : (w ++ 10 :: s).length ≤ 20000) : parseS (w ++ 10 :: s) = match parseS s with
    | .ok r => .ok r
    | .error (n, c) => .error (n + 1, c) := by
  have h2 : s.length ≤ 20000 := by simp at hl; omega
  unfold parseS
  rw [if_neg (by omega), if_neg (by omega), splitOn_hit 10 w s hw, goS, if_pos hk]
  exact go_shift 1 (splitOn 10 s) 0 []
theorem go_text : ∀ (B : List (List UInt8)) (i : Int) (acc r : List (Int × List Int)), goS B i acc = .ok r → ∃ es, r = acc ++ es ∧ (∀ e ∈ es, goodS e) ∧ (textS es).length ≤ (B.map fun t => t.length + 1).sum
  | [], i, acc, r, h => by
    simp only [goS, Except.ok.injEq] at h
    exact ⟨[], by rw [h]; simp, by simp, by simp [textS]⟩
  | t :: B, i, acc, r, h => by
    rw [goS] at h
    rw [List.map_cons, List.sum_cons]
    split at h
    · obtain ⟨es, h1, h2, h3⟩ := go_text B _ _ _ h
      exact ⟨es, h1, h2, by omega⟩
    · split at h
      · simp at h
      · cases he : evS t with
        | error c => rw [he] at h; simp at h
        | ok e =>
          rw [he] at h
          obtain ⟨es, h1, h2, h3⟩ := go_text B _ _ _ h
          obtain ⟨g1, g2⟩ := evS_inv he
          refine ⟨e :: es, by rw [h1]; simp, ?_, ?_⟩
          · intro x hx
            rcases List.mem_cons.1 hx with rfl | hx
            · exact g1
            · exact h2 x hx
          · have e1 : textS (e :: es) = lineS e ++ 10 :: textS es := by simp [textS]
            rw [e1, g2]
            simp only [List.length_append, List.length_cons]
            omega
theorem split_sum (c : UInt8) : ∀ l : List UInt8, ((splitOn c l).map fun t => t.length + 1).sum = l.length + 1
  | [] => rfl
  | x :: r => by
    have ih := split_sum c r
    by_cases h : x = c
    · rw [splitOn, if_pos h, List.map_cons, List.sum_cons, ih]; simp; omega
    · obtain ⟨hd, tl, e1, e2⟩ := splitOn_cons_ne c x r h
      rw [e1, List.map_cons, List.sum_cons] at ih
      rw [e2, List.map_cons, List.sum_cons]
      simp only [List.length_cons] at ih ⊢
      omega
theorem parse_good {s : List UInt8} {r : List (Int × List Int)} (h : parseS s = .ok r) : (∀ e ∈ r, goodS e) ∧ (textS r).length ≤ s.length + 1 := by
  unfold parseS at h
  split at h
  · simp at h
  · obtain ⟨es, h1, h2, h3⟩ := go_text _ _ _ _ h
    rw [split_sum] at h3
    rw [List.nil_append] at h1
    subst h1
    exact ⟨h2, h3⟩
theorem fits_few {K n : Int} (h : fitsS K n = true) : n ≤ 46 := by
  unfold fitsS at h
  have hb : ∀ f ∈ formsS, (0 : Int) ≤ f.2.1 ∧ f.2.1 ≤ 6 := by decide +kernel
  cases hf : formsS[(K - 1).toNat]? with
  | none => rw [hf] at h; simp at h
  | some f =>
    rw [hf] at h
    have := hb f (List.mem_of_getElem? hf)
    simp only [Bool.or_eq_true, Bool.and_eq_true, decide_eq_true_eq] at h
    omega
theorem good_small {r : List (Int × List Int)} (hl : r.length ≤ 420) (h : ∀ e ∈ r, goodS e) : smallS r = true := by
  unfold smallS
  rw [Bool.and_eq_true, List.all_eq_true]
  refine ⟨decide_eq_true hl, fun e he => decide_eq_true ?_⟩
  have := fits_few (h e he).2.2.1
  omega
end Go.Proofs.YtjeicglkanfbjaaDoor
