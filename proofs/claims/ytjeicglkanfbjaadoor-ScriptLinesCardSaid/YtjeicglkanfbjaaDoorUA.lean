/- The law's 'small' and the reference's Print give what is said of them in plain words. -/
import Derived.Test.YtjeicglkanfbjaaDoorPUx4
import Derived.Test.YtjeicglkanfbjaaDoorUQ4
import Derived.Test.YtjeicglkanfbjaaDoorUQ7
import Derived.Test.YtjeicglkanfbjaaDoorUB2
namespace Go.Proofs.YtjeicglkanfbjaaDoor.Pure
open Go.RowKit Go.Proofs.YtjeicglkanfbjaaDoorW.PrintWords Go.Proofs.YtjeicglkanfbjaaDoorW.PrintMore Go.Proofs.YtjeicglkanfbjaaDoor.PU
def evs (l : List S39) : List (Int × List Int) := l.map ev_script_Print
theorem evs_mk (l : List S39) : (evs l).map mk39 = l := by
  unfold evs
  rw [List.map_map]
  have : (mk39 ∘ ev_script_Print) = id := by funext e; rfl
  rw [this, List.map_id]
theorem mk_evs (l : List (Int × List Int)) : evs (l.map mk39) = l := by
  unfold evs
  rw [List.map_map]
  have : (ev_script_Print ∘ mk39) = id := by funext e; rfl
  rw [this, List.map_id]
theorem drop_rd {l : List S39} {i : Nat} (h : i < l.length) : l.drop i = rd_T39 l (i : Int) :: l.drop (i + 1) := by
  rw [List.drop_eq_getElem_cons h]
  congr 1
  unfold rd_T39
  rw [List.getD_eq_getElem?_getD]
  simp [h]
theorem drop_int {l : List Int} {i : Nat} (h : i < l.length) : l.drop i = rd l (i : Int) :: l.drop (i + 1) := by
  rw [List.drop_eq_getElem_cons h]
  congr 1
  unfold rd
  rw [List.getD_eq_getElem?_getD]
  simp [h]
theorem small_l0 (l : List S39) (hl : l.length ≤ 420) : ∀ d i : Nat, l.length - i = d → i ≤ l.length → Ev (fun k => skiarealaw60_small.l0 k l (i : Int)) ((l.drop i).all fun e => decide (e.f1.length ≤ 60))
  | 0, i, hd, hi => Ev.one' fun k => by
    show skiarealaw60_small.l0 (k + 1) l (i : Int) = _
    rw [skiarealaw60_small.l0, if_neg (by omega), List.drop_eq_nil_of_le (by omega)]; rfl
  | d + 1, i, hd, hi => by
    rw [drop_rd (by omega), List.all_cons]
    by_cases h : (rd_T39 l (i : Int)).f1.length ≤ 60
    · rw [decide_eq_true h, Bool.true_and]
      refine (small_l0 l hl d (i + 1) (by omega) (by omega)).step fun k => ?_
      rw [skiarealaw60_small.l0, if_pos (by omega), if_pos (by omega), if_neg (by omega), w64 (by omega) (by omega)]; rfl
    · rw [decide_eq_false h, Bool.false_and]
      refine Ev.one' fun k => ?_
      show skiarealaw60_small.l0 (k + 1) l (i : Int) = _
      rw [skiarealaw60_small.l0, if_pos (by omega), if_pos (by omega), if_pos (by omega)]
theorem small_law (l : List S39) : Ev (fun k => skiarealaw60_small.f k l) (smallS (evs l)) := by
  unfold smallS evs
  by_cases h : l.length ≤ 420
  · obtain ⟨K, hK⟩ := small_l0 l h _ 0 rfl (Nat.zero_le _)
    refine ⟨K, fun k hk => ?_⟩
    show skiarealaw60_small.f k l = _
    unfold skiarealaw60_small.f
    rw [if_neg (by omega), List.length_map, decide_eq_true h, Bool.true_and, List.all_map]
    exact hK k hk
  · refine ⟨0, fun k _ => ?_⟩
    show skiarealaw60_small.f k l = _
    unfold skiarealaw60_small.f
    rw [if_pos (by omega), List.length_map, decide_eq_false h, Bool.false_and]
/-! ### the reference's Print -/
theorem word_law (K : Int) : skiarearef60_Word.f K = some (if K < 1 ∨ 44 < K then ⟨#[]⟩ else ⟨(wordAt K).toArray⟩) := by
  unfold skiarearef60_Word.f
  rw [words_eq, some_bind, wordsE_len]
  by_cases h1 : K < 1
  · rw [if_pos h1, if_pos (.inl h1)]
  · rw [if_neg h1]
    by_cases h2 : 44 < K
    · rw [if_pos (by omega), if_pos (.inr h2)]
    · rw [if_neg (by omega), if_pos (by omega), if_pos (by omega), if_neg (by omega)]
      congr 1
      unfold wordsE wordAt rdOf
      obtain ⟨n, hn⟩ : ∃ n : Nat, K = (n : Int) + 1 := ⟨(K - 1).toNat, by omega⟩
      subst hn
      have hlt : n < formsS.length := by rw [formsS_len]; omega
      rw [show ((n : Int) + 1).toNat = n + 1 by omega, show ((n : Int) + 1 - 1).toNat = n by omega, List.getD_eq_getElem?_getD, List.getElem?_cons_succ, List.getElem?_map, List.getElem?_eq_getElem hlt]
      rfl
theorem Ev.two {α β : Type} {f : Nat → Option α} {g : Nat → Option β} {h : Nat → Option β} {a : α} {b : β} (h1 : Ev f a) (h2 : Ev g b) (e : ∀ k, f k = some a → h (k + 1) = g k) : Ev h b := by
  obtain ⟨K1, h1⟩ := h1
  obtain ⟨K2, h2⟩ := h2
  refine ⟨K1 + K2 + 1, fun k hk => ?_⟩
  obtain ⟨m, rfl⟩ : ∃ m, k = m + 1 := ⟨k - 1, by omega⟩
  rw [e m (h1 m (by omega))]
  exact h2 m (by omega)
def tailG (r : List (Int × List Int)) : Option (List UInt8) → Except Int (List UInt8)
  | some a => printGo r (a ++ [10])
  | none => .error 2
theorem print_cons (e : Int × List Int) (r : List (Int × List Int)) (acc : List UInt8) : printGo (e :: r) acc = if e.1 < 1 ∨ 44 < e.1 then .error 18 else if fitsS e.1 e.2.length = true then tailG r (argsGo e.2 (acc ++ wordAt e.1)) else .error 3 := by
  rw [printGo]
  split
  · rfl
  · split
    · cases argsGo e.2 (acc ++ wordAt e.1) <;> rfl
    · rfl
def tailP (l : List S39) (i : Nat) (o : Option (List UInt8)) : Except Int (List UInt8) := tailG ((l.drop (i + 1)).map ev_script_Print) o
theorem rp_l1 (l : List S39) (hl : l.length ≤ 420) (i : Nat) (hi : i < l.length) (h60 : (rd_T39 l (i : Int)).f1.length ≤ 60)
    (hc : ∀ s : ByteArray, s.size ≤ 1400 * (i + 1) → Ev (fun k => skiarearef60_Print.l0 k l s ((i + 1 : Nat) : Int)) (endP (printGo ((l.drop (i + 1)).map ev_script_Print) s.data.toList))) :
    ∀ (d j : Nat) (s : ByteArray), (rd_T39 l (i : Int)).f1.length - j = d → j ≤ (rd_T39 l (i : Int)).f1.length → s.size ≤ 1400 * i + 7 + 22 * j →
      Ev (fun k => skiarearef60_Print.l1 k l s (i : Int) (j : Int)) (endP (tailP l i (argsGo ((rd_T39 l (i : Int)).f1.drop j) s.data.toList)))
  | 0, j, s, hd, hj, hs => by
    rw [List.drop_eq_nil_of_le (by omega), argsGo]
    have hz : (s ++ (⟨#[10]⟩ : ByteArray)).size = s.size + 1 := by rw [ByteArray.size_append]; rfl
    have h := hc (s ++ (⟨#[10]⟩ : ByteArray)) (by omega)
    rw [app_data] at h
    refine h.step fun k => ?_
    show skiarearef60_Print.l1 (k + 1) l s (i : Int) (j : Int) = _
    rw [skiarearef60_Print.l1, if_pos (by omega), if_pos (by omega), if_neg (by omega), if_pos (by omega), w64 (by omega) (by omega)]
    rfl
  | d + 1, j, s, hd, hj, hs => by
    rw [drop_int (by omega), argsGo]
    obtain ⟨n, hn⟩ : ∃ n, n = rd (rd_T39 l (i : Int)).f1 (j : Int) := ⟨_, rfl⟩
    rw [← hn]
    by_cases h1 : n < -1125899906842624
    · rw [if_neg (by simp [inN]; omega)]
      refine Ev.one' fun k => ?_
      show skiarearef60_Print.l1 (k + 1) l s (i : Int) (j : Int) = _
      rw [skiarearef60_Print.l1, if_pos (by omega), if_pos (by omega), if_pos (by omega), if_pos (by omega), ← hn, if_pos h1]
      rfl
    · by_cases h2 : n > 1125899906842624
      · rw [if_neg (by simp [inN]; omega)]
        refine Ev.one' fun k => ?_
        show skiarearef60_Print.l1 (k + 1) l s (i : Int) (j : Int) = _
        rw [skiarearef60_Print.l1, if_pos (by omega), if_pos (by omega), if_pos (by omega), if_pos (by omega), ← hn, if_neg h1, if_pos h2]
        rfl
      · rw [if_pos (by simp [inN]; omega)]
        obtain ⟨t, ht, hev⟩ := number_law n ⟨by omega, by omega⟩
        have hts : t.size ≤ 21 := by rw [← data_size, ht]; exact Lib.itoa_length_le n (by omega) (by omega)
        have hz : ((s ++ (⟨#[32]⟩ : ByteArray)) ++ t).size = s.size + 1 + t.size := by rw [ByteArray.size_append, ByteArray.size_append]; rfl
        have hdt : ((s ++ (⟨#[32]⟩ : ByteArray)) ++ t).data.toList = s.data.toList ++ 32 :: Lib.itoa n := by rw [app_data, app_data, ht]; simp
        have ih := rp_l1 l hl i hi h60 hc d (j + 1) ((s ++ (⟨#[32]⟩ : ByteArray)) ++ t) (by omega) (by omega) (by omega)
        rw [hdt] at ih
        refine Ev.two hev ih fun k hk => ?_
        rw [skiarearef60_Print.l1, if_pos (by omega), if_pos (by omega), if_pos (by omega), if_pos (by omega), ← hn, if_neg h1, if_neg h2, if_pos (by omega), hk, some_bind, if_pos (by omega), w64 (by omega) (by omega)]
        rfl
theorem rp_l0 (l : List S39) (hl : l.length ≤ 420) (h60 : ∀ i : Nat, (rd_T39 l (i : Int)).f1.length ≤ 60) : ∀ (d i : Nat) (s : ByteArray), l.length - i = d → i ≤ l.length → s.size ≤ 1400 * i →
    Ev (fun k => skiarearef60_Print.l0 k l s (i : Int)) (endP (printGo ((l.drop i).map ev_script_Print) s.data.toList))
  | 0, i, s, hd, hi, hs => by
    rw [List.drop_eq_nil_of_le (by omega)]
    refine Ev.one' fun k => ?_
    show skiarearef60_Print.l0 (k + 1) l s (i : Int) = _
    rw [skiarearef60_Print.l0, if_neg (by omega)]
    rfl
  | d + 1, i, s, hd, hi, hs => by
    have hc := fun s hs => rp_l0 l hl h60 d (i + 1) s (by omega) (by omega) hs
    rw [drop_rd (by omega), List.map_cons, print_cons]
    obtain ⟨K, hK⟩ : ∃ K, K = (rd_T39 l (i : Int)).f0 := ⟨_, rfl⟩
    show Ev _ (endP (if (rd_T39 l (i : Int)).f0 < 1 ∨ 44 < (rd_T39 l (i : Int)).f0 then _ else if fitsS (rd_T39 l (i : Int)).f0 ((rd_T39 l (i : Int)).f1.length : Nat) = true then tailP l i (argsGo (rd_T39 l (i : Int)).f1 (s.data.toList ++ wordAt (rd_T39 l (i : Int)).f0)) else _))
    rw [← hK]
    by_cases h1 : K < 1 ∨ 44 < K
    · rw [if_pos h1]
      refine Ev.one' fun k => ?_
      show skiarearef60_Print.l0 (k + 1) l s (i : Int) = _
      rw [skiarearef60_Print.l0, if_pos (by omega), if_pos (by omega), ← hK, word_law, if_pos h1, some_bind, if_pos (by rw [ByteArray.toList_eq])]
      rfl
    · rw [if_neg h1]
      have hne : ¬ (⟨(wordAt K).toArray⟩ : ByteArray).toList = [] := by
        rw [ByteArray.toList_eq]
        exact (word_fact K (by omega) (by omega)).2.1
      by_cases h2 : fitsS K ((rd_T39 l (i : Int)).f1.length : Nat) = true
      · rw [if_pos h2]
        have hw := word_len K
        have hz : (s ++ (⟨(wordAt K).toArray⟩ : ByteArray)).size = s.size + (wordAt K).length := by rw [ByteArray.size_append]; rfl
        have ih := rp_l1 l hl i (by omega) (h60 i) hc _ 0 (s ++ (⟨(wordAt K).toArray⟩ : ByteArray)) rfl (Nat.zero_le _) (by omega)
        rw [List.drop_zero, app_data] at ih
        refine ih.step fun k => ?_
        show skiarearef60_Print.l0 (k + 1) l s (i : Int) = _
        rw [skiarearef60_Print.l0, if_pos (by omega), if_pos (by omega), ← hK, word_law, if_neg h1, some_bind, if_neg hne, fits_ref K _ (by omega) (by omega), some_bind, if_pos h2, some_bind, if_pos (by show s.size + (wordAt K).length ≤ _; omega)]
        rfl
      · rw [if_neg h2]
        refine Ev.one' fun k => ?_
        show skiarearef60_Print.l0 (k + 1) l s (i : Int) = _
        rw [skiarearef60_Print.l0, if_pos (by omega), if_pos (by omega), ← hK, word_law, if_neg h1, some_bind, if_neg hne, fits_ref K _ (by omega) (by omega), some_bind, if_neg h2]
        rfl
theorem small_parts {l : List S39} (h : smallS (evs l) = true) : l.length ≤ 420 ∧ ∀ i : Nat, (rd_T39 l (i : Int)).f1.length ≤ 60 := by
  unfold smallS evs at h
  rw [Bool.and_eq_true, decide_eq_true_eq, List.length_map, List.all_map, List.all_eq_true] at h
  exact ⟨h.1, rd_bound l 60 fun e he => of_decide_eq_true (h.2 e he)⟩
theorem refPrint_law (l : List S39) (h : smallS (evs l) = true) : Ev (fun k => skiarearef60_Print.f k l) (endP (printGo (evs l) [])) := by
  obtain ⟨h1, h2⟩ := small_parts h
  exact rp_l0 l h1 h2 _ 0 ⟨#[]⟩ rfl (Nat.zero_le _) (Nat.zero_le _)
theorem print_f (l : List S39) (h : smallS (evs l) = true) : script_Print.f l = some (endP (printGo (evs l) [])) := by
  unfold script_Print.f printF
  exact if_pos h
end Go.Proofs.YtjeicglkanfbjaaDoor.Pure
