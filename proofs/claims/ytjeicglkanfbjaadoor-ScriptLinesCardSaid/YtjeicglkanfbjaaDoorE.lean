/- script.event: what it returns, what it panics with. -/
import Derived.Test.YtjeicglkanfbjaaDoorPEx2
import Derived.Test.YtjeicglkanfbjaaDoorN
namespace Go.Proofs.YtjeicglkanfbjaaDoor
open Go.RowKit Go.Proofs.YtjeicglkanfbjaaDoorW.PrintWords PE
theorem w64 {x : Int} (h0 : -9223372036854775808 ≤ x) (h1 : x ≤ 9223372036854775807) : wrap64 x = x := by
  unfold wrap64; omega
theorem rdOf_at {α : Type} (d : α) (pre : List α) (x : α) (r : List α) : rdOf d (pre ++ x :: r) (pre.length : Int) = x := by
  unfold rdOf; simp
theorem some_bind {α β : Type} (a : α) (f : α → Option β) : (some a).bind f = f a := rfl
/-! ### numbers -/
theorem digits_ok {a : ByteArray} (hs : a.size ≤ 30000) (h : okNum a.data.toList = true) : digitsF a = some (⟨(Lib.trimPrefix a.data.toList [45]).toArray⟩, true) := by
  unfold digitsF; rw [if_neg (by unfold maxLen; omega), if_pos h]
theorem digits_bad {a : ByteArray} (hs : a.size ≤ 30000) (h : okNum a.data.toList = false) : digitsF a = some (⟨#[]⟩, false) := by
  unfold digitsF; rw [if_neg (by unfold maxLen; omega), if_neg (by simp [h])]
theorem trim_len (l : List UInt8) : l.length ≤ (Lib.trimPrefix l [45]).length + 1 := by
  cases l with
  | nil => simp
  | cons b t => rw [trim_cons]; split <;> simp
theorem num_law {a : ByteArray} (hs : a.size ≤ 30000) (h : okNum a.data.toList = true) : ∃ n, script_number.f a = some (n, inR a.data.toList) ∧ (inR a.data.toList = true → n = valS a.data.toList) := by
  unfold script_number.f script_digits.f
  rw [digits_ok hs h, some_bind]
  have e : ((⟨(Lib.trimPrefix a.data.toList [45]).toArray⟩ : ByteArray).size : Int) = ((Lib.trimPrefix a.data.toList [45]).length : Int) := by
    show (((Lib.trimPrefix a.data.toList [45]).toArray.size : Nat) : Int) = _
    simp
  show ∃ n, (if ((⟨(Lib.trimPrefix a.data.toList [45]).toArray⟩ : ByteArray).size : Int) > 16 then _ else _) = _ ∧ _
  rw [e]
  by_cases hl : 16 < (Lib.trimPrefix a.data.toList [45]).length
  · rw [if_pos (by omega), inR_long h hl]
    exact ⟨0, rfl, fun hh => absurd hh (by simp)⟩
  · rw [if_neg (by omega)]
    have hsz : a.size ≤ 18 := by
      have := trim_len a.data.toList
      have h2 : a.data.toList.length = a.size := by simp
      omega
    have ha : strconv_Atoi.f a = some (valS a.data.toList, none) := by
      unfold strconv_Atoi.f atoiF
      rw [if_pos hsz, okNum_val h, valS_eq h]; rfl
    rw [ha, some_bind]
    refine ⟨valS a.data.toList, ?_, fun _ => rfl⟩
    show (if (none : Option Int).isNone = true then _ else _) = _
    rw [if_pos (by rfl)]
    show (if valS a.data.toList ≥ -1125899906842624 then some (valS a.data.toList, decide (valS a.data.toList ≤ 1125899906842624)) else some (valS a.data.toList, false)) = _
    unfold inR
    by_cases h1 : -1125899906842624 ≤ valS a.data.toList
    · rw [if_pos (by omega), decide_eq_true h1, Bool.true_and]
    · rw [if_neg (by omega), decide_eq_false h1, Bool.false_and]
/-! ### the loops -/
def good (p : ByteArray) : Prop := p.size ≤ 30000 ∧ okNum p.data.toList = true
theorem l2_ok (kd : Int) : ∀ (rest pre : List ByteArray) (acc : List Int) (k : Nat), (∀ p ∈ rest, good p ∧ inR p.data.toList = true) → pre.length + rest.length ≤ 40000 → acc.length ≤ pre.length →
    script_event.l2 (rest.length + 1 + k) (pre ++ rest) ((pre ++ rest).length : Int) (pre.length : Int) kd acc = some (kd, acc ++ rest.map fun p => valS p.data.toList)
  | [], pre, acc, k, _, _, _ => by
    rw [show ([] : List ByteArray).length + 1 + k = k + 1 by simp; omega]
    rw [script_event.l2, if_neg (by simp)]; simp
  | p :: rest, pre, acc, k, h, hl, ha => by
    obtain ⟨⟨h1, h2⟩, h3⟩ := h p (by simp)
    obtain ⟨n, e1, e2⟩ := num_law h1 h2
    simp only [List.length_cons] at hl
    rw [show (p :: rest).length + 1 + k = (rest.length + 1 + k) + 1 by simp; omega]
    rw [script_event.l2, if_pos (by simp; omega), if_pos (by omega), if_pos (by simp; omega), rdOf_at, e1, some_bind]
    show (if inR p.data.toList = true then _ else _) = _
    rw [if_pos h3, if_pos (by omega)]
    rw [w64 (by omega) (by omega)]
    have := l2_ok kd rest (pre ++ [p]) (acc ++ [n]) k (fun q hq => h q (by simp [hq])) (by simp; omega) (by simp; omega)
    rw [e2 h3] at this ⊢
    simp only [List.append_assoc, List.singleton_append, List.length_append, List.length_cons, List.length_nil, List.map_cons, Int.natCast_add] at this ⊢
    exact this
theorem l2_bad (x1 kd : Int) : ∀ (rest pre : List ByteArray) (acc : List Int) (k : Nat), (∀ p ∈ rest, good p) → (rest.all fun p => inR p.data.toList) = false → pre.length + rest.length ≤ 40000 → acc.length ≤ pre.length →
    script_eventP.l2 (rest.length + 1 + k) x1 (pre ++ rest) ((pre ++ rest).length : Int) (pre.length : Int) kd acc = some (x1, 2)
  | [], pre, acc, k, _, hb, _, _ => absurd hb (by simp)
  | p :: rest, pre, acc, k, h, hb, hl, ha => by
    obtain ⟨h1, h2⟩ := h p (by simp)
    obtain ⟨n, e1, e2⟩ := num_law h1 h2
    simp only [List.length_cons] at hl
    rw [show (p :: rest).length + 1 + k = (rest.length + 1 + k) + 1 by simp; omega]
    rw [script_eventP.l2, if_pos (by simp; omega), if_pos (by omega), if_pos (by simp; omega), rdOf_at, e1, some_bind]
    show (if inR p.data.toList = true then _ else _) = _
    by_cases h3 : inR p.data.toList = true
    · rw [if_pos h3, if_pos (by omega), w64 (by omega) (by omega)]
      have := l2_bad x1 kd rest (pre ++ [p]) (acc ++ [n]) k (fun q hq => h q (by simp [hq])) (by simpa [h3] using hb) (by simp; omega) (by simp; omega)
      simp only [List.append_assoc, List.singleton_append, List.length_append, List.length_cons, List.length_nil, Int.natCast_add] at this ⊢
      exact this
    · rw [if_neg h3]
theorem l1_ok (kd : Int) (x11 : List ByteArray) : ∀ (rest pre : List ByteArray) (k : Nat), (∀ p ∈ rest, good p) → pre.length + rest.length ≤ 40000 →
    script_event.l1 (rest.length + k) kd x11 (pre ++ rest) ((pre ++ rest).length : Int) (pre.length : Int) = script_event.l1 k kd x11 (pre ++ rest) ((pre ++ rest).length : Int) ((pre ++ rest).length : Int)
  | [], pre, k, _, _ => by simp
  | p :: rest, pre, k, h, hl => by
    obtain ⟨h1, h2⟩ := h p (by simp)
    simp only [List.length_cons] at hl
    rw [show (p :: rest).length + k = (rest.length + k) + 1 by simp; omega]
    rw [script_event.l1, if_pos (by simp; omega), if_pos (by omega), if_pos (by simp; omega), rdOf_at]
    unfold script_digits.f
    rw [digits_ok h1 h2, some_bind]
    rw [if_pos rfl, w64 (by omega) (by omega)]
    have := l1_ok kd x11 rest (pre ++ [p]) k (fun q hq => h q (by simp [hq])) (by simp; omega)
    simp only [List.append_assoc, List.singleton_append, List.length_append, List.length_cons, List.length_nil, Int.natCast_add] at this ⊢
    exact this
theorem l1P_ok (x1 kd : Int) (x11 : List ByteArray) : ∀ (rest pre : List ByteArray) (k : Nat), (∀ p ∈ rest, good p) → pre.length + rest.length ≤ 40000 →
    script_eventP.l1 (rest.length + k) x1 kd x11 (pre ++ rest) ((pre ++ rest).length : Int) (pre.length : Int) = script_eventP.l1 k x1 kd x11 (pre ++ rest) ((pre ++ rest).length : Int) ((pre ++ rest).length : Int)
  | [], pre, k, _, _ => by simp
  | p :: rest, pre, k, h, hl => by
    obtain ⟨h1, h2⟩ := h p (by simp)
    simp only [List.length_cons] at hl
    rw [show (p :: rest).length + k = (rest.length + k) + 1 by simp; omega]
    rw [script_eventP.l1, if_pos (by simp; omega), if_pos (by omega), if_pos (by simp; omega), rdOf_at]
    unfold script_digits.f
    rw [digits_ok h1 h2, some_bind]
    rw [if_pos rfl, w64 (by omega) (by omega)]
    have := l1P_ok x1 kd x11 rest (pre ++ [p]) k (fun q hq => h q (by simp [hq])) (by simp; omega)
    simp only [List.append_assoc, List.singleton_append, List.length_append, List.length_cons, List.length_nil, Int.natCast_add] at this ⊢
    exact this
theorem l1P_bad (x1 kd : Int) (x11 : List ByteArray) : ∀ (rest pre : List ByteArray) (k : Nat), (∀ p ∈ rest, p.size ≤ 30000) → (rest.all fun p => okNum p.data.toList) = false → pre.length + rest.length ≤ 40000 →
    script_eventP.l1 (rest.length + k) x1 kd x11 (pre ++ rest) ((pre ++ rest).length : Int) (pre.length : Int) = some (x1, 3)
  | [], pre, k, _, hb, _ => absurd hb (by simp)
  | p :: rest, pre, k, h, hb, hl => by
    have h1 := h p (by simp)
    simp only [List.length_cons] at hl
    rw [show (p :: rest).length + k = (rest.length + k) + 1 by simp; omega]
    rw [script_eventP.l1, if_pos (by simp; omega), if_pos (by omega), if_pos (by simp; omega), rdOf_at]
    unfold script_digits.f
    by_cases h2 : okNum p.data.toList = true
    · rw [digits_ok h1 h2, some_bind]
      rw [if_pos rfl, w64 (by omega) (by omega)]
      have := l1P_bad x1 kd x11 rest (pre ++ [p]) k (fun q hq => h q (by simp [hq])) (by simpa [h2] using hb) (by simp; omega)
      simp only [List.append_assoc, List.singleton_append, List.length_append, List.length_cons, List.length_nil, Int.natCast_add] at this ⊢
      exact this
    · rw [digits_bad h1 (by simpa using h2), some_bind, if_neg (by simp)]
/-! ### the kinds -/
def formsE : List S56 := formsS.map fun f => ⟨⟨f.1.toArray⟩, f.2.1, f.2.2⟩
theorem forms_eq : script_forms.f = some formsE := by rfl
theorem forms_len : formsE.length = 44 := by rfl
theorem formsS_len : formsS.length = 44 := by rfl
def lastK (w : List UInt8) : List (List UInt8 × Int × Bool) → Int → Int → Int
  | [], _, acc => acc
  | f :: r, i, acc => lastK w r (i + 1) (if f.1 = w then i + 1 else acc)
theorem lastK_eq (w : List UInt8) : ∀ (l : List (List UInt8 × Int × Bool)) (i acc : Int), (l.map (·.1)).Nodup → lastK w l i acc = if w ∈ l.map (·.1) then kindFrom w l i else acc
  | [], i, acc, _ => by simp [lastK]
  | f :: r, i, acc, h => by
    simp only [List.map_cons, List.nodup_cons] at h
    rw [lastK, lastK_eq w r _ _ h.2]
    by_cases hf : f.1 = w
    · have hn : ¬ w ∈ r.map (·.1) := by rw [← hf]; exact h.1
      rw [if_neg hn, if_pos hf, if_pos (by simp [hf]), kindFrom, if_pos hf]
    · rw [if_neg hf]
      by_cases hm : w ∈ r.map (·.1)
      · rw [if_pos hm, if_pos (by rw [List.map_cons]; exact List.mem_cons_of_mem _ hm), kindFrom, if_neg hf]
      · rw [if_neg hm, if_neg (by simp only [List.map_cons, List.mem_cons, not_or]; exact ⟨fun e => hf e.symm, hm⟩)]
theorem kindFrom_none (w : List UInt8) : ∀ (l : List (List UInt8 × Int × Bool)) (i : Int), w ∉ l.map (·.1) → kindFrom w l i = 0
  | [], _, _ => rfl
  | f :: r, i, h => by
    simp only [List.map_cons, List.mem_cons, not_or] at h
    rw [kindFrom, if_neg (fun e => h.1 e.symm), kindFrom_none w r _ h.2]
theorem words_nodup : (formsS.map (·.1)).Nodup := by decide +kernel
theorem lastK_kind (w : List UInt8) : lastK w formsS 0 0 = kindS w := by
  rw [lastK_eq w formsS 0 0 words_nodup]
  unfold kindS
  by_cases h : w ∈ formsS.map (·.1)
  · rw [if_pos h]
  · rw [if_neg h, kindFrom_none w _ _ h]
theorem kindFrom_range (w : List UInt8) : ∀ (l : List (List UInt8 × Int × Bool)) (i : Int), 0 ≤ i → kindFrom w l i = 0 ∨ (i + 1 ≤ kindFrom w l i ∧ kindFrom w l i ≤ i + l.length)
  | [], _, _ => .inl rfl
  | f :: r, i, h => by
    rw [kindFrom]
    split
    · right; simp; omega
    · rcases kindFrom_range w r (i + 1) (by omega) with h1 | ⟨h1, h2⟩
      · exact .inl h1
      · right; simp; omega
theorem kindS_range (w : List UInt8) : kindS w = 0 ∨ (1 ≤ kindS w ∧ kindS w ≤ 44) := by
  rcases kindFrom_range w formsS 0 (by omega) with h | ⟨h1, h2⟩
  · exact .inl h
  · rw [formsS_len] at h2; exact .inr ⟨by unfold kindS; omega, by unfold kindS; omega⟩
theorem l0_ok (x5 x6 : ByteArray) (x7 : Bool) : ∀ (rest pre : List (List UInt8 × Int × Bool)) (acc : Int) (k : Nat), formsS = pre ++ rest →
    script_event.l0 (rest.length + k) x5 x6 x7 acc formsE (formsE.length : Int) (pre.length : Int) = script_event.l0 k x5 x6 x7 (lastK x5.data.toList rest (pre.length : Int) acc) formsE (formsE.length : Int) (formsE.length : Int)
  | [], pre, acc, k, h => by
    have : (pre.length : Int) = (formsE.length : Int) := by rw [forms_len]; have := congrArg List.length h; rw [formsS_len] at this; simp at this; omega
    simp only [List.length_nil, Nat.zero_add, lastK]; rw [this]
  | f :: rest, pre, acc, k, h => by
    have hlen := congrArg List.length h
    rw [formsS_len] at hlen
    simp only [List.length_append, List.length_cons] at hlen
    have hF : formsE = (pre.map fun f => (⟨⟨f.1.toArray⟩, f.2.1, f.2.2⟩ : S56)) ++ (⟨⟨f.1.toArray⟩, f.2.1, f.2.2⟩ : S56) :: (rest.map fun f => (⟨⟨f.1.toArray⟩, f.2.1, f.2.2⟩ : S56)) := by
      unfold formsE; rw [h]; simp
    have hr : rd_T56 formsE (pre.length : Int) = (⟨⟨f.1.toArray⟩, f.2.1, f.2.2⟩ : S56) := by
      rw [hF]; unfold rd_T56; simp
    have ht : ((⟨f.1.toArray⟩ : ByteArray)).toList = f.1 := by rw [ByteArray.toList_eq]
    rw [show (f :: rest).length + k = (rest.length + k) + 1 by simp; omega]
    rw [script_event.l0, if_pos (by rw [forms_len]; omega), if_pos (by omega), if_pos (by rw [forms_len]; omega), hr]
    have ih := fun a => l0_ok x5 x6 x7 rest (pre ++ [f]) a k (by rw [h]; simp)
    simp only [List.length_append, List.length_cons, List.length_nil, Int.natCast_add] at ih
    have e1 : ((pre.length : Int) + ((0 + 1 : Nat) : Int)) = (pre.length : Int) + 1 := by omega
    rw [w64 (by omega) (by omega), lastK]
    by_cases hf : f.1 = x5.data.toList
    · rw [if_pos (by rw [ht, ByteArray.toList_eq]; exact hf), if_pos hf]
      exact ih _
    · rw [if_neg (by rw [ht, ByteArray.toList_eq]; exact hf), if_neg hf]
      exact ih _
theorem l0P_ok (x1 : Int) (x5 x6 : ByteArray) (x7 : Bool) : ∀ (rest pre : List (List UInt8 × Int × Bool)) (acc : Int) (k : Nat), formsS = pre ++ rest →
    script_eventP.l0 (rest.length + k) x1 x5 x6 x7 acc formsE (formsE.length : Int) (pre.length : Int) = script_eventP.l0 k x1 x5 x6 x7 (lastK x5.data.toList rest (pre.length : Int) acc) formsE (formsE.length : Int) (formsE.length : Int)
  | [], pre, acc, k, h => by
    have : (pre.length : Int) = (formsE.length : Int) := by rw [forms_len]; have := congrArg List.length h; rw [formsS_len] at this; simp at this; omega
    simp only [List.length_nil, Nat.zero_add, lastK]; rw [this]
  | f :: rest, pre, acc, k, h => by
    have hlen := congrArg List.length h
    rw [formsS_len] at hlen
    simp only [List.length_append, List.length_cons] at hlen
    have hF : formsE = (pre.map fun f => (⟨⟨f.1.toArray⟩, f.2.1, f.2.2⟩ : S56)) ++ (⟨⟨f.1.toArray⟩, f.2.1, f.2.2⟩ : S56) :: (rest.map fun f => (⟨⟨f.1.toArray⟩, f.2.1, f.2.2⟩ : S56)) := by
      unfold formsE; rw [h]; simp
    have hr : rd_T56 formsE (pre.length : Int) = (⟨⟨f.1.toArray⟩, f.2.1, f.2.2⟩ : S56) := by
      rw [hF]; unfold rd_T56; simp
    have ht : ((⟨f.1.toArray⟩ : ByteArray)).toList = f.1 := by rw [ByteArray.toList_eq]
    rw [show (f :: rest).length + k = (rest.length + k) + 1 by simp; omega]
    rw [script_eventP.l0, if_pos (by rw [forms_len]; omega), if_pos (by omega), if_pos (by rw [forms_len]; omega), hr]
    have ih := fun a => l0P_ok x1 x5 x6 x7 rest (pre ++ [f]) a k (by rw [h]; simp)
    simp only [List.length_append, List.length_cons, List.length_nil, Int.natCast_add] at ih
    have e1 : ((pre.length : Int) + ((0 + 1 : Nat) : Int)) = (pre.length : Int) + 1 := by omega
    rw [w64 (by omega) (by omega), lastK]
    by_cases hf : f.1 = x5.data.toList
    · rw [if_pos (by rw [ht, ByteArray.toList_eq]; exact hf), if_pos hf]
      exact ih _
    · rw [if_neg (by rw [ht, ByteArray.toList_eq]; exact hf), if_neg hf]
      exact ih _
theorem fits_law (kd n : Int) (h1 : 1 ≤ kd) (h2 : kd ≤ 44) : script_form_fits.f (rd_T56 formsE (wrap64 (kd - 1))).f0 (rd_T56 formsE (wrap64 (kd - 1))).f1 (rd_T56 formsE (wrap64 (kd - 1))).f2 n = some (fitsS kd n) := by
  rw [w64 (by omega) (by omega)]
  have hi : (kd - 1).toNat < formsS.length := by rw [formsS_len]; omega
  have hr : rd_T56 formsE (kd - 1) = (⟨⟨(formsS[(kd - 1).toNat]).1.toArray⟩, (formsS[(kd - 1).toNat]).2.1, (formsS[(kd - 1).toNat]).2.2⟩ : S56) := by
    unfold rd_T56 formsE
    rw [List.getD_eq_getElem?_getD, List.getElem?_map, List.getElem?_eq_getElem hi]; rfl
  have hb : ∀ f ∈ formsS, (0 : Int) ≤ f.2.1 ∧ f.2.1 ≤ 6 := by decide +kernel
  have hb := hb _ (List.getElem_mem hi)
  unfold fitsS
  rw [hr, List.getElem?_eq_getElem hi]
  generalize formsS[(kd - 1).toNat] = f at hb ⊢
  obtain ⟨a, b, c⟩ := f
  unfold script_form_fits.f
  dsimp only at hb ⊢
  rw [w64 (by omega) (by omega)]
  by_cases hn : n = b
  · rw [if_pos hn, decide_eq_true hn]; rfl
  · rw [if_neg hn, decide_eq_false hn]
    cases c with
    | false => simp
    | true =>
      rw [if_pos rfl]
      by_cases h3 : n > b
      · rw [if_pos h3, decide_eq_true (by omega : b < n)]; simp
      · rw [if_neg h3, decide_eq_false (by omega : ¬ b < n)]; simp
/-! ### the whole -/
theorem splitOn_len (c : UInt8) : ∀ l, (splitOn c l).length ≤ l.length + 1 ∧ ∀ p ∈ splitOn c l, p.length ≤ l.length
  | [] => by simp [splitOn]
  | x :: r => by
    obtain ⟨h1, h2⟩ := splitOn_len c r
    by_cases h : x = c
    · rw [splitOn, if_pos h]
      refine ⟨by simp; omega, ?_⟩
      intro p hp
      rcases List.mem_cons.1 hp with rfl | hp
      · simp
      · have := h2 p hp; simp; omega
    · obtain ⟨hd, tl, e1, e2⟩ := splitOn_cons_ne c x r h
      rw [e2]
      rw [e1] at h1 h2
      refine ⟨by simpa using Nat.le_succ_of_le h1, ?_⟩
      intro p hp
      rcases List.mem_cons.1 hp with rfl | hp
      · have := h2 hd (by simp); simp; omega
      · have := h2 p (by simp [hp]); simp; omega
theorem all_map {α β : Type} (f : α → β) (p : β → Bool) (l : List α) : (l.map f).all p = l.all fun x => p (f x) := by simp [List.all_map, Function.comp_def]
theorem tail_ok (kd : Int) (ps : List ByteArray) (h1 : 1 ≤ kd) (h2 : kd ≤ 44) (hn : ps.length ≤ 30001) (hg : ∀ p ∈ ps, p.size ≤ 30000) (ho : (ps.all fun p => okNum p.data.toList) = true) (hf : fitsS kd ps.length = true) (hr : (ps.all fun p => inR p.data.toList) = true) :
    script_event.j1 (ps.length + (ps.length + 1 + 0 + 1) + 1) kd ps = some (kd, ps.map fun p => valS p.data.toList) := by
  have g : ∀ p ∈ ps, good p := fun p hp => ⟨hg p hp, List.all_eq_true.1 ho p hp⟩
  rw [script_event.j1]
  have h := l1_ok kd ps ps [] (ps.length + 1 + 0 + 1) g (by simp; omega)
  simp only [List.nil_append, List.length_nil, Int.natCast_zero] at h
  rw [h, script_event.l1, if_neg (by omega), forms_eq, some_bind, if_pos (by rw [w64 (by omega) (by omega)]; omega), if_pos (by rw [w64 (by omega) (by omega), forms_len]; omega), fits_law kd _ h1 h2, some_bind, hf, if_pos rfl]
  have h3 := l2_ok kd ps [] [] 0 (fun p hp => ⟨g p hp, List.all_eq_true.1 hr p hp⟩) (by simp; omega) (by simp)
  simpa using h3
theorem tailP_bad (kd i : Int) (ps : List ByteArray) (h1 : 1 ≤ kd) (h2 : kd ≤ 44) (hn : ps.length ≤ 30001) (hg : ∀ p ∈ ps, p.size ≤ 30000) (hb : ((ps.all fun p => okNum p.data.toList) && fitsS kd ps.length) = false) :
    script_eventP.j1 (ps.length + (ps.length + 1 + 0 + 1) + 1) i kd ps = some (i, 3) := by
  rw [script_eventP.j1]
  by_cases ho : (ps.all fun p => okNum p.data.toList) = true
  · have g : ∀ p ∈ ps, good p := fun p hp => ⟨hg p hp, List.all_eq_true.1 ho p hp⟩
    have hf : fitsS kd ps.length = false := by rw [ho] at hb; simpa using hb
    have h := l1P_ok i kd ps ps [] (ps.length + 1 + 0 + 1) g (by simp; omega)
    simp only [List.nil_append, List.length_nil, Int.natCast_zero] at h
    rw [h, script_eventP.l1, if_neg (by omega), forms_eq, some_bind, if_pos (by rw [w64 (by omega) (by omega)]; omega), if_pos (by rw [w64 (by omega) (by omega), forms_len]; omega), fits_law kd _ h1 h2, some_bind, hf, if_neg (by simp)]
  · have h := l1P_bad i kd ps ps [] (ps.length + 1 + 0 + 1) hg (by simpa using ho) (by simp; omega)
    simp only [List.nil_append, List.length_nil, Int.natCast_zero] at h
    exact h
theorem tailP_range (kd i : Int) (ps : List ByteArray) (h1 : 1 ≤ kd) (h2 : kd ≤ 44) (hn : ps.length ≤ 30001) (hg : ∀ p ∈ ps, p.size ≤ 30000) (ho : (ps.all fun p => okNum p.data.toList) = true) (hf : fitsS kd ps.length = true) (hr : (ps.all fun p => inR p.data.toList) = false) :
    script_eventP.j1 (ps.length + (ps.length + 1 + 0 + 1) + 1) i kd ps = some (i, 2) := by
  have g : ∀ p ∈ ps, good p := fun p hp => ⟨hg p hp, List.all_eq_true.1 ho p hp⟩
  rw [script_eventP.j1]
  have h := l1P_ok i kd ps ps [] (ps.length + 1 + 0 + 1) g (by simp; omega)
  simp only [List.nil_append, List.length_nil, Int.natCast_zero] at h
  rw [h, script_eventP.l1, if_neg (by omega), forms_eq, some_bind, if_pos (by rw [w64 (by omega) (by omega)]; omega), if_pos (by rw [w64 (by omega) (by omega), forms_len]; omega), fits_law kd _ h1 h2, some_bind, hf, if_pos rfl]
  have h3 := l2_bad i kd ps [] [] 0 g hr (by simp; omega) (by simp)
  simpa using h3
theorem data_size (a : ByteArray) : a.data.toList.length = a.size := by simp
/-- Cut and Split of a line: its parts. -/
theorem line_parts (a : ByteArray) (hs : a.size ≤ 30000) : ∃ (hd : List UInt8) (tl : List (List UInt8)) (rest : ByteArray) (more : Bool), splitOn 32 a.data.toList = hd :: tl ∧ cutF a ⟨#[32]⟩ = some (⟨hd.toArray⟩, rest, more) ∧ tl.length ≤ 30001 ∧
    ((more = false ∧ tl = []) ∨ (more = true ∧ ∃ ps : List ByteArray, splitF rest ⟨#[32]⟩ = some ps ∧ ps.map (·.data.toList) = tl)) ∧ ∀ p ∈ tl, p.length ≤ 30000 := by
  obtain ⟨hd, tl, e1, e2, e3⟩ := cut_eq 32 a.data.toList
  have hl := splitOn_len 32 a.data.toList
  rw [e1, data_size] at hl
  have hp : ∀ p ∈ tl, p.length ≤ 30000 := fun p hp => Nat.le_trans (hl.2 p (by simp [hp])) hs
  have hlen : tl.length ≤ 30001 := by have := hl.1; simp at this; omega
  refine ⟨hd, tl, ⟨(Lib.cut a.data.toList [32]).2.1.toArray⟩, (Lib.cut a.data.toList [32]).2.2, e1, ?_, hlen, ?_, hp⟩
  · unfold cutF
    rw [if_pos (by omega), ← e2]
  · rcases e3 with ⟨h1, h2⟩ | ⟨h1, h2, h3⟩
    · exact .inl ⟨h2, h1⟩
    · refine .inr ⟨h2, _, ?_, (split_words 32 ⟨(Lib.cut a.data.toList [32]).2.1.toArray⟩).trans h3⟩
      unfold splitF
      rw [if_pos]
      refine ⟨?_, by decide⟩
      show (Lib.cut a.data.toList [32]).2.1.toArray.size < 4294967281
      have : (Lib.cut a.data.toList [32]).2.1.length ≤ a.data.toList.length := by
        unfold Lib.cut; split <;> simp
      rw [data_size] at this
      simp only [List.size_toArray]
      omega
theorem event_law (a : ByteArray) (i : Int) (hs : a.size ≤ 30000) :
    (∀ r, evS a.data.toList = .ok r → ∃ K, script_event.f K a i = some r) ∧ (∀ e, evS a.data.toList = .error e → ∃ K, script_eventP.f K a i = some (i, e)) := by
  obtain ⟨hd, tl, rest, more, e1, e2, e3, e4, e5⟩ := line_parts a hs
  have hps : ∃ ps : List ByteArray, ps.map (·.data.toList) = tl ∧ ((more = false ∧ ps = []) ∨ (more = true ∧ splitF rest ⟨#[32]⟩ = some ps)) := by
    rcases e4 with ⟨h1, h2⟩ | ⟨h1, ps, h2, h3⟩
    · exact ⟨[], by rw [h2]; rfl, .inl ⟨h1, rfl⟩⟩
    · exact ⟨ps, h3, .inr ⟨h1, h2⟩⟩
  obtain ⟨ps, rfl, hm⟩ := hps
  have hn : ps.length ≤ 30001 := by simpa using e3
  have hg : ∀ p ∈ ps, p.size ≤ 30000 := fun p hp => by rw [← data_size]; exact e5 _ (List.mem_map_of_mem hp)
  have step : ∀ k, script_event.f (44 + (k + 1)) a i = if kindS hd = 0 then none else script_event.j1 k (kindS hd) ps := by
    intro k
    unfold script_event.f strings_Cut.f
    rw [e2, some_bind, forms_eq, some_bind]
    have h := l0_ok ⟨hd.toArray⟩ rest more formsS [] 0 (k + 1) rfl
    rw [formsS_len] at h
    simp only [List.length_nil, Int.natCast_zero] at h
    show script_event.l0 (44 + (k + 1)) ⟨hd.toArray⟩ rest more 0 formsE (formsE.length : Int) 0 = _
    rw [h, lastK_kind, script_event.l0, if_neg (by omega)]
    by_cases hk : kindS hd = 0
    · rw [if_pos hk, if_pos hk]
    · rw [if_neg hk, if_neg hk]
      rcases hm with ⟨h1, h2⟩ | ⟨h1, h2⟩
      · subst h2; rw [h1, if_neg (by simp)]
      · rw [h1, if_pos rfl]; unfold strings_Split.f; rw [h2, some_bind]
  have stepP : ∀ k, script_eventP.f (44 + (k + 1)) a i = if kindS hd = 0 then some (i, 18) else script_eventP.j1 k i (kindS hd) ps := by
    intro k
    unfold script_eventP.f strings_Cut.f
    rw [e2, some_bind, forms_eq, some_bind]
    have h := l0P_ok i ⟨hd.toArray⟩ rest more formsS [] 0 (k + 1) rfl
    rw [formsS_len] at h
    simp only [List.length_nil, Int.natCast_zero] at h
    show script_eventP.l0 (44 + (k + 1)) i ⟨hd.toArray⟩ rest more 0 formsE (formsE.length : Int) 0 = _
    rw [h, lastK_kind, script_eventP.l0, if_neg (by omega)]
    by_cases hk : kindS hd = 0
    · rw [if_pos hk, if_pos hk]
    · rw [if_neg hk, if_neg hk]
      rcases hm with ⟨h1, h2⟩ | ⟨h1, h2⟩
      · subst h2; rw [h1, if_neg (by simp)]
      · rw [h1, if_pos rfl]; unfold strings_Split.f; rw [h2, some_bind]
  have hE : evS a.data.toList = if kindS hd = 0 then .error 18 else if ((ps.all fun p => okNum p.data.toList) && fitsS (kindS hd) ps.length) = true then (if (ps.all fun p => inR p.data.toList) = true then .ok (kindS hd, ps.map fun p => valS p.data.toList) else .error 2) else .error 3 := by
    unfold evS
    rw [e1]
    simp only [all_map, List.length_map, List.map_map]
    rfl
  rw [hE]
  rcases kindS_range hd with hk | ⟨hk1, hk2⟩
  · rw [if_pos hk]
    refine ⟨fun r h => by simp at h, fun e h => ⟨44 + (0 + 1), ?_⟩⟩
    rw [stepP, if_pos hk]
    injection h with h; rw [h]
  · have hk : ¬ kindS hd = 0 := by omega
    rw [if_neg hk]
    by_cases hb : ((ps.all fun p => okNum p.data.toList) && fitsS (kindS hd) ps.length) = true
    · rw [if_pos hb]
      simp only [Bool.and_eq_true] at hb
      by_cases hr : (ps.all fun p => inR p.data.toList) = true
      · rw [if_pos hr]
        refine ⟨fun r h => ⟨44 + ((ps.length + (ps.length + 1 + 0 + 1) + 1) + 1), ?_⟩, fun e h => by simp at h⟩
        rw [step, if_neg hk, tail_ok _ ps hk1 hk2 hn hg hb.1 hb.2 hr]
        injection h with h; rw [h]
      · rw [if_neg hr]
        refine ⟨fun r h => by simp at h, fun e h => ⟨44 + ((ps.length + (ps.length + 1 + 0 + 1) + 1) + 1), ?_⟩⟩
        rw [stepP, if_neg hk, tailP_range _ i ps hk1 hk2 hn hg hb.1 hb.2 (by simpa using hr)]
        injection h with h; rw [h]
    · rw [if_neg hb]
      refine ⟨fun r h => by simp at h, fun e h => ⟨44 + ((ps.length + (ps.length + 1 + 0 + 1) + 1) + 1), ?_⟩⟩
      rw [stepP, if_neg hk, tailP_bad _ i ps hk1 hk2 hn hg (by simpa using hb)]
      injection h with h; rw [h]
theorem event_calls (a0 : ByteArray) (a1 : Int) (r0 : Int) (r1 : List Int) (w : World) (hG : GW w) (h : evA a0 = some (r0, r1)) :
    Calls Tryd.prog 20 #[.string a0, .int .i64 a1] w fun e w' => ∃ v1_ : Value, e = .returned (.agg #[.int .i64 r0, v1_]) ∧ Kd.R (Kd.int .i64) 3 w' w.heap.size (fun _ => True) v1_ r1 ∧ Below w.heap.size w w' := by
  obtain ⟨hs, he⟩ := evA_ok h
  obtain ⟨K, hK⟩ := (event_law a0 a1 hs).1 _ he
  exact script_event.calls K a0 a1 r0 r1 w hG hK
theorem event_panics (a0 : ByteArray) (a1 : Int) (w : World) (hG : GW w) (h : evBad a0 = true) :
    Calls Tryd.prog 20 #[.string a0, .int .i64 a1] w fun e w' => e = .panicked [{ v := .iface 41 (.agg #[.int .i64 a1, .int .i64 (evErr a0)]), recovered := false }] ∧ Below w.heap.size w w' := by
  obtain ⟨hs, he⟩ := evBad_err h
  obtain ⟨K, hK⟩ := (event_law a0 a1 hs).2 _ he
  exact script_eventP.calls K a0 a1 a1 (evErr a0) w hG hK
end Go.Proofs.YtjeicglkanfbjaaDoor
