/- The reference's form and value of a number. -/
import Derived.Test.YtjeicglkanfbjaaDoorPTx6
import Derived.Test.YtjeicglkanfbjaaDoorQ2
namespace Go.Proofs.YtjeicglkanfbjaaDoor.Pure
open Go.RowKit Go.Proofs.YtjeicglkanfbjaaDoorW.PrintWords Go.Proofs.YtjeicglkanfbjaaDoorW.PrintMore Go.Proofs.YtjeicglkanfbjaaDoor.PT
theorem bt_at (a : ByteArray) (i : Nat) (h : i < a.size) : ∃ c, a.data.toList[i]? = some c ∧ bt a (i : Int) = (c.toNat : Int) := by
  refine ⟨a[i], ?_, ?_⟩
  · have : a.data.toList[i]? = a.data[i]? := by simp
    rw [this, Array.getElem?_eq_getElem (by simpa using h)]; rfl
  · unfold bt
    rw [dif_pos (by simpa using h)]
    simp
theorem drop_at {l : List UInt8} {i : Nat} {c : UInt8} (h : l[i]? = some c) : l.drop i = c :: l.drop (i + 1) := by
  obtain ⟨hi, rfl⟩ := List.getElem?_eq_some_iff.1 h
  exact List.drop_eq_getElem_cons hi
theorem form_l0 (a : ByteArray) (hs : a.size ≤ 30000) : ∀ (d i : Nat), a.size - i = d → i ≤ a.size → Ev (fun k => skiarearef60_form.l0 k a (i : Int)) ((a.data.toList.drop i).all dig)
  | 0, i, hd, hi => by
    refine ⟨1, fun k hk => ?_⟩
    obtain ⟨m, rfl⟩ : ∃ m, k = m + 1 := ⟨k - 1, by omega⟩
    show skiarearef60_form.l0 (m + 1) a (i : Int) = _
    rw [skiarearef60_form.l0, if_neg (by omega), List.drop_eq_nil_of_le (by rw [data_size]; omega)]
    rfl
  | d + 1, i, hd, hi => by
    obtain ⟨c, h1, h2⟩ := bt_at a i (by omega)
    rw [drop_at h1, List.all_cons]
    have ih := form_l0 a hs d (i + 1) (by omega) (by omega)
    by_cases hc : dig c = true
    · rw [hc, Bool.true_and]
      have hc' := (dig_iff c).1 hc
      refine ih.step fun k => ?_
      rw [skiarearef60_form.l0, if_pos (by omega), if_pos (by omega), h2, if_neg (by omega), if_neg (by omega), w64 (by omega) (by omega)]
      rfl
    · have hf : dig c = false := by simpa using hc
      rw [hf, Bool.false_and]
      have hc' : ¬ (48 ≤ c.toNat ∧ c.toNat ≤ 57) := fun h => hc ((dig_iff c).2 h)
      refine ⟨1, fun k hk => ?_⟩
      obtain ⟨m, rfl⟩ : ∃ m, k = m + 1 := ⟨k - 1, by omega⟩
      show skiarearef60_form.l0 (m + 1) a (i : Int) = _
      rw [skiarearef60_form.l0, if_pos (by omega), if_pos (by omega), h2]
      by_cases h48 : (c.toNat : Int) < 48
      · rw [if_pos h48]
      · rw [if_neg h48, if_pos (by omega)]
/-- What the text behind the sign must be. -/
def okD (d : List UInt8) : Bool := !d.isEmpty && !(d.head? == some 48 && decide (1 < d.length)) && d.all dig
theorem form_j1 (a : ByteArray) (hs : a.size ≤ 30000) : Ev (fun k => skiarearef60_form.j1 k a) (okD a.data.toList) := by
  have hl := form_l0 a hs _ 0 rfl (Nat.zero_le _)
  rw [List.drop_zero] at hl
  have hf : Ev (fun k => skiarearef60_form.j2 k a false) (a.data.toList.all dig) := hl.step fun k => by
    rw [skiarearef60_form.j2, if_neg (by simp)]; rfl
  have ht : Ev (fun k => skiarearef60_form.j2 k a true) false := ⟨1, fun k hk => by
    obtain ⟨m, rfl⟩ : ∃ m, k = m + 1 := ⟨k - 1, by omega⟩
    show skiarearef60_form.j2 (m + 1) a true = _
    rw [skiarearef60_form.j2, if_pos rfl]⟩
  cases hd : a.data.toList with
  | nil =>
    refine ht.step fun k => ?_
    rw [skiarearef60_form.j1, if_pos (by rw [ByteArray.toList_eq]; exact hd)]
  | cons x r =>
    obtain ⟨h1, h2⟩ := bt_zero a x r hd
    rw [hd] at hf
    have hlen : (a.size : Int) = r.length + 1 := by rw [← data_size, hd]; simp
    have e : ∀ k, skiarearef60_form.j1 (k + 1) a = if (x.toNat : Int) = 48 then skiarearef60_form.j2 k a (decide ((a.size : Int) > 1)) else skiarearef60_form.j2 k a false := fun k => by
      rw [skiarearef60_form.j1, if_neg (by rw [ByteArray.toList_eq, hd]; simp), if_pos (by omega), h2]
    by_cases hx : x = 48
    · have hx' : (x.toNat : Int) = 48 := by rw [hx]; rfl
      by_cases hr : (a.size : Int) > 1
      · have : okD (x :: r) = false := by
          unfold okD
          have h9 : 1 < (x :: r).length := by simp; omega
          rw [List.head?_cons, decide_eq_true h9, hx]
          simp
        rw [this]
        refine ht.step fun k => ?_
        rw [e, if_pos hx', decide_eq_true hr]
      · have hr0 : r = [] := List.length_eq_zero_iff.1 (by omega)
        have : okD (x :: r) = (x :: r).all dig := by
          unfold okD; rw [hr0]; simp
        rw [this]
        refine hf.step fun k => ?_
        rw [e, if_pos hx', decide_eq_false hr]
    · have hx' : ¬ (x.toNat : Int) = 48 := fun h => hx (UInt8.toNat_inj.1 (by simpa using (by omega : x.toNat = 48)))
      have : okD (x :: r) = (x :: r).all dig := by
        unfold okD
        have : (some x == some (48 : UInt8)) = false := by simpa using hx
        rw [List.head?_cons, this]; simp
      rw [this]
      refine hf.step fun k => ?_
      rw [e, if_neg hx']
theorem Ev.one {α : Type} {f : Nat → Option α} {r : α} (e : ∀ k, f (k + 1) = some r) : Ev f r := ⟨1, fun k hk => by
  obtain ⟨m, rfl⟩ : ∃ m, k = m + 1 := ⟨k - 1, by omega⟩
  exact e m⟩
theorem tail_data (a : ByteArray) (x : UInt8) (r : List UInt8) (h : a.data.toList = x :: r) : (a.extract 1 a.size).data.toList = r := by
  rw [Lib.extract_to_end, h]; rfl
theorem okNum_sign (r : List UInt8) : okNum (45 :: r) = (!(decide (r = [48])) && okD r) := by
  unfold okNum okD
  rw [trim_cons, if_pos rfl]
  cases r with
  | nil => simp
  | cons b t =>
    by_cases hb : b = 48
    · subst hb
      cases t with
      | nil => simp
      | cons c u => simp
    · have : (some b == some (48 : UInt8)) = false := by simpa using hb
      simp [this, hb]
theorem okNum_plain (x : UInt8) (r : List UInt8) (h : x ≠ 45) : okNum (x :: r) = okD (x :: r) := by
  unfold okNum okD
  rw [trim_cons, if_neg h]
  simp
theorem form_law (a : ByteArray) (hs : a.size ≤ 30000) : Ev (fun k => skiarearef60_form.f k a) (okNum a.data.toList) := by
  cases hd : a.data.toList with
  | nil =>
    have h0 : a.size = 0 := by rw [← data_size, hd]; rfl
    have h := form_j1 a hs
    rw [hd] at h
    have h2 : Ev (fun k => skiarearef60_form.j0 k a false) (okD []) := h.step fun k => by
      rw [skiarearef60_form.j0, if_neg (by simp)]
    obtain ⟨K, h2⟩ := h2
    refine ⟨K, fun k hk => ?_⟩
    show skiarearef60_form.f k a = some (okNum [])
    unfold skiarearef60_form.f
    rw [if_neg (by omega)]
    exact h2 k hk
  | cons x r =>
    obtain ⟨h1, h2⟩ := bt_zero a x r hd
    have hu : ∀ k, skiarearef60_form.f k a = skiarearef60_form.j0 k a (x == 45) := fun k => by
      unfold skiarearef60_form.f
      rw [if_pos (by omega), if_pos (by omega), h2]
      exact congrArg _ (u8_eq x 45 (by decide))
    suffices h : Ev (fun k => skiarearef60_form.j0 k a (x == 45)) (okNum (x :: r)) by
      obtain ⟨K, h⟩ := h
      exact ⟨K, fun k hk => (hu k).trans (h k hk)⟩
    by_cases hx : x = 45
    · subst hx
      rw [okNum_sign]
      have ht := tail_data a 45 r hd
      have hsz : (a.extract 1 a.size).size ≤ 30000 := by rw [← data_size, ht]; have := data_size a; rw [hd] at this; simp at this; omega
      by_cases h48 : r = [48]
      · rw [decide_eq_true h48]
        refine Ev.one fun k => ?_
        show skiarearef60_form.j0 (k + 1) a true = _
        rw [skiarearef60_form.j0, if_pos rfl, if_pos (by omega), if_pos (by rw [ByteArray.toList_eq, ht, h48])]
        rfl
      · rw [decide_eq_false h48, Bool.not_false, Bool.true_and]
        have h := form_j1 _ hsz
        rw [ht] at h
        refine h.step fun k => ?_
        show skiarearef60_form.j0 (k + 1) a true = _
        rw [skiarearef60_form.j0, if_pos rfl, if_pos (by omega), if_neg (by rw [ByteArray.toList_eq, ht]; exact h48)]
    · rw [okNum_plain x r hx]
      have h := form_j1 a hs
      rw [hd] at h
      refine h.step fun k => ?_
      have : (x == 45) = false := by simpa using hx
      rw [this]
      rw [skiarearef60_form.j0, if_neg (by simp)]
theorem foldV_mono (l : List UInt8) (n : Nat) : n ≤ foldV n l := by
  have := foldV_ge l n
  have h1 : 1 ≤ 10 ^ l.length := Nat.one_le_pow _ _ (by decide)
  have := Nat.mul_le_mul_left n h1
  omega
theorem value_l0 (a : ByteArray) (hs : a.size ≤ 30000) (sg : Int) (hsg : sg = 1 ∨ sg = -1) (hall : a.data.toList.all dig = true) : ∀ (d i n : Nat), a.size - i = d → i ≤ a.size → n ≤ 1125899906842624 →
    Ev (fun k => skiarearef60_value.l0 k a sg (n : Int) (i : Int)) (if foldV n (a.data.toList.drop i) ≤ 1125899906842624 then (sg * (foldV n (a.data.toList.drop i) : Int), true) else (0, false))
  | 0, i, n, hd, hi, hn => by
    refine Ev.one fun k => ?_
    show skiarearef60_value.l0 (k + 1) a sg (n : Int) (i : Int) = _
    have e : foldV n [] = n := rfl
    rw [skiarearef60_value.l0, if_neg (by omega), List.drop_eq_nil_of_le (by rw [data_size]; omega), e, if_pos hn, w64 (by rcases hsg with rfl | rfl <;> omega) (by rcases hsg with rfl | rfl <;> omega)]
  | d + 1, i, n, hd, hi, hn => by
    obtain ⟨c, h1, h2⟩ := bt_at a i (by omega)
    rw [drop_at h1, foldV_cons]
    have hc := (dig_iff c).1 (List.all_eq_true.1 hall c (List.mem_of_getElem? h1))
    have hv : wrap64 (wrap64 (10 * (n : Int)) + (bt a (i : Int) - 48) % 256) = ((n * 10 + (c.toNat - 48) : Nat) : Int) := by
      have hi10 : wrap64 (10 * (n : Int)) = 10 * (n : Int) := w64 (by omega) (by omega)
      rw [h2, hi10, w64 (by omega) (by omega)]; omega
    by_cases hb : n * 10 + (c.toNat - 48) ≤ 1125899906842624
    · refine (value_l0 a hs sg hsg hall d (i + 1) (n * 10 + (c.toNat - 48)) (by omega) (by omega) hb).step fun k => ?_
      show skiarearef60_value.l0 (k + 1) a sg (n : Int) (i : Int) = _
      rw [skiarearef60_value.l0, if_pos (by omega), if_pos (by omega), hv, if_neg (by omega), w64 (by omega) (by omega)]
      rfl
    · have := foldV_mono (a.data.toList.drop (i + 1)) (n * 10 + (c.toNat - 48))
      rw [if_neg (by omega)]
      refine Ev.one fun k => ?_
      show skiarearef60_value.l0 (k + 1) a sg (n : Int) (i : Int) = _
      rw [skiarearef60_value.l0, if_pos (by omega), if_pos (by omega), hv, if_pos (by omega)]
theorem value_law (a : ByteArray) (hs : a.size ≤ 30000) (h : okNum a.data.toList = true) : ∃ n, Ev (fun k => skiarearef60_value.f k a) (n, inR a.data.toList) ∧ (inR a.data.toList = true → n = valS a.data.toList) := by
  obtain ⟨b, t, e1, e2, e3, _⟩ := okNum_parts h
  have hall : (b :: t).all dig = true := by simp [e2, e3]
  rw [inR_iff h, valS_eq h, e1]
  cases hd : a.data.toList with
  | nil => rw [hd] at e1; exact absurd e1 (by simp [Lib.trimPrefix])
  | cons x r =>
    obtain ⟨h1, h2⟩ := bt_zero a x r hd
    rw [hd, trim_cons] at e1
    by_cases hx : x = 45
    · rw [if_pos hx] at e1
      have ht := tail_data a x r hd
      have hsz : (a.extract 1 a.size).size ≤ 30000 := by rw [← data_size, ht]; have := data_size a; rw [hd] at this; simp at this; omega
      have hl := value_l0 (a.extract 1 a.size) hsz (-1) (.inr rfl) (by rw [ht, e1]; exact hall) _ 0 0 rfl (Nat.zero_le _) (by decide)
      rw [ht, List.drop_zero, e1] at hl
      have hj : Ev (fun k => skiarearef60_value.j0 k (a.extract 1 a.size) (-1)) _ := hl.step fun k => by rw [skiarearef60_value.j0]; rfl
      have hu : ∀ k, skiarearef60_value.f k a = skiarearef60_value.j0 k (a.extract 1 a.size) (-1) := fun k => by
        unfold skiarearef60_value.f
        rw [if_pos (by omega), h2, if_pos (by rw [hx]; rfl), if_pos (by omega)]
      refine ⟨(if foldV 0 (b :: t) ≤ 1125899906842624 then ((-1) * (foldV 0 (b :: t) : Int), true) else (0, false)).1, ?_, ?_⟩
      · obtain ⟨K, hj⟩ := hj
        refine ⟨K, fun k hk => (hu k).trans ((hj k hk).trans ?_)⟩
        by_cases hb : foldV 0 (b :: t) ≤ 1125899906842624
        · rw [if_pos hb, decide_eq_true hb]
        · rw [if_neg hb, decide_eq_false hb]
      · intro hh
        rw [if_pos (of_decide_eq_true hh), if_pos (by rw [List.head?_cons, hx])]
        show (-1) * (foldV 0 (b :: t) : Int) = _
        omega
    · rw [if_neg hx] at e1
      have hl := value_l0 a hs 1 (.inl rfl) (by rw [hd, e1]; exact hall) _ 0 0 rfl (Nat.zero_le _) (by decide)
      rw [hd, List.drop_zero, e1] at hl
      have hj : Ev (fun k => skiarearef60_value.j0 k a 1) _ := hl.step fun k => by rw [skiarearef60_value.j0]; rfl
      have hu : ∀ k, skiarearef60_value.f k a = skiarearef60_value.j0 k a 1 := fun k => by
        unfold skiarearef60_value.f
        rw [if_pos (by omega), h2, if_neg (fun e => hx (UInt8.toNat_inj.1 (by simpa using (by omega : x.toNat = 45))))]
      refine ⟨(if foldV 0 (b :: t) ≤ 1125899906842624 then (1 * (foldV 0 (b :: t) : Int), true) else (0, false)).1, ?_, ?_⟩
      · obtain ⟨K, hj⟩ := hj
        refine ⟨K, fun k hk => (hu k).trans ((hj k hk).trans ?_)⟩
        by_cases hb : foldV 0 (b :: t) ≤ 1125899906842624
        · rw [if_pos hb, decide_eq_true hb]
        · rw [if_neg hb, decide_eq_false hb]
      · intro hh
        rw [if_pos (of_decide_eq_true hh), if_neg (by rw [List.head?_cons]; simpa using hx)]
        show 1 * (foldV 0 (b :: t) : Int) = _
        omega
end Go.Proofs.YtjeicglkanfbjaaDoor.Pure
