/- Numbers in decimal, there and back, in plain words. -/
import Derived.Test.YtjeicglkanfbjaaDoorN
import Derived.Test.YtjeicglkanfbjaaDoorPB
import Derived.Lib.ItoaMem
namespace Go.Proofs.YtjeicglkanfbjaaDoor
theorem dec1_ {n : Nat} (h : n < 10) : Lib.decDigits n = [UInt8.ofNat (48 + n)] := by rw [Lib.decDigits, dif_pos h]
theorem dec2_ {n : Nat} (h : ¬ n < 10) : Lib.decDigits n = Lib.decDigits (n / 10) ++ [UInt8.ofNat (48 + n % 10)] := by rw [Lib.decDigits, dif_neg h]
theorem nat8 {d : Nat} (h : d < 10) : (UInt8.ofNat (48 + d)).toNat = 48 + d := by rw [UInt8.toNat_ofNat']; omega
theorem dec_dig : ∀ n : Nat, (Lib.decDigits n).all dig = true := by
  intro n
  induction n using Nat.strongRecOn with
  | _ n ih =>
  by_cases h : n < 10
  · rw [dec1_ h, List.all_cons, List.all_nil, Bool.and_true, dig_iff, nat8 h]; omega
  · rw [dec2_ h, List.all_append, ih _ (by omega), List.all_cons, List.all_nil, Bool.and_true, Bool.true_and, dig_iff, nat8 (by omega)]; omega
theorem dec_head : ∀ n : Nat, 0 < n → ∃ b t, Lib.decDigits n = b :: t ∧ b ≠ 48 ∧ b ≠ 45 := by
  intro n
  induction n using Nat.strongRecOn with
  | _ n ih =>
  intro hn
  by_cases h : n < 10
  · refine ⟨_, _, dec1_ h, fun e => ?_, fun e => ?_⟩
    · have := congrArg UInt8.toNat e; rw [nat8 h] at this; have h2 : (48 : UInt8).toNat = 48 := rfl; omega
    · have := congrArg UInt8.toNat e; rw [nat8 h] at this; have h2 : (45 : UInt8).toNat = 45 := rfl; omega
  · obtain ⟨b, t, e, h1, h2⟩ := ih (n / 10) (by omega) (by omega)
    exact ⟨b, _, by rw [dec2_ h, e]; rfl, h1, h2⟩
theorem dec_zero : Lib.decDigits 0 = [48] := by rw [dec1_ (by decide)]; rfl
theorem foldV_snoc (l : List UInt8) (c : UInt8) (acc : Nat) : foldV acc (l ++ [c]) = foldV acc l * 10 + (c.toNat - 48) := by simp [foldV]
theorem foldV_dec : ∀ n : Nat, foldV 0 (Lib.decDigits n) = n := by
  intro n
  induction n using Nat.strongRecOn with
  | _ n ih =>
  by_cases h : n < 10
  · rw [dec1_ h, foldV_cons, nat8 h]; simp [foldV]
  · rw [dec2_ h, foldV_snoc, ih _ (by omega), nat8 (by omega)]; omega
theorem trim_dec (n : Nat) : Lib.trimPrefix (Lib.decDigits n) [45] = Lib.decDigits n := by
  by_cases h : n = 0
  · subst h; rw [dec_zero, trim_cons]; rfl
  · obtain ⟨b, t, e, _, h2⟩ := dec_head n (by omega)
    rw [e, trim_cons, if_neg h2]
theorem itoa_cases (n : Int) : (∃ m : Nat, n = m ∧ Lib.itoa n = Lib.decDigits m) ∨ (∃ m : Nat, 0 < m ∧ n = -(m : Int) ∧ Lib.itoa n = 45 :: Lib.decDigits m) := by
  by_cases h : 0 ≤ n
  · obtain ⟨m, rfl⟩ := Int.eq_ofNat_of_zero_le h
    exact .inl ⟨m, rfl, Lib.itoa_nonneg m⟩
  · obtain ⟨m, hm⟩ : ∃ m : Nat, n = -(m : Int) := ⟨n.natAbs, by omega⟩
    subst hm
    exact .inr ⟨m, by omega, rfl, Lib.itoa_neg m (by omega)⟩
theorem okNum_itoa (n : Int) : okNum (Lib.itoa n) = true := by
  rcases itoa_cases n with ⟨m, rfl, e⟩ | ⟨m, hm, rfl, e⟩
  · rw [e]
    unfold okNum
    simp only [trim_dec, dec_dig, Bool.and_true]
    by_cases h : m = 0
    · subst h; rw [dec_zero]; rfl
    · obtain ⟨b, t, e, h1, _⟩ := dec_head m (by omega)
      have : (some b == some (48 : UInt8)) = false := by simpa using h1
      rw [e, List.head?_cons, this]; rfl
  · rw [e]
    unfold okNum
    have ht : Lib.trimPrefix (45 :: Lib.decDigits m) [45] = Lib.decDigits m := by rw [trim_cons, if_pos rfl]
    simp only [ht, dec_dig, Bool.and_true]
    obtain ⟨b, t, e, h1, _⟩ := dec_head m hm
    have : (some b == some (48 : UInt8)) = false := by simpa using h1
    rw [e, List.head?_cons, this]; rfl
theorem valS_itoa (n : Int) : valS (Lib.itoa n) = n := by
  rw [valS_eq (okNum_itoa n)]
  rcases itoa_cases n with ⟨m, rfl, e⟩ | ⟨m, hm, rfl, e⟩
  · rw [e, trim_dec, foldV_dec]
    split
    · next h =>
      by_cases h0 : m = 0
      · subst h0; rfl
      · obtain ⟨b, t, e, _, h2⟩ := dec_head m (by omega)
        rw [e, List.head?_cons] at h
        exact absurd (Option.some.inj h) h2
    · rfl
  · rw [e, if_pos (by rfl), trim_cons, if_pos rfl, foldV_dec]
theorem inR_itoa (n : Int) : inR (Lib.itoa n) = inN n := by unfold inR inN; rw [valS_itoa]
/-- Digits, read and written. -/
theorem dec_fold : ∀ (k : Nat) (d : List UInt8), d.length = k + 1 → d.all dig = true → (d.head? = some 48 → d = [48]) → Lib.decDigits (foldV 0 d) = d
  | 0, d, hl, hd, _ => by
    obtain ⟨b, rfl⟩ : ∃ b, d = [b] := by
      cases d with
      | nil => simp at hl
      | cons b t => cases t with
        | nil => exact ⟨b, rfl⟩
        | cons c u => simp at hl
    have hb := (dig_iff b).1 (by simpa using hd)
    rw [foldV_cons]
    simp only [foldV, List.foldl_nil, Nat.zero_mul, Nat.zero_add]
    rw [dec1_ (by omega)]
    congr 1
    apply UInt8.toNat_inj.1
    rw [nat8 (by omega)]; omega
  | k + 1, d, hl, hd, hz => by
    have hne : d ≠ [] := by intro e; rw [e] at hl; simp at hl
    obtain ⟨c, i, hi⟩ : ∃ c i, d = i ++ [c] := ⟨d.getLast hne, d.dropLast, (List.dropLast_concat_getLast hne).symm⟩
    subst hi
    simp only [List.length_append, List.length_cons, List.length_nil] at hl
    simp only [List.all_append, Bool.and_eq_true, List.all_cons, List.all_nil] at hd
    have hc := (dig_iff c).1 hd.2.1
    cases i with
    | nil => simp at hl
    | cons b t =>
      have hb : b ≠ 48 := by
        intro e
        have := hz (by rw [e]; rfl)
        simp at this
      have ih := dec_fold k (b :: t) (by simp at hl ⊢; omega) hd.1 (fun e => absurd (Option.some.inj (by simpa using e)) hb)
      have hb2 := (dig_iff b).1 (by have := hd.1; simp only [List.all_cons, Bool.and_eq_true] at this; exact this.1)
      have hb3 : b.toNat ≠ 48 := fun e => hb (UInt8.toNat_inj.1 e)
      have hge : 1 ≤ foldV 0 (b :: t) := by
        rw [foldV_cons]
        have := foldV_ge t (0 * 10 + (b.toNat - 48))
        have h1 : 1 ≤ 10 ^ t.length := Nat.one_le_pow _ _ (by decide)
        have h2 : 1 * 1 ≤ (0 * 10 + (b.toNat - 48)) * 10 ^ t.length := Nat.mul_le_mul (by omega) h1
        omega
      rw [foldV_snoc, dec2_ (by omega)]
      have e1 : (foldV 0 (b :: t) * 10 + (c.toNat - 48)) / 10 = foldV 0 (b :: t) := by omega
      have e2 : (foldV 0 (b :: t) * 10 + (c.toNat - 48)) % 10 = c.toNat - 48 := by omega
      rw [e1, e2, ih]
      congr 1
      congr 1
      apply UInt8.toNat_inj.1
      rw [nat8 (by omega)]; omega
theorem itoa_val {p : List UInt8} (h : okNum p = true) : Lib.itoa (valS p) = p := by
  rw [valS_eq h]
  obtain ⟨b, t, hd, hb, ht, hz⟩ := okNum_parts h
  have hall : (b :: t).all dig = true := by simp [hb, ht]
  have hdec := dec_fold t.length (b :: t) rfl hall (fun e => by
    have e : b = 48 := by simpa using e
    rw [(hz e).1, e])
  cases p with
  | nil => exact absurd hd (by simp [Lib.trimPrefix])
  | cons x r =>
    rw [hd]
    rw [trim_cons] at hd
    by_cases hx : x = 45
    · rw [if_pos hx] at hd
      rw [if_pos (by rw [hx]; rfl)]
      have h0 : 0 < foldV 0 (b :: t) := by
        rcases Nat.eq_zero_or_pos (foldV 0 (b :: t)) with h0 | h0
        · rw [h0, dec_zero] at hdec
          injection hdec with h1 h2
          have := (hz h1.symm).2
          rw [hx] at this
          injection this with h3
          exact absurd h3 (by decide)
        · exact h0
      rw [Lib.itoa_neg _ h0, hdec, hx, hd]
    · rw [if_neg hx] at hd
      rw [if_neg (by simpa using hx), Lib.itoa_nonneg, hdec, hd]
theorem itoa_bytes (n : Int) : ∀ c ∈ Lib.itoa n, c ≠ 32 ∧ c ≠ 10 := by
  have hd : ∀ m : Nat, ∀ c ∈ Lib.decDigits m, c ≠ 32 ∧ c ≠ 10 := by
    intro m c hc
    have := (dig_iff c).1 (List.all_eq_true.1 (dec_dig m) c hc)
    constructor
    · rintro rfl; exact absurd this.1 (by decide)
    · rintro rfl; exact absurd this.1 (by decide)
  intro c hc
  rcases itoa_cases n with ⟨m, _, e⟩ | ⟨m, _, _, e⟩
  · rw [e] at hc; exact hd m c hc
  · rw [e] at hc
    rcases List.mem_cons.1 hc with rfl | hc
    · exact ⟨by decide, by decide⟩
    · exact hd m c hc
end Go.Proofs.YtjeicglkanfbjaaDoor
