/- Numbers in decimal, in plain words. -/
import Derived.Test.YtjeicglkanfbjaaDoorS
namespace Go.Proofs.YtjeicglkanfbjaaDoor
def foldV (acc : Nat) (l : List UInt8) : Nat := l.foldl (fun n b => n * 10 + (b.toNat - 48)) acc
theorem foldV_cons (acc : Nat) (b : UInt8) (t : List UInt8) : foldV acc (b :: t) = foldV (acc * 10 + (b.toNat - 48)) t := by simp only [foldV, List.foldl_cons]
theorem dig_iff (c : UInt8) : dig c = true ↔ 48 ≤ c.toNat ∧ c.toNat ≤ 57 := by simp [dig]
theorem decFrom_all : ∀ (l : List UInt8) (acc : Nat), l.all dig = true → Lib.decFrom acc l = some (foldV acc l)
  | [], acc, _ => rfl
  | b :: t, acc, h => by
    simp only [List.all_cons, Bool.and_eq_true] at h
    have hb := (dig_iff b).1 h.1
    have e : Lib.digitVal b = some (b.toNat - 48) := by unfold Lib.digitVal; rw [if_pos hb]
    rw [Lib.decFrom, e, foldV_cons]
    exact decFrom_all t _ h.2
theorem foldV_ge : ∀ (l : List UInt8) (acc : Nat), acc * 10 ^ l.length ≤ foldV acc l
  | [], acc => by simp [foldV]
  | b :: t, acc => by
    rw [foldV_cons, List.length_cons, Nat.pow_succ]
    have := foldV_ge t (acc * 10 + (b.toNat - 48))
    have h2 : acc * (10 ^ t.length * 10) = acc * 10 * 10 ^ t.length := by rw [Nat.mul_comm (10 ^ t.length) 10, ← Nat.mul_assoc]
    rw [h2]
    exact Nat.le_trans (Nat.mul_le_mul_right _ (by omega)) this
theorem foldV_lt : ∀ (l : List UInt8) (acc : Nat), l.all dig = true → foldV acc l < (acc + 1) * 10 ^ l.length
  | [], acc, _ => by simp [foldV]
  | b :: t, acc, h => by
    simp only [List.all_cons, Bool.and_eq_true] at h
    have hb := (dig_iff b).1 h.1
    rw [foldV_cons, List.length_cons, Nat.pow_succ]
    have := foldV_lt t (acc * 10 + (b.toNat - 48)) h.2
    have h2 : (acc + 1) * (10 ^ t.length * 10) = (acc + 1) * 10 * 10 ^ t.length := by rw [Nat.mul_comm (10 ^ t.length) 10, ← Nat.mul_assoc]
    rw [h2]
    exact Nat.lt_of_lt_of_le this (Nat.mul_le_mul_right _ (by omega))
theorem trim_cons (b : UInt8) (t : List UInt8) : Lib.trimPrefix (b :: t) [45] = if b = 45 then t else b :: t := by
  unfold Lib.trimPrefix Lib.hasPrefix
  by_cases h : b = 45
  · subst h; simp [List.isPrefixOf]
  · have : (45 == b) = false := by simp; exact fun e => h e.symm
    simp [List.isPrefixOf, this, h]
theorem okNum_parts {l : List UInt8} (h : okNum l = true) : ∃ b t, Lib.trimPrefix l [45] = b :: t ∧ dig b = true ∧ t.all dig = true ∧ (b = 48 → t = [] ∧ l = [48]) := by
  unfold okNum at h
  simp only [Bool.and_eq_true, Bool.not_eq_true'] at h
  obtain ⟨⟨h1, h2⟩, h3⟩ := h
  cases hd : Lib.trimPrefix l [45] with
  | nil => rw [hd] at h1; exact absurd h1 (by simp)
  | cons b t =>
    rw [hd] at h2 h3
    simp only [List.all_cons, Bool.and_eq_true] at h3
    refine ⟨b, t, rfl, h3.1, h3.2, ?_⟩
    rintro rfl
    simp only [List.head?_cons, beq_self_eq_true, Bool.true_and, Bool.or_eq_false_iff, decide_eq_false_iff_not] at h2
    have ht : t = [] := by
      cases t with
      | nil => rfl
      | cons c u => exact absurd h2.1 (by simp)
    subst ht
    refine ⟨rfl, ?_⟩
    cases l with
    | nil => exact absurd hd (by simp [Lib.trimPrefix])
    | cons x r =>
      have : r = [] := by
        cases r with
        | nil => rfl
        | cons c u => exact absurd h2.2 (by simp)
      subst this
      rw [trim_cons] at hd
      split at hd
      · exact absurd hd (by simp)
      · exact hd
theorem okNum_val {l : List UInt8} (h : okNum l = true) : Lib.atoi l = some (if l.head? = some 45 then -(foldV 0 (Lib.trimPrefix l [45]) : Int) else (foldV 0 (Lib.trimPrefix l [45]) : Int)) := by
  obtain ⟨b, t, hd, hb, ht, _⟩ := okNum_parts h
  cases l with
  | nil => exact absurd hd (by simp [Lib.trimPrefix])
  | cons x r =>
    rw [trim_cons] at hd ⊢
    have hall : (b :: t).all dig = true := by simp [hb, ht]
    by_cases hx : x = 45
    · rw [if_pos hx] at hd ⊢
      subst hd
      rw [if_pos (by rw [hx]; rfl)]
      unfold Lib.atoi Lib.decNat
      dsimp only
      rw [if_pos (by simp [hx]), if_neg (by simp), decFrom_all _ _ hall]
      rfl
    · rw [if_neg hx] at hd ⊢
      have hx' : ¬ ((x :: r).head? = some 45) := by simpa using hx
      rw [if_neg hx']
      obtain ⟨rfl, rfl⟩ := List.cons.inj hd
      have hb' := (dig_iff x).1 hb
      have h43 : x ≠ 43 := by rintro rfl; exact absurd hb'.1 (by decide)
      unfold Lib.atoi Lib.decNat
      dsimp only
      rw [if_neg (by simpa using hx), if_neg (by simpa using h43), if_neg (by simp), decFrom_all _ _ hall]
      rfl
theorem valS_eq {l : List UInt8} (h : okNum l = true) : valS l = if l.head? = some 45 then -(foldV 0 (Lib.trimPrefix l [45]) : Int) else (foldV 0 (Lib.trimPrefix l [45]) : Int) := by
  unfold valS; rw [okNum_val h]; rfl
theorem inR_iff {l : List UInt8} (h : okNum l = true) : inR l = decide (foldV 0 (Lib.trimPrefix l [45]) ≤ 1125899906842624) := by
  unfold inR
  rw [valS_eq h]
  split <;> (rw [Bool.eq_iff_iff]; simp; omega)
theorem inR_long {l : List UInt8} (h : okNum l = true) (hl : 16 < (Lib.trimPrefix l [45]).length) : inR l = false := by
  obtain ⟨b, t, hd, hb, ht, hz⟩ := okNum_parts h
  rw [inR_iff h, hd, decide_eq_false]
  rw [hd] at hl
  have hb' := (dig_iff b).1 hb
  have : b.toNat ≠ 48 := by
    intro e
    have := hz (UInt8.toNat_inj.1 e)
    rw [this.1] at hl; simp at hl
  rw [foldV_cons, Nat.zero_mul, Nat.zero_add]
  have h1 := foldV_ge t (b.toNat - 48)
  simp only [List.length_cons] at hl
  have h2 : 10 ^ 16 ≤ 10 ^ t.length := Nat.pow_le_pow_right (by decide) (by omega)
  have h3 : 1 * 10 ^ t.length ≤ (b.toNat - 48) * 10 ^ t.length := Nat.mul_le_mul_right _ (by omega)
  have h4 : (10:Nat) ^ 16 = 10000000000000000 := by decide
  omega
end Go.Proofs.YtjeicglkanfbjaaDoor
