/- Floats as words: when two are equal, which is a NaN, and what a word less itself is. -/
import Derived.WalkLawsBesides
namespace Go.Proofs.YtlhnkfheojlghaaDoor.Flo
open Go Ieee
/-- A word without its sign. -/
def rung (a : Nat) : Nat := a % 9223372036854775808
def nanB (a : Nat) : Bool := decide (9218868437227405312 < rung a)
def infB (a : Nat) : Bool := decide (rung a = 9218868437227405312)
theorem read_eq (a : Nat) : double.read a = if rung a < 4503599627370496 then .number (a / 9223372036854775808 % 2 == 1) (rung a) (-1074) else if rung a < 9218868437227405312 then .number (a / 9223372036854775808 % 2 == 1) (4503599627370496 + rung a % 4503599627370496) (-1074 + ((rung a / 4503599627370496 - 1 : Nat) : Int)) else if rung a = 9218868437227405312 then .infinity (a / 9223372036854775808 % 2 == 1) else .nan (a / 9223372036854775808 % 2 == 1) (rung a - 9218868437227405312) := rfl
theorem read_nan {a : Nat} (h : nanB a = true) : double.read a = .nan (a / 9223372036854775808 % 2 == 1) (rung a - 9218868437227405312) := by
  have h := of_decide_eq_true h
  rw [read_eq, if_neg (by omega), if_neg (by omega), if_neg (by omega)]
theorem read_inf {a : Nat} (h : infB a = true) : double.read a = .infinity (a / 9223372036854775808 % 2 == 1) := by
  have h := of_decide_eq_true h
  rw [read_eq, if_neg (by omega), if_neg (by omega), if_pos h]
/-- The size of a finite word's number, in units of the least one. -/
def units (r : Nat) : Nat := if r < 4503599627370496 then r else (4503599627370496 + r % 4503599627370496) * 2 ^ (r / 4503599627370496 - 1)
theorem read_fin {a : Nat} (h1 : nanB a = false) (h2 : infB a = false) : ∃ (m k : Nat), double.read a = .number (a / 9223372036854775808 % 2 == 1) m (-1074 + (k : Int)) ∧ m * 2 ^ k = units (rung a) := by
  have h1 := of_decide_eq_false h1
  have h2 := of_decide_eq_false h2
  rw [read_eq]
  unfold units
  by_cases h : rung a < 4503599627370496
  · rw [if_pos h, if_pos h]
    exact ⟨_, 0, rfl, by simp⟩
  · rw [if_neg h, if_neg h, if_pos (by omega)]
    exact ⟨_, _, rfl, rfl⟩
theorem units_mono {r s : Nat} (h : r < s) : units r < units s := by
  unfold units
  by_cases hs : s < 4503599627370496
  · rw [if_pos hs, if_pos (by omega)]; exact h
  · rw [if_neg hs]
    by_cases hr : r < 4503599627370496
    · rw [if_pos hr]
      have : 1 ≤ 2 ^ (s / 4503599627370496 - 1) := Nat.one_le_two_pow
      have h2 : (4503599627370496 + s % 4503599627370496) * 1 ≤ (4503599627370496 + s % 4503599627370496) * 2 ^ (s / 4503599627370496 - 1) := Nat.mul_le_mul_left _ this
      omega
    · rw [if_neg hr]
      by_cases he : r / 4503599627370496 = s / 4503599627370496
      · rw [he]
        exact Nat.mul_lt_mul_of_pos_right (by omega) (Nat.two_pow_pos _)
      · have hlt : r / 4503599627370496 - 1 + 1 ≤ s / 4503599627370496 - 1 := by omega
        have h1 : (4503599627370496 + r % 4503599627370496) * 2 ^ (r / 4503599627370496 - 1) < 9007199254740992 * 2 ^ (r / 4503599627370496 - 1) := Nat.mul_lt_mul_of_pos_right (by omega) (Nat.two_pow_pos _)
        have h2 : 9007199254740992 * 2 ^ (r / 4503599627370496 - 1) = 4503599627370496 * 2 ^ (r / 4503599627370496 - 1 + 1) := by rw [Nat.pow_succ]; omega
        have h3 : 4503599627370496 * 2 ^ (r / 4503599627370496 - 1 + 1) ≤ 4503599627370496 * 2 ^ (s / 4503599627370496 - 1) := Nat.mul_le_mul_left _ (Nat.pow_le_pow_right (by omega) hlt)
        have h4 : 4503599627370496 * 2 ^ (s / 4503599627370496 - 1) ≤ (4503599627370496 + s % 4503599627370496) * 2 ^ (s / 4503599627370496 - 1) := Nat.mul_le_mul_right _ (by omega)
        omega
theorem units_inj {r s : Nat} (h : units r = units s) : r = s := by
  rcases Nat.lt_trichotomy r s with h1 | h1 | h1
  · have := units_mono h1; omega
  · exact h1
  · have := units_mono h1; omega
theorem units_zero {r : Nat} (h : units r = 0) : r = 0 := units_inj (h.trans (by rfl))
theorem signed_scale (s : Bool) (m k j : Nat) : signed s m k * (2 : Int) ^ j = signed s (m * 2 ^ k) j := by
  unfold signed
  simp only [Nat.shiftLeft_eq]
  cases s
  · simp only [Bool.false_eq_true, if_false]
    push_cast
    rfl
  · simp only [if_true]
    push_cast
    rw [Int.neg_mul]
theorem cmp_scale (x y c : Int) (hc : 0 < c) : compare (x * c) (y * c) = compare x y := by
  have h1 : x * c < y * c ↔ x < y := Int.mul_lt_mul_right hc
  have h2 : x * c = y * c ↔ x = y := ⟨fun h => Int.eq_of_mul_eq_mul_right (by omega) h, fun h => by rw [h]⟩
  simp only [compare, compareOfLessAndEq, h1, h2]
def negB (a : Nat) : Bool := a / 9223372036854775808 % 2 == 1
/-- A finite word's number. -/
def sv (a : Nat) : Int := if negB a = true then -(units (rung a) : Int) else (units (rung a) : Int)
theorem signed_zero (s : Bool) (m : Nat) : signed s m 0 = if s = true then -(m : Int) else (m : Int) := by
  unfold signed
  simp only [Nat.shiftLeft_zero]
theorem order_fin {a b : Nat} (ha : nanB a = false) (ha2 : infB a = false) (hb : nanB b = false) (hb2 : infB b = false) : double.order a b = some (compare (sv a) (sv b)) := by
  obtain ⟨m, k, hr, hm⟩ := read_fin ha ha2
  obtain ⟨n, l, hs, hn⟩ := read_fin hb hb2
  unfold Format.order
  rw [hr, hs]
  show some (compare (signed (negB a) m ((-1074 + (k : Int)) - min (-1074 + (k : Int)) (-1074 + (l : Int))).toNat) (signed (negB b) n ((-1074 + (l : Int)) - min (-1074 + (k : Int)) (-1074 + (l : Int))).toNat)) = _
  obtain ⟨c, hc⟩ : ∃ c, c = min k l := ⟨_, rfl⟩
  have e1 : ((-1074 + (k : Int)) - min (-1074 + (k : Int)) (-1074 + (l : Int))).toNat = k - c := by omega
  have e2 : ((-1074 + (l : Int)) - min (-1074 + (k : Int)) (-1074 + (l : Int))).toNat = l - c := by omega
  rw [e1, e2]
  have full : ∀ (s : Bool) (m k : Nat), c ≤ k → signed s m (k - c) * (2 : Int) ^ c = signed s (m * 2 ^ k) 0 := fun s m k h => by
    have h1 := signed_scale s m (k - c) c
    have h2 := signed_scale s m (k - c + c) 0
    have h3 : signed s (m * 2 ^ (k - c)) c = signed s (m * 2 ^ k) 0 := by
      unfold signed
      simp only [Nat.shiftLeft_eq, Nat.pow_zero, Nat.mul_one, Nat.mul_assoc, ← Nat.pow_add, Nat.sub_add_cancel h]
    rw [h1, h3]
  have hpos : (0 : Int) < 2 ^ c := Int.pow_pos (by omega)
  rw [← cmp_scale _ _ _ hpos, full _ m k (by omega), full _ n l (by omega), hm, hn, signed_zero, signed_zero]
  rfl
theorem order_nan {a b : Nat} (h : nanB a = true ∨ nanB b = true) : double.order a b = none := by
  unfold Format.order
  rcases h with h | h
  · rw [read_nan h]; rfl
  · rw [read_nan h]
    cases double.read a <;> rfl
/-- Which words are equal as numbers. -/
def eqB (a b : Nat) : Bool := !nanB a && !nanB b && (decide (a = b) || (decide (rung a = 0) && decide (rung b = 0)))
theorem word_of {a b : Nat} (ha : a < 18446744073709551616) (hb : b < 18446744073709551616) (hr : rung a = rung b) (hn : negB a = negB b) : a = b := by
  unfold rung at hr
  unfold negB at hn
  have h1 : (a / 9223372036854775808 % 2 = 1) ↔ (b / 9223372036854775808 % 2 = 1) := by
    constructor
    · intro h
      have := beq_iff_eq.2 h
      rw [hn] at this
      exact beq_iff_eq.1 this
    · intro h
      have := beq_iff_eq.2 h
      rw [← hn] at this
      exact beq_iff_eq.1 this
  omega
theorem order_eq {a b : Nat} (ha : a < 18446744073709551616) (hb : b < 18446744073709551616) : (double.order a b == some .eq) = eqB a b := by
  unfold eqB
  cases h1 : nanB a with
  | true => rw [order_nan (.inl h1)]; rfl
  | false =>
    cases h2 : nanB b with
    | true => rw [order_nan (.inr h2)]; rfl
    | false =>
      simp only [Bool.not_false, Bool.true_and]
      cases h3 : infB a with
      | true =>
        have e3 := of_decide_eq_true h3
        cases h4 : infB b with
        | true =>
          have e4 := of_decide_eq_true h4
          unfold Format.order
          rw [read_inf h3, read_inf h4]
          show ((some (compare (negB b).toNat (negB a).toNat) : Option Ordering) == some .eq) = _
          have hz : decide (rung a = 0) = false := decide_eq_false (by omega)
          rw [hz, Bool.false_and, Bool.or_false]
          by_cases he : a = b
          · subst he
            rw [decide_eq_true rfl]
            cases negB a <;> rfl
          · rw [decide_eq_false he]
            have : negB a ≠ negB b := fun h => he (word_of ha hb (by omega) h)
            revert this
            cases negB a <;> cases negB b <;> simp <;> decide
        | false =>
          obtain ⟨n, l, hs, hn⟩ := read_fin h2 h4
          have e4 := of_decide_eq_false h4
          unfold Format.order
          rw [read_inf h3, hs]
          have hz : decide (rung a = 0) = false := decide_eq_false (by omega)
          have he : decide (a = b) = false := decide_eq_false (fun h => by subst h; rw [h3] at h4; cases h4)
          rw [hz, he]
          show ((some (if (negB a) = true then Ordering.lt else Ordering.gt) : Option Ordering) == some .eq) = false
          cases negB a <;> rfl
      | false =>
        have e3 := of_decide_eq_false h3
        cases h4 : infB b with
        | true =>
          have e4 := of_decide_eq_true h4
          obtain ⟨n, l, hs, hn⟩ := read_fin h1 h3
          unfold Format.order
          rw [read_inf h4, hs]
          have hz : decide (rung b = 0) = false := decide_eq_false (by omega)
          have he : decide (a = b) = false := decide_eq_false (fun h => by subst h; rw [h3] at h4; cases h4)
          rw [hz, he, Bool.and_false]
          show ((some (if (negB b) = true then Ordering.gt else Ordering.lt) : Option Ordering) == some .eq) = false
          cases negB b <;> rfl
        | false =>
          rw [order_fin h1 h3 h2 h4]
          have key : sv a = sv b ↔ a = b ∨ (rung a = 0 ∧ rung b = 0) := by
            unfold sv
            constructor
            · intro h
              by_cases hz : rung a = 0
              · have hu : units (rung a) = 0 := by rw [hz]; rfl
                have hub : units (rung b) = 0 := by
                  split at h <;> split at h <;> omega
                exact .inr ⟨hz, units_zero hub⟩
              · have hua : units (rung a) ≠ 0 := fun h => hz (units_zero h)
                left
                have hn : negB a = negB b := by
                  cases ea : negB a <;> cases eb : negB b <;> simp only [ea, eb, Bool.false_eq_true, if_false, if_true] at h <;> first | rfl | omega
                rw [hn] at h
                have hu : units (rung a) = units (rung b) := by split at h <;> omega
                exact word_of ha hb (units_inj hu) hn
            · rintro (h | ⟨h, h'⟩)
              · rw [h]
              · rw [h, h']
                have : units 0 = 0 := rfl
                rw [this]
                split <;> split <;> rfl
          have hc : ((some (compare (sv a) (sv b)) : Option Ordering) == some .eq) = decide (sv a = sv b) := by
            simp only [compare, compareOfLessAndEq]
            by_cases hlt : sv a < sv b
            · rw [if_pos hlt, decide_eq_false (by omega)]; rfl
            · rw [if_neg hlt]
              by_cases he : sv a = sv b
              · rw [if_pos he, decide_eq_true he]; rfl
              · rw [if_neg he, decide_eq_false he]; rfl
          rw [hc]
          by_cases h : sv a = sv b
          · rw [decide_eq_true h]
            rcases key.1 h with h5 | ⟨h5, h6⟩
            · rw [decide_eq_true h5]; rfl
            · rw [decide_eq_true h5, decide_eq_true h6]; simp
          · rw [decide_eq_false h]
            have h7 : ¬ (a = b ∨ (rung a = 0 ∧ rung b = 0)) := fun g => h (key.2 g)
            rw [decide_eq_false (fun g => h7 (.inl g))]
            by_cases h5 : rung a = 0
            · rw [decide_eq_false (fun g => h7 (.inr ⟨h5, g⟩))]; simp
            · rw [decide_eq_false h5]; rfl
theorem order_self {a : Nat} (ha : a < 18446744073709551616) : (double.order a a != some .eq) = nanB a := by
  have := order_eq ha ha
  rw [bne, this]
  unfold eqB
  rw [decide_eq_true rfl]
  cases nanB a <;> rfl
theorem order_nought {a : Nat} (ha : a < 18446744073709551616) : (double.order a 0 == some .eq) = decide (rung a = 0) := by
  rw [order_eq ha (by omega)]
  unfold eqB
  have h0 : nanB 0 = false := by decide
  have h1 : decide (rung 0 = 0) = true := by decide
  rw [h0, h1, Bool.and_true]
  by_cases h : rung a = 0
  · have : nanB a = false := by unfold nanB; exact decide_eq_false (by omega)
    rw [this, decide_eq_true h]; simp
  · have : decide (a = 0) = false := decide_eq_false (fun e => h (by rw [e]; rfl))
    rw [this, decide_eq_false h]; simp
/-- A finite word less itself is nought. -/
theorem sub_self {a : Nat} (h1 : nanB a = false) (h2 : infB a = false) : double.sub a a = some 0 := by
  obtain ⟨m, k, hr, hm⟩ := read_fin h1 h2
  unfold Format.sub
  rw [hr]
  show some (double.write _) = some 0
  have hb : ((-1074 + (k : Int)) - min (-1074 + (k : Int)) (-1074 + (k : Int))).toNat = 0 := by omega
  congr 1
  show double.write (.number (if signed (negB a) m ((-1074 + (k : Int)) - min (-1074 + (k : Int)) (-1074 + (k : Int))).toNat + signed (!negB a) m ((-1074 + (k : Int)) - min (-1074 + (k : Int)) (-1074 + (k : Int))).toNat = 0 then (negB a && !negB a) else decide (signed (negB a) m ((-1074 + (k : Int)) - min (-1074 + (k : Int)) (-1074 + (k : Int))).toNat + signed (!negB a) m ((-1074 + (k : Int)) - min (-1074 + (k : Int)) (-1074 + (k : Int))).toNat < 0)) (signed (negB a) m ((-1074 + (k : Int)) - min (-1074 + (k : Int)) (-1074 + (k : Int))).toNat + signed (!negB a) m ((-1074 + (k : Int)) - min (-1074 + (k : Int)) (-1074 + (k : Int))).toNat).natAbs (min (-1074 + (k : Int)) (-1074 + (k : Int)))) = 0
  rw [hb]
  have hz : signed (negB a) m 0 + signed (!negB a) m 0 = 0 := by
    rw [signed_zero, signed_zero]
    cases negB a <;> simp <;> omega
  rw [hz, if_pos rfl]
  have : (negB a && !negB a) = false := by cases negB a <;> rfl
  rw [this]
  unfold Format.write Format.nearest
  simp [Format.word]
/-- An infinity less itself is nothing. -/
theorem sub_inf {a : Nat} (h2 : infB a = true) : double.sub a a = none := by
  unfold Format.sub
  rw [read_inf h2]
  show Option.map double.write (if negB a = (!negB a) then _ else none) = none
  rw [if_neg (by cases negB a <;> simp)]
  rfl
end Go.Proofs.YtlhnkfheojlghaaDoor.Flo
