/- The code of the sum has distance four at up to 544 bits: no program in sight. -/
import Derived.Test.YtjcaieecafggiaaDoorCrc
import Derived.KernelRfl
namespace Go.Proofs.YtjcaieecafggiaaDoor.Crc
def top : Nat := 2147483648
theorem stepN_add (c : Nat) (a : Nat) : ∀ b, stepN c (a + b) = stepN (stepN c a) b
  | 0 => rfl
  | b + 1 => by rw [← Nat.add_assoc, stepN, stepN_add c a b, stepN]
theorem stepN_xor (a b : Nat) : ∀ k, stepN (a ^^^ b) k = stepN a k ^^^ stepN b k
  | 0 => rfl
  | k + 1 => by rw [stepN, stepN_xor a b k, step_xor, stepN, stepN]
theorem stepN_zero : ∀ k, stepN 0 k = 0
  | 0 => rfl
  | k + 1 => by rw [stepN, stepN_zero k]; rfl
theorem stepN_lt {c : Nat} (h : c < 4294967296) : ∀ k, stepN c k < 4294967296
  | 0 => h
  | k + 1 => step_lt (stepN_lt h k)
theorem step_ne {c : Nat} (h : c < 4294967296) (hc : c ≠ 0) : step c ≠ 0 := by
  unfold step
  have h1 : c >>> 1 = c / 2 := by rw [Nat.shiftRight_eq_div_pow]
  by_cases hb : c % 2 = 1
  · rw [if_pos hb]
    intro e
    have h2 : c >>> 1 = poly := by
      have := congrArg (· ^^^ poly) e
      simp only [Nat.xor_assoc, Nat.xor_self, Nat.xor_zero, Nat.zero_xor] at this
      exact this
    unfold poly at h2
    omega
  · rw [if_neg hb, Nat.xor_zero]
    omega
theorem stepN_ne {c : Nat} (h : c < 4294967296) (hc : c ≠ 0) : ∀ k, stepN c k ≠ 0
  | 0 => hc
  | k + 1 => step_ne (stepN_lt h k) (stepN_ne h hc k)
/-- One bit's step, for the kernel. -/
def stepF (c : Nat) : Nat := cond (Nat.beq (c % 2) 1) ((c >>> 1) ^^^ poly) (c >>> 1)
theorem stepF_eq (c : Nat) : stepF c = step c := by
  unfold stepF step
  by_cases h : c % 2 = 1
  · rw [if_pos h, h]; rfl
  · rw [if_neg h, show c % 2 = 0 by omega, Nat.xor_zero]; rfl
def prime : Nat := 31881
def mark (m c : Nat) : Nat := m ||| (1 <<< (c % prime))
def marks : Nat → Nat → Nat → Nat
  | 0, _, m => m
  | k + 1, c, m => marks k (stepF c) (mark m c)
def bit (m c : Nat) : Bool := Nat.beq ((m >>> (c % prime)) % 2) 1
def allIn (m : Nat) : Nat → Nat → Bool
  | 0, _ => true
  | k + 1, c => bit m c && allIn m k (stepF c)
def noneIn (m : Nat) : Nat → Nat → Bool
  | 0, _ => true
  | k + 1, c => !(bit m (top ^^^ c)) && noneIn m k (stepF c)
def checked (m : Nat) : Bool := allIn m 544 top && noneIn m 544 top
def table : Nat := marks 544 top 0
theorem table_checked : checked table = true := by kernel_rfl
theorem allIn_at (m : Nat) : ∀ n c, allIn m n c = true → ∀ k, k < n → bit m (stepN c k) = true := by
  intro n
  induction n with
  | zero => intro c _ k hk; omega
  | succ n ih =>
    intro c h k hk
    unfold allIn at h
    rw [Bool.and_eq_true] at h
    cases k with
    | zero => exact h.1
    | succ k =>
      have := ih (stepF c) h.2 k (by omega)
      rw [stepF_eq] at this
      rw [show k + 1 = 1 + k by omega, stepN_add]
      exact this
theorem noneIn_at (m : Nat) : ∀ n c, noneIn m n c = true → ∀ k, k < n → bit m (top ^^^ stepN c k) = false := by
  intro n
  induction n with
  | zero => intro c _ k hk; omega
  | succ n ih =>
    intro c h k hk
    unfold noneIn at h
    rw [Bool.and_eq_true] at h
    cases k with
    | zero =>
      show bit m (top ^^^ c) = false
      simpa using h.1
    | succ k =>
      have := ih (stepF c) h.2 k (by omega)
      rw [stepF_eq] at this
      rw [show k + 1 = 1 + k by omega, stepN_add]
      exact this
theorem pair_ne (a b : Nat) (ha : a < 544) (hb : b < 544) : top ^^^ stepN top a ^^^ stepN top b ≠ 0 := by
  have h := table_checked
  unfold checked at h
  rw [Bool.and_eq_true] at h
  have h1 := allIn_at _ _ _ h.1 b hb
  have h2 := noneIn_at _ _ _ h.2 a ha
  intro e
  have : top ^^^ stepN top a = stepN top b := by
    have := congrArg (· ^^^ stepN top b) e
    simp only [Nat.xor_assoc, Nat.xor_self, Nat.xor_zero, Nat.zero_xor] at this
    exact this
  rw [this, h1] at h2
  exact absurd h2 (by decide)
theorem base_ne (a b c : Nat) (hab : a ≤ b) (hac : a ≤ c) (hb : b < 544) (hc : c < 544) : stepN top a ^^^ stepN top b ^^^ stepN top c ≠ 0 := by
  obtain ⟨x, rfl⟩ := Nat.exists_eq_add_of_le hab
  obtain ⟨y, rfl⟩ := Nat.exists_eq_add_of_le hac
  rw [Nat.add_comm a x, Nat.add_comm a y, stepN_add, stepN_add, ← stepN_xor, ← stepN_xor]
  refine stepN_ne ?_ (pair_ne x y (by omega) (by omega)) a
  exact Nat.xor_lt_two_pow (n := 32) (Nat.xor_lt_two_pow (n := 32) (by decide) (stepN_lt (by decide) x)) (stepN_lt (by decide) y)
/-- Three bits that are turned about are told. -/
theorem three_ne (a b c : Nat) (ha : a < 544) (hb : b < 544) (hc : c < 544) : stepN top a ^^^ stepN top b ^^^ stepN top c ≠ 0 := by
  by_cases h1 : a ≤ b
  · by_cases h2 : a ≤ c
    · exact base_ne a b c h1 h2 hb hc
    · have := base_ne c a b (by omega) (by omega) ha hb
      rwa [Nat.xor_assoc, Nat.xor_comm] at this
  · by_cases h2 : b ≤ c
    · have := base_ne b a c (by omega) h2 ha hc
      rwa [Nat.xor_comm (stepN top b)] at this
    · have := base_ne c a b (by omega) (by omega) ha hb
      rwa [Nat.xor_assoc, Nat.xor_comm] at this
/-- A bit of a byte is the top one, some steps on. -/
theorem pow_step : ∀ j, j < 32 → stepN top (31 - j) = 2 ^ j := by decide
theorem crcB_zero (d : Nat) : crcB d 0 = stepN d 8 := by
  unfold crcB
  rw [Nat.xor_zero, ← steps8]
  rfl
theorem crcL_xor (l : List Nat) : ∀ c d, crcL (c ^^^ d) l = crcL c l ^^^ stepN d (8 * l.length) := by
  induction l with
  | nil => intro c d; rfl
  | cons x l ih =>
    intro c d
    show crcL (crcB (c ^^^ d) x) l = crcL (crcB c x) l ^^^ _
    have := crcB_xor c d x 0
    rw [Nat.xor_zero] at this
    rw [this, ih, crcB_zero, ← stepN_add, List.length_cons]
    congr 2
    omega
theorem crcL_set (l : List Nat) (e : Nat) : ∀ c i, (hi : i < l.length) → crcL c (l.set i (l[i] ^^^ e)) = crcL c l ^^^ stepN e (8 * (l.length - i)) := by
  induction l with
  | nil => intro c i hi; exact absurd hi (by simp)
  | cons x l ih =>
    intro c i hi
    cases i with
    | zero =>
      show crcL (crcB c (x ^^^ e)) l = crcL (crcB c x) l ^^^ _
      have := crcB_xor c 0 x e
      rw [Nat.xor_zero] at this
      have h0 : crcB 0 e = stepN e 8 := by
        rw [← crcB_zero]
        unfold crcB
        rw [Nat.zero_xor, Nat.xor_zero]
      rw [this, crcL_xor, h0, ← stepN_add, List.length_cons]
      congr 2
      omega
    | succ i =>
      have hi' : i < l.length := by simpa using hi
      show crcL (crcB c x) (l.set i (l[i] ^^^ e)) = crcL (crcB c x) l ^^^ _
      rw [ih _ i hi', List.length_cons]
      congr 3
      omega
end Go.Proofs.YtjcaieecafggiaaDoor.Crc
