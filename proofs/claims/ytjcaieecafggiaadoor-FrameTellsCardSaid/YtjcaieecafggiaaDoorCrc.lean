/- The sum of bytes, bit by bit and four bits at once, over natural numbers: no program in sight. -/
import Derived.Laws.BitsAllLaws
namespace Go.Proofs.YtjcaieecafggiaaDoor.Crc
def poly : Nat := 3988292384
/-- One bit's step. -/
def step (c : Nat) : Nat := (c >>> 1) ^^^ (if c % 2 = 1 then poly else 0)
def tab : List Nat := [0, 498536548, 997073096, 651767980, 1994146192, 1802195444, 1303535960, 1342533948, 3988292384, 4027552580, 3604390888, 3412177804, 2607071920, 2262029012, 2685067896, 3183342108]
def nib (c : Nat) : Nat := (c / 16) ^^^ tab.getD (c % 16) 0
def crcB (c x : Nat) : Nat := nib (nib (c ^^^ x))
theorem xor_self_zero (a : Nat) : a ^^^ a = 0 := Nat.xor_self a
theorem xor_mod_two (a b : Nat) : (a ^^^ b) % 2 = (a % 2 ^^^ b % 2) := by
  have h := Nat.testBit_xor a b 0
  simp only [Nat.testBit_zero] at h
  rcases Nat.mod_two_eq_zero_or_one a with ha | ha <;> rcases Nat.mod_two_eq_zero_or_one b with hb | hb <;> rcases Nat.mod_two_eq_zero_or_one (a ^^^ b) with hc | hc <;> simp [ha, hb, hc] at h ⊢
theorem step_xor (a b : Nat) : step (a ^^^ b) = step a ^^^ step b := by
  unfold step
  rw [Nat.shiftRight_xor_distrib, xor_mod_two]
  rcases Nat.mod_two_eq_zero_or_one a with ha | ha <;> rcases Nat.mod_two_eq_zero_or_one b with hb | hb <;> simp only [ha, hb]
  · simp
  · simp [Nat.xor_assoc]
  · simp
    rw [Nat.xor_assoc, Nat.xor_assoc, Nat.xor_comm poly]
  · simp
    have : a >>> 1 ^^^ poly ^^^ (b >>> 1 ^^^ poly) = (a >>> 1 ^^^ b >>> 1) ^^^ (poly ^^^ poly) := by
      rw [Nat.xor_assoc, Nat.xor_assoc]
      congr 1
      rw [← Nat.xor_assoc, Nat.xor_comm poly, Nat.xor_assoc]
    rw [this, Nat.xor_self, Nat.xor_zero]
theorem step_even (q : Nat) : step (2 * q) = q := by
  unfold step
  have h : 2 * q % 2 = 0 := by omega
  rw [if_neg (by omega), Nat.xor_zero, Nat.shiftRight_eq_div_pow]
  omega
theorem step_zero : step 0 = 0 := rfl
theorem steps4_small : ∀ r, r < 16 → step (step (step (step r))) = tab.getD r 0 := by decide
theorem split16 (c : Nat) : c = (16 * (c / 16)) ^^^ (c % 16) := by
  have h : 16 * (c / 16) + c % 16 = c := Nat.div_add_mod c 16
  have h2 := Nat.two_pow_add_eq_or_of_lt (i := 4) (show c % 16 < 2 ^ 4 by omega) (c / 16)
  have h3 : (16 * (c / 16)) &&& (c % 16) = 0 := by
    apply Nat.eq_of_testBit_eq
    intro i
    rw [Nat.testBit_and, Nat.zero_testBit]
    by_cases hi : i < 4
    · have : (16 * (c / 16)).testBit i = false := by
        rw [show 16 * (c / 16) = 2 ^ 4 * (c / 16) from rfl, Nat.testBit_two_pow_mul]
        simp; omega
      simp [this]
    · have : (c % 16).testBit i = false := by
        apply Nat.testBit_lt_two_pow
        have : 2 ^ 4 ≤ 2 ^ i := Nat.pow_le_pow_right (by decide) (by omega)
        omega
      simp [this]
  apply Nat.eq_of_testBit_eq
  intro i
  have h4 : c.testBit i = (16 * (c / 16) ||| c % 16).testBit i := by
    rw [← h2]
    show c.testBit i = (16 * (c / 16) + c % 16).testBit i
    rw [h]
  have h5 : ((16 * (c / 16)) &&& (c % 16)).testBit i = false := by rw [h3, Nat.zero_testBit]
  rw [h4, Nat.testBit_or, Nat.testBit_xor]
  rw [Nat.testBit_and] at h5
  cases hA : (16 * (c / 16)).testBit i <;> cases hB : (c % 16).testBit i <;> rw [hA, hB] at h5 <;> first | rfl | exact absurd h5 (by decide)
theorem steps4 (c : Nat) : step (step (step (step c))) = nib c := by
  conv => lhs; rw [split16 c]
  rw [step_xor, step_xor, step_xor, step_xor, steps4_small (c % 16) (by omega)]
  rw [show 16 * (c / 16) = 2 * (2 * (2 * (2 * (c / 16)))) by omega, step_even, step_even, step_even, step_even]
  rfl
theorem steps8 (c : Nat) : step (step (step (step (step (step (step (step c))))))) = nib (nib c) := by rw [steps4, steps4]
/-- One bit of a byte, as the document has it. -/
def bitIn (c x k : Nat) : Nat := if c % 2 = (x >>> k) % 2 then c >>> 1 else (c >>> 1) ^^^ poly
theorem bitIn_step (c x k : Nat) : step (c ^^^ (x >>> k)) = bitIn c x k ^^^ (x >>> (k + 1)) := by
  unfold step bitIn
  rw [Nat.shiftRight_xor_distrib, xor_mod_two, ← Nat.shiftRight_add]
  rcases Nat.mod_two_eq_zero_or_one c with hc | hc <;> rcases Nat.mod_two_eq_zero_or_one (x >>> k) with hx | hx <;> simp only [hc, hx]
  · simp
  · rw [if_pos (by decide), if_neg (by decide), Nat.xor_assoc, Nat.xor_assoc, Nat.xor_comm _ poly]
  · rw [if_pos (by decide), if_neg (by decide), Nat.xor_assoc, Nat.xor_assoc, Nat.xor_comm _ poly]
  · simp
def bitsIn (c x : Nat) : Nat → Nat
  | 0 => c
  | k + 1 => bitIn (bitsIn c x k) x k
def stepN (c : Nat) : Nat → Nat
  | 0 => c
  | k + 1 => step (stepN c k)
theorem bitsIn_stepN (c x : Nat) : ∀ k, stepN (c ^^^ x) k = bitsIn c x k ^^^ (x >>> k)
  | 0 => rfl
  | k + 1 => by rw [stepN, bitsIn_stepN c x k, bitIn_step, bitsIn]
theorem bitsIn_byte (c x : Nat) (hx : x < 256) : bitsIn c x 8 = crcB c x := by
  have h := bitsIn_stepN c x 8
  have h0 : x >>> 8 = 0 := by rw [Nat.shiftRight_eq_div_pow]; omega
  rw [h0, Nat.xor_zero] at h
  rw [← h]
  exact steps8 (c ^^^ x)
theorem step_lt {c : Nat} (h : c < 4294967296) : step c < 4294967296 := by
  unfold step
  have h1 : c >>> 1 < 2 ^ 32 := by rw [Nat.shiftRight_eq_div_pow]; omega
  split
  · exact Nat.xor_lt_two_pow h1 (by decide)
  · rw [Nat.xor_zero]; exact h1
theorem bitIn_lt {c : Nat} (x k : Nat) (h : c < 4294967296) : bitIn c x k < 4294967296 := by
  unfold bitIn
  have h1 : c >>> 1 < 2 ^ 32 := by rw [Nat.shiftRight_eq_div_pow]; omega
  split
  · exact h1
  · exact Nat.xor_lt_two_pow h1 (by decide)
theorem nib_lt {c : Nat} (h : c < 4294967296) : nib c < 4294967296 := by
  rw [← steps4]
  exact step_lt (step_lt (step_lt (step_lt h)))
theorem crcB_lt {c x : Nat} (h : c < 4294967296) (hx : x < 256) : crcB c x < 4294967296 :=
  nib_lt (nib_lt (Nat.xor_lt_two_pow (n := 32) h (by omega)))
def crcL (c : Nat) (l : List Nat) : Nat := l.foldl crcB c
theorem crcL_lt {l : List Nat} (hl : ∀ x ∈ l, x < 256) : ∀ {c : Nat}, c < 4294967296 → crcL c l < 4294967296 := by
  induction l with
  | nil => intro c h; exact h
  | cons x l ih => intro c h; exact ih (fun y hy => hl y (List.mem_cons_of_mem _ hy)) (crcB_lt h (hl x List.mem_cons_self))
theorem crcL_append (c : Nat) (l m : List Nat) : crcL c (l ++ m) = crcL (crcL c l) m := by simp [crcL]
theorem nib_xor (a b : Nat) : nib (a ^^^ b) = nib a ^^^ nib b := by rw [← steps4, ← steps4, ← steps4, step_xor, step_xor, step_xor, step_xor]
theorem crcB_xor (a b x y : Nat) : crcB (a ^^^ b) (x ^^^ y) = crcB a x ^^^ crcB b y := by
  unfold crcB
  rw [← nib_xor, ← nib_xor]
  congr 2
  rw [Nat.xor_assoc, Nat.xor_assoc]
  congr 1
  rw [← Nat.xor_assoc, Nat.xor_comm b x, Nat.xor_assoc]
end Go.Proofs.YtjcaieecafggiaaDoor.Crc
