/- The plain law of FrameTells: up to three bits that are turned about, or any within 32 in a row, are told. -/
import Derived.Test.YtjcaieecafggiaaDoorPureMakes
import Derived.Test.YtjcaieecafggiaaDoorDist
import Derived.Test.YtjcaieecafggiaaDoorPx1h
namespace Go.Proofs.YtjcaieecafggiaaDoor.Pure
open Go.RowKit Go.Proofs.YtjcaieecafggiaaDoor.Pr Go.Proofs.YtjcaieecafggiaaDoor.Px Go.Proofs.YtjcaieecafggiaaDoorW.PrintWords Go.Proofs.YtjcaieecafggiaaDoorW.PrintLast Go.Proofs.YtjcaieecafggiaaDoorW.PrintMore Go.Proofs.YtjcaieecafggiaaDoor.Crc
set_option linter.unusedVariables false
set_option linter.unusedSimpArgs false
theorem join_xor (i a a' b b' : Nat) (hb : b < 2 ^ i) (hb' : b' < 2 ^ i) : (2 ^ i * a + b) ^^^ (2 ^ i * a' + b') = 2 ^ i * (a ^^^ a') + (b ^^^ b') := by
  apply Nat.eq_of_testBit_eq
  intro j
  rw [Nat.testBit_xor, Nat.testBit_two_pow_mul_add _ hb, Nat.testBit_two_pow_mul_add _ hb', Nat.testBit_two_pow_mul_add _ (Nat.xor_lt_two_pow hb hb')]
  by_cases h : j < i
  · rw [if_pos h, if_pos h, if_pos h, Nat.testBit_xor]
  · rw [if_neg h, if_neg h, if_neg h, Nat.testBit_xor]
def flipB (x p : Nat) : Nat := x ^^^ 2 ^ (p % 8)
def flipL (x : List Int) (p : Nat) : List Int := x.set (4 + p / 8) ((flipB (x.getD (4 + p / 8) 0).toNat p : Nat) : Int)
def place (n p : Nat) : Nat := if p < 32 then 31 - ((3 - p / 8) * 8 + p % 8) else 31 + 8 * n - (p - 32)
def numN (e f g h : Nat) : Nat := 2 ^ 24 * e + (2 ^ 16 * f + (2 ^ 8 * g + h))
/-- How far the sum that a record has is from the one that it should have. -/
def syn : List Int → Nat
  | a :: b :: c :: d :: e :: f :: g :: h :: m => sumN (nat (a :: b :: c :: d :: m)) ^^^ numN e.toNat f.toNat g.toNat h.toNat
  | _ => 0
theorem eight {x : List Int} {n : Nat} (h : x.length = 8 + n) : ∃ a b c d e f g i m, x = a :: b :: c :: d :: e :: f :: g :: i :: m ∧ m.length = n := by
  rcases x with _ | ⟨a, _ | ⟨b, _ | ⟨c, _ | ⟨d, _ | ⟨e, _ | ⟨f, _ | ⟨g, _ | ⟨i, m⟩⟩⟩⟩⟩⟩⟩⟩ <;> simp only [List.length_cons, List.length_nil] at h <;> first | (exfalso; omega) | exact ⟨a, b, c, d, e, f, g, i, m, rfl, by omega⟩
theorem num_e (e f g h j : Nat) (he : e < 256) (hf : f < 256) (hg : g < 256) (hh : h < 256) : numN (e ^^^ 2 ^ j) f g h = numN e f g h ^^^ 2 ^ (24 + j) := by
  have := join_xor 24 e (2 ^ j) (2 ^ 16 * f + (2 ^ 8 * g + h)) 0 (by omega) (by omega)
  unfold numN
  rw [Nat.pow_add, show 2 ^ 24 * 2 ^ j = 2 ^ 24 * 2 ^ j + 0 from rfl, this, Nat.xor_zero]
theorem num_f (e f g h j : Nat) (he : e < 256) (hf : f < 256) (hg : g < 256) (hh : h < 256) (hj : j < 8) : numN e (f ^^^ 2 ^ j) g h = numN e f g h ^^^ 2 ^ (16 + j) := by
  have hp : 2 ^ j < 256 := Nat.pow_lt_pow_of_lt (a := 2) (by decide) hj
  have h1 := join_xor 16 f (2 ^ j) (2 ^ 8 * g + h) 0 (by omega) (by omega)
  have h2 := join_xor 24 e 0 (2 ^ 16 * f + (2 ^ 8 * g + h)) (2 ^ 16 * 2 ^ j + 0) (by omega) (by omega)
  rw [h1, Nat.xor_zero, Nat.xor_zero, Nat.mul_zero, Nat.zero_add, Nat.add_zero] at h2
  unfold numN
  rw [Nat.pow_add, h2]
theorem num_g (e f g h j : Nat) (he : e < 256) (hf : f < 256) (hg : g < 256) (hh : h < 256) (hj : j < 8) : numN e f (g ^^^ 2 ^ j) h = numN e f g h ^^^ 2 ^ (8 + j) := by
  have hp : 2 ^ j < 256 := Nat.pow_lt_pow_of_lt (a := 2) (by decide) hj
  have h0 := join_xor 8 g (2 ^ j) h 0 (by omega) (by omega)
  have h1 := join_xor 16 f 0 (2 ^ 8 * g + h) (2 ^ 8 * 2 ^ j + 0) (by omega) (by omega)
  rw [h0, Nat.xor_zero, Nat.xor_zero, Nat.mul_zero, Nat.zero_add, Nat.add_zero] at h1
  have h2 := join_xor 24 e 0 (2 ^ 16 * f + (2 ^ 8 * g + h)) (2 ^ 8 * 2 ^ j) (by omega) (by omega)
  rw [h1, Nat.xor_zero, Nat.mul_zero, Nat.zero_add] at h2
  unfold numN
  rw [Nat.pow_add, h2]
theorem num_h (e f g h j : Nat) (he : e < 256) (hf : f < 256) (hg : g < 256) (hh : h < 256) (hj : j < 8) : numN e f g (h ^^^ 2 ^ j) = numN e f g h ^^^ 2 ^ j := by
  have hp : 2 ^ j < 256 := Nat.pow_lt_pow_of_lt (a := 2) (by decide) hj
  have h0 := join_xor 8 g 0 h (2 ^ j) (by omega) (by omega)
  rw [Nat.xor_zero, Nat.mul_zero, Nat.zero_add] at h0
  have h1 := join_xor 16 f 0 (2 ^ 8 * g + h) (2 ^ j) (by omega) (by omega)
  rw [h0, Nat.xor_zero, Nat.mul_zero, Nat.zero_add] at h1
  have h2 := join_xor 24 e 0 (2 ^ 16 * f + (2 ^ 8 * g + h)) (2 ^ j) (by omega) (by omega)
  rw [h1, Nat.xor_zero, Nat.mul_zero, Nat.zero_add] at h2
  unfold numN
  rw [h2]
theorem flipB_lt {x : Nat} (p : Nat) (h : x < 256) : flipB x p < 256 := by
  unfold flipB
  have hp : 2 ^ (p % 8) < 256 := Nat.pow_lt_pow_of_lt (a := 2) (by decide) (show p % 8 < 8 by omega)
  exact Nat.xor_lt_two_pow (n := 8) h hp
theorem flipL_length (x : List Int) (p : Nat) : (flipL x p).length = x.length := by simp [flipL]
theorem flipL_bytes {x : List Int} {n : Nat} (h : Bytes x) (hl : x.length = 8 + n) (p : Nat) (hp : p < 8 * n + 32) : Bytes (flipL x p) := by
  intro y hy
  rcases List.mem_or_eq_of_mem_set hy with hy | rfl
  · exact h y hy
  · have hb := getD_byte h (show 4 + p / 8 < x.length by omega)
    have := flipB_lt p (show (x.getD (4 + p / 8) 0).toNat < 256 by omega)
    omega
theorem flipL_num4 {x : List Int} {n : Nat} (hl : x.length = 8 + n) (p : Nat) : num4 (flipL x p) = num4 x := by
  obtain ⟨a, b, c, d, e, f, g, i, m, rfl, hm⟩ := eight hl
  unfold flipL num4
  rw [show 4 + p / 8 = (p / 8) + 1 + 1 + 1 + 1 by omega]
  rfl
theorem xor_zero_iff (a b : Nat) : a ^^^ b = 0 ↔ a = b := by
  constructor
  · intro e
    have := congrArg (· ^^^ b) e
    simp only [Nat.xor_assoc, Nat.xor_self, Nat.xor_zero, Nat.zero_xor] at this
    exact this
  · rintro rfl
    exact Nat.xor_self _
theorem xor_swap (a b c : Nat) : a ^^^ (b ^^^ c) = a ^^^ b ^^^ c := (Nat.xor_assoc _ _ _).symm
theorem syn_flip {x : List Int} {n : Nat} (h : Bytes x) (hl : x.length = 8 + n) (p : Nat) (hp : p < 8 * n + 32) : syn (flipL x p) = syn x ^^^ stepN top (place n p) := by
  obtain ⟨a, b, c, d, e, f, g, i, m, rfl, hm⟩ := eight hl
  have he := h e (by simp)
  have hf := h f (by simp)
  have hg := h g (by simp)
  have hi := h i (by simp)
  by_cases c1 : p < 32
  · unfold place
    rw [if_pos c1]
    have hj : p % 8 < 8 := by omega
    have h8 : p / 8 = 0 ∨ p / 8 = 1 ∨ p / 8 = 2 ∨ p / 8 = 3 := by omega
    rw [pow_step _ (by omega)]
    unfold flipL
    rcases h8 with h8 | h8 | h8 | h8 <;> rw [h8]
    · show sumN _ ^^^ numN (((flipB e.toNat p : Nat) : Int)).toNat _ _ _ = _
      rw [Int.toNat_natCast]
      unfold flipB
      rw [num_e _ _ _ _ _ (by omega) (by omega) (by omega) (by omega), xor_swap]
      rfl
    · show sumN _ ^^^ numN _ (((flipB f.toNat p : Nat) : Int)).toNat _ _ = _
      rw [Int.toNat_natCast]
      unfold flipB
      rw [num_f _ _ _ _ _ (by omega) (by omega) (by omega) (by omega) hj, xor_swap]
      rfl
    · show sumN _ ^^^ numN _ _ (((flipB g.toNat p : Nat) : Int)).toNat _ = _
      rw [Int.toNat_natCast]
      unfold flipB
      rw [num_g _ _ _ _ _ (by omega) (by omega) (by omega) (by omega) hj, xor_swap]
      rfl
    · show sumN _ ^^^ numN _ _ _ (((flipB i.toNat p : Nat) : Int)).toNat = _
      rw [Int.toNat_natCast]
      unfold flipB
      rw [num_h _ _ _ _ _ (by omega) (by omega) (by omega) (by omega) hj, xor_swap, show (3 - 3) * 8 + p % 8 = p % 8 by omega]
      rfl
  · unfold place
    rw [if_neg c1]
    obtain ⟨q, rfl⟩ : ∃ q, p = q + 32 := ⟨p - 32, by omega⟩
    have hq : q / 8 < m.length := by omega
    have e1 : flipL (a :: b :: c :: d :: e :: f :: g :: i :: m) (q + 32) = a :: b :: c :: d :: e :: f :: g :: i :: m.set (q / 8) ((flipB (m.getD (q / 8) 0).toNat q : Nat) : Int) := by
      unfold flipL flipB
      rw [show 4 + (q + 32) / 8 = (q / 8) + 1 + 1 + 1 + 1 + 1 + 1 + 1 + 1 by omega, show (q + 32) % 8 = q % 8 by omega]
      rfl
    have hx : m.getD (q / 8) 0 = m[q / 8] := by rw [List.getD_eq_getElem?_getD, List.getElem?_eq_getElem hq]; rfl
    have e2 : nat (a :: b :: c :: d :: m.set (q / 8) ((flipB (m.getD (q / 8) 0).toNat q : Nat) : Int)) = (nat (a :: b :: c :: d :: m)).set (4 + q / 8) ((nat (a :: b :: c :: d :: m))[4 + q / 8]'(by simp [nat]; omega) ^^^ 2 ^ (q % 8)) := by
      have e3 : (nat (a :: b :: c :: d :: m))[4 + q / 8]'(by simp [nat]; omega) = (m[q / 8]).toNat := by
        simp only [nat, List.getElem_map]
        congr 1
        rw [List.getElem_cons, dif_neg (by omega), List.getElem_cons, dif_neg (by omega), List.getElem_cons, dif_neg (by omega), List.getElem_cons, dif_neg (by omega)]
        congr 1
        omega
      rw [e3, hx, show 4 + q / 8 = (q / 8) + 1 + 1 + 1 + 1 by omega]
      unfold nat flipB
      simp only [List.map_cons, List.set_cons_succ, List.map_set, Int.toNat_natCast]
    rw [e1]
    show sumN (nat (a :: b :: c :: d :: m.set (q / 8) _)) ^^^ numN _ _ _ _ = (sumN (nat (a :: b :: c :: d :: m)) ^^^ numN _ _ _ _) ^^^ _
    unfold sumN
    rw [e2, crcL_set]
    have e4 : (nat (a :: b :: c :: d :: m)).length - (4 + q / 8) = n - q / 8 := by simp [nat]; omega
    have e5 : stepN (2 ^ (q % 8)) (8 * (n - q / 8)) = stepN top (31 + 8 * n - (q + 32 - 32)) := by
      rw [← pow_step (q % 8) (by omega), ← stepN_add]
      congr 1
      omega
    rw [e4, e5]
    generalize crcL 4294967295 (nat (a :: b :: c :: d :: m)) = X
    generalize numN e.toNat f.toNat g.toNat i.toNat = Y
    generalize stepN top _ = Z
    apply Nat.eq_of_testBit_eq
    intro j
    simp only [Nat.testBit_xor]
    cases Nat.testBit 4294967295 j <;> cases X.testBit j <;> cases Y.testBit j <;> cases Z.testBit j <;> rfl
theorem syn_frame (l : List Int) (h : Bytes l) : syn (frameL l) = 0 := by
  have hs := sumL_range (fourL (l.length : Int) ++ l) (bytes_app (bytes_four _) h)
  have e : syn (frameL l) = sumN (nat (fourL (l.length : Int) ++ l)) ^^^ numN ((sumL (fourL (l.length : Int) ++ l) / 16777216) % 256).toNat ((sumL (fourL (l.length : Int) ++ l) / 65536) % 256).toNat ((sumL (fourL (l.length : Int) ++ l) / 256) % 256).toNat (sumL (fourL (l.length : Int) ++ l) % 256).toNat := rfl
  rw [e]
  have e2 : ((sumN (nat (fourL (l.length : Int) ++ l)) : Nat) : Int) = sumL (fourL (l.length : Int) ++ l) := rfl
  generalize sumL (fourL (l.length : Int) ++ l) = s at *
  have : numN ((s / 16777216) % 256).toNat ((s / 65536) % 256).toNat ((s / 256) % 256).toNat (s % 256).toNat = sumN (nat (fourL (l.length : Int) ++ l)) := by
    unfold numN
    omega
  rw [this, Nat.xor_self]
/-- What the program's First says of a record of the right length. -/
theorem First_told (x : List Int) (n : Nat) (h : Bytes x) (hl : x.length = 8 + n) (hn : num4 x = (n : Int)) (hn64 : n ≤ 64) : ∃ r m, frame_First.f x = some (r, m, if syn x = 0 then 0 else 4) := by
  obtain ⟨a, b, c, d, e, f, g, i, m, rfl, hm⟩ := eight hl
  have he := h e (by simp)
  have hf := h f (by simp)
  have hg := h g (by simp)
  have hi := h i (by simp)
  have e8 : (8 + (n : Int)).toNat = (a :: b :: c :: d :: e :: f :: g :: i :: m).length := by omega
  have e4 : num4 ((a :: b :: c :: d :: e :: f :: g :: i :: m).drop 4) = ((numN e.toNat f.toNat g.toNat i.toNat : Nat) : Int) := by
    show ((e * 256 + f) * 256 + g) * 256 + i = _
    unfold numN
    omega
  have ex : (a :: b :: c :: d :: e :: f :: g :: i :: m).take 4 ++ ((a :: b :: c :: d :: e :: f :: g :: i :: m).drop 8) = a :: b :: c :: d :: m := rfl
  have hb : Bytes (a :: b :: c :: d :: m) := by rw [← ex]; exact bytes_app (bytes_take h 4) (bytes_drop h 8)
  have hs : frame_sum.f [(a :: b :: c :: d :: e :: f :: g :: i :: m).take 4, (a :: b :: c :: d :: e :: f :: g :: i :: m).drop 8] = some ((sumN (nat (a :: b :: c :: d :: m)) : Nat) : Int) := by
    have := sum_eq [(a :: b :: c :: d :: e :: f :: g :: i :: m).take 4, (a :: b :: c :: d :: e :: f :: g :: i :: m).drop 8] (by simpa using hb)
    rw [this]
    simp
  have key : (((sumN (nat (a :: b :: c :: d :: m)) : Nat) : Int) = ((numN e.toNat f.toNat g.toNat i.toNat : Nat) : Int)) ↔ syn (a :: b :: c :: d :: e :: f :: g :: i :: m) = 0 := by
    show _ ↔ sumN (nat (a :: b :: c :: d :: m)) ^^^ numN e.toNat f.toNat g.toNat i.toNat = 0
    rw [xor_zero_iff]
    omega
  unfold frame_First.f frame_first.f
  rw [if_neg (by omega), number_eq _ h (by omega), hn]
  simp only [Option.bind_some]
  rw [if_neg (by omega), if_neg (by omega), e8, List.take_length, hs, number_eq _ (bytes_drop h 4) (by simp), e4]
  simp only [Option.bind_some]
  by_cases hq : syn (a :: b :: c :: d :: e :: f :: g :: i :: m) = 0
  · rw [if_pos (key.2 hq), if_pos hq]
    exact ⟨_, _, rfl⟩
  · rw [if_neg (fun e => hq (key.1 e)), if_neg hq]
    exact ⟨_, _, rfl⟩
theorem tmod_nat (a b : Nat) : Int.tmod (a : Int) (b : Int) = ((a % b : Nat) : Int) := rfl
theorem turn_eq (x : List Int) (n k : Nat) (h : Bytes x) (hl : x.length = 8 + n) (hn : n ≤ 64) : minstrellaw06_turn.f x (k : Int) = some (flipL x (k % (8 * n + 32))) := by
  have hM : wrap64 (8 * wrap64 ((x.length : Int) - 4)) = ((8 * n + 32 : Nat) : Int) := by rw [hl]; unfold wrap64; omega
  have hp : k % (8 * n + 32) < 8 * n + 32 := Nat.mod_lt _ (by omega)
  generalize hpe : k % (8 * n + 32) = p at *
  have h2 : wrap64 (4 + wrap64 (Int.tdiv (Int.tmod (k : Int) ((8 * n + 32 : Nat) : Int)) 8)) = ((4 + p / 8 : Nat) : Int) := by
    rw [tmod_nat, hpe, show Int.tdiv (p : Int) 8 = ((p / 8 : Nat) : Int) from rfl]
    unfold wrap64
    omega
  have h3 : IntKind.u64.wrap (Int.tmod (Int.tmod (k : Int) ((8 * n + 32 : Nat) : Int)) 8) = ((p % 8 : Nat) : Int) := by
    rw [tmod_nat, hpe, show Int.tmod (p : Int) 8 = ((p % 8 : Nat) : Int) from rfl]
    exact wrap_j _ (by omega)
  have hb := getD_byte h (show 4 + p / 8 < x.length by omega)
  have hpow : 2 ^ (p % 8) < 256 := Nat.pow_lt_pow_of_lt (a := 2) (by decide) (show p % 8 < 8 by omega)
  have h4 : shl .u8 1 ((p % 8 : Nat) : Int) = ((2 ^ (p % 8) : Nat) : Int) := by
    have : ∀ j, j < 8 → shl .u8 1 ((j : Nat) : Int) = ((2 ^ j : Nat) : Int) := by decide
    exact this _ (by omega)
  unfold minstrellaw06_turn.f
  simp only [hM, h2, h3, h4]
  rw [if_neg (by omega), if_pos (by omega), if_pos (by omega), if_pos (by omega), Int.toNat_natCast]
  unfold flipL flipB rd
  rw [Int.toNat_natCast]
  obtain ⟨y, hy⟩ := Int.eq_ofNat_of_zero_le hb.1
  rw [hy, Int.toNat_natCast, u8_xor_nat y _ (by omega) hpow]
/-- What all texts that come of a frame by turning bits about have in common. -/
structure Like (n : Nat) (x : List Int) : Prop where
  bytes : Bytes x
  len : x.length = 8 + n
  num : num4 x = (n : Int)
theorem Like.flip {n : Nat} {x : List Int} (h : Like n x) (p : Nat) (hp : p < 8 * n + 32) : Like n (flipL x p) :=
  ⟨flipL_bytes h.bytes h.len p hp, by rw [flipL_length]; exact h.len, by rw [flipL_num4 h.len]; exact h.num⟩
theorem like_frame (l : List Int) (h : Bytes l) (hl : l.length ≤ 64) : Like l.length (frameL l) := by
  refine ⟨bytes_frame h, frameL_length l, ?_⟩
  have : num4 (frameL l) = num4 (fourL (l.length : Int)) := rfl
  rw [this]
  exact num_four _ (by omega) (by omega)
theorem place_lt (n p : Nat) (hn : n ≤ 64) (hp : p < 8 * n + 32) : place n p < 544 := by
  unfold place
  split <;> omega
/-- The test of the law: told just where another text came out. -/
theorem told (n : Nat) (hn : n ≤ 64) (f x : List Int) (hf : Like n f) (hx : Like n x) (hf0 : syn f = 0) (h : syn x ≠ 0 ∨ x = f) : ∃ r m c, frame_First.f x = some (r, m, c) ∧ ((c == 4) == ((strOfNums x).toList != (strOfNums f).toList)) = true := by
  obtain ⟨r, m, e⟩ := First_told x n hx.bytes hx.len hx.num hn
  refine ⟨r, m, _, e, ?_⟩
  by_cases hs : syn x = 0
  · rw [if_pos hs]
    rcases h with h | h
    · exact absurd hs h
    · rw [h]
      simp
  · rw [if_neg hs]
    have hne : (strOfNums x).toList ≠ (strOfNums f).toList := fun e => by
      have := str_inj hx.bytes hf.bytes (toList_inj e)
      rw [this] at hs
      exact hs hf0
    simp [hne]
theorem own_eq (l : List Int) (hl : l.length ≤ 2000000) : minstrellaw06_own.f l = some l := by
  unfold minstrellaw06_own.f
  simp only [Option.bind_some, List.nil_append, List.length_nil]
  rw [if_pos (by omega)]
theorem tells_end (n : Nat) (hn : n ≤ 64) (l2 l3 f g h : List Int) (t i : Int) (hf : Like n f) (hg : Like n g) (hh : Like n h) (hf0 : syn f = 0) (h1 : syn g ≠ 0 ∨ g = f) (h2 : syn h ≠ 0 ∨ h = f) (k : Nat) :
    minstrellaw06_FrameTells.j3 (k + 1) l2 l3 f g h t i false = some true := by
  obtain ⟨r1, m1, c1, e1, t1⟩ := told n hn f g hf hg hf0 h1
  obtain ⟨r2, m2, c2, e2, t2⟩ := told n hn f h hf hh hf0 h2
  have lg := hg.len
  have lh := hh.len
  simp only [minstrellaw06_FrameTells.j3]
  rw [if_neg (by decide), own_eq g (by omega)]
  simp only [Option.bind_some]
  rw [e1]
  simp only [Option.bind_some]
  rw [own_eq h (by omega)]
  simp only [Option.bind_some]
  rw [e2]
  simp only [Option.bind_some]
  rw [if_pos t1, if_pos t2, lives_true]
  rfl
theorem pow_xor (m i : Nat) (h : m < 2 ^ i) : m ^^^ 2 ^ i = 2 ^ i + m := by
  have := join_xor i 0 1 m 0 h (Nat.two_pow_pos i)
  rw [Nat.mul_zero, Nat.zero_add, Nat.mul_one, Nat.add_zero, Nat.zero_xor, Nat.xor_zero, Nat.mul_one] at this
  exact this
theorem wrap_i (j : Nat) (hj : j < 32) : IntKind.u64.wrap (j : Int) = (j : Int) := by
  have : (j : Int) % 18446744073709551616 = j := by omega
  simpa [IntKind.wrap, IntKind.bits, IntKind.signed] using this
theorem wrap_qi (q i : Nat) (h : q + i < 600) : wrap64 (wrap64 (32 + (q : Int)) + (i : Int)) = ((q + i + 32 : Nat) : Int) := by unfold wrap64; omega
theorem wrap_q (q i : Nat) (h : q + i < 600) : wrap64 ((q : Int) + (i : Int)) = ((q + i : Nat) : Int) := by unfold wrap64; omega
/-- The run of bits: what was turned about ahead of the i-th one. -/
theorem tells_run (n : Nat) (hn : n ≤ 64) (l2 l3 f g : List Int) (hl2 : l2.length = 1) (hl3 : l3.length = 1) (F : Nat) (hF : rd l2 0 = (F : Int)) (hF16 : F ≤ 65535) (hf : Like n f) (hg : Like n g) (hf0 : syn f = 0) (h1 : syn g ≠ 0 ∨ g = f) :
    ∀ d i : Nat, i + d = 32 → ∀ (h : List Int) (m : Nat), Like n h → m < 2 ^ i → syn h = stepN m (8 * n - F % (8 * n)) → (m = 0 → h = f) → ∃ k, minstrellaw06_FrameTells.l1 k l2 l3 f g h ((8 * n : Nat) : Int) (i : Int) = some true := by
  have fin : ∀ h m, syn h = stepN m (8 * n - F % (8 * n)) → m < 4294967296 → (m = 0 → h = f) → (syn h ≠ 0 ∨ h = f) := by
    intro h m hs hm hz
    by_cases c : m = 0
    · exact .inr (hz c)
    · refine .inl ?_
      rw [hs]
      exact stepN_ne hm c _
  have hwF : Aside0 (wrap64 (rd l2 0) = (F : Int)) := ⟨by rw [hF]; unfold wrap64; omega⟩
  clear hF
  intro d
  induction d with
  | zero =>
    intro i hi h m hh hm hs hz
    obtain rfl : i = 32 := by omega
    refine ⟨2, ?_⟩
    simp only [minstrellaw06_FrameTells.l1]
    rw [if_neg (by omega)]
    exact tells_end n hn l2 l3 f g h _ _ hf hg hh hf0 h1 (fin h m hs (by omega) hz) 0
  | succ d ih =>
    intro i hi h m hh hm hs hz
    have Hs := Aside0.mk hs
    have Hs' := Aside0.mk hs
    clear hs
    have hw1 : Aside0 (wrap64 ((i : Int) + 1) = ((i + 1 : Nat) : Int)) := ⟨wrap_small i (Nat.lt_of_le_of_lt (Nat.le.intro hi) (by decide))⟩
    have hi32 : i ≤ 32 := Nat.le.intro hi
    have hm32 : m < 4294967296 := by
      have h1 : 2 ^ i ≤ 2 ^ 32 := Nat.pow_le_pow_right (by decide) hi32
      exact Nat.lt_of_lt_of_le hm h1
    have Hm := Aside0.mk hm
    clear hm
    have Hz := Aside0.mk hz
    clear hz
    by_cases hn0 : n = 0
    · refine ⟨2, ?_⟩
      simp only [minstrellaw06_FrameTells.l1]
      rw [if_pos (by omega), if_neg (by omega)]
      exact tells_end n hn l2 l3 f g h _ _ hf hg hh hf0 h1 (fin h m Hs'.out hm32 Hz.out) 0
    · have hq : F % (8 * n) < 8 * n := Nat.mod_lt _ (by omega)
      have ht : Aside0 (Int.tmod (F : Int) ((8 * n : Nat) : Int) = ((F % (8 * n) : Nat) : Int)) := ⟨rfl⟩
      generalize F % (8 * n) = q at *
      have hw : Aside0 (wrap64 ((q : Int) + (i : Int)) = ((q + i : Nat) : Int)) := ⟨wrap_q q i (by omega)⟩
      by_cases c : q + i < 8 * n
      · by_cases hb0 : Go.bits .and .u32 (shr .u32 (rd l3 0) (i : Int)) 1 = 1
        · have hb := Aside0.mk hb0
          clear hb0
          have hp : (q + i + 32) < 8 * n + 32 := by omega
          have hw2 : Aside0 (wrap64 (wrap64 (32 + (q : Int)) + (i : Int)) = ((q + i + 32 : Nat) : Int)) := ⟨wrap_qi q i (by omega)⟩
          have Hs2 : Aside0 (syn (flipL h (q + i + 32)) = stepN (m ^^^ 2 ^ i) (8 * n - q)) := by
            refine ⟨?_⟩
            rw [syn_flip hh.bytes hh.len _ hp, Hs.out, stepN_xor, ← pow_step i (by omega), ← stepN_add]
            unfold place
            rw [if_neg (by omega)]
            congr 2
            omega
          have hm' := pow_xor m i Hm.out
          have hpos := Nat.two_pow_pos i
          have hi' : m ^^^ 2 ^ i < 2 ^ (i + 1) := by have := Hm.out; rw [hm', Nat.pow_succ]; omega
          have hz' : m ^^^ 2 ^ i = 0 → flipL h (q + i + 32) = f := by rw [hm']; intro e; omega
          have hi1 : i + 1 + d = 32 := by omega
          have hh' := hh.flip _ hp
          generalize hfe : flipL h (q + i + 32) = h' at Hs2 hz' hh'
          generalize m ^^^ 2 ^ i = m' at Hs2 hz' hi'
          obtain ⟨k, hk⟩ := ih (i + 1) hi1 h' m' hh' hi' Hs2.out hz'
          refine ⟨k + 2, ?_⟩
          simp only [minstrellaw06_FrameTells.l1]
          rw [if_pos (by omega), if_pos (by omega), if_pos (by omega), if_neg (by omega), hwF.out, ht.out, hw.out, decide_eq_true (show ((q + i : Nat) : Int) < ((8 * n : Nat) : Int) by omega)]
          simp only [minstrellaw06_FrameTells.j3]
          rw [if_pos trivial, if_pos (by omega), wrap_i i (by omega), if_pos (by omega), if_pos hb.out, if_pos (by omega), if_neg (by omega), hwF.out, ht.out, hw2.out, turn_eq h n _ hh.bytes hh.len hn, Nat.mod_eq_of_lt hp]
          simp only [Option.bind_some]
          rw [hw1.out, hfe]
          exact hk
        · have hb := Aside0.mk hb0
          clear hb0
          obtain ⟨k, hk⟩ := ih (i + 1) (by omega) h m hh (Nat.lt_of_lt_of_le Hm.out (Nat.pow_le_pow_right (by decide) (Nat.le_succ i))) Hs.out Hz.out
          refine ⟨k + 2, ?_⟩
          simp only [minstrellaw06_FrameTells.l1]
          rw [if_pos (by omega), if_pos (by omega), if_pos (by omega), if_neg (by omega), hwF.out, ht.out, hw.out, decide_eq_true (show ((q + i : Nat) : Int) < ((8 * n : Nat) : Int) by omega)]
          simp only [minstrellaw06_FrameTells.j3]
          rw [if_pos trivial, if_pos (by omega), wrap_i i (by omega), if_pos (by omega), if_neg hb.out, hw1.out]
          exact hk
      · refine ⟨2, ?_⟩
        simp only [minstrellaw06_FrameTells.l1]
        rw [if_pos (by omega), if_pos (by omega), if_pos (by omega), if_neg (by omega), hwF.out, ht.out, hw.out, decide_eq_false (show ¬ ((q + i : Nat) : Int) < ((8 * n : Nat) : Int) by omega)]
        exact tells_end n hn l2 l3 f g h _ _ hf hg hh hf0 h1 (fin h m Hs'.out hm32 Hz.out) 0
theorem FrameTells (l0 l1 l2 l3 : List Int) (h0 : Bytes l0) (hn : l0.length ≤ 64) (hl1 : l1.length = 3) (hl2 : l2.length = 1) (hl3 : l3.length = 1) (A B C F : Nat) (hA : rd l1 0 = (A : Int)) (hB : rd l1 1 = (B : Int)) (hC : rd l1 2 = (C : Int)) (hA16 : A ≤ 65535) (hB16 : B ≤ 65535) (hC16 : C ≤ 65535) (hF : rd l2 0 = (F : Int)) (hF16 : F ≤ 65535) : ∃ k, minstrellaw06_FrameTells.f k l0 l1 l2 l3 = some true := by
  have hf := like_frame l0 h0 hn
  have hf0 := syn_frame l0 h0
  have hlen := frameL_length l0
  generalize hne : l0.length = n at *
  have pA : A % (8 * n + 32) < 8 * n + 32 := Nat.mod_lt _ (by omega)
  have pB : B % (8 * n + 32) < 8 * n + 32 := Nat.mod_lt _ (by omega)
  have pC : C % (8 * n + 32) < 8 * n + 32 := Nat.mod_lt _ (by omega)
  have hg1 := hf.flip _ pA
  have hg2 := hg1.flip _ pB
  have hg3 := hg2.flip _ pC
  have hs : syn (flipL (flipL (flipL (frameL l0) (A % (8 * n + 32))) (B % (8 * n + 32))) (C % (8 * n + 32))) ≠ 0 := by
    rw [syn_flip hg2.bytes hg2.len _ pC, syn_flip hg1.bytes hg1.len _ pB, syn_flip hf.bytes hf.len _ pA, hf0, Nat.zero_xor]
    exact three_ne _ _ _ (place_lt n _ hn pA) (place_lt n _ hn pB) (place_lt n _ hn pC)
  obtain ⟨k, hk⟩ := tells_run n hn l2 l3 (frameL l0) _ hl2 hl3 F hF hF16 hf hg3 hf0 (.inl hs) 32 0 (by omega) (frameL l0) 0 hf (by decide) (by rw [hf0, stepN_zero]) (fun _ => rfl)
  refine ⟨k + 1 + 1 + 1 + 1 + 1, ?_⟩
  unfold minstrellaw06_FrameTells.f
  rw [own_eq l0 (by omega)]
  simp only [Option.bind_some]
  rw [Frame_eq l0 h0 (by omega)]
  simp only [Option.bind_some]
  rw [if_pos trivial, decide_eq_false (by omega)]
  have w : ∀ X : Nat, X ≤ 65535 → wrap64 (X : Int) = (X : Int) := fun X h => by unfold wrap64; omega
  simp only [minstrellaw06_FrameTells.j0]
  rw [if_neg (by decide), own_eq _ (by omega)]
  simp only [Option.bind_some]
  simp only [minstrellaw06_FrameTells.l0]
  rw [if_pos (by decide), if_pos (by decide), if_pos (by omega), hA, w A hA16, turn_eq _ n _ hf.bytes hf.len hn]
  simp only [Option.bind_some]
  rw [show wrap64 (0 + 1) = 1 from by unfold wrap64; omega, if_pos (by decide), if_pos (by decide), if_pos (by omega), hB, w B hB16, turn_eq _ n _ hg1.bytes hg1.len hn]
  simp only [Option.bind_some]
  rw [show wrap64 (1 + 1) = 2 from by unfold wrap64; omega, if_pos (by decide), if_pos (by decide), if_pos (by omega), hC, w C hC16, turn_eq _ n _ hg2.bytes hg2.len hn]
  simp only [Option.bind_some]
  rw [show wrap64 (2 + 1) = 3 from by unfold wrap64; omega, if_neg (by decide), own_eq _ (by omega)]
  simp only [Option.bind_some]
  rw [show wrap64 (8 * wrap64 (((frameL l0).length : Int) - 8)) = ((8 * n : Nat) : Int) by rw [hlen]; unfold wrap64; omega]
  exact hk
end Go.Proofs.YtjcaieecafggiaaDoor.Pure
