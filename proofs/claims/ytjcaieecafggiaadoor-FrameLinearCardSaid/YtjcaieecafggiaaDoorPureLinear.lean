/- The plain law of FrameLinear: sums of texts of one length are put together bit by bit. -/
import Derived.Test.YtjcaieecafggiaaDoorPureFrame
import Derived.Test.YtjcaieecafggiaaDoorPt1
namespace Go.Proofs.YtjcaieecafggiaaDoor.Pure
open Go.RowKit Go.Proofs.YtjcaieecafggiaaDoor.Pr Go.Proofs.YtjcaieecafggiaaDoor.Pt Go.Proofs.YtjcaieecafggiaaDoorW.PrintWords Go.Proofs.YtjcaieecafggiaaDoorW.PrintLast Go.Proofs.YtjcaieecafggiaaDoorW.PrintMore Go.Proofs.YtjcaieecafggiaaDoor.Crc
set_option linter.unusedVariables false
set_option linter.unusedSimpArgs false
def xor3 (a b c : Int) : Int := Go.bits .xor .u8 (Go.bits .xor .u8 a b) c
def mix (l0 l1 l2 : List Int) : Nat → List Int
  | 0 => []
  | n + 1 => mix l0 l1 l2 n ++ [xor3 (l0.getD n 0) (l1.getD n 0) (l2.getD n 0)]
theorem mix_length (l0 l1 l2 : List Int) : ∀ n, (mix l0 l1 l2 n).length = n
  | 0 => rfl
  | n + 1 => by rw [mix, List.length_append, mix_length l0 l1 l2 n]; rfl
theorem xor3_nat {a b c : Int} (ha : 0 ≤ a ∧ a ≤ 255) (hb : 0 ≤ b ∧ b ≤ 255) (hc : 0 ≤ c ∧ c ≤ 255) : xor3 a b c = ((a.toNat ^^^ b.toNat ^^^ c.toNat : Nat) : Int) ∧ a.toNat ^^^ b.toNat ^^^ c.toNat < 256 := by
  obtain ⟨x, rfl⟩ := Int.eq_ofNat_of_zero_le ha.1
  obtain ⟨y, rfl⟩ := Int.eq_ofNat_of_zero_le hb.1
  obtain ⟨z, rfl⟩ := Int.eq_ofNat_of_zero_le hc.1
  have h1 : x ^^^ y < 256 := Nat.xor_lt_two_pow (n := 8) (by omega) (by omega)
  refine ⟨?_, Nat.xor_lt_two_pow (n := 8) h1 (by omega)⟩
  unfold xor3
  rw [u8_xor_nat x y (by omega) (by omega), u8_xor_nat _ z h1 (by omega)]
  rfl
theorem mix_bytes {l0 l1 l2 : List Int} (h0 : Bytes l0) (h1 : Bytes l1) (h2 : Bytes l2) : ∀ n, n ≤ l0.length → n ≤ l1.length → n ≤ l2.length → Bytes (mix l0 l1 l2 n)
  | 0, _, _, _ => fun x hx => by cases hx
  | n + 1, a, b, c => by
    intro x hx
    rcases List.mem_append.1 hx with hx | hx
    · exact mix_bytes h0 h1 h2 n (by omega) (by omega) (by omega) x hx
    · obtain rfl := List.mem_singleton.1 hx
      have := xor3_nat (getD_byte h0 (show n < l0.length by omega)) (getD_byte h1 (show n < l1.length by omega)) (getD_byte h2 (show n < l2.length by omega))
      rw [this.1]
      omega
theorem nat_append (a b : List Int) : nat (a ++ b) = nat a ++ nat b := by simp [nat]
theorem take_snoc {l : List Int} {n : Nat} (h : n < l.length) : l.take (n + 1) = l.take n ++ [l.getD n 0] := take_snoc_L l n 0 h
theorem xor_perm (a b c x y z : Nat) : (a ^^^ b ^^^ c) ^^^ (x ^^^ y ^^^ z) = (a ^^^ x) ^^^ (b ^^^ y) ^^^ (c ^^^ z) := by
  apply Nat.eq_of_testBit_eq
  intro i
  simp only [Nat.testBit_xor]
  cases a.testBit i <;> cases b.testBit i <;> cases c.testBit i <;> cases x.testBit i <;> cases y.testBit i <;> cases z.testBit i <;> rfl
theorem crcB_xor3 (a b c x y z : Nat) : crcB (a ^^^ b ^^^ c) (x ^^^ y ^^^ z) = crcB a x ^^^ crcB b y ^^^ crcB c z := by rw [crcB_xor, crcB_xor]
theorem mix_crc {l0 l1 l2 : List Int} (h0 : Bytes l0) (h1 : Bytes l1) (h2 : Bytes l2) (a b c : Nat) : ∀ n, n ≤ l0.length → n ≤ l1.length → n ≤ l2.length →
    crcL (a ^^^ b ^^^ c) (nat (mix l0 l1 l2 n)) = crcL a (nat (l0.take n)) ^^^ crcL b (nat (l1.take n)) ^^^ crcL c (nat (l2.take n))
  | 0, _, _, _ => by simp [mix, nat, crcL]
  | n + 1, p, q, r => by
    have h := xor3_nat (getD_byte h0 (show n < l0.length by omega)) (getD_byte h1 (show n < l1.length by omega)) (getD_byte h2 (show n < l2.length by omega))
    rw [mix, nat_append, crcL_append, mix_crc h0 h1 h2 a b c n (by omega) (by omega) (by omega), take_snoc (show n < l0.length by omega), take_snoc (show n < l1.length by omega), take_snoc (show n < l2.length by omega)]
    rw [nat_append, nat_append, nat_append, crcL_append, crcL_append, crcL_append, h.1]
    show crcB _ (Int.toNat ((_ : Nat) : Int)) = crcB _ _ ^^^ crcB _ _ ^^^ crcB _ _
    rw [Int.toNat_natCast, crcB_xor3]
theorem lin_loop (l0 l1 l2 : List Int) (n : Nat) (hn0 : n ≤ l0.length) (hn1 : n ≤ l1.length) (hn2 : n ≤ l2.length) (hm : l0.length ≤ 140737488351232) : ∀ d i k, i + d = n →
    minstrellaw06_FrameLinear.l0 (k + d) l0 l1 l2 (n : Int) (mix l0 l1 l2 i) (i : Int) = minstrellaw06_FrameLinear.l0 k l0 l1 l2 (n : Int) (mix l0 l1 l2 n) (n : Int) := by
  intro d
  induction d with
  | zero =>
    intro i k h
    obtain rfl : i = n := by omega
    rw [Nat.add_zero]
  | succ d ih =>
    intro i k h
    rw [show k + (d + 1) = (k + d) + 1 by omega]
    have hw : wrap64 ((i : Int) + 1) = ((i + 1 : Nat) : Int) := wrap_small i (by omega)
    simp only [minstrellaw06_FrameLinear.l0]
    rw [if_pos (by omega), if_pos (by omega), if_pos (by omega), if_pos (by omega), if_pos (by omega), if_pos (by rw [mix_length]; omega), hw, ← ih (i + 1) k (by omega)]
    rfl
theorem lin_end (l0 l1 l2 : List Int) (n : Nat) (hn0 : n ≤ l0.length) (hn1 : n ≤ l1.length) (hn2 : n ≤ l2.length) (hm : l0.length ≤ 140737488351232) (h0 : Bytes l0) (h1 : Bytes l1) (h2 : Bytes l2) (k : Nat) :
    minstrellaw06_FrameLinear.l0 (k + 1) l0 l1 l2 (n : Int) (mix l0 l1 l2 n) (n : Int) = some true := by
  have own : ∀ l : List Int, l.length ≤ 140737488351232 → minstrellaw06_own.f l = some l := fun l hl => by
    unfold minstrellaw06_own.f
    simp only [Option.bind_some, List.nil_append, List.length_nil]
    rw [if_pos (by omega)]
  have tk : ∀ {l : List Int}, Bytes l → Bytes (l.take n) := fun h x hx => h x (List.mem_of_mem_take hx)
  have lt : ∀ {l : List Int}, Bytes l → sumN (nat l) < 4294967296 := fun h => sumN_lt (nat_lt h)
  simp only [minstrellaw06_FrameLinear.l0]
  rw [if_neg (by omega), if_pos (by omega), if_pos (by omega), Int.toNat_natCast, own _ (by simp; omega)]
  simp only [Option.bind_some]
  rw [Sum_eq _ (tk h0)]
  simp only [Option.bind_some]
  rw [if_pos (by omega), own _ (by simp; omega)]
  simp only [Option.bind_some]
  rw [Sum_eq _ (tk h1)]
  simp only [Option.bind_some]
  rw [if_pos (by omega), own _ (by simp; omega)]
  simp only [Option.bind_some]
  rw [Sum_eq _ (tk h2), Sum_eq _ (mix_bytes h0 h1 h2 n hn0 hn1 hn2)]
  simp only [Option.bind_some]
  have e : sumN (nat (l0.take n)) ^^^ sumN (nat (l1.take n)) ^^^ sumN (nat (l2.take n)) = sumN (nat (mix l0 l1 l2 n)) := by
    have hk : (4294967295 : Nat) ^^^ 4294967295 ^^^ 4294967295 = 4294967295 := by decide
    have hx := mix_crc h0 h1 h2 4294967295 4294967295 4294967295 n hn0 hn1 hn2
    rw [hk] at hx
    have hp := xor_perm 4294967295 4294967295 4294967295 (crcL 4294967295 (nat (l0.take n))) (crcL 4294967295 (nat (l1.take n))) (crcL 4294967295 (nat (l2.take n)))
    rw [hk, ← hx] at hp
    exact hp.symm
  rw [u32_xor_nat _ _ (lt (tk h0)) (lt (tk h1)), u32_xor_nat _ _ (Nat.xor_lt_two_pow (n := 32) (lt (tk h0)) (lt (tk h1))) (lt (tk h2)), e, if_pos rfl, lives_true]
  rfl
theorem lin_at (l0 l1 l2 : List Int) (n : Nat) (hn0 : n ≤ l0.length) (hn1 : n ≤ l1.length) (hn2 : n ≤ l2.length) (hm : l0.length ≤ 140737488351232) (h0 : Bytes l0) (h1 : Bytes l1) (h2 : Bytes l2) :
    minstrellaw06_FrameLinear.j1 (1 + n + 1) l0 l1 l2 (n : Int) = some true := by
  simp only [minstrellaw06_FrameLinear.j1]
  have := lin_loop l0 l1 l2 n hn0 hn1 hn2 hm n 0 1 (by omega)
  rw [show (mix l0 l1 l2 0) = [] from rfl] at this
  rw [show ((0 : Nat) : Int) = 0 from rfl] at this
  rw [this]
  exact lin_end l0 l1 l2 n hn0 hn1 hn2 hm h0 h1 h2 0
theorem FrameLinear (l0 l1 l2 : List Int) (hm0 : l0.length ≤ maxLen) (hy0 : l0.length * 1 ≤ 140737488351232) (hw0 : ∀ x ∈ l0, (Lit.int .u8 x).wf = true) (hm1 : l1.length ≤ maxLen) (hy1 : l1.length * 1 ≤ 140737488351232) (hw1 : ∀ x ∈ l1, (Lit.int .u8 x).wf = true) (hm2 : l2.length ≤ maxLen) (hy2 : l2.length * 1 ≤ 140737488351232) (hw2 : ∀ x ∈ l2, (Lit.int .u8 x).wf = true) : ∃ k, minstrellaw06_FrameLinear.f k l0 l1 l2 = some true := by
  have h0 := Bytes.of_wf hw0
  have h1 := Bytes.of_wf hw1
  have h2 := Bytes.of_wf hw2
  have key : ∀ m : Nat, m ≤ l0.length → m ≤ l1.length → ∃ k, minstrellaw06_FrameLinear.j0 k l0 l1 l2 (m : Int) = some true := by
    intro m a b
    by_cases c : l2.length < m
    · refine ⟨1 + l2.length + 1 + 1, ?_⟩
      simp only [minstrellaw06_FrameLinear.j0]
      rw [if_pos (by omega)]
      exact lin_at l0 l1 l2 l2.length (by omega) (by omega) (Nat.le_refl _) (by omega) h0 h1 h2
    · refine ⟨1 + m + 1 + 1, ?_⟩
      simp only [minstrellaw06_FrameLinear.j0]
      rw [if_neg (by omega)]
      exact lin_at l0 l1 l2 m (by omega) (by omega) (by omega) (by omega) h0 h1 h2
  by_cases c : l1.length < l0.length
  · obtain ⟨k, hk⟩ := key l1.length (by omega) (Nat.le_refl _)
    refine ⟨k, ?_⟩
    unfold minstrellaw06_FrameLinear.f
    rw [if_pos (by omega)]
    exact hk
  · obtain ⟨k, hk⟩ := key l0.length (Nat.le_refl _) (by omega)
    refine ⟨k, ?_⟩
    unfold minstrellaw06_FrameLinear.f
    rw [if_neg (by omega)]
    exact hk
end Go.Proofs.YtjcaieecafggiaaDoor.Pure
