/- The plain laws of layer 6: what the sum's two forms come to is one and the same. -/
import Derived.Test.YtjcaieecafggiaaDoorCrc
import Derived.Test.YtjcaieecafggiaaDoorPr1
namespace Go.Proofs.YtjcaieecafggiaaDoor.Pure
open Go.RowKit Go.Proofs.YtjcaieecafggiaaDoor.Pr Go.Proofs.YtjcaieecafggiaaDoorW.PrintWords Go.Proofs.YtjcaieecafggiaaDoorW.PrintLast Go.Proofs.YtjcaieecafggiaaDoorW.PrintMore Go.Proofs.YtjcaieecafggiaaDoor.Crc
set_option linter.unusedVariables false
set_option linter.unusedSimpArgs false
def Bytes (l : List Int) : Prop := ∀ x ∈ l, 0 ≤ x ∧ x ≤ 255
theorem Bytes.of_wf {l : List Int} (h : ∀ x ∈ l, (Lit.int .u8 x).wf = true) : Bytes l := fun x hx => by simpa [Lit.wf, IntKind.min, IntKind.max, IntKind.signed, IntKind.bits] using h x hx
def nat (l : List Int) : List Nat := l.map Int.toNat
theorem nat_lt {l : List Int} (h : Bytes l) : ∀ x ∈ nat l, x < 256 := by
  intro x hx
  obtain ⟨y, hy, rfl⟩ := List.mem_map.1 hx
  have := h y hy
  omega
theorem rd_tab : ∀ m : Nat, m < 16 → rd quarterVals (m : Int) = ((tab.getD m 0 : Nat) : Int) := by decide
theorem crcNib_nat (c : Nat) (h : c < 4294967296) : crcNib (c : Int) = (nib c : Nat) := by
  have h1 : Go.bits .and .u32 (c : Int) 15 = ((c % 16 : Nat) : Int) := by
    have := u32_and_nat c 15 h (by decide)
    rw [nat_mask4] at this
    exact this
  have h2 : tab.getD (c % 16) 0 < 4294967296 := by
    have : ∀ m, m < 16 → tab.getD m 0 < 4294967296 := by decide
    exact this _ (by omega)
  unfold crcNib
  rw [h1, rd_tab _ (by omega), show ((c : Int) / 16) = ((c / 16 : Nat) : Int) by omega, u32_xor_nat _ _ (by omega) h2]
  rfl
theorem crcByte_nat (c : Nat) (x : Int) (h : c < 4294967296) (h0 : 0 ≤ x) (h1 : x ≤ 255) : crcByte (c : Int) x = (crcB c x.toNat : Nat) := by
  obtain ⟨y, rfl⟩ := Int.eq_ofNat_of_zero_le h0
  unfold crcByte
  rw [show ((y : Int) % 4294967296) = ((y : Nat) : Int) by omega, u32_xor_nat c y h (by omega)]
  have hx : c ^^^ y < 4294967296 := Nat.xor_lt_two_pow (n := 32) h (by omega)
  rw [crcNib_nat _ hx, crcNib_nat _ (nib_lt hx)]
  rfl
theorem crcBytes_nat {l : List Int} (hl : Bytes l) : ∀ {c : Nat}, c < 4294967296 → crcBytes (c : Int) l = (crcL c (nat l) : Nat) := by
  induction l with
  | nil => intro c h; rfl
  | cons x l ih =>
    intro c h
    have hx := hl x List.mem_cons_self
    show crcBytes (crcByte (c : Int) x) l = _
    rw [crcByte_nat c x h hx.1 hx.2, ih (fun y hy => hl y (List.mem_cons_of_mem _ hy)) (crcB_lt h (by omega))]
    rfl
def sumN (l : List Nat) : Nat := 4294967295 ^^^ crcL 4294967295 l
theorem sumN_lt {l : List Nat} (h : ∀ x ∈ l, x < 256) : sumN l < 4294967296 := Nat.xor_lt_two_pow (n := 32) (by decide) (crcL_lt h (by decide))
theorem parts_flatten (c : Int) (l : List (List Int)) : crcParts c l = crcBytes c l.flatten := by
  induction l generalizing c with
  | nil => rfl
  | cons x l ih =>
    show crcParts (crcBytes c x) l = _
    rw [ih, List.flatten_cons]
    simp [crcBytes]
theorem sum_eq (l : List (List Int)) (h : Bytes l.flatten) : frame_sum.f l = some ((sumN (nat l.flatten) : Nat) : Int) := by
  unfold frame_sum.f
  have h1 := crcBytes_nat h (c := 4294967295) (by decide)
  rw [parts_flatten, show crcBytes 4294967295 l.flatten = ((crcL 4294967295 (nat l.flatten) : Nat) : Int) from h1]
  have := u32_xor_nat 4294967295 (crcL 4294967295 (nat l.flatten)) (by decide) (crcL_lt (nat_lt h) (by decide))
  rw [show ((4294967295 : Nat) : Int) = 4294967295 from rfl] at this
  rw [this]
  rfl
theorem Sum_eq (l : List Int) (h : Bytes l) : frame_Sum.f l = some ((sumN (nat l) : Nat) : Int) := by
  have := sum_eq [l] (by simpa using h)
  simpa [frame_Sum.f] using this
theorem lives_true : minstrellaw06_lives.f = some true := by
  unfold minstrellaw06_lives.f
  rw [Sum_eq _ (by unfold Bytes; decide)]
  have : sumN (nat [49, 50, 51, 52, 53, 54, 55, 56, 57]) = 3421780262 := by decide
  rw [this]
  rfl
/-! The document's sum. -/
theorem wrap_small (n : Nat) (h : n < 9223372036854775807) : wrap64 ((n : Int) + 1) = ((n + 1 : Nat) : Int) := by
  unfold wrap64; omega
theorem l1_step (k : Nat) (l : List Int) (c i j : Int) (h1 : j < 8) (h2 : 0 ≤ i) (h3 : i < (l.length : Int)) (h4 : IntKind.u64.wrap j = j) (h5 : 0 ≤ j) :
    minstrelref06_Sum.l1 (k + 1) l c i j = if Go.bits .and .u32 c 1 = (Go.bits .and .u8 (shr .u8 (rd l i) j) 1) % 4294967296 then minstrelref06_Sum.l1 k l (c / 2) i (wrap64 (j + 1)) else minstrelref06_Sum.l1 k l (Go.bits .xor .u32 (c / 2) 3988292384) i (wrap64 (j + 1)) := by
  simp only [minstrelref06_Sum.l1]
  rw [if_pos h1, if_pos h2, if_pos h3, h4, if_pos h5]
theorem l1_end (k : Nat) (l : List Int) (c i : Int) : minstrelref06_Sum.l1 (k + 1) l c i 8 = minstrelref06_Sum.l0 k l c (wrap64 (i + 1)) := by
  simp only [minstrelref06_Sum.l1]
  rw [if_neg (by decide)]
theorem l0_in (k : Nat) (l : List Int) (c i : Int) (h : i < (l.length : Int)) : minstrelref06_Sum.l0 (k + 1) l c i = minstrelref06_Sum.l1 k l c i 0 := by
  simp only [minstrelref06_Sum.l0]
  rw [if_pos h]
theorem l0_out (k : Nat) (l : List Int) (c i : Int) (h : ¬ i < (l.length : Int)) : minstrelref06_Sum.l0 (k + 1) l c i = some (Go.bits .xor .u32 4294967295 c) := by
  simp only [minstrelref06_Sum.l0]
  rw [if_neg h]
theorem wrap_j (j : Nat) (hj : j < 8) : IntKind.u64.wrap (j : Int) = (j : Int) := by
  have : (j : Int) % 18446744073709551616 = j := by omega
  simpa [IntKind.wrap, IntKind.bits, IntKind.signed] using this
theorem shr_j (x j : Nat) (hj : j < 8) : shr .u8 (x : Int) (j : Int) = ((x >>> j : Nat) : Int) := by
  unfold shr
  rw [Int.toNat_natCast, show IntKind.u8.bits = 8 from rfl, Nat.min_eq_left (by omega), Nat.shiftRight_eq_div_pow]
  simp
theorem and1_u32 (c : Nat) (hc : c < 4294967296) : Go.bits .and .u32 (c : Int) 1 = ((c % 2 : Nat) : Int) := by
  have := u32_and_nat c 1 hc (by decide)
  rw [nat_mask1] at this
  exact this
theorem and1_u8 (x : Nat) (hc : x < 256) : Go.bits .and .u8 (x : Int) 1 = ((x % 2 : Nat) : Int) := by
  have := u8_and_nat x 1 hc (by decide)
  rw [nat_mask1] at this
  exact this
theorem xorpoly (c : Nat) (hc : c < 4294967296) : Go.bits .xor .u32 (c : Int) 3988292384 = ((c ^^^ poly : Nat) : Int) := u32_xor_nat c 3988292384 hc (by decide)
theorem half_lt {c : Nat} (hc : c < 4294967296) : c >>> 1 < 4294967296 := by rw [Nat.shiftRight_eq_div_pow]; omega
theorem getD_byte {l : List Int} (hl : Bytes l) {i : Nat} (hi : i < l.length) : 0 ≤ l.getD i 0 ∧ l.getD i 0 ≤ 255 := by
  rw [List.getD_eq_getElem?_getD, List.getElem?_eq_getElem hi]
  exact hl _ (List.getElem_mem hi)
theorem ref_round (l : List Int) (hl : Bytes l) (i : Nat) (hi : i < l.length) (j : Nat) (hj : j < 8) (c : Nat) (hc : c < 4294967296) (k : Nat) :
    minstrelref06_Sum.l1 (k + 1) l (c : Int) (i : Int) (j : Int) = minstrelref06_Sum.l1 k l ((bitIn c (l.getD i 0).toNat j : Nat) : Int) (i : Int) ((j + 1 : Nat) : Int) := by
  have hx := getD_byte hl hi
  obtain ⟨x, hxe⟩ := Int.eq_ofNat_of_zero_le hx.1
  have hx255 : x < 256 := by omega
  have hrd : rd l (i : Int) = (x : Int) := by unfold rd; rw [Int.toNat_natCast, hxe]
  have hxj : x >>> j < 256 := by rw [Nat.shiftRight_eq_div_pow]; exact Nat.lt_of_le_of_lt (Nat.div_le_self _ _) hx255
  have hc2 : (c : Int) / (2 : Int) = Int.ofNat (c >>> 1) := by rw [Nat.shiftRight_eq_div_pow]; show (c : Int) / 2 = ((c / 2 ^ 1 : Nat) : Int); omega
  have hmod : ((((x >>> j) % 2 : Nat) : Int)) % 4294967296 = (((x >>> j) % 2 : Nat) : Int) := by omega
  rw [l1_step k l c i j (by omega) (by omega) (by omega) (wrap_j j hj) (by omega), hrd, shr_j x j hj, and1_u32 c hc, and1_u8 _ hxj, hmod, wrap_small j (by omega), hc2, show Int.ofNat (c >>> 1) = ((c >>> 1 : Nat) : Int) from rfl, xorpoly _ (half_lt hc), hxe, Int.toNat_natCast]
  unfold bitIn
  by_cases hb : c % 2 = (x >>> j) % 2
  · rw [if_pos (by omega), if_pos hb]
  · rw [if_neg (by omega), if_neg hb]
theorem bitsIn_lt {c : Nat} (x : Nat) (h : c < 4294967296) : ∀ k, bitsIn c x k < 4294967296
  | 0 => h
  | k + 1 => bitIn_lt x k (bitsIn_lt x h k)
theorem ref_rounds (l : List Int) (hl : Bytes l) (i : Nat) (hi : i < l.length) (c : Nat) (hc : c < 4294967296) (k : Nat) : ∀ j, j ≤ 8 →
    minstrelref06_Sum.l1 (k + j) l (c : Int) (i : Int) 0 = minstrelref06_Sum.l1 k l ((bitsIn c (l.getD i 0).toNat j : Nat) : Int) (i : Int) (j : Int) := by
  intro j
  induction j generalizing k with
  | zero => intro _; rfl
  | succ j ih =>
    intro hj
    rw [show k + (j + 1) = (k + 1) + j by omega, ih (k + 1) (by omega), ref_round l hl i hi j (by omega) _ (bitsIn_lt _ hc j)]
    rfl
theorem ref_byte (l : List Int) (hl : Bytes l) (hm : l.length ≤ maxLen) (i : Nat) (hi : i < l.length) (c : Nat) (hc : c < 4294967296) (k : Nat) :
    minstrelref06_Sum.l0 (k + 10) l (c : Int) (i : Int) = minstrelref06_Sum.l0 k l ((crcB c (l.getD i 0).toNat : Nat) : Int) ((i + 1 : Nat) : Int) := by
  have hx := getD_byte hl hi
  rw [l0_in (k + 9) l c i (by omega), show k + 9 = (k + 1) + 8 by omega, ref_rounds l hl i hi c hc (k + 1) 8 (Nat.le_refl _), bitsIn_byte _ _ (by omega)]
  unfold maxLen at hm
  rw [show ((8 : Nat) : Int) = 8 from rfl, l1_end, wrap_small i (by omega)]
theorem ref_from (l : List Int) (hl : Bytes l) (hm : l.length ≤ maxLen) : ∀ (d i : Nat) (c : Nat), c < 4294967296 → i + d = l.length →
    minstrelref06_Sum.l0 (10 * d + 1) l (c : Int) (i : Int) = some ((4294967295 ^^^ crcL c (nat (l.drop i)) : Nat) : Int) := by
  intro d
  induction d with
  | zero =>
    intro i c hc hi
    rw [l0_out (10 * 0) l c i (by omega), List.drop_of_length_le (by omega)]
    exact congrArg some (u32_xor_nat 4294967295 c (by decide) hc)
  | succ d ih =>
    intro i c hc hi
    have hx := getD_byte hl (show i < l.length by omega)
    rw [show 10 * (d + 1) + 1 = (10 * d + 1) + 10 by omega, ref_byte l hl hm i (by omega) c hc, ih (i + 1) _ (crcB_lt hc (by omega)) (by omega)]
    rw [List.drop_eq_getElem_cons (show i < l.length by omega)]
    have e : l.getD i 0 = l[i] := by rw [List.getD_eq_getElem?_getD, List.getElem?_eq_getElem (by omega)]; rfl
    rw [e]
    rfl
theorem ref_Sum_eq (l : List Int) (hl : Bytes l) (hm : l.length ≤ maxLen) : minstrelref06_Sum.f (10 * l.length + 1) l = some ((sumN (nat l) : Nat) : Int) := by
  have := ref_from l hl hm l.length 0 4294967295 (by decide) (by omega)
  rw [List.drop_zero] at this
  exact this
theorem FrameSums (l0 : List Int) (hm : l0.length ≤ maxLen) (hy : l0.length * 1 ≤ 140737488351232) (hw : ∀ x ∈ l0, (Lit.int .u8 x).wf = true) : ∃ k, minstrellaw06_FrameSums.f k l0 = some true := by
  have hb := Bytes.of_wf hw
  refine ⟨10 * l0.length + 1, ?_⟩
  unfold minstrellaw06_FrameSums.f minstrellaw06_own.f
  simp only [Option.bind_some, List.nil_append, List.length_nil]
  rw [if_pos (by omega)]
  simp only [Option.bind_some]
  rw [Sum_eq l0 hb, ref_Sum_eq l0 hb hm]
  simp only [Option.bind_some]
  rw [if_pos trivial, lives_true]
  rfl
end Go.Proofs.YtjcaieecafggiaaDoor.Pure
