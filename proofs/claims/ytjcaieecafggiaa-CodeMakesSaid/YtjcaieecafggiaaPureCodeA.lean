/- The plain part of the laws on cells: numbers as bytes; what is read is written as it was. -/
import Derived.Test.YtjcaieecafggiaaSame
import Derived.Laws.Bits64b
namespace Go.Proofs.Ytjcaieecafggiaa.Pure
open Go.RowKit Go.Proofs.Ytjcaieecafggiaa.Pr Go.Proofs.YtjcaieecafggiaaW.PrintWords Go.Proofs.YtjcaieecafggiaaW.PrintLast Go.Proofs.YtjcaieecafggiaaW.PrintMore
set_option linter.unusedVariables false
set_option linter.unusedSimpArgs false
/-- They are bytes. -/
def Bts (bs : List Int) : Prop := ∀ x ∈ bs, 0 ≤ x ∧ x < 256
theorem Bts.nil : Bts [] := fun _ h => by cases h
theorem Bts.take {bs : List Int} (h : Bts bs) (n : Nat) : Bts (bs.take n) := fun x hx => h x (List.mem_of_mem_take hx)
theorem Bts.drop {bs : List Int} (h : Bts bs) (n : Nat) : Bts (bs.drop n) := fun x hx => h x (List.mem_of_mem_drop hx)
theorem Bts.tail {b : Int} {bs : List Int} (h : Bts (b :: bs)) : Bts bs := fun x hx => h x (List.mem_cons_of_mem _ hx)
theorem Bts.head {b : Int} {bs : List Int} (h : Bts (b :: bs)) : 0 ≤ b ∧ b < 256 := h b (List.mem_cons_self ..)
theorem Bts.append {a b : List Int} (h : Bts a) (k : Bts b) : Bts (a ++ b) := fun x hx => (List.mem_append.1 hx).elim (h x) (k x)
theorem Bts.cons {b : Int} {bs : List Int} (h : 0 ≤ b ∧ b < 256) (k : Bts bs) : Bts (b :: bs) := fun x hx => by
  rcases List.mem_cons.1 hx with rfl | hx
  · exact h
  · exact k x hx
theorem or_byte (n x : Int) (h0 : 0 ≤ n) (h1 : n < 72057594037927936) (h2 : 0 ≤ x) (h3 : x < 256) : Go.bits .or .u64 (IntKind.u64.wrap (n * 256)) (IntKind.u64.wrap x) = n * 256 + x := by
  rw [IntWalk.u64_in (n * 256) (by omega), IntWalk.u64_in x (by omega)]
  obtain ⟨a, rfl⟩ := Int.eq_ofNat_of_zero_le h0
  obtain ⟨b, rfl⟩ := Int.eq_ofNat_of_zero_le h2
  have h := bits_or_u64_nat (256 * a) b (by omega) (by omega)
  have e : (256 * a ||| b) = 256 * a + b := by
    have := Nat.two_pow_add_eq_or_of_lt (i := 8) (b := b) (by omega) a
    simpa using this.symm
  rw [e] at h
  have e1 : ((a : Int) * 256) = ((256 * a : Nat) : Int) := by omega
  have e2 : (((256 * a + b : Nat)) : Int) = (a : Int) * 256 + (b : Int) := by omega
  rw [← e2, e1]
  exact h
/-- The number that bytes tell. -/
def beV : List Int → Int → Int
  | [], n => n
  | x :: xs, n => beV xs (n * 256 + x)
theorem numR_eq : ∀ (xs : List Int) (n : Int) (m : Nat), Bts xs → 0 ≤ n → n < 256 ^ m → m + xs.length ≤ 8 → numR xs n = beV xs n
  | [], n, m, hb, h0, h1, hm => rfl
  | x :: xs, n, m, hb, h0, h1, hm => by
    rw [List.length_cons] at hm
    have hx := hb.head
    have hn : n < 72057594037927936 := Int.lt_of_lt_of_le h1 (by
      have h7 : (256 : Nat) ^ m ≤ 256 ^ 7 := Nat.pow_le_pow_right (by decide) (show m ≤ 7 by omega)
      have h8 : ((256 ^ m : Nat) : Int) ≤ ((72057594037927936 : Nat) : Int) := Int.ofNat_le.2 h7
      rwa [Int.natCast_pow] at h8)
    simp only [numR, beV]
    rw [or_byte n x h0 hn hx.1 hx.2]
    refine numR_eq xs (n * 256 + x) (m + 1) hb.tail (by omega) ?_ (by omega)
    rw [Int.pow_succ]
    omega
theorem beV_bound : ∀ (xs : List Int) (n : Int) (m : Nat), Bts xs → 0 ≤ n → n < 256 ^ m → 0 ≤ beV xs n ∧ beV xs n < 256 ^ (m + xs.length)
  | [], n, m, hb, h0, h1 => ⟨h0, h1⟩
  | x :: xs, n, m, hb, h0, h1 => by
    have hx := hb.head
    have := beV_bound xs (n * 256 + x) (m + 1) hb.tail (by omega) (by rw [Int.pow_succ]; omega)
    rw [List.length_cons, show m + (xs.length + 1) = m + 1 + xs.length by omega]
    exact this
theorem be4 (a b c d : Int) (ha : 0 ≤ a ∧ a < 256) (hb : 0 ≤ b ∧ b < 256) (hc : 0 ≤ c ∧ c < 256) (hd : 0 ≤ d ∧ d < 256) : beB (beV [a, b, c, d] 0) 4 = [a, b, c, d] := by
  simp only [beB, beV, List.cons.injEq, and_true]
  refine ⟨?_, ?_, ?_, ?_⟩ <;> omega
theorem be8 (a b c d e f g h : Int) (ha : 0 ≤ a ∧ a < 256) (hb : 0 ≤ b ∧ b < 256) (hc : 0 ≤ c ∧ c < 256) (hd : 0 ≤ d ∧ d < 256) (he : 0 ≤ e ∧ e < 256) (hf : 0 ≤ f ∧ f < 256) (hg : 0 ≤ g ∧ g < 256) (hh : 0 ≤ h ∧ h < 256) : beB (beV [a, b, c, d, e, f, g, h] 0) 8 = [a, b, c, d, e, f, g, h] := by
  simp only [beB, beV, List.cons.injEq, and_true]
  refine ⟨?_, ?_, ?_, ?_, ?_, ?_, ?_, ?_⟩ <;> omega
theorem be4' (n : Int) (h0 : 0 ≤ n) (h1 : n < 4294967296) : beV (beB n 4) 0 = n := by
  simp only [beB, beV]
  omega
theorem be8' (n : Int) (h0 : 0 ≤ n) (h1 : n < 18446744073709551616) : beV (beB n 8) 0 = n := by
  simp only [beB, beV]
  omega
theorem beB_bts (n : Int) (h : 0 ≤ n) : ∀ m, Bts (beB n m)
  | 0 => Bts.nil
  | m + 1 => Bts.cons (by omega) (beB_bts n h m)
theorem take4 {bs : List Int} (h : Bts bs) (hl : 4 ≤ bs.length) : beB (beV (bs.take 4) 0) 4 = bs.take 4 ∧ 0 ≤ beV (bs.take 4) 0 ∧ beV (bs.take 4) 0 < 4294967296 ∧ numR (bs.take 4) 0 = beV (bs.take 4) 0 := by
  have hb := h.take 4
  have h1 := beV_bound (bs.take 4) 0 0 hb (by decide) (by decide)
  have h2 := numR_eq (bs.take 4) 0 0 hb (by decide) (by decide) (by rw [List.length_take]; omega)
  have hlen : (bs.take 4).length = 4 := by rw [List.length_take]; omega
  rw [hlen] at h1
  refine ⟨?_, h1.1, h1.2, h2⟩
  rcases bs with _ | ⟨a, _ | ⟨b, _ | ⟨c, _ | ⟨d, bs⟩⟩⟩⟩
  all_goals first | (simp at hl; done) | skip
  exact be4 a b c d (hb a (by simp)) (hb b (by simp)) (hb c (by simp)) (hb d (by simp))
theorem take8 {bs : List Int} (h : Bts bs) (hl : 8 ≤ bs.length) : beB (beV (bs.take 8) 0) 8 = bs.take 8 ∧ 0 ≤ beV (bs.take 8) 0 ∧ beV (bs.take 8) 0 < 18446744073709551616 ∧ numR (bs.take 8) 0 = beV (bs.take 8) 0 := by
  have hb := h.take 8
  have h1 := beV_bound (bs.take 8) 0 0 hb (by decide) (by decide)
  have h2 := numR_eq (bs.take 8) 0 0 hb (by decide) (by decide) (by rw [List.length_take]; omega)
  have hlen : (bs.take 8).length = 8 := by rw [List.length_take]; omega
  rw [hlen] at h1
  refine ⟨?_, h1.1, h1.2, h2⟩
  rcases bs with _ | ⟨a, _ | ⟨b, _ | ⟨c, _ | ⟨d, _ | ⟨e, _ | ⟨f, _ | ⟨g, _ | ⟨i, bs⟩⟩⟩⟩⟩⟩⟩⟩
  all_goals first | (simp at hl; done) | (simp at hl; omega) | skip
  exact be8 a b c d e f g i (hb a (by simp)) (hb b (by simp)) (hb c (by simp)) (hb d (by simp)) (hb e (by simp)) (hb f (by simp)) (hb g (by simp)) (hb i (by simp))
theorem wrap64_in (x : Int) (h0 : -9223372036854775808 ≤ x) (h1 : x ≤ 9223372036854775807) : wrap64 x = x := by unfold wrap64; omega
/-- Bytes become a text, and the same bytes again. -/
theorem bytesOf_str {xs : List Int} (h : Bts xs) : bytesOf (strOfNums xs) = xs := by
  unfold bytesOf
  rw [strOfNums_data, List.map_map]
  apply List.ext_getElem
  · simp
  · intro i h1 h2
    have := h xs[i] (List.getElem_mem _)
    simp only [List.getElem_map, Function.comp]
    rw [UInt8.toNat_ofNat']
    omega
theorem strOfNums_bytesOf (s : ByteArray) : strOfNums (bytesOf s) = s := by
  unfold strOfNums bytesOf
  cases s with
  | mk d =>
    simp only [ByteArray.mk.injEq]
    apply Array.ext'
    simp only [List.map_map]
    apply List.ext_getElem
    · simp
    · intro i h1 h2
      simp
theorem bytesOf_bts (s : ByteArray) : Bts (bytesOf s) := fun x hx => by
  unfold bytesOf at hx
  obtain ⟨b, _, rfl⟩ := List.mem_map.1 hx
  have := b.toNat_lt
  omega
end Go.Proofs.Ytjcaieecafggiaa.Pure
