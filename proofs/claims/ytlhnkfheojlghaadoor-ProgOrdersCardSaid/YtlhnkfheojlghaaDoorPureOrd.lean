/- ProgOrders as a plain law; the statements' little living call. -/
import Derived.Test.YtlhnkfheojlghaaDoorPr19
namespace Go.Proofs.YtlhnkfheojlghaaDoor.Pr
open Go.RowKit Go.Proofs.YtlhnkfheojlghaaDoorW.PrintWords
set_option linter.unusedVariables false
set_option linter.unusedSimpArgs false
theorem get_data (s : ByteArray) (i : Nat) (hi : i < s.data.toList.length) : s.get! i = s.data.toList[i] := by
  cases s with
  | mk d =>
    show d[i]! = _
    rw [getElem!_pos d i (by simpa using hi)]
    simp
theorem toList_loopD (s : ByteArray) : ∀ (n i : Nat) (r : List UInt8), s.size - i = n → ByteArray.toList.loop s i r = r.reverse ++ s.data.toList.drop i := by
  intro n
  induction n with
  | zero =>
    intro i r h
    unfold ByteArray.toList.loop
    have hl : s.data.toList.length = s.size := by rw [Array.length_toList]; rfl
    rw [if_neg (by omega), List.drop_eq_nil_of_le (by omega), List.append_nil]
  | succ n ih =>
    intro i r h
    have hl : s.data.toList.length = s.size := by rw [Array.length_toList]; rfl
    have hi : i < s.size := by omega
    have hi2 : i < s.data.toList.length := by omega
    unfold ByteArray.toList.loop
    rw [if_pos hi, ih _ _ (by omega), get_data s i hi2, List.drop_eq_getElem_cons hi2, List.reverse_cons, List.append_assoc]
    rfl
theorem toList_data (s : ByteArray) : s.toList = s.data.toList := by
  unfold ByteArray.toList
  rw [toList_loopD s s.size 0 [] (by omega)]
  simp
theorem lives_f : minstrellaw13_lives.f = some true := by
  have h0 : minstrellaw13_least.f = some (0, 0, [], [⟨34, 0, 0, 0⟩], [], []) := rfl
  have h1 : prog_Check.f 0 0 [] [⟨34, 0, 0, 0⟩] [] [] = some 0 := by kernel_rfl
  have h2 : prog_Check.f 0 0 [] [] [] [] = some 1 := by kernel_rfl
  have h3 : textP ⟨0, 0, [], [⟨34, 0, 0, 0⟩], [], []⟩ = [48, 32, 101, 110, 100, 10] := by
    have e1 : Lib.itoa (0 : Int) = [48] := by
      rw [Lib.itoa, if_neg (by omega), Lib.decDigits, dif_pos (by decide)]
      rfl
    simp [textP, linesT, lineT, headT, textL, e1]
    decide
  have h4 : prog_Print.f 0 0 [] [⟨34, 0, 0, 0⟩] [] [] = some ⟨#[48, 32, 101, 110, 100, 10]⟩ := by
    unfold prog_Print.f
    rw [h3, if_pos ⟨by kernel_rfl, by decide⟩]
  unfold minstrellaw13_lives.f
  rw [h0]
  simp only [Option.bind_some]
  rw [h1]
  simp only [Option.bind_some, if_true]
  rw [h2]
  simp only [Option.bind_some, if_true]
  rw [h4]
  simp only [Option.bind_some, toList_data]
  rfl
end Go.Proofs.YtlhnkfheojlghaaDoor.Pr
namespace Go.Proofs.YtlhnkfheojlghaaDoor.Pure
open Go.Proofs.YtlhnkfheojlghaaDoor.Pr
theorem ProgOrders (a0 : Int) (h : (Lit.int .i64 a0).wf = true) : minstrellaw13_ProgOrders.f a0 = some true := by
  unfold minstrellaw13_ProgOrders.f
  rw [lives_f]
  by_cases h0 : 0 ≤ a0
  · by_cases h1 : a0 < 38
    · have hall : ∀ n : Fin 38, ((prog_Name.f (n.val : Int)).bind fun t713 => ((minstrelref13_Name.f (n.val : Int)).bind fun t714 => (if t713.toList = t714.toList then ((prog_Cost.f (n.val : Int)).bind fun t715 => ((minstrelref13_Cost.f (n.val : Int)).bind fun t716 => (if t715 = t716 then (((some true).bind fun t717 => (some t717)) : Option Bool) else (none)))) else (none)))) = some true := by decide +kernel
      have := hall ⟨a0.toNat, by omega⟩
      rwa [show ((⟨a0.toNat, by omega⟩ : Fin 38).val : Int) = a0 by simp; omega] at this
    · have e1 : prog_of.f a0 = some (⟨#[110, 111, 110, 101]⟩, ⟨#[]⟩, 0, false) := by unfold prog_of.f; rw [if_pos h0, if_neg h1]
      have e2 : minstrelref13_Is.f a0 = some false := by unfold minstrelref13_Is.f; rw [if_pos (by omega), decide_eq_false (by omega)]
      unfold prog_Name.f minstrelref13_Name.f prog_Cost.f minstrelref13_Cost.f
      rw [e1, e2]
      simp
  · have e1 : prog_of.f a0 = some (⟨#[110, 111, 110, 101]⟩, ⟨#[]⟩, 0, false) := by unfold prog_of.f; rw [if_neg h0]
    have e2 : minstrelref13_Is.f a0 = some false := by unfold minstrelref13_Is.f; rw [if_neg (by omega)]
    unfold prog_Name.f minstrelref13_Name.f prog_Cost.f minstrelref13_Cost.f
    rw [e1, e2]
    simp
end Go.Proofs.YtlhnkfheojlghaaDoor.Pure
