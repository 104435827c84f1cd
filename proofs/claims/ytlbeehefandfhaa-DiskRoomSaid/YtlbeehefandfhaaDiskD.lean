/- disk.isName: a contract of its call. -/
import Derived.Test.YtlbeehefandfhaaProg
import Derived.Below
import Derived.Deep.Draws
import Derived.Deep.AppendLies
import Derived.Maps.AppendAt
import Derived.OwnWalk
import Derived.Laws.BytesArg
import Derived.Laws.MakeOwn
import Derived.Laws.OwnMore
import Derived.Deep.OwnRows
import Derived.Tactics
import Derived.Lib.ConvBytes
import Derived.Laws.Slices
import Derived.WalkKit
import Derived.KernelRfl
import Derived.RowKit3
import Derived.Deep.LoopGhost
import Derived.Deep.QuietTactic
import Derived.BigQuiet
import Derived.WideLaws
import Derived.Deep.DeepCutAuto
import Derived.Deep.CutBlock
import Derived.Deep.RegionHeld3
import Derived.Laws.Rows
import Derived.Lib.AppendStr
import Derived.ArgAppend
import Derived.Laws.IdiomCopy
import Derived.OrdersHeld
import Derived.Laws.BitsLemmas
import Derived.RowKit
import Derived.Test.YtlbeehefandfhaaWWords
import Derived.Test.YtlbeehefandfhaaWLast
import Derived.Test.YtlbeehefandfhaaWTab
import Derived.Test.YtlbeehefandfhaaWFour
import Derived.Test.YtlbeehefandfhaaWQPut
import Derived.Test.YtlbeehefandfhaaWApart
import Derived.Test.YtlbeehefandfhaaWArr
import Derived.Test.YtlbeehefandfhaaWZeros
import Derived.Test.YtlbeehefandfhaaWFoot
import Derived.Test.YtlbeehefandfhaaWKept
import Derived.Test.YtlbeehefandfhaaWShare
import Derived.Test.YtlbeehefandfhaaWN
import Derived.Test.YtlbeehefandfhaaWFootNe
import Derived.Test.YtlbeehefandfhaaWAt
import Derived.Test.YtlbeehefandfhaaWEqStruct
import Derived.Test.YtlbeehefandfhaaWRepsOne
import Derived.Test.YtlbeehefandfhaaWInv
import Derived.Test.YtlbeehefandfhaaWInvWords
import Derived.Test.YtlbeehefandfhaaWGuard
import Derived.Test.YtlbeehefandfhaaWNEv
import Derived.Test.YtlbeehefandfhaaWMore
import Derived.Test.YtlbeehefandfhaaDiskC
namespace Go.Proofs.Ytlbeehefandfhaa.Pr
open Go.RowKit Go.Maps Go.Proofs.YtlbeehefandfhaaW.PrintWords Go.Proofs.YtlbeehefandfhaaW.PrintLast Go.Proofs.YtlbeehefandfhaaW.PrintMore
set_option linter.unusedVariables false
set_option linter.unusedSimpArgs false
def goodB (c : UInt8) : Bool := (decide (97 ≤ c) && decide (c ≤ 122)) || (decide (48 ≤ c) && decide (c ≤ 57)) || c == 45
theorem goodB_iff (c : UInt8) : goodB c = true ↔ (97 ≤ (c.toNat : Int) ∧ (c.toNat : Int) ≤ 122) ∨ (48 ≤ (c.toNat : Int) ∧ (c.toNat : Int) ≤ 57) ∨ (c.toNat : Int) = 45 := by
  unfold goodB
  have e : (c == 45) = true ↔ (c.toNat : Int) = 45 := by
    rw [beq_iff_eq, ← UInt8.toNat_inj]
    show c.toNat = 45 ↔ _
    omega
  simp only [Bool.or_eq_true, Bool.and_eq_true, decide_eq_true_eq, UInt8.le_iff_toNat_le, e]
  show (97 ≤ c.toNat ∧ c.toNat ≤ 122 ∨ 48 ≤ c.toNat ∧ c.toNat ≤ 57) ∨ _ ↔ _
  omega
theorem nameOk_eq (n : List UInt8) : nameOk n = (n.all goodB && (!n.isEmpty && decide (n.length ≤ 32))) := rfl
theorem all_take_succ (s : ByteArray) (k : Nat) (hk : k < s.size) : (s.data.toList.take (k + 1)).all goodB = ((s.data.toList.take k).all goodB && goodB s[k]) := by
  rw [List.take_succ_eq_append_getElem (by rw [data_length]; exact hk), List.all_append]
  simp
  rfl
theorem all_of_take {s : ByteArray} {k : Nat} (hk : k < s.size) (h : goodB s[k] = false) : s.data.toList.all goodB = false := by
  rw [List.all_eq_false]
  exact ⟨s[k], by rw [show s[k] = s.data.toList[k]'(by rw [data_length]; exact hk) from rfl]; exact List.getElem_mem _, by simp [h]⟩
theorem size0_iff (s : ByteArray) : s.data.toList = [] ↔ s.size = 0 := by
  rw [← List.length_eq_zero_iff, data_length]
theorem toList_loop (s : ByteArray) : ∀ (n i : Nat) (r : List UInt8), s.size - i = n → (ByteArray.toList.loop s i r).length = n + r.length := by
  intro n
  induction n with
  | zero => intro i r h; unfold ByteArray.toList.loop; rw [if_neg (by omega)]; simp
  | succ n ih => intro i r h; unfold ByteArray.toList.loop; rw [if_pos (by omega), ih _ _ (by omega)]; simp; omega
theorem toList_nil (s : ByteArray) : s.toList = [] ↔ s.size = 0 := by
  rw [← List.length_eq_zero_iff]
  unfold ByteArray.toList
  rw [toList_loop s s.size 0 [] (by omega)]
  simp
set_option maxHeartbeats 800000 in
theorem isName_calls (w : World) (s : ByteArray) (hs : s.size ≤ 9223372036854775807) :
    Calls Try.prog 21 #[.string s] w fun e w' => e = .returned (.bool (nameOk s.data.toList)) ∧ w = w' := by
  have hbad : s.data.toList.all goodB = false → nameOk s.data.toList = false := fun h => by rw [nameOk_eq, h]; rfl
  have HBAD := Aside0.mk hbad
  clear hbad
  go_enter Try.func21, Try.ntmps21
  go_wp2
  go_loop [7] (fun i => ∃ k : Nat, k ≤ s.size ∧ i = .int .i64 k ∧ Aside0 ((s.data.toList.take k).all goodB = true)) (fun i => s.size - (intOf i).toNat)
  case atStart => exact ⟨0, Nat.zero_le _, rfl, ⟨rfl⟩⟩
  case round =>
    obtain ⟨k, hk, rfl, hA⟩ := hrel
    by_cases hlt : k < s.size
    · have hi := goodB_iff s[k]
      have hts := all_take_succ s k hlt
      have hof := fun h => all_of_take (s := s) hlt h
      have HT := Aside0.mk hts
      have HO := Aside0.mk hof
      have HI := Aside0.mk hi
      clear hi hts hof
      rcases (by omega : (s[k].toNat : Int) < 45 ∨ (s[k].toNat : Int) = 45 ∨ (45 < (s[k].toNat : Int) ∧ (s[k].toNat : Int) < 48) ∨ (48 ≤ (s[k].toNat : Int) ∧ (s[k].toNat : Int) ≤ 57) ∨ (57 < (s[k].toNat : Int) ∧ (s[k].toNat : Int) < 97) ∨ (97 ≤ (s[k].toNat : Int) ∧ (s[k].toNat : Int) ≤ 122) ∨ 122 < (s[k].toNat : Int)) with hx | hx | hx | hx | hx | hx | hx
      all_goals
        have HX := Aside0.mk hx
        first
          | (have t1 : (s[k].toNat : Int) < 97 := by omega)
          | (have t1 : ¬ (s[k].toNat : Int) < 97 := by omega)
        first
          | (have t2 : 122 < (s[k].toNat : Int) := by omega)
          | (have t2 : ¬ 122 < (s[k].toNat : Int) := by omega)
        first
          | (have t3 : (s[k].toNat : Int) < 48 := by omega)
          | (have t3 : ¬ (s[k].toNat : Int) < 48 := by omega)
        first
          | (have t4 : 57 < (s[k].toNat : Int) := by omega)
          | (have t4 : ¬ 57 < (s[k].toNat : Int) := by omega)
        first
          | (have t6 : ((s[k].toNat : Int) != 45) = true := by rw [bne_iff_ne]; omega)
          | (have t6 : ((s[k].toNat : Int) != 45) = false := by rw [bne_eq_false_iff_eq]; omega)
        clear hx
        go_wp2
        first
          | (go_ret; exact ⟨by rw [HBAD.out (HO.out (by cases hg : goodB s[k] with | false => rfl | true => exact absurd (HI.out.1 hg) (by have := HX.out; omega)))]; rfl, rfl⟩)
          | (go_round
             case rel => exact ⟨k + 1, by omega, by go_num, ⟨by rw [HT.out, hA.out, HI.out.2 (by have := HX.out; omega)]; rfl⟩⟩
             case measure => simp [intOf]; omega)
    · obtain rfl : k = s.size := by omega
      have hall : s.data.toList.all goodB = true := by
        have := hA.out
        rwa [List.take_of_length_le (by rw [data_length]; omega)] at this
      have HALL := Aside0.mk hall
      have hz := size0_iff s
      have hz2 := toList_nil s
      have hl := data_length s
      have HL := Aside0.mk hl
      by_cases h0 : s.size = 0
      · have he : s.toList = [] := hz2.2 h0
        have hE : s.toList.isEmpty = true := by rw [he]; rfl
        have HE := Aside0.mk (hz.2 h0)
        clear hall hz h0 hz2 hl
        go_wp2
        go_ret
        exact ⟨by rw [nameOk_eq, HE.out]; rfl, rfl⟩
      · have he : ¬ s.toList = [] := fun e => h0 (hz2.1 e)
        have hE : s.toList.isEmpty = false := by rw [← Bool.not_eq_true, List.isEmpty_iff]; exact he
        have HE := Aside0.mk (show s.data.toList.isEmpty = false by rw [← Bool.not_eq_true, List.isEmpty_iff]; exact fun e => h0 (hz.1 e))
        clear hall hz hz2 hl
        by_cases h32 : s.size ≤ 32
        · have h32' : (s.size : Int) ≤ 32 := by omega
          go_wp2
          go_ret
          exact ⟨by rw [nameOk_eq, HALL.out, HL.out, decide_eq_true h32, HE.out]; rfl, rfl⟩
        · have h32' : ¬ (s.size : Int) ≤ 32 := by omega
          go_wp2
          go_ret
          exact ⟨by rw [nameOk_eq, HALL.out, HL.out, decide_eq_false h32, HE.out]; rfl, rfl⟩
end Go.Proofs.Ytlbeehefandfhaa.Pr
