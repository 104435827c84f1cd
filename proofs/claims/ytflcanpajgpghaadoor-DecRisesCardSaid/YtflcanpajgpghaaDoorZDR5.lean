/- A part of the proof of the law that RowDecRises shows: lemmas, and contracts of the calls that it reaches. -/
import Derived.Test.YtflcanpajgpghaaDoorProg
import Derived.Below
import Derived.Deep.Draws
import Derived.Deep.AppendLies
import Derived.Maps.AppendAt
import Derived.OwnWalk
import Derived.Laws.BytesArg
import Derived.Laws.MakeOwn
import Derived.Laws.OwnMore
import Derived.Deep.OwnRows
import Derived.Tactics
import Derived.Lib.ConvBytes
import Derived.Laws.Slices
import Derived.WalkKit
import Derived.KernelRfl
import Derived.RowKit3
import Derived.Deep.LoopGhost
import Derived.Deep.QuietTactic
import Derived.BigQuiet
import Derived.WideLaws
import Derived.Deep.DeepCutAuto
import Derived.Deep.CutBlock
import Derived.Deep.RegionHeld3
import Derived.Laws.Rows
import Derived.Lib.AppendStr
import Derived.ArgAppend
import Derived.Laws.IdiomCopy
import Derived.OrdersHeld
import Derived.Laws.BitsLemmas
import Derived.RowKit
import Derived.Test.YtflcanpajgpghaaDoorZDR0
import Derived.Test.YtflcanpajgpghaaDoorZDR1
import Derived.Test.YtflcanpajgpghaaDoorZDR4
set_option linter.unusedVariables false
set_option linter.unusedSimpArgs false
section
namespace Go.Proofs.YtflcanpajgpghaaDoor.Pr
open Go.RowKit Go.Proofs.YtflcanpajgpghaaDoorW.PrintWords Go.Proofs.YtflcanpajgpghaaDoorW.PrintLast Go.Proofs.YtflcanpajgpghaaDoorW.PrintMore
attribute [local go_sem] max2_int min2_int max_two min_two max_three min_three max_four min_four
mutual
def minstrellaw05_DecRises.l0 : Nat → List Int → List Int → Int → ByteArray → ByteArray → Int → Int → Option (Bool)
 | 0, _, _, _, _, _, _, _ => none
 | k + 1, x0, x1, x2, x7, x8, x9, x10 => if x10 < (x0.length : Int) then (if x10 < (x1.length : Int) then (minstrellaw05_DecRises.j1 k x0 x1 x2 x7 x8 x9 x10 (decide (x10 < 30))) else (minstrellaw05_DecRises.j1 k x0 x1 x2 x7 x8 x9 x10 false)) else (minstrellaw05_DecRises.j1 k x0 x1 x2 x7 x8 x9 x10 false)
def minstrellaw05_DecRises.j1 : Nat → List Int → List Int → Int → ByteArray → ByteArray → Int → Int → Bool → Option (Bool)
 | 0, _, _, _, _, _, _, _, _ => none
 | k + 1, x0, x1, x2, x7, x8, x9, x10, x31 => if x31 = true then (if 0 ≤ x10 then (if x10 < (x0.length : Int) then (if x10 < (x1.length : Int) then (if x9 = 0 then (if (Int.tmod (rd x0 x10) 10) = (Int.tmod (rd x1 x10) 10) then ((some (([(48 + (Int.tmod (rd x0 x10) 10)) % 256] : List Int) : List Int)).bind fun y430 => (if x7.size + (strOfNums y430).size ≤ 9223372036854775807 then ((some (([(48 + (Int.tmod (rd x1 x10) 10)) % 256] : List Int) : List Int)).bind fun y433 => (if x8.size + (strOfNums y433).size ≤ 9223372036854775807 then (minstrellaw05_DecRises.l0 k x0 x1 x2 (x7 ++ (strOfNums y430)) (x8 ++ (strOfNums y433)) x9 (wrap64 (x10 + 1))) else (none))) else (none))) else ((some (([(48 + (Int.tmod (rd x0 x10) 10)) % 256] : List Int) : List Int)).bind fun y436 => (if x7.size + (strOfNums y436).size ≤ 9223372036854775807 then ((some (([(48 + (Int.tmod (rd x1 x10) 10)) % 256] : List Int) : List Int)).bind fun y439 => (if x8.size + (strOfNums y439).size ≤ 9223372036854775807 then (minstrellaw05_DecRises.l0 k x0 x1 x2 (x7 ++ (strOfNums y436)) (x8 ++ (strOfNums y439)) (wrap64 ((wrap64 (Int.tmod (rd x0 x10) 10)) - (wrap64 (Int.tmod (rd x1 x10) 10)))) (wrap64 (x10 + 1))) else (none))) else (none)))) else ((some (([(48 + (Int.tmod (rd x0 x10) 10)) % 256] : List Int) : List Int)).bind fun y442 => (if x7.size + (strOfNums y442).size ≤ 9223372036854775807 then ((some (([(48 + (Int.tmod (rd x1 x10) 10)) % 256] : List Int) : List Int)).bind fun y445 => (if x8.size + (strOfNums y445).size ≤ 9223372036854775807 then (minstrellaw05_DecRises.l0 k x0 x1 x2 (x7 ++ (strOfNums y442)) (x8 ++ (strOfNums y445)) x9 (wrap64 (x10 + 1))) else (none))) else (none)))) else (none)) else (none)) else (none)) else (if x7.toList = ([] : List UInt8) then ((minstrellaw05_lives.f k).bind fun t448 => (some t448)) else ((minstrellaw05_digits.f k (wrap64 (x2))).bind fun t449 => (if 1 + t449.size ≤ 9223372036854775807 then (if x2 < 0 then ((minstrellaw05_digits.f k (wrap64 (-(wrap64 (x2))))).bind fun t450 => (if 2 + t450.size ≤ 9223372036854775807 then (minstrellaw05_DecRises.j2 k x7 x8 x9 ((⟨#[101, 45]⟩ : ByteArray) ++ t450)) else (none))) else (minstrellaw05_DecRises.j2 k x7 x8 x9 ((⟨#[101]⟩ : ByteArray) ++ t449))) else (none))))
def minstrellaw05_DecRises.j2 : Nat → ByteArray → ByteArray → Int → ByteArray → Option (Bool)
 | 0, _, _, _, _ => none
 | k + 1, x7, x8, x9, x13 => if x7.size + x13.size ≤ 9223372036854775807 then ((dec_Parse.f k (x7 ++ x13)).bind fun bt451 => (if x8.size + x13.size ≤ 9223372036854775807 then ((dec_Parse.f k (x8 ++ x13)).bind fun bt453 => (if bt451.2 = 0 then (minstrellaw05_DecRises.j3 k x9 bt451.1 bt453.1 (bt453.2 != 0)) else (minstrellaw05_DecRises.j3 k x9 bt451.1 bt453.1 true))) else (none))) else (none)
def minstrellaw05_DecRises.j3 : Nat → Int → Int → Int → Bool → Option (Bool)
 | 0, _, _, _, _ => none
 | k + 1, x9, x14, x16, x101 => if x101 = true then (none) else (if x9 ≤ 0 then (if x9 ≥ 0 then (if x9 = 0 then (if x14 = x16 then ((minstrellaw05_lives.f k).bind fun t455 => (some t455)) else (none)) else ((minstrellaw05_lives.f k).bind fun t456 => (some t456))) else ((minstrelref01_Less.f k x16 x14).bind fun t457 => (if t457 = true then (none) else (if x9 = 0 then (if x14 = x16 then ((minstrellaw05_lives.f k).bind fun t458 => (some t458)) else (none)) else ((minstrellaw05_lives.f k).bind fun t459 => (some t459)))))) else ((minstrelref01_Less.f k x14 x16).bind fun t460 => (if t460 = true then (none) else (if x9 ≥ 0 then (if x9 = 0 then (if x14 = x16 then ((minstrellaw05_lives.f k).bind fun t461 => (some t461)) else (none)) else ((minstrellaw05_lives.f k).bind fun t462 => (some t462))) else ((minstrelref01_Less.f k x16 x14).bind fun t463 => (if t463 = true then (none) else (if x9 = 0 then (if x14 = x16 then ((minstrellaw05_lives.f k).bind fun t464 => (some t464)) else (none)) else ((minstrellaw05_lives.f k).bind fun t465 => (some t465)))))))))
end
def minstrellaw05_DecRises.f (k : Nat) (l0 : List Int) (l1 : List Int) (a2 : Int) : Option (Bool) := minstrellaw05_DecRises.l0 k l0 l1 a2 (⟨#[]⟩ : ByteArray) (⟨#[]⟩ : ByteArray) 0 0
def minstrellaw05_DecRises.T5 : Bool × List (List Nat × List Nat) := (true, [([], []), ([], []), ([0, 1], [0, 1]), ([2], [2]), ([3], [3]), ([], []), ([], []), ([5, 6], [5, 6]), ([7], [7]), ([8], [8]), ([4, 0, 1, 2, 3, 4], [4]), ([9, 10, 0, 1, 2, 3, 4, 5, 6, 7, 8, 9, 10], [9])])
def minstrellaw05_DecRises.B5 : List Nat := [0, 0, 3, 7, 15, 0, 0, 96, 224, 480, 31, 2047]
theorem minstrellaw05_DecRises.tab5 : rtab .any (opsOf Tryd.f5 5) = minstrellaw05_DecRises.T5 := by kernel_rfl
theorem minstrellaw05_DecRises.bits5 : waitsOk minstrellaw05_DecRises.T5.2 minstrellaw05_DecRises.B5 = true := by kernel_rfl
def minstrellaw05_DecRises.T8 : Bool × List (List Nat × List Nat) := (true, [([], []), ([], []), ([1], [1]), ([2], [2]), ([3], [3]), ([0, 4], [0, 4]), ([], []), ([], []), ([7], [7]), ([8], [8]), ([9], [9]), ([6, 10], [6, 10]), ([5, 0, 1, 2, 3, 4, 5], [0, 5]), ([11, 12, 0, 1, 2, 3, 4, 5, 6, 7, 8, 9, 10, 11, 12], [6, 11])])
def minstrellaw05_DecRises.B8 : List Nat := [0, 0, 2, 6, 14, 31, 0, 0, 128, 384, 896, 1984, 63, 8191]
theorem minstrellaw05_DecRises.tab8 : rtab .any (opsOf Tryd.f5 8) = minstrellaw05_DecRises.T8 := by kernel_rfl
theorem minstrellaw05_DecRises.bits8 : waitsOk minstrellaw05_DecRises.T8.2 minstrellaw05_DecRises.B8 = true := by kernel_rfl
set_option maxHeartbeats 8000000 in
set_option maxRecDepth 100000 in
theorem minstrellaw05_DecRises.calls (k : Nat) (A0 : Option Addr) (c0 : Nat) (l0 : List Int) (A1 : Option Addr) (c1 : Nat) (l1 : List Int) (a2 : Int) (r : Bool) (w : World) (hr0 : Kd.C (Kd.int .u8) w A0 l0.length l0) (hc0 : l0.length ≤ c0) (hr1 : Kd.C (Kd.int .u8) w A1 l1.length l1) (hc1 : l1.length ≤ c1) (hG : PowLaid w) (h : minstrellaw05_DecRises.f k l0 l1 a2 = some r) :
  Calls Tryd.prog 5 #[.slice A0 l0.length c0, .slice A1 l1.length c1, .int .i16 a2] w fun e w' => e = .returned (.bool r) ∧ Below w.heap.size w w' := by
 have HR0 := Aside0.mk hr0
 have HC0 := Aside0.mk hc0
 clear hr0 hc0
 have HR1 := Aside0.mk hr1
 have HC1 := Aside0.mk hc1
 clear hr1 hc1
 have HG := Aside0.mk hG
 clear hG
 have HB := Aside0.mk (Below.refl w.heap.size w)
 have H : (minstrellaw05_DecRises.l0 k l0 l1 a2 (⟨#[]⟩ : ByteArray) (⟨#[]⟩ : ByteArray) 0 0) = some r := h
 clear h
 have H' := Aside0.mk H
 clear H
 go_enter Tryd.func5, Tryd.ntmps5
 go_wp2
 go_loopg [7, 8, 9, 10] k (fun kq v7 v8 v9 v10 w' => ∃ (x7_1 : ByteArray) (x8_1 : ByteArray) (x9_1 : Int) (x10_1 : Int), v7 = .string x7_1 ∧ v8 = .string x8_1 ∧ v9 = .int .i64 x9_1 ∧ v10 = .int .i64 x10_1 ∧ Aside0 (minstrellaw05_DecRises.l0 kq l0 l1 a2 x7_1 x8_1 x9_1 x10_1 = some r) ∧ Aside0 (kq ≤ k) ∧ Aside0 (Below w.heap.size w w'))
 case atStart => exact ⟨((⟨#[]⟩ : ByteArray)), ((⟨#[]⟩ : ByteArray)), (0), (0), (by first | rfl | (simp; done) | (simp [*]; done)), (by first | rfl | (simp; done) | (simp [*]; done)), (by first | rfl | (simp; done) | (simp [*]; done)), (by first | rfl | (simp; done) | (simp [*]; done)), H', ⟨Nat.le_refl _⟩, ⟨pB⟩⟩
 case round =>
  clear H'
  try clear c1
  try clear p2
  obtain ⟨x7_1, x8_1, x9_1, x10_1, rfl, rfl, rfl, rfl, HA, HK1, HB⟩ := hrel
  cases gk with
  | zero => exact absurd HA.out (by simp [minstrellaw05_DecRises.l0])
  | succ k1 =>
   have H := HA.out
   clear HA
   simp only [minstrellaw05_DecRises.l0] at H
   have HC4 := Aside0.mk H
   clear H
   go_upto_region 3 with (fail)
   go_cut [31] (fun v31 wc => ∃ (kq : Nat) (x31_3 : Bool), v31 = .bool x31_3 ∧ Aside0 (minstrellaw05_DecRises.j1 kq l0 l1 a2 x7_1 x8_1 x9_1 x10_1 x31_3 = some r) ∧ Aside0 (kq ≤ k1) ∧ Aside0 (Below w.heap.size w wc))
   case first =>
    have H := HC4.out
    clear HC4
    by_cases c5 : x10_1 < (l0.length : Int)
    ·rw [if_pos c5] at H
     have c5b0 : decide (x10_1 < (l0.length : Int)) = true := decide_eq_true c5
     clear c5
     (first | rw [c5b0] | (simp only [i64_w, i32_w]; rw [c5b0]) | rw [c5b1] | (simp only [i64_w, i32_w]; rw [c5b1]) | skip)
     by_cases c6 : x10_1 < (l1.length : Int)
     ·rw [if_pos c6] at H
      have c6b0 : decide (x10_1 < (l1.length : Int)) = true := decide_eq_true c6
      clear c6
      have H' := Aside0.mk H
      clear H
      go_wp2
      go_meet
      case rel => exact ⟨_, (decide (x10_1 < 30)), (by first | rfl | (simp; done) | (simp [*]; done)), H', ⟨by have := HK1.out; first | omega | exact Nat.le_refl _⟩, ⟨pB⟩⟩
     ·rw [if_neg c6] at H
      have c6b0 : decide (x10_1 < (l1.length : Int)) = false := decide_eq_false c6
      clear c6
      have H' := Aside0.mk H
      clear H
      go_wp2
      go_meet
      case rel => exact ⟨_, (false), (by first | rfl | (simp; done) | (simp [*]; done)), H', ⟨by have := HK1.out; first | omega | exact Nat.le_refl _⟩, ⟨pB⟩⟩
    ·rw [if_neg c5] at H
     have c5b0 : decide (x10_1 < (l0.length : Int)) = false := decide_eq_false c5
     clear c5
     (first | rw [c5b0] | (simp only [i64_w, i32_w]; rw [c5b0]) | rw [c5b1] | (simp only [i64_w, i32_w]; rw [c5b1]) | skip)
     have H' := Aside0.mk H
     clear H
     go_wp2
     go_meet
     case rel => exact ⟨_, (false), (by first | rfl | (simp; done) | (simp [*]; done)), H', ⟨by have := HK1.out; first | omega | exact Nat.le_refl _⟩, ⟨pB⟩⟩
   case rest =>
    clear HC4
    try clear c1
    try clear p2
    try clear c5
    try clear c5b0
    try clear c5b1
    try clear c6
    try clear c6b0
    try clear p2
    obtain ⟨kq, x31_3, rfl, HA, HJ3, HB⟩ := hcut
    cases kq with
    | zero => exact absurd HA.out (by simp [minstrellaw05_DecRises.j1])
    | succ kj3 =>
     have H := HA.out
     clear HA
     simp only [minstrellaw05_DecRises.j1] at H
     by_cases c7 : x31_3 = true
     ·subst c7
      have H1 : (if 0 ≤ x10_1 then (if x10_1 < (l0.length : Int) then (if x10_1 < (l1.length : Int) then (if x9_1 = 0 then (if (Int.tmod (rd l0 x10_1) 10) = (Int.tmod (rd l1 x10_1) 10) then ((some (([(48 + (Int.tmod (rd l0 x10_1) 10)) % 256] : List Int) : List Int)).bind fun y430 => (if x7_1.size + (strOfNums y430).size ≤ 9223372036854775807 then ((some (([(48 + (Int.tmod (rd l1 x10_1) 10)) % 256] : List Int) : List Int)).bind fun y433 => (if x8_1.size + (strOfNums y433).size ≤ 9223372036854775807 then (minstrellaw05_DecRises.l0 kj3 l0 l1 a2 (x7_1 ++ (strOfNums y430)) (x8_1 ++ (strOfNums y433)) x9_1 (wrap64 (x10_1 + 1))) else (none))) else (none))) else ((some (([(48 + (Int.tmod (rd l0 x10_1) 10)) % 256] : List Int) : List Int)).bind fun y436 => (if x7_1.size + (strOfNums y436).size ≤ 9223372036854775807 then ((some (([(48 + (Int.tmod (rd l1 x10_1) 10)) % 256] : List Int) : List Int)).bind fun y439 => (if x8_1.size + (strOfNums y439).size ≤ 9223372036854775807 then (minstrellaw05_DecRises.l0 kj3 l0 l1 a2 (x7_1 ++ (strOfNums y436)) (x8_1 ++ (strOfNums y439)) (wrap64 ((wrap64 (Int.tmod (rd l0 x10_1) 10)) - (wrap64 (Int.tmod (rd l1 x10_1) 10)))) (wrap64 (x10_1 + 1))) else (none))) else (none)))) else ((some (([(48 + (Int.tmod (rd l0 x10_1) 10)) % 256] : List Int) : List Int)).bind fun y442 => (if x7_1.size + (strOfNums y442).size ≤ 9223372036854775807 then ((some (([(48 + (Int.tmod (rd l1 x10_1) 10)) % 256] : List Int) : List Int)).bind fun y445 => (if x8_1.size + (strOfNums y445).size ≤ 9223372036854775807 then (minstrellaw05_DecRises.l0 kj3 l0 l1 a2 (x7_1 ++ (strOfNums y442)) (x8_1 ++ (strOfNums y445)) x9_1 (wrap64 (x10_1 + 1))) else (none))) else (none)))) else (none)) else (none)) else (none)) = some r := by rw [if_pos rfl] at H; exact H
      clear H
      have H := H1
      clear H1
      by_cases c8 : 0 ≤ x10_1
      ·rw [if_pos c8] at H
       have c8b0 : decide (0 ≤ x10_1) = true := decide_eq_true c8
       clear c8
       by_cases c9 : x10_1 < (l0.length : Int)
       ·rw [if_pos c9] at H
        have c9b0 : decide (x10_1 < (l0.length : Int)) = true := decide_eq_true c9
        clear c9
        by_cases c10 : x10_1 < (l1.length : Int)
        ·rw [if_pos c10] at H
         have c10b0 : decide (x10_1 < (l1.length : Int)) = true := decide_eq_true c10
         clear c10
         by_cases c11 : x9_1 = 0
         ·rw [if_pos c11] at H
          have c11b0 : (x9_1 == 0) = true := beq_iff_eq.mpr c11
          have c11b1 : (x9_1 != 0) = false := bne_eq_false_iff_eq.mpr c11
          clear c11
          by_cases c12 : (Int.tmod (rd l0 x10_1) 10) = (Int.tmod (rd l1 x10_1) 10)
          ·rw [if_pos c12] at H
           have c12b0 : ((Int.tmod (rd l0 x10_1) 10) == (Int.tmod (rd l1 x10_1) 10)) = true := beq_iff_eq.mpr c12
           have c12b1 : ((Int.tmod (rd l0 x10_1) 10) != (Int.tmod (rd l1 x10_1) 10)) = false := bne_eq_false_iff_eq.mpr c12
           clear c12
           obtain ⟨y430, hy430⟩ : ∃ y_ : List Int, y_ = (([(48 + (Int.tmod (rd l0 x10_1) 10)) % 256] : List Int)) := ⟨_, rfl⟩
           replace H : (if x7_1.size + (strOfNums y430).size ≤ 9223372036854775807 then ((some (([(48 + (Int.tmod (rd l1 x10_1) 10)) % 256] : List Int) : List Int)).bind fun y433 => (if x8_1.size + (strOfNums y433).size ≤ 9223372036854775807 then (minstrellaw05_DecRises.l0 kj3 l0 l1 a2 (x7_1 ++ (strOfNums y430)) (x8_1 ++ (strOfNums y433)) x9_1 (wrap64 (x10_1 + 1))) else (none))) else (none)) = some r := by first | (rw [hy430]; with_reducible exact H) | (have H2_ := (Option.bind_some _ _).symm.trans H; rw [hy430]; with_reducible exact H2_) | (have H2_ := (Option.bind_some _ _).symm.trans H; with_reducible exact H2_) | with_reducible exact H | (rw [hy430]; exact H) | exact H
           have Ny430 := Aside0.mk hy430
           clear hy430
           by_cases c13 : x7_1.size + (strOfNums y430).size ≤ 9223372036854775807
           ·rw [if_pos c13] at H
            have c13b0 := eq_true c13
            have c13b1 : decide (x7_1.size + (strOfNums y430).size ≤ 9223372036854775807) = true := decide_eq_true c13
            try have c13b2 : (9223372036854775807 < x7_1.size + (strOfNums y430).size) = False := eq_false (Nat.not_lt.2 c13)
            obtain ⟨y433, hy433⟩ : ∃ y_ : List Int, y_ = (([(48 + (Int.tmod (rd l1 x10_1) 10)) % 256] : List Int)) := ⟨_, rfl⟩
            replace H : (if x8_1.size + (strOfNums y433).size ≤ 9223372036854775807 then (minstrellaw05_DecRises.l0 kj3 l0 l1 a2 (x7_1 ++ (strOfNums y430)) (x8_1 ++ (strOfNums y433)) x9_1 (wrap64 (x10_1 + 1))) else (none)) = some r := by first | (rw [hy433]; with_reducible exact H) | (have H2_ := (Option.bind_some _ _).symm.trans H; rw [hy433]; with_reducible exact H2_) | (have H2_ := (Option.bind_some _ _).symm.trans H; with_reducible exact H2_) | with_reducible exact H | (rw [hy433]; exact H) | exact H
            have Ny433 := Aside0.mk hy433
            clear hy433
            by_cases c14 : x8_1.size + (strOfNums y433).size ≤ 9223372036854775807
            ·rw [if_pos c14] at H
             have c14b0 := eq_true c14
             have c14b1 : decide (x8_1.size + (strOfNums y433).size ≤ 9223372036854775807) = true := decide_eq_true c14
             try have c14b2 : (9223372036854775807 < x8_1.size + (strOfNums y433).size) = False := eq_false (Nat.not_lt.2 c14)
             have H' := Aside0.mk H
             clear H
             try go_wp2
             have n0_ := Aside0.mk (below_drew1 HB.out)
             clear HB; have HB := n0_; clear n0_
             have p428 : 0 ≤ (x10_1 : Int) := pD
             have q428 : x10_1 < (l0.length : Int) := pD
             obtain ⟨ad428, e428, hx428_0⟩ := Kd.at_int HR0.out x10_1 p428 q428
             have hw428_0 := hx428_0
             cases e428
             replace hx428_0 := (HB.out.cell (World.block_lt_of_cell? w _ hx428_0)).trans hx428_0
             replace p428 := eq_true p428
             replace q428 := eq_true q428
             have p429 : 0 ≤ (x10_1 : Int) := pD
             have q429 : x10_1 < (l1.length : Int) := pD
             obtain ⟨ad429, e429, hx429_0⟩ := Kd.at_int HR1.out x10_1 p429 q429
             have hw429_0 := hx429_0
             cases e429
             replace hx429_0 := (HB.out.cell (World.block_lt_of_cell? w _ hx429_0)).trans hx429_0
             replace p429 := eq_true p429
             replace q429 := eq_true q429
             refine start_ (n := 12) (S := fun w' => w'.cell? (ad428.add (x10_1).toNat) = some (.int .u8 (rd l0 x10_1)) ∧ w'.cell? (ad429.add (x10_1).toNat) = some (.int .u8 (rd l1 x10_1))) (ds := []) (bm 12 0) (by kernel_rfl) rfl rfl ⟨((HB.out.cell (World.block_lt_of_cell? w _ hw428_0)).trans hw428_0), ((HB.out.cell (World.block_lt_of_cell? w _ hw429_0)).trans hw429_0)⟩ (fun hHeld => ?_); refine with_tabW minstrellaw05_DecRises.tab5 minstrellaw05_DecRises.bits5 (fun HT_ HW_ => ?_)
             generalize wc.drew = w15 at HB hx428_0 hx429_0 hHeld ⊢
             refine pure_ (i := 0) (N := some 34) (v := ?_) (a' := ?_) (bm 12 1) rfl rfl (any_of HT_.out (by kernel_rfl)) (fun _ _ _ h => h) (Or.inl ⟨by kernel_rfl, ?_⟩) ?_ ?_
             rotate_left
             ·intro w'
              go_simp
              with_reducible rfl
             rotate_left
             ·exact pA
             refine pure_ (i := 1) (N := some 35) (v := ?_) (a' := ?_) (bm 12 3) rfl rfl (any_of HT_.out (by kernel_rfl)) (fun _ _ _ h => h) (Or.inl ⟨by kernel_rfl, ?_⟩) ?_ ?_
             rotate_left
             ·intro w'
              go_simp
              with_reducible rfl
             rotate_left
             ·exact pA
             refine pure_ (i := 2) (N := some 36) (v := ?_) (a' := ?_) (bm 12 7) rfl rfl (any_of HT_.out (by kernel_rfl)) (fun _ _ _ h => h) (Or.inl ⟨by kernel_rfl, ?_⟩) ?_ ?_
             rotate_left
             ·intro w'
              go_simp
              with_reducible rfl
             rotate_left
             ·exact pA
             refine pure_ (i := 5) (N := some 39) (v := ?_) (a' := ?_) (bm 12 39) rfl rfl (any_of HT_.out (by kernel_rfl)) (fun _ _ _ h => h) (Or.inl ⟨by kernel_rfl, ?_⟩) ?_ ?_
             rotate_left
             ·intro w'
              go_simp
              with_reducible rfl
             rotate_left
             ·exact pA
             refine pure_ (i := 6) (N := some 40) (v := ?_) (a' := ?_) (bm 12 103) rfl rfl (any_of HT_.out (by kernel_rfl)) (fun _ _ _ h => h) (Or.inl ⟨by kernel_rfl, ?_⟩) ?_ ?_
             rotate_left
             ·intro w'
              go_simp
              with_reducible rfl
             rotate_left
             ·exact pA
             refine pure_ (i := 7) (N := some 41) (v := ?_) (a' := ?_) (bm 12 231) rfl rfl (any_of HT_.out (by kernel_rfl)) (fun _ _ _ h => h) (Or.inl ⟨by kernel_rfl, ?_⟩) ?_ ?_
             rotate_left
             ·intro w'
              go_simp
              with_reducible rfl
             rotate_left
             ·exact pA
             refine take_ (i := 3) (N := some 37) (v := ?_) (a' := ?_) (bm 12 239) rfl rfl (take_ofW HT_.out HW_.out (by kernel_rfl)) (fun _ _ _ h => h) (Or.inl ⟨by kernel_rfl, ?_⟩) hHeld ?_ ?_
             rotate_left
             ·rintro w' ⟨s0, s1⟩
              go_simp
              with_reducible rfl
             rotate_left
             ·exact pA
             refine pure_ (i := 4) (N := some 38) (v := ?_) (a' := ?_) (bm 12 255) rfl rfl (any_of HT_.out (by kernel_rfl)) (fun _ _ _ h => h) (Or.inl ⟨by kernel_rfl, ?_⟩) ?_ ?_
             rotate_left
             ·intro w'
              go_simp
              with_reducible rfl
             rotate_left
             ·exact pA
             refine pure_ (i := 10) (N := some 11) (v := ?_) (a' := ?_) (bm 12 1279) rfl rfl (any_of HT_.out (by kernel_rfl)) (fun _ _ _ h => h) (Or.inl ⟨by kernel_rfl, ?_⟩) ?_ ?_
             rotate_left
             ·intro w'
              go_simp
              with_reducible rfl
             rotate_left
             ·exact pA
             refine take_ (i := 8) (N := some 42) (v := ?_) (a' := ?_) (bm 12 1535) rfl rfl (take_ofW HT_.out HW_.out (by kernel_rfl)) (fun _ _ _ h => h) (Or.inl ⟨by kernel_rfl, ?_⟩) hHeld ?_ ?_
             rotate_left
             ·rintro w' ⟨s0, s1⟩
              go_simp
              with_reducible rfl
             rotate_left
             ·exact pA
             refine pure_ (i := 9) (N := some 43) (v := ?_) (a' := ?_) (bm 12 2047) rfl rfl (any_of HT_.out (by kernel_rfl)) (fun _ _ _ h => h) (Or.inl ⟨by kernel_rfl, ?_⟩) ?_ ?_
             rotate_left
             ·intro w'
              go_simp
              with_reducible rfl
             rotate_left
             ·exact pA
             refine pure_ (i := 11) (N := some 12) (v := ?_) (a' := ?_) (bm 12 4095) rfl rfl (any_of HT_.out (by kernel_rfl)) (fun _ _ _ h => h) (Or.inl ⟨by kernel_rfl, ?_⟩) ?_ ?_
             rotate_left
             ·intro w'
              go_simp
              with_reducible rfl
             rotate_left
             ·exact pA
             refine done_ (done_of HT_.out (by kernel_rfl)) ?_
             try go_wp2
             have n0_ := Aside0.mk (below_drew1 HB.out)
             clear HB; have HB := n0_; clear n0_
             refine start_ (n := 14) (S := fun w' => True) (ds := []) (bm 14 0) (by kernel_rfl) rfl rfl trivial (fun hHeld => ?_); refine with_tabW minstrellaw05_DecRises.tab8 minstrellaw05_DecRises.bits8 (fun HT_ HW_ => ?_)
             generalize w15.drew = w16 at HB hHeld ⊢
             refine pure_ (i := 0) (N := some 56) (v := ?_) (a' := ?_) (bm 14 1) rfl rfl (any_of HT_.out (by kernel_rfl)) (fun _ _ _ h => h) (Or.inl ⟨by kernel_rfl, ?_⟩) ?_ ?_
             rotate_left
             ·intro w'
              go_simp
              with_reducible rfl
             rotate_left
             ·exact pA
             refine pure_ (i := 1) (N := some 57) (v := ?_) (a' := ?_) (bm 14 3) rfl rfl (any_of HT_.out (by kernel_rfl)) (fun _ _ _ h => h) (Or.inl ⟨by kernel_rfl, ?_⟩) ?_ ?_
             rotate_left
             ·intro w'
              go_simp
              with_reducible rfl
             rotate_left
             ·exact pA
             refine pure_ (i := 2) (N := some 58) (v := ?_) (a' := ?_) (bm 14 7) rfl rfl (any_of HT_.out (by kernel_rfl)) (fun _ _ _ h => h) (Or.inl ⟨by kernel_rfl, ?_⟩) ?_ ?_
             rotate_left
             ·intro w'
              go_simp
              with_reducible rfl
             rotate_left
             ·exact pA
             refine pure_ (i := 6) (N := some 62) (v := ?_) (a' := ?_) (bm 14 71) rfl rfl (any_of HT_.out (by kernel_rfl)) (fun _ _ _ h => h) (Or.inl ⟨by kernel_rfl, ?_⟩) ?_ ?_
             rotate_left
             ·intro w'
              go_simp
              with_reducible rfl
             rotate_left
             ·exact pA
             refine pure_ (i := 7) (N := some 63) (v := ?_) (a' := ?_) (bm 14 199) rfl rfl (any_of HT_.out (by kernel_rfl)) (fun _ _ _ h => h) (Or.inl ⟨by kernel_rfl, ?_⟩) ?_ ?_
             rotate_left
             ·intro w'
              go_simp
              with_reducible rfl
             rotate_left
             ·exact pA
             refine pure_ (i := 8) (N := some 64) (v := ?_) (a' := ?_) (bm 14 455) rfl rfl (any_of HT_.out (by kernel_rfl)) (fun _ _ _ h => h) (Or.inl ⟨by kernel_rfl, ?_⟩) ?_ ?_
             rotate_left
             ·intro w'
              go_simp
              with_reducible rfl
             rotate_left
             ·exact pA
             refine join_ (σ := Value × Value) 1 (bm 14 8191) (fun s_ => [(59, s_.1), (60, .string (strOfNums y430)), (65, s_.2), (66, .string (strOfNums y433)), (61, .string (x7_1 ++ (strOfNums y430))), (67, .string (x8_1 ++ (strOfNums y433))), (7, .string (x7_1 ++ (strOfNums y430)))]) (fun s_ w' => (Kd.R (Kd.int .u8) 5 w' w.heap.size (fun k_ => some k_ ≠ (s_.2 : Value).ownBlock) s_.1 y430) ∧ (Kd.R (Kd.int .u8) 5 w' w.heap.size (fun k_ => some k_ ≠ (s_.1 : Value).ownBlock) s_.2 y433) ∧ (Below w.heap.size w w')) ?_ ?_
             rotate_left
             ·intro hJ3_4_9_10
              refine join_ (σ := Value × Value) 3 (bm 14 5119) (fun s_ => [(59, s_.1), (60, .string (strOfNums y430)), (65, s_.2), (61, .string (x7_1 ++ (strOfNums y430))), (7, .string (x7_1 ++ (strOfNums y430)))]) (fun s_ w' => (Kd.R (Kd.int .u8) 5 w' w.heap.size (fun k_ => some k_ ≠ (s_.2 : Value).ownBlock) s_.1 y430) ∧ (Kd.R (Kd.int .u8) 5 w' w.heap.size (fun k_ => some k_ ≠ (s_.1 : Value).ownBlock) s_.2 y433) ∧ (Below w.heap.size w w')) ?_ ?_
              rotate_left
              ·intro hJ3_4_9
               refine join_ (σ := Value × Value) 4 (bm 14 4047) (fun s_ => [(59, s_.1), (65, s_.2), (66, .string (strOfNums y433)), (67, .string (x8_1 ++ (strOfNums y433)))]) (fun s_ w' => (Kd.R (Kd.int .u8) 5 w' w.heap.size (fun k_ => some k_ ≠ (s_.2 : Value).ownBlock) s_.1 y430) ∧ (Kd.R (Kd.int .u8) 5 w' w.heap.size (fun k_ => some k_ ≠ (s_.1 : Value).ownBlock) s_.2 y433) ∧ (Below w.heap.size w w')) ?_ ?_
               rotate_left
               ·intro hJ3_9_10
                refine join_ (σ := Value) 4 (bm 14 4607) (fun s_ => [(59, s_), (60, .string (strOfNums y430)), (61, .string (x7_1 ++ (strOfNums y430))), (7, .string (x7_1 ++ (strOfNums y430)))]) (fun s_ w' => (Kd.R (Kd.int .u8) 5 w' w.heap.size (fun _ => True) s_ y430) ∧ (Below w.heap.size w w')) ?_ ?_
                rotate_left
                ·intro hJ3_4
                 refine join_ (σ := Value × Value) 6 (bm 14 975) (fun s_ => [(59, s_.1), (65, s_.2)]) (fun s_ w' => (Kd.R (Kd.int .u8) 5 w' w.heap.size (fun k_ => some k_ ≠ (s_.2 : Value).ownBlock) s_.1 y430) ∧ (Kd.R (Kd.int .u8) 5 w' w.heap.size (fun k_ => some k_ ≠ (s_.1 : Value).ownBlock) s_.2 y433) ∧ (Below w.heap.size w w')) ?_ ?_
                 rotate_left
                 ·intro hJ3_9
                  refine join_ (σ := Value) 5 (bm 14 4039) (fun s_ => [(65, s_), (66, .string (strOfNums y433)), (67, .string (x8_1 ++ (strOfNums y433)))]) (fun s_ w' => (Kd.R (Kd.int .u8) 5 w' w.heap.size (fun _ => True) s_ y433) ∧ (Below w.heap.size w w')) ?_ ?_
                  rotate_left
                  ·intro hJ9_10
                   refine join_ (σ := Value) 7 (bm 14 463) (fun s_ => [(59, s_)]) (fun s_ w' => (Kd.R (Kd.int .u8) 5 w' w.heap.size (fun _ => True) s_ y430) ∧ (Below w.heap.size w w')) ?_ ?_
                   rotate_left
                   ·intro hJ3
                    refine join_ (σ := Value) 7 (bm 14 967) (fun s_ => [(65, s_)]) (fun s_ w' => (Kd.R (Kd.int .u8) 5 w' w.heap.size (fun _ => True) s_ y433) ∧ (Below w.heap.size w w')) ?_ ?_
                    rotate_left
                    ·intro hJ9
                     refine two_ (i := 3) (j := 9) (Ni := some 59) (Nj := some 65) (bm 14 463) (bm 14 967) rfl rfl rfl rfl (two_of HT_.out (by kernel_rfl)) (by decide) (by decide) (fun K hK => ?_) (fun K hK => ?_)
                     ·skip
                      refine Kd.R_lit_step (Kd.int .u8) _ 5 ?hg (N := 59) ?hd (xs := ([(48 + (Int.tmod (rd l0 x10_1) 10)) % 256] : List Int)) (inner := [.int .u8 ((48 + (Int.tmod (rd l0 x10_1) 10)) % 256)]) (ok := fun _ => True) (okp := fun _ => True) ?hr ?hp (fun _ hk => hk) trivial (Below.refl _ _) (Nat.le_refl _) (by simp) ?_; (case hd => rfl); (case hg => rfl); (case hr => first | (go_simp; done) | (go_simp; rfl)); (case hp => exact (Reps.one (show Kd.M (Kd.int .u8) _ _ _ ((48 + (Int.tmod (rd l0 x10_1) 10)) % 256) [.int .u8 ((48 + (Int.tmod (rd l0 x10_1) 10)) % 256)] from rfl) (Reps.none _ _)))
                      intro v431 w17 ho18 hb hg_ hnew_
                      clear hg_ hnew_
                      (first | rw [← Ny430.out] at ho18 | (simp only [Int.reduceToNat] at ho18; rw [← Ny430.out] at ho18))
                      have n0_ := Aside0.mk (Kd.R_lower ho18 (below_size pB))
                      have n1_ := Aside0.mk (below_step pB hb)
                      clear HB; have HO432 := n0_; have HB := n1_; clear n0_ n1_ hb ho18
                      refine hK.out _ _ trivial (fun hHeld => ?_)
                      clear hK K
                      refine norm_ (a' := ?_) ?_ ?_
                      rotate_left
                      ·show Act.put _ (some 59) _ = _
                       exact pA
                      exact norm_ (by first | (simp only [putAll, Act.put, List.setIfInBounds_toArray, List.set_cons_zero, List.set_cons_succ]; done) | (simp only [putAll, Act.put, List.setIfInBounds_toArray, List.set_cons_zero, List.set_cons_succ]; rfl)) (hJ3 (v431) _ ⟨(pR HO432.out), pB⟩)
                     ·skip
                      refine Kd.R_lit_step (Kd.int .u8) _ 5 ?hg (N := 65) ?hd (xs := ([(48 + (Int.tmod (rd l1 x10_1) 10)) % 256] : List Int)) (inner := [.int .u8 ((48 + (Int.tmod (rd l1 x10_1) 10)) % 256)]) (ok := fun _ => True) (okp := fun _ => True) ?hr ?hp (fun _ hk => hk) trivial (Below.refl _ _) (Nat.le_refl _) (by simp) ?_; (case hd => rfl); (case hg => rfl); (case hr => first | (go_simp; done) | (go_simp; rfl)); (case hp => exact (Reps.one (show Kd.M (Kd.int .u8) _ _ _ ((48 + (Int.tmod (rd l1 x10_1) 10)) % 256) [.int .u8 ((48 + (Int.tmod (rd l1 x10_1) 10)) % 256)] from rfl) (Reps.none _ _)))
                      intro v434 w17 ho18 hb hg_ hnew_
                      clear hg_ hnew_
                      (first | rw [← Ny433.out] at ho18 | (simp only [Int.reduceToNat] at ho18; rw [← Ny433.out] at ho18))
                      have n0_ := Aside0.mk (Kd.R_lower ho18 (below_size pB))
                      have n1_ := Aside0.mk (below_step pB hb)
                      clear HB; have HO435 := n0_; have HB := n1_; clear n0_ n1_ hb ho18
                      refine hK.out _ _ trivial (fun hHeld => ?_)
                      clear hK K
                      refine norm_ (a' := ?_) ?_ ?_
                      rotate_left
                      ·show Act.put _ (some 65) _ = _
                       exact pA
                      exact norm_ (by first | (simp only [putAll, Act.put, List.setIfInBounds_toArray, List.set_cons_zero, List.set_cons_succ]; done) | (simp only [putAll, Act.put, List.setIfInBounds_toArray, List.set_cons_zero, List.set_cons_succ]; rfl)) (hJ9 (v434) _ ⟨(pR HO435.out), pB⟩)
                    ·skip
                     rintro v434 w19 ⟨h0_, h1_⟩
                     have n0_ : Aside0 (Kd.R (Kd.int .u8) 5 w19 w.heap.size (fun _ => True) v434 y433) := ⟨h0_⟩
                     have n1_ : Aside0 (Below w.heap.size w w19) := ⟨h1_⟩
                     clear HB h0_ h1_; have HO435 := n0_; have HB := n1_; clear n0_ n1_
                     have hHeld := trivial
                     refine norm_ (a' := ?_) ?_ ?_
                     rotate_left
                     ·exact pA2
                     refine two_ (i := 3) (j := 10) (Ni := some 59) (Nj := some 66) (bm 14 975) (bm 14 1991) rfl rfl rfl rfl (two_of HT_.out (by kernel_rfl)) (by decide) (by decide) (fun K hK => ?_) (fun K hK => ?_)
                     ·skip
                      refine Kd.R_lit_step (Kd.int .u8) _ 5 ?hg (N := 59) ?hd (xs := ([(48 + (Int.tmod (rd l0 x10_1) 10)) % 256] : List Int)) (inner := [.int .u8 ((48 + (Int.tmod (rd l0 x10_1) 10)) % 256)]) (ok := fun _ => True) (okp := fun _ => True) ?hr ?hp (fun _ hk => hk) trivial (Below.refl _ _) (Nat.le_refl _) (by simp) ?_; (case hd => rfl); (case hg => rfl); (case hr => first | (go_simp; done) | (go_simp; rfl)); (case hp => exact (Reps.one (show Kd.M (Kd.int .u8) _ _ _ ((48 + (Int.tmod (rd l0 x10_1) 10)) % 256) [.int .u8 ((48 + (Int.tmod (rd l0 x10_1) 10)) % 256)] from rfl) (Reps.none _ _)))
                      intro v431 w20 ho21 hb hg_ hnew_
                      clear hg_ hnew_
                      (first | rw [← Ny430.out] at ho21 | (simp only [Int.reduceToNat] at ho21; rw [← Ny430.out] at ho21))
                      have n0_ := Aside0.mk (Kd.R_elder' (pR HO435.out) (Kd.R_base ho21) hb)
                      have n1_ := Aside0.mk (Kd.R_lower (Kd.R_new' ho21 (Kd.R_lt (pR HO435.out))) (below_size pB))
                      have n2_ := Aside0.mk (below_step pB hb)
                      clear HO435 HB; have HO435 := n0_; have HO432 := n1_; have HB := n2_; clear n0_ n1_ n2_ hb ho21
                      refine hK.out _ _ trivial (fun hHeld => ?_)
                      clear hK K
                      refine norm_ (a' := ?_) ?_ ?_
                      rotate_left
                      ·show Act.put _ (some 59) _ = _
                       exact pA
                      exact norm_ (by first | (simp only [putAll, Act.put, List.setIfInBounds_toArray, List.set_cons_zero, List.set_cons_succ]; done) | (simp only [putAll, Act.put, List.setIfInBounds_toArray, List.set_cons_zero, List.set_cons_succ]; rfl)) (hJ3_9 (v431, v434) _ ⟨(by (with_reducible repeat (first | apply Kd.R_alloc | apply Kd.R_drewN | apply Kd.R_drew)); exact Kd.R_mono HO432.out (fun _ hk => hk.2)), (by (with_reducible repeat (first | apply Kd.R_alloc | apply Kd.R_drewN | apply Kd.R_drew)); exact Kd.R_mono HO435.out (fun _ hk => hk.2)), pB⟩)
                     ·skip
                      have hcv20 := own_string (P := Tryd.prog) Tryd.underlying35 Tryd.underlying5 Tryd.underlying9 (Kd.own_of_R HO435.out)
                      refine value_ (w1 := ?_) (v := ?_) (by rfl) rfl ?_ ?_
                      rotate_left 2
                      ·go_simp
                       constructor
                       ·rfl
                       ·rfl
                      clear hcv20
                      refine hK.out _ _ trivial (fun hHeld => ?_)
                      clear hK K
                      refine norm_ (a' := ?_) ?_ ?_
                      rotate_left
                      ·show Act.put _ (some 66) _ = _
                       exact pA
                      refine pure_ (i := 11) (N := some 67) (v := ?_) (a' := ?_) (bm 14 4039) rfl rfl (any_of HT_.out (by kernel_rfl)) (fun _ _ _ h => h) (Or.inl ⟨by kernel_rfl, ?_⟩) ?_ ?_
                      rotate_left
                      ·intro w'
                       go_simp
                       with_reducible rfl
                      rotate_left
                      ·exact pA
                      exact norm_ (by first | (simp only [putAll, Act.put, List.setIfInBounds_toArray, List.set_cons_zero, List.set_cons_succ]; done) | (simp only [putAll, Act.put, List.setIfInBounds_toArray, List.set_cons_zero, List.set_cons_succ]; rfl)) (hJ9_10 (v434) _ ⟨(pR HO435.out), pB⟩)
                   ·skip
                    rintro v431 w19 ⟨h0_, h1_⟩
                    have n0_ : Aside0 (Kd.R (Kd.int .u8) 5 w19 w.heap.size (fun _ => True) v431 y430) := ⟨h0_⟩
                    have n1_ : Aside0 (Below w.heap.size w w19) := ⟨h1_⟩
                    clear HB h0_ h1_; have HO432 := n0_; have HB := n1_; clear n0_ n1_
                    have hHeld := trivial
                    refine norm_ (a' := ?_) ?_ ?_
                    rotate_left
                    ·exact pA2
                    refine two_ (i := 4) (j := 9) (Ni := some 60) (Nj := some 65) (bm 14 479) (bm 14 975) rfl rfl rfl rfl (two_of HT_.out (by kernel_rfl)) (by decide) (by decide) (fun K hK => ?_) (fun K hK => ?_)
                    ·skip
                     have hcv20 := own_string (P := Tryd.prog) Tryd.underlying35 Tryd.underlying5 Tryd.underlying9 (Kd.own_of_R HO432.out)
                     refine value_ (w1 := ?_) (v := ?_) (by rfl) rfl ?_ ?_
                     rotate_left 2
                     ·go_simp
                      constructor
                      ·rfl
                      ·rfl
                     clear hcv20
                     refine hK.out _ _ trivial (fun hHeld => ?_)
                     clear hK K
                     refine norm_ (a' := ?_) ?_ ?_
                     rotate_left
                     ·show Act.put _ (some 60) _ = _
                      exact pA
                     refine pure_ (i := 5) (N := some 61) (v := ?_) (a' := ?_) (bm 14 511) rfl rfl (any_of HT_.out (by kernel_rfl)) (fun _ _ _ h => h) (Or.inl ⟨by kernel_rfl, ?_⟩) ?_ ?_
                     rotate_left
                     ·intro w'
                      go_simp
                      with_reducible rfl
                     rotate_left
                     ·exact pA
                     refine pure_ (i := 12) (N := some 7) (v := ?_) (a' := ?_) (bm 14 4607) rfl rfl (any_of HT_.out (by kernel_rfl)) (fun _ _ _ h => h) (Or.inl ⟨by kernel_rfl, ?_⟩) ?_ ?_
                     rotate_left
                     ·intro w'
                      go_simp
                      with_reducible rfl
                     rotate_left
                     ·exact pA
                     exact norm_ (by first | (simp only [putAll, Act.put, List.setIfInBounds_toArray, List.set_cons_zero, List.set_cons_succ]; done) | (simp only [putAll, Act.put, List.setIfInBounds_toArray, List.set_cons_zero, List.set_cons_succ]; rfl)) (hJ3_4 (v431) _ ⟨(pR HO432.out), pB⟩)
                    ·skip
                     refine Kd.R_lit_step (Kd.int .u8) _ 5 ?hg (N := 65) ?hd (xs := ([(48 + (Int.tmod (rd l1 x10_1) 10)) % 256] : List Int)) (inner := [.int .u8 ((48 + (Int.tmod (rd l1 x10_1) 10)) % 256)]) (ok := fun _ => True) (okp := fun _ => True) ?hr ?hp (fun _ hk => hk) trivial (Below.refl _ _) (Nat.le_refl _) (by simp) ?_; (case hd => rfl); (case hg => rfl); (case hr => first | (go_simp; done) | (go_simp; rfl)); (case hp => exact (Reps.one (show Kd.M (Kd.int .u8) _ _ _ ((48 + (Int.tmod (rd l1 x10_1) 10)) % 256) [.int .u8 ((48 + (Int.tmod (rd l1 x10_1) 10)) % 256)] from rfl) (Reps.none _ _)))
                     intro v434 w20 ho21 hb hg_ hnew_
                     clear hg_ hnew_
                     (first | rw [← Ny433.out] at ho21 | (simp only [Int.reduceToNat] at ho21; rw [← Ny433.out] at ho21))
                     have n0_ := Aside0.mk (Kd.R_elder' (pR HO432.out) (Kd.R_base ho21) hb)
                     have n1_ := Aside0.mk (Kd.R_lower (Kd.R_new' ho21 (Kd.R_lt (pR HO432.out))) (below_size pB))
                     have n2_ := Aside0.mk (below_step pB hb)
                     clear HO432 HB; have HO432 := n0_; have HO435 := n1_; have HB := n2_; clear n0_ n1_ n2_ hb ho21
                     refine hK.out _ _ trivial (fun hHeld => ?_)
                     clear hK K
                     refine norm_ (a' := ?_) ?_ ?_
                     rotate_left
                     ·show Act.put _ (some 65) _ = _
                      exact pA
                     exact norm_ (by first | (simp only [putAll, Act.put, List.setIfInBounds_toArray, List.set_cons_zero, List.set_cons_succ]; done) | (simp only [putAll, Act.put, List.setIfInBounds_toArray, List.set_cons_zero, List.set_cons_succ]; rfl)) (hJ3_9 (v431, v434) _ ⟨(by (with_reducible repeat (first | apply Kd.R_alloc | apply Kd.R_drewN | apply Kd.R_drew)); exact Kd.R_mono HO432.out (fun _ hk => hk.2)), (by (with_reducible repeat (first | apply Kd.R_alloc | apply Kd.R_drewN | apply Kd.R_drew)); exact Kd.R_mono HO435.out (fun _ hk => hk.2)), pB⟩)
                  ·skip
                   rintro v434 w20 ⟨h0_, h1_⟩
                   have n0_ : Aside0 (Kd.R (Kd.int .u8) 5 w20 w.heap.size (fun _ => True) v434 y433) := ⟨h0_⟩
                   have n1_ : Aside0 (Below w.heap.size w w20) := ⟨h1_⟩
                   clear HB h0_ h1_; have HO435 := n0_; have HB := n1_; clear n0_ n1_
                   have hHeld := trivial
                   refine norm_ (a' := ?_) ?_ ?_
                   rotate_left
                   ·exact pA2
                   refine one_ (i := 3) (N := some 59) (bm 14 4047) rfl rfl (one_of HT_.out (by kernel_rfl)) (by decide) (fun K hK => ?_)
                   refine Kd.R_lit_step (Kd.int .u8) _ 5 ?hg (N := 59) ?hd (xs := ([(48 + (Int.tmod (rd l0 x10_1) 10)) % 256] : List Int)) (inner := [.int .u8 ((48 + (Int.tmod (rd l0 x10_1) 10)) % 256)]) (ok := fun _ => True) (okp := fun _ => True) ?hr ?hp (fun _ hk => hk) trivial (Below.refl _ _) (Nat.le_refl _) (by simp) ?_; (case hd => rfl); (case hg => rfl); (case hr => first | (go_simp; done) | (go_simp; rfl)); (case hp => exact (Reps.one (show Kd.M (Kd.int .u8) _ _ _ ((48 + (Int.tmod (rd l0 x10_1) 10)) % 256) [.int .u8 ((48 + (Int.tmod (rd l0 x10_1) 10)) % 256)] from rfl) (Reps.none _ _)))
                   intro v431 w21 ho22 hb hg_ hnew_
                   clear hg_ hnew_
                   (first | rw [← Ny430.out] at ho22 | (simp only [Int.reduceToNat] at ho22; rw [← Ny430.out] at ho22))
                   have n0_ := Aside0.mk (Kd.R_elder' (pR HO435.out) (Kd.R_base ho22) hb)
                   have n1_ := Aside0.mk (Kd.R_lower (Kd.R_new' ho22 (Kd.R_lt (pR HO435.out))) (below_size pB))
                   have n2_ := Aside0.mk (below_step pB hb)
                   clear HO435 HB; have HO435 := n0_; have HO432 := n1_; have HB := n2_; clear n0_ n1_ n2_ hb ho22
                   refine hK.out _ _ trivial (fun hHeld => ?_)
                   clear hK K
                   refine norm_ (a' := ?_) ?_ ?_
                   rotate_left
                   ·show Act.put _ (some 59) _ = _
                    exact pA
                   exact norm_ (by first | (simp only [putAll, Act.put, List.setIfInBounds_toArray, List.set_cons_zero, List.set_cons_succ]; done) | (simp only [putAll, Act.put, List.setIfInBounds_toArray, List.set_cons_zero, List.set_cons_succ]; rfl)) (hJ3_9_10 (v431, v434) _ ⟨(by (with_reducible repeat (first | apply Kd.R_alloc | apply Kd.R_drewN | apply Kd.R_drew)); exact Kd.R_mono HO432.out (fun _ hk => hk.2)), (by (with_reducible repeat (first | apply Kd.R_alloc | apply Kd.R_drewN | apply Kd.R_drew)); exact Kd.R_mono HO435.out (fun _ hk => hk.2)), pB⟩)
                 ·skip
                  rintro ⟨v431, v434⟩ w21 ⟨h0_, h1_, h2_⟩
                  have n0_ : Aside0 (Kd.R (Kd.int .u8) 5 w21 w.heap.size (fun k_ => some k_ ≠ (v434 : Value).ownBlock) v431 y430) := ⟨h0_⟩
                  have n1_ : Aside0 (Kd.R (Kd.int .u8) 5 w21 w.heap.size (fun k_ => some k_ ≠ (v431 : Value).ownBlock) v434 y433) := ⟨h1_⟩
                  have n2_ : Aside0 (Below w.heap.size w w21) := ⟨h2_⟩
                  clear HB h0_ h1_ h2_; have HO432 := n0_; have HO435 := n1_; have HB := n2_; clear n0_ n1_ n2_
                  have hHeld := trivial
                  refine norm_ (a' := ?_) ?_ ?_
                  rotate_left
                  ·exact pA2
                  refine two_ (i := 4) (j := 10) (Ni := some 60) (Nj := some 66) (bm 14 991) (bm 14 1999) rfl rfl rfl rfl (two_of HT_.out (by kernel_rfl)) (by decide) (by decide) (fun K hK => ?_) (fun K hK => ?_)
                  ·skip
                   have hcv22 := own_string (P := Tryd.prog) Tryd.underlying35 Tryd.underlying5 Tryd.underlying9 (Kd.own_of_R HO432.out)
                   refine value_ (w1 := ?_) (v := ?_) (by rfl) rfl ?_ ?_
                   rotate_left 2
                   ·go_simp
                    constructor
                    ·rfl
                    ·rfl
                   clear hcv22
                   refine hK.out _ _ trivial (fun hHeld => ?_)
                   clear hK K
                   refine norm_ (a' := ?_) ?_ ?_
                   rotate_left
                   ·show Act.put _ (some 60) _ = _
                    exact pA
                   refine pure_ (i := 5) (N := some 61) (v := ?_) (a' := ?_) (bm 14 1023) rfl rfl (any_of HT_.out (by kernel_rfl)) (fun _ _ _ h => h) (Or.inl ⟨by kernel_rfl, ?_⟩) ?_ ?_
                   rotate_left
                   ·intro w'
                    go_simp
                    with_reducible rfl
                   rotate_left
                   ·exact pA
                   refine pure_ (i := 12) (N := some 7) (v := ?_) (a' := ?_) (bm 14 5119) rfl rfl (any_of HT_.out (by kernel_rfl)) (fun _ _ _ h => h) (Or.inl ⟨by kernel_rfl, ?_⟩) ?_ ?_
                   rotate_left
                   ·intro w'
                    go_simp
                    with_reducible rfl
                   rotate_left
                   ·exact pA
                   exact norm_ (by first | (simp only [putAll, Act.put, List.setIfInBounds_toArray, List.set_cons_zero, List.set_cons_succ]; done) | (simp only [putAll, Act.put, List.setIfInBounds_toArray, List.set_cons_zero, List.set_cons_succ]; rfl)) (hJ3_4_9 (v431, v434) _ ⟨(pR HO432.out), (pR HO435.out), pB⟩)
                  ·skip
                   have hcv22 := own_string (P := Tryd.prog) Tryd.underlying35 Tryd.underlying5 Tryd.underlying9 (Kd.own_of_R HO435.out)
                   refine value_ (w1 := ?_) (v := ?_) (by rfl) rfl ?_ ?_
                   rotate_left 2
                   ·go_simp
                    constructor
                    ·rfl
                    ·rfl
                   clear hcv22
                   refine hK.out _ _ trivial (fun hHeld => ?_)
                   clear hK K
                   refine norm_ (a' := ?_) ?_ ?_
                   rotate_left
                   ·show Act.put _ (some 66) _ = _
                    exact pA
                   refine pure_ (i := 11) (N := some 67) (v := ?_) (a' := ?_) (bm 14 4047) rfl rfl (any_of HT_.out (by kernel_rfl)) (fun _ _ _ h => h) (Or.inl ⟨by kernel_rfl, ?_⟩) ?_ ?_
                   rotate_left
                   ·intro w'
                    go_simp
                    with_reducible rfl
                   rotate_left
                   ·exact pA
                   exact norm_ (by first | (simp only [putAll, Act.put, List.setIfInBounds_toArray, List.set_cons_zero, List.set_cons_succ]; done) | (simp only [putAll, Act.put, List.setIfInBounds_toArray, List.set_cons_zero, List.set_cons_succ]; rfl)) (hJ3_9_10 (v431, v434) _ ⟨(pR HO432.out), (pR HO435.out), pB⟩)
                ·skip
                 rintro v431 w20 ⟨h0_, h1_⟩
                 have n0_ : Aside0 (Kd.R (Kd.int .u8) 5 w20 w.heap.size (fun _ => True) v431 y430) := ⟨h0_⟩
                 have n1_ : Aside0 (Below w.heap.size w w20) := ⟨h1_⟩
                 clear HB h0_ h1_; have HO432 := n0_; have HB := n1_; clear n0_ n1_
                 have hHeld := trivial
                 refine norm_ (a' := ?_) ?_ ?_
                 rotate_left
                 ·exact pA2
                 refine one_ (i := 9) (N := some 65) (bm 14 5119) rfl rfl (one_of HT_.out (by kernel_rfl)) (by decide) (fun K hK => ?_)
                 refine Kd.R_lit_step (Kd.int .u8) _ 5 ?hg (N := 65) ?hd (xs := ([(48 + (Int.tmod (rd l1 x10_1) 10)) % 256] : List Int)) (inner := [.int .u8 ((48 + (Int.tmod (rd l1 x10_1) 10)) % 256)]) (ok := fun _ => True) (okp := fun _ => True) ?hr ?hp (fun _ hk => hk) trivial (Below.refl _ _) (Nat.le_refl _) (by simp) ?_; (case hd => rfl); (case hg => rfl); (case hr => first | (go_simp; done) | (go_simp; rfl)); (case hp => exact (Reps.one (show Kd.M (Kd.int .u8) _ _ _ ((48 + (Int.tmod (rd l1 x10_1) 10)) % 256) [.int .u8 ((48 + (Int.tmod (rd l1 x10_1) 10)) % 256)] from rfl) (Reps.none _ _)))
                 intro v434 w21 ho22 hb hg_ hnew_
                 clear hg_ hnew_
                 (first | rw [← Ny433.out] at ho22 | (simp only [Int.reduceToNat] at ho22; rw [← Ny433.out] at ho22))
                 have n0_ := Aside0.mk (Kd.R_elder' (pR HO432.out) (Kd.R_base ho22) hb)
                 have n1_ := Aside0.mk (Kd.R_lower (Kd.R_new' ho22 (Kd.R_lt (pR HO432.out))) (below_size pB))
                 have n2_ := Aside0.mk (below_step pB hb)
                 clear HO432 HB; have HO432 := n0_; have HO435 := n1_; have HB := n2_; clear n0_ n1_ n2_ hb ho22
                 refine hK.out _ _ trivial (fun hHeld => ?_)
                 clear hK K
                 refine norm_ (a' := ?_) ?_ ?_
                 rotate_left
                 ·show Act.put _ (some 65) _ = _
                  exact pA
                 exact norm_ (by first | (simp only [putAll, Act.put, List.setIfInBounds_toArray, List.set_cons_zero, List.set_cons_succ]; done) | (simp only [putAll, Act.put, List.setIfInBounds_toArray, List.set_cons_zero, List.set_cons_succ]; rfl)) (hJ3_4_9 (v431, v434) _ ⟨(by (with_reducible repeat (first | apply Kd.R_alloc | apply Kd.R_drewN | apply Kd.R_drew)); exact Kd.R_mono HO432.out (fun _ hk => hk.2)), (by (with_reducible repeat (first | apply Kd.R_alloc | apply Kd.R_drewN | apply Kd.R_drew)); exact Kd.R_mono HO435.out (fun _ hk => hk.2)), pB⟩)
               ·skip
                rintro ⟨v431, v434⟩ w22 ⟨h0_, h1_, h2_⟩
                have n0_ : Aside0 (Kd.R (Kd.int .u8) 5 w22 w.heap.size (fun k_ => some k_ ≠ (v434 : Value).ownBlock) v431 y430) := ⟨h0_⟩
                have n1_ : Aside0 (Kd.R (Kd.int .u8) 5 w22 w.heap.size (fun k_ => some k_ ≠ (v431 : Value).ownBlock) v434 y433) := ⟨h1_⟩
                have n2_ : Aside0 (Below w.heap.size w w22) := ⟨h2_⟩
                clear HB h0_ h1_ h2_; have HO432 := n0_; have HO435 := n1_; have HB := n2_; clear n0_ n1_ n2_
                have hHeld := trivial
                refine norm_ (a' := ?_) ?_ ?_
                rotate_left
                ·exact pA2
                refine one_ (i := 4) (N := some 60) (bm 14 4063) rfl rfl (one_of HT_.out (by kernel_rfl)) (by decide) (fun K hK => ?_)
                have hcv23 := own_string (P := Tryd.prog) Tryd.underlying35 Tryd.underlying5 Tryd.underlying9 (Kd.own_of_R HO432.out)
                refine value_ (w1 := ?_) (v := ?_) (by rfl) rfl ?_ ?_
                rotate_left 2
                ·go_simp
                 constructor
                 ·rfl
                 ·rfl
                clear hcv23
                refine hK.out _ _ trivial (fun hHeld => ?_)
                clear hK K
                refine norm_ (a' := ?_) ?_ ?_
                rotate_left
                ·show Act.put _ (some 60) _ = _
                 exact pA
                refine pure_ (i := 5) (N := some 61) (v := ?_) (a' := ?_) (bm 14 4095) rfl rfl (any_of HT_.out (by kernel_rfl)) (fun _ _ _ h => h) (Or.inl ⟨by kernel_rfl, ?_⟩) ?_ ?_
                rotate_left
                ·intro w'
                 go_simp
                 with_reducible rfl
                rotate_left
                ·exact pA
                refine pure_ (i := 12) (N := some 7) (v := ?_) (a' := ?_) (bm 14 8191) rfl rfl (any_of HT_.out (by kernel_rfl)) (fun _ _ _ h => h) (Or.inl ⟨by kernel_rfl, ?_⟩) ?_ ?_
                rotate_left
                ·intro w'
                 go_simp
                 with_reducible rfl
                rotate_left
                ·exact pA
                exact norm_ (by first | (simp only [putAll, Act.put, List.setIfInBounds_toArray, List.set_cons_zero, List.set_cons_succ]; done) | (simp only [putAll, Act.put, List.setIfInBounds_toArray, List.set_cons_zero, List.set_cons_succ]; rfl)) (hJ3_4_9_10 (v431, v434) _ ⟨(pR HO432.out), (pR HO435.out), pB⟩)
              ·skip
               rintro ⟨v431, v434⟩ w22 ⟨h0_, h1_, h2_⟩
               have n0_ : Aside0 (Kd.R (Kd.int .u8) 5 w22 w.heap.size (fun k_ => some k_ ≠ (v434 : Value).ownBlock) v431 y430) := ⟨h0_⟩
               have n1_ : Aside0 (Kd.R (Kd.int .u8) 5 w22 w.heap.size (fun k_ => some k_ ≠ (v431 : Value).ownBlock) v434 y433) := ⟨h1_⟩
               have n2_ : Aside0 (Below w.heap.size w w22) := ⟨h2_⟩
               clear HB h0_ h1_ h2_; have HO432 := n0_; have HO435 := n1_; have HB := n2_; clear n0_ n1_ n2_
               have hHeld := trivial
               refine norm_ (a' := ?_) ?_ ?_
               rotate_left
               ·exact pA2
               refine one_ (i := 10) (N := some 66) (bm 14 6143) rfl rfl (one_of HT_.out (by kernel_rfl)) (by decide) (fun K hK => ?_)
               have hcv23 := own_string (P := Tryd.prog) Tryd.underlying35 Tryd.underlying5 Tryd.underlying9 (Kd.own_of_R HO435.out)
               refine value_ (w1 := ?_) (v := ?_) (by rfl) rfl ?_ ?_
               rotate_left 2
               ·go_simp
                constructor
                ·rfl
                ·rfl
               clear hcv23
               refine hK.out _ _ trivial (fun hHeld => ?_)
               clear hK K
               refine norm_ (a' := ?_) ?_ ?_
               rotate_left
               ·show Act.put _ (some 66) _ = _
                exact pA
               refine pure_ (i := 11) (N := some 67) (v := ?_) (a' := ?_) (bm 14 8191) rfl rfl (any_of HT_.out (by kernel_rfl)) (fun _ _ _ h => h) (Or.inl ⟨by kernel_rfl, ?_⟩) ?_ ?_
               rotate_left
               ·intro w'
                go_simp
                with_reducible rfl
               rotate_left
               ·exact pA
               exact norm_ (by first | (simp only [putAll, Act.put, List.setIfInBounds_toArray, List.set_cons_zero, List.set_cons_succ]; done) | (simp only [putAll, Act.put, List.setIfInBounds_toArray, List.set_cons_zero, List.set_cons_succ]; rfl)) (hJ3_4_9_10 (v431, v434) _ ⟨(pR HO432.out), (pR HO435.out), pB⟩)
             rintro ⟨v431, v434⟩ w23 ⟨h0_, h1_, h2_⟩
             have n0_ : Aside0 (Kd.R (Kd.int .u8) 5 w23 w.heap.size (fun k_ => some k_ ≠ (v434 : Value).ownBlock) v431 y430) := ⟨h0_⟩
             have n1_ : Aside0 (Kd.R (Kd.int .u8) 5 w23 w.heap.size (fun k_ => some k_ ≠ (v431 : Value).ownBlock) v434 y433) := ⟨h1_⟩
             have n2_ : Aside0 (Below w.heap.size w w23) := ⟨h2_⟩
             clear HB h0_ h1_ h2_; have HO432 := n0_; have HO435 := n1_; have HB := n2_; clear n0_ n1_ n2_
             have hHeld := trivial
             refine norm_ (a' := ?_) ?_ ?_
             rotate_left
             ·exact pA2
             refine pure_ (i := 13) (N := some 8) (v := ?_) (a' := ?_) (bm 14 16383) rfl rfl (any_of HT_.out (by kernel_rfl)) (fun _ _ _ h => h) (Or.inl ⟨by kernel_rfl, ?_⟩) ?_ ?_
             rotate_left
             ·intro w'
              go_simp
              with_reducible rfl
             rotate_left
             ·exact pA
             refine done_ (done_of HT_.out (by kernel_rfl)) ?_
             try go_wp2
             go_roundg kj3
             case measure => have := HK1.out; have := HJ3.out; omega
             case rel => exact ⟨(x7_1 ++ (strOfNums y430)), (x8_1 ++ (strOfNums y433)), (x9_1), (wrap64 (x10_1 + 1)), (by first | rfl | (simp; done) | (simp [*]; done)), (by first | rfl | (simp; done) | (simp [*]; done)), (by first | rfl | (simp; done) | (simp [*]; done)), (by first | rfl | (simp; done) | (simp [*]; done)), H', ⟨by have := HK1.out; have := HJ3.out; omega⟩, ⟨pB⟩⟩
            ·rw [if_neg c14] at H
             exact absurd H (by simp)
           ·rw [if_neg c13] at H
            exact absurd H (by simp)
          ·rw [if_neg c12] at H
           have c12b0 : ((Int.tmod (rd l0 x10_1) 10) == (Int.tmod (rd l1 x10_1) 10)) = false := beq_eq_false_iff_ne.mpr c12
           have c12b1 : ((Int.tmod (rd l0 x10_1) 10) != (Int.tmod (rd l1 x10_1) 10)) = true := bne_iff_ne.mpr c12
           obtain ⟨y436, hy436⟩ : ∃ y_ : List Int, y_ = (([(48 + (Int.tmod (rd l0 x10_1) 10)) % 256] : List Int)) := ⟨_, rfl⟩
           replace H : (if x7_1.size + (strOfNums y436).size ≤ 9223372036854775807 then ((some (([(48 + (Int.tmod (rd l1 x10_1) 10)) % 256] : List Int) : List Int)).bind fun y439 => (if x8_1.size + (strOfNums y439).size ≤ 9223372036854775807 then (minstrellaw05_DecRises.l0 kj3 l0 l1 a2 (x7_1 ++ (strOfNums y436)) (x8_1 ++ (strOfNums y439)) (wrap64 ((wrap64 (Int.tmod (rd l0 x10_1) 10)) - (wrap64 (Int.tmod (rd l1 x10_1) 10)))) (wrap64 (x10_1 + 1))) else (none))) else (none)) = some r := by first | (rw [hy436]; with_reducible exact H) | (have H2_ := (Option.bind_some _ _).symm.trans H; rw [hy436]; with_reducible exact H2_) | (have H2_ := (Option.bind_some _ _).symm.trans H; with_reducible exact H2_) | with_reducible exact H | (rw [hy436]; exact H) | exact H
           have Ny436 := Aside0.mk hy436
           clear hy436
           by_cases c24 : x7_1.size + (strOfNums y436).size ≤ 9223372036854775807
           ·rw [if_pos c24] at H
            have c24b0 := eq_true c24
            have c24b1 : decide (x7_1.size + (strOfNums y436).size ≤ 9223372036854775807) = true := decide_eq_true c24
            try have c24b2 : (9223372036854775807 < x7_1.size + (strOfNums y436).size) = False := eq_false (Nat.not_lt.2 c24)
            obtain ⟨y439, hy439⟩ : ∃ y_ : List Int, y_ = (([(48 + (Int.tmod (rd l1 x10_1) 10)) % 256] : List Int)) := ⟨_, rfl⟩
            replace H : (if x8_1.size + (strOfNums y439).size ≤ 9223372036854775807 then (minstrellaw05_DecRises.l0 kj3 l0 l1 a2 (x7_1 ++ (strOfNums y436)) (x8_1 ++ (strOfNums y439)) (wrap64 ((wrap64 (Int.tmod (rd l0 x10_1) 10)) - (wrap64 (Int.tmod (rd l1 x10_1) 10)))) (wrap64 (x10_1 + 1))) else (none)) = some r := by first | (rw [hy439]; with_reducible exact H) | (have H2_ := (Option.bind_some _ _).symm.trans H; rw [hy439]; with_reducible exact H2_) | (have H2_ := (Option.bind_some _ _).symm.trans H; with_reducible exact H2_) | with_reducible exact H | (rw [hy439]; exact H) | exact H
            have Ny439 := Aside0.mk hy439
            clear hy439
            by_cases c25 : x8_1.size + (strOfNums y439).size ≤ 9223372036854775807
            ·rw [if_pos c25] at H
             have c25b0 := eq_true c25
             have c25b1 : decide (x8_1.size + (strOfNums y439).size ≤ 9223372036854775807) = true := decide_eq_true c25
             try have c25b2 : (9223372036854775807 < x8_1.size + (strOfNums y439).size) = False := eq_false (Nat.not_lt.2 c25)
             have H' := Aside0.mk H
             clear H
             try go_wp2
             have n0_ := Aside0.mk (below_drew1 HB.out)
             clear HB; have HB := n0_; clear n0_
             have p428 : 0 ≤ (x10_1 : Int) := pD
             have q428 : x10_1 < (l0.length : Int) := pD
             obtain ⟨ad428, e428, hx428_0⟩ := Kd.at_int HR0.out x10_1 p428 q428
             have hw428_0 := hx428_0
             cases e428
             replace hx428_0 := (HB.out.cell (World.block_lt_of_cell? w _ hx428_0)).trans hx428_0
             replace p428 := eq_true p428
             replace q428 := eq_true q428
             have p429 : 0 ≤ (x10_1 : Int) := pD
             have q429 : x10_1 < (l1.length : Int) := pD
             obtain ⟨ad429, e429, hx429_0⟩ := Kd.at_int HR1.out x10_1 p429 q429
             have hw429_0 := hx429_0
             cases e429
             replace hx429_0 := (HB.out.cell (World.block_lt_of_cell? w _ hx429_0)).trans hx429_0
             replace p429 := eq_true p429
             replace q429 := eq_true q429
             refine start_ (n := 12) (S := fun w' => w'.cell? (ad428.add (x10_1).toNat) = some (.int .u8 (rd l0 x10_1)) ∧ w'.cell? (ad429.add (x10_1).toNat) = some (.int .u8 (rd l1 x10_1))) (ds := []) (bm 12 0) (by kernel_rfl) rfl rfl ⟨((HB.out.cell (World.block_lt_of_cell? w _ hw428_0)).trans hw428_0), ((HB.out.cell (World.block_lt_of_cell? w _ hw429_0)).trans hw429_0)⟩ (fun hHeld => ?_); refine with_tabW minstrellaw05_DecRises.tab5 minstrellaw05_DecRises.bits5 (fun HT_ HW_ => ?_)
             generalize wc.drew = w26 at HB hx428_0 hx429_0 hHeld ⊢
             refine pure_ (i := 0) (N := some 34) (v := ?_) (a' := ?_) (bm 12 1) rfl rfl (any_of HT_.out (by kernel_rfl)) (fun _ _ _ h => h) (Or.inl ⟨by kernel_rfl, ?_⟩) ?_ ?_
             rotate_left
             ·intro w'
              go_simp
              with_reducible rfl
             rotate_left
             ·exact pA
             refine pure_ (i := 1) (N := some 35) (v := ?_) (a' := ?_) (bm 12 3) rfl rfl (any_of HT_.out (by kernel_rfl)) (fun _ _ _ h => h) (Or.inl ⟨by kernel_rfl, ?_⟩) ?_ ?_
             rotate_left
             ·intro w'
              go_simp
              with_reducible rfl
             rotate_left
             ·exact pA
             refine pure_ (i := 2) (N := some 36) (v := ?_) (a' := ?_) (bm 12 7) rfl rfl (any_of HT_.out (by kernel_rfl)) (fun _ _ _ h => h) (Or.inl ⟨by kernel_rfl, ?_⟩) ?_ ?_
             rotate_left
             ·intro w'
              go_simp
              with_reducible rfl
             rotate_left
             ·exact pA
             refine pure_ (i := 5) (N := some 39) (v := ?_) (a' := ?_) (bm 12 39) rfl rfl (any_of HT_.out (by kernel_rfl)) (fun _ _ _ h => h) (Or.inl ⟨by kernel_rfl, ?_⟩) ?_ ?_
             rotate_left
             ·intro w'
              go_simp
              with_reducible rfl
             rotate_left
             ·exact pA
             refine pure_ (i := 6) (N := some 40) (v := ?_) (a' := ?_) (bm 12 103) rfl rfl (any_of HT_.out (by kernel_rfl)) (fun _ _ _ h => h) (Or.inl ⟨by kernel_rfl, ?_⟩) ?_ ?_
             rotate_left
             ·intro w'
              go_simp
              with_reducible rfl
             rotate_left
             ·exact pA
             refine pure_ (i := 7) (N := some 41) (v := ?_) (a' := ?_) (bm 12 231) rfl rfl (any_of HT_.out (by kernel_rfl)) (fun _ _ _ h => h) (Or.inl ⟨by kernel_rfl, ?_⟩) ?_ ?_
             rotate_left
             ·intro w'
              go_simp
              with_reducible rfl
             rotate_left
             ·exact pA
             refine take_ (i := 3) (N := some 37) (v := ?_) (a' := ?_) (bm 12 239) rfl rfl (take_ofW HT_.out HW_.out (by kernel_rfl)) (fun _ _ _ h => h) (Or.inl ⟨by kernel_rfl, ?_⟩) hHeld ?_ ?_
             rotate_left
             ·rintro w' ⟨s0, s1⟩
              go_simp
              with_reducible rfl
             rotate_left
             ·exact pA
             refine pure_ (i := 4) (N := some 38) (v := ?_) (a' := ?_) (bm 12 255) rfl rfl (any_of HT_.out (by kernel_rfl)) (fun _ _ _ h => h) (Or.inl ⟨by kernel_rfl, ?_⟩) ?_ ?_
             rotate_left
             ·intro w'
              go_simp
              with_reducible rfl
             rotate_left
             ·exact pA
             refine pure_ (i := 10) (N := some 11) (v := ?_) (a' := ?_) (bm 12 1279) rfl rfl (any_of HT_.out (by kernel_rfl)) (fun _ _ _ h => h) (Or.inl ⟨by kernel_rfl, ?_⟩) ?_ ?_
             rotate_left
             ·intro w'
              go_simp
              with_reducible rfl
             rotate_left
             ·exact pA
             refine take_ (i := 8) (N := some 42) (v := ?_) (a' := ?_) (bm 12 1535) rfl rfl (take_ofW HT_.out HW_.out (by kernel_rfl)) (fun _ _ _ h => h) (Or.inl ⟨by kernel_rfl, ?_⟩) hHeld ?_ ?_
             rotate_left
             ·rintro w' ⟨s0, s1⟩
              go_simp
              with_reducible rfl
             rotate_left
             ·exact pA
             refine pure_ (i := 9) (N := some 43) (v := ?_) (a' := ?_) (bm 12 2047) rfl rfl (any_of HT_.out (by kernel_rfl)) (fun _ _ _ h => h) (Or.inl ⟨by kernel_rfl, ?_⟩) ?_ ?_
             rotate_left
             ·intro w'
              go_simp
              with_reducible rfl
             rotate_left
             ·exact pA
             refine pure_ (i := 11) (N := some 12) (v := ?_) (a' := ?_) (bm 12 4095) rfl rfl (any_of HT_.out (by kernel_rfl)) (fun _ _ _ h => h) (Or.inl ⟨by kernel_rfl, ?_⟩) ?_ ?_
             rotate_left
             ·intro w'
              go_simp
              with_reducible rfl
             rotate_left
             ·exact pA
             refine done_ (done_of HT_.out (by kernel_rfl)) ?_
             try go_wp2
             have n0_ := Aside0.mk (below_drew1 HB.out)
             clear HB; have HB := n0_; clear n0_
             refine start_ (n := 14) (S := fun w' => True) (ds := []) (bm 14 0) (by kernel_rfl) rfl rfl trivial (fun hHeld => ?_); refine with_tabW minstrellaw05_DecRises.tab8 minstrellaw05_DecRises.bits8 (fun HT_ HW_ => ?_)
             generalize w26.drew = w27 at HB hHeld ⊢
             refine pure_ (i := 0) (N := some 56) (v := ?_) (a' := ?_) (bm 14 1) rfl rfl (any_of HT_.out (by kernel_rfl)) (fun _ _ _ h => h) (Or.inl ⟨by kernel_rfl, ?_⟩) ?_ ?_
             rotate_left
             ·intro w'
              go_simp
              with_reducible rfl
             rotate_left
             ·exact pA
             refine pure_ (i := 1) (N := some 57) (v := ?_) (a' := ?_) (bm 14 3) rfl rfl (any_of HT_.out (by kernel_rfl)) (fun _ _ _ h => h) (Or.inl ⟨by kernel_rfl, ?_⟩) ?_ ?_
             rotate_left
             ·intro w'
              go_simp
              with_reducible rfl
             rotate_left
             ·exact pA
             refine pure_ (i := 2) (N := some 58) (v := ?_) (a' := ?_) (bm 14 7) rfl rfl (any_of HT_.out (by kernel_rfl)) (fun _ _ _ h => h) (Or.inl ⟨by kernel_rfl, ?_⟩) ?_ ?_
             rotate_left
             ·intro w'
              go_simp
              with_reducible rfl
             rotate_left
             ·exact pA
             refine pure_ (i := 6) (N := some 62) (v := ?_) (a' := ?_) (bm 14 71) rfl rfl (any_of HT_.out (by kernel_rfl)) (fun _ _ _ h => h) (Or.inl ⟨by kernel_rfl, ?_⟩) ?_ ?_
             rotate_left
             ·intro w'
              go_simp
              with_reducible rfl
             rotate_left
             ·exact pA
             refine pure_ (i := 7) (N := some 63) (v := ?_) (a' := ?_) (bm 14 199) rfl rfl (any_of HT_.out (by kernel_rfl)) (fun _ _ _ h => h) (Or.inl ⟨by kernel_rfl, ?_⟩) ?_ ?_
             rotate_left
             ·intro w'
              go_simp
              with_reducible rfl
             rotate_left
             ·exact pA
             refine pure_ (i := 8) (N := some 64) (v := ?_) (a' := ?_) (bm 14 455) rfl rfl (any_of HT_.out (by kernel_rfl)) (fun _ _ _ h => h) (Or.inl ⟨by kernel_rfl, ?_⟩) ?_ ?_
             rotate_left
             ·intro w'
              go_simp
              with_reducible rfl
             rotate_left
             ·exact pA
             refine join_ (σ := Value × Value) 1 (bm 14 8191) (fun s_ => [(59, s_.1), (60, .string (strOfNums y436)), (65, s_.2), (66, .string (strOfNums y439)), (61, .string (x7_1 ++ (strOfNums y436))), (67, .string (x8_1 ++ (strOfNums y439))), (7, .string (x7_1 ++ (strOfNums y436)))]) (fun s_ w' => (Kd.R (Kd.int .u8) 5 w' w.heap.size (fun k_ => some k_ ≠ (s_.2 : Value).ownBlock) s_.1 y436) ∧ (Kd.R (Kd.int .u8) 5 w' w.heap.size (fun k_ => some k_ ≠ (s_.1 : Value).ownBlock) s_.2 y439) ∧ (Below w.heap.size w w')) ?_ ?_
             rotate_left
             ·intro hJ3_4_9_10
              refine join_ (σ := Value × Value) 3 (bm 14 5119) (fun s_ => [(59, s_.1), (60, .string (strOfNums y436)), (65, s_.2), (61, .string (x7_1 ++ (strOfNums y436))), (7, .string (x7_1 ++ (strOfNums y436)))]) (fun s_ w' => (Kd.R (Kd.int .u8) 5 w' w.heap.size (fun k_ => some k_ ≠ (s_.2 : Value).ownBlock) s_.1 y436) ∧ (Kd.R (Kd.int .u8) 5 w' w.heap.size (fun k_ => some k_ ≠ (s_.1 : Value).ownBlock) s_.2 y439) ∧ (Below w.heap.size w w')) ?_ ?_
              rotate_left
              ·intro hJ3_4_9
               refine join_ (σ := Value × Value) 4 (bm 14 4047) (fun s_ => [(59, s_.1), (65, s_.2), (66, .string (strOfNums y439)), (67, .string (x8_1 ++ (strOfNums y439)))]) (fun s_ w' => (Kd.R (Kd.int .u8) 5 w' w.heap.size (fun k_ => some k_ ≠ (s_.2 : Value).ownBlock) s_.1 y436) ∧ (Kd.R (Kd.int .u8) 5 w' w.heap.size (fun k_ => some k_ ≠ (s_.1 : Value).ownBlock) s_.2 y439) ∧ (Below w.heap.size w w')) ?_ ?_
               rotate_left
               ·intro hJ3_9_10
                refine join_ (σ := Value) 4 (bm 14 4607) (fun s_ => [(59, s_), (60, .string (strOfNums y436)), (61, .string (x7_1 ++ (strOfNums y436))), (7, .string (x7_1 ++ (strOfNums y436)))]) (fun s_ w' => (Kd.R (Kd.int .u8) 5 w' w.heap.size (fun _ => True) s_ y436) ∧ (Below w.heap.size w w')) ?_ ?_
                rotate_left
                ·intro hJ3_4
                 refine join_ (σ := Value × Value) 6 (bm 14 975) (fun s_ => [(59, s_.1), (65, s_.2)]) (fun s_ w' => (Kd.R (Kd.int .u8) 5 w' w.heap.size (fun k_ => some k_ ≠ (s_.2 : Value).ownBlock) s_.1 y436) ∧ (Kd.R (Kd.int .u8) 5 w' w.heap.size (fun k_ => some k_ ≠ (s_.1 : Value).ownBlock) s_.2 y439) ∧ (Below w.heap.size w w')) ?_ ?_
                 rotate_left
                 ·intro hJ3_9
                  refine join_ (σ := Value) 5 (bm 14 4039) (fun s_ => [(65, s_), (66, .string (strOfNums y439)), (67, .string (x8_1 ++ (strOfNums y439)))]) (fun s_ w' => (Kd.R (Kd.int .u8) 5 w' w.heap.size (fun _ => True) s_ y439) ∧ (Below w.heap.size w w')) ?_ ?_
                  rotate_left
                  ·intro hJ9_10
                   refine join_ (σ := Value) 7 (bm 14 463) (fun s_ => [(59, s_)]) (fun s_ w' => (Kd.R (Kd.int .u8) 5 w' w.heap.size (fun _ => True) s_ y436) ∧ (Below w.heap.size w w')) ?_ ?_
                   rotate_left
                   ·intro hJ3
                    refine join_ (σ := Value) 7 (bm 14 967) (fun s_ => [(65, s_)]) (fun s_ w' => (Kd.R (Kd.int .u8) 5 w' w.heap.size (fun _ => True) s_ y439) ∧ (Below w.heap.size w w')) ?_ ?_
                    rotate_left
                    ·intro hJ9
                     refine two_ (i := 3) (j := 9) (Ni := some 59) (Nj := some 65) (bm 14 463) (bm 14 967) rfl rfl rfl rfl (two_of HT_.out (by kernel_rfl)) (by decide) (by decide) (fun K hK => ?_) (fun K hK => ?_)
                     ·skip
                      refine Kd.R_lit_step (Kd.int .u8) _ 5 ?hg (N := 59) ?hd (xs := ([(48 + (Int.tmod (rd l0 x10_1) 10)) % 256] : List Int)) (inner := [.int .u8 ((48 + (Int.tmod (rd l0 x10_1) 10)) % 256)]) (ok := fun _ => True) (okp := fun _ => True) ?hr ?hp (fun _ hk => hk) trivial (Below.refl _ _) (Nat.le_refl _) (by simp) ?_; (case hd => rfl); (case hg => rfl); (case hr => first | (go_simp; done) | (go_simp; rfl)); (case hp => exact (Reps.one (show Kd.M (Kd.int .u8) _ _ _ ((48 + (Int.tmod (rd l0 x10_1) 10)) % 256) [.int .u8 ((48 + (Int.tmod (rd l0 x10_1) 10)) % 256)] from rfl) (Reps.none _ _)))
                      intro v437 w28 ho29 hb hg_ hnew_
                      clear hg_ hnew_
                      (first | rw [← Ny436.out] at ho29 | (simp only [Int.reduceToNat] at ho29; rw [← Ny436.out] at ho29))
                      have n0_ := Aside0.mk (Kd.R_lower ho29 (below_size pB))
                      have n1_ := Aside0.mk (below_step pB hb)
                      clear HB; have HO438 := n0_; have HB := n1_; clear n0_ n1_ hb ho29
                      refine hK.out _ _ trivial (fun hHeld => ?_)
                      clear hK K
                      refine norm_ (a' := ?_) ?_ ?_
                      rotate_left
                      ·show Act.put _ (some 59) _ = _
                       exact pA
                      exact norm_ (by first | (simp only [putAll, Act.put, List.setIfInBounds_toArray, List.set_cons_zero, List.set_cons_succ]; done) | (simp only [putAll, Act.put, List.setIfInBounds_toArray, List.set_cons_zero, List.set_cons_succ]; rfl)) (hJ3 (v437) _ ⟨(pR HO438.out), pB⟩)
                     ·skip
                      refine Kd.R_lit_step (Kd.int .u8) _ 5 ?hg (N := 65) ?hd (xs := ([(48 + (Int.tmod (rd l1 x10_1) 10)) % 256] : List Int)) (inner := [.int .u8 ((48 + (Int.tmod (rd l1 x10_1) 10)) % 256)]) (ok := fun _ => True) (okp := fun _ => True) ?hr ?hp (fun _ hk => hk) trivial (Below.refl _ _) (Nat.le_refl _) (by simp) ?_; (case hd => rfl); (case hg => rfl); (case hr => first | (go_simp; done) | (go_simp; rfl)); (case hp => exact (Reps.one (show Kd.M (Kd.int .u8) _ _ _ ((48 + (Int.tmod (rd l1 x10_1) 10)) % 256) [.int .u8 ((48 + (Int.tmod (rd l1 x10_1) 10)) % 256)] from rfl) (Reps.none _ _)))
                      intro v440 w28 ho29 hb hg_ hnew_
                      clear hg_ hnew_
                      (first | rw [← Ny439.out] at ho29 | (simp only [Int.reduceToNat] at ho29; rw [← Ny439.out] at ho29))
                      have n0_ := Aside0.mk (Kd.R_lower ho29 (below_size pB))
                      have n1_ := Aside0.mk (below_step pB hb)
                      clear HB; have HO441 := n0_; have HB := n1_; clear n0_ n1_ hb ho29
                      refine hK.out _ _ trivial (fun hHeld => ?_)
                      clear hK K
                      refine norm_ (a' := ?_) ?_ ?_
                      rotate_left
                      ·show Act.put _ (some 65) _ = _
                       exact pA
                      exact norm_ (by first | (simp only [putAll, Act.put, List.setIfInBounds_toArray, List.set_cons_zero, List.set_cons_succ]; done) | (simp only [putAll, Act.put, List.setIfInBounds_toArray, List.set_cons_zero, List.set_cons_succ]; rfl)) (hJ9 (v440) _ ⟨(pR HO441.out), pB⟩)
                    ·skip
                     rintro v440 w30 ⟨h0_, h1_⟩
                     have n0_ : Aside0 (Kd.R (Kd.int .u8) 5 w30 w.heap.size (fun _ => True) v440 y439) := ⟨h0_⟩
                     have n1_ : Aside0 (Below w.heap.size w w30) := ⟨h1_⟩
                     clear HB h0_ h1_; have HO441 := n0_; have HB := n1_; clear n0_ n1_
                     have hHeld := trivial
                     refine norm_ (a' := ?_) ?_ ?_
                     rotate_left
                     ·exact pA2
                     refine two_ (i := 3) (j := 10) (Ni := some 59) (Nj := some 66) (bm 14 975) (bm 14 1991) rfl rfl rfl rfl (two_of HT_.out (by kernel_rfl)) (by decide) (by decide) (fun K hK => ?_) (fun K hK => ?_)
                     ·skip
                      refine Kd.R_lit_step (Kd.int .u8) _ 5 ?hg (N := 59) ?hd (xs := ([(48 + (Int.tmod (rd l0 x10_1) 10)) % 256] : List Int)) (inner := [.int .u8 ((48 + (Int.tmod (rd l0 x10_1) 10)) % 256)]) (ok := fun _ => True) (okp := fun _ => True) ?hr ?hp (fun _ hk => hk) trivial (Below.refl _ _) (Nat.le_refl _) (by simp) ?_; (case hd => rfl); (case hg => rfl); (case hr => first | (go_simp; done) | (go_simp; rfl)); (case hp => exact (Reps.one (show Kd.M (Kd.int .u8) _ _ _ ((48 + (Int.tmod (rd l0 x10_1) 10)) % 256) [.int .u8 ((48 + (Int.tmod (rd l0 x10_1) 10)) % 256)] from rfl) (Reps.none _ _)))
                      intro v437 w31 ho32 hb hg_ hnew_
                      clear hg_ hnew_
                      (first | rw [← Ny436.out] at ho32 | (simp only [Int.reduceToNat] at ho32; rw [← Ny436.out] at ho32))
                      have n0_ := Aside0.mk (Kd.R_elder' (pR HO441.out) (Kd.R_base ho32) hb)
                      have n1_ := Aside0.mk (Kd.R_lower (Kd.R_new' ho32 (Kd.R_lt (pR HO441.out))) (below_size pB))
                      have n2_ := Aside0.mk (below_step pB hb)
                      clear HO441 HB; have HO441 := n0_; have HO438 := n1_; have HB := n2_; clear n0_ n1_ n2_ hb ho32
                      refine hK.out _ _ trivial (fun hHeld => ?_)
                      clear hK K
                      refine norm_ (a' := ?_) ?_ ?_
                      rotate_left
                      ·show Act.put _ (some 59) _ = _
                       exact pA
                      exact norm_ (by first | (simp only [putAll, Act.put, List.setIfInBounds_toArray, List.set_cons_zero, List.set_cons_succ]; done) | (simp only [putAll, Act.put, List.setIfInBounds_toArray, List.set_cons_zero, List.set_cons_succ]; rfl)) (hJ3_9 (v437, v440) _ ⟨(by (with_reducible repeat (first | apply Kd.R_alloc | apply Kd.R_drewN | apply Kd.R_drew)); exact Kd.R_mono HO438.out (fun _ hk => hk.2)), (by (with_reducible repeat (first | apply Kd.R_alloc | apply Kd.R_drewN | apply Kd.R_drew)); exact Kd.R_mono HO441.out (fun _ hk => hk.2)), pB⟩)
                     ·skip
                      have hcv31 := own_string (P := Tryd.prog) Tryd.underlying35 Tryd.underlying5 Tryd.underlying9 (Kd.own_of_R HO441.out)
                      refine value_ (w1 := ?_) (v := ?_) (by rfl) rfl ?_ ?_
                      rotate_left 2
                      ·go_simp
                       constructor
                       ·rfl
                       ·rfl
                      clear hcv31
                      refine hK.out _ _ trivial (fun hHeld => ?_)
                      clear hK K
                      refine norm_ (a' := ?_) ?_ ?_
                      rotate_left
                      ·show Act.put _ (some 66) _ = _
                       exact pA
                      refine pure_ (i := 11) (N := some 67) (v := ?_) (a' := ?_) (bm 14 4039) rfl rfl (any_of HT_.out (by kernel_rfl)) (fun _ _ _ h => h) (Or.inl ⟨by kernel_rfl, ?_⟩) ?_ ?_
                      rotate_left
                      ·intro w'
                       go_simp
                       with_reducible rfl
                      rotate_left
                      ·exact pA
                      exact norm_ (by first | (simp only [putAll, Act.put, List.setIfInBounds_toArray, List.set_cons_zero, List.set_cons_succ]; done) | (simp only [putAll, Act.put, List.setIfInBounds_toArray, List.set_cons_zero, List.set_cons_succ]; rfl)) (hJ9_10 (v440) _ ⟨(pR HO441.out), pB⟩)
                   ·skip
                    rintro v437 w30 ⟨h0_, h1_⟩
                    have n0_ : Aside0 (Kd.R (Kd.int .u8) 5 w30 w.heap.size (fun _ => True) v437 y436) := ⟨h0_⟩
                    have n1_ : Aside0 (Below w.heap.size w w30) := ⟨h1_⟩
                    clear HB h0_ h1_; have HO438 := n0_; have HB := n1_; clear n0_ n1_
                    have hHeld := trivial
                    refine norm_ (a' := ?_) ?_ ?_
                    rotate_left
                    ·exact pA2
                    refine two_ (i := 4) (j := 9) (Ni := some 60) (Nj := some 65) (bm 14 479) (bm 14 975) rfl rfl rfl rfl (two_of HT_.out (by kernel_rfl)) (by decide) (by decide) (fun K hK => ?_) (fun K hK => ?_)
                    ·skip
                     have hcv31 := own_string (P := Tryd.prog) Tryd.underlying35 Tryd.underlying5 Tryd.underlying9 (Kd.own_of_R HO438.out)
                     refine value_ (w1 := ?_) (v := ?_) (by rfl) rfl ?_ ?_
                     rotate_left 2
                     ·go_simp
                      constructor
                      ·rfl
                      ·rfl
                     clear hcv31
                     refine hK.out _ _ trivial (fun hHeld => ?_)
                     clear hK K
                     refine norm_ (a' := ?_) ?_ ?_
                     rotate_left
                     ·show Act.put _ (some 60) _ = _
                      exact pA
                     refine pure_ (i := 5) (N := some 61) (v := ?_) (a' := ?_) (bm 14 511) rfl rfl (any_of HT_.out (by kernel_rfl)) (fun _ _ _ h => h) (Or.inl ⟨by kernel_rfl, ?_⟩) ?_ ?_
                     rotate_left
                     ·intro w'
                      go_simp
                      with_reducible rfl
                     rotate_left
                     ·exact pA
                     refine pure_ (i := 12) (N := some 7) (v := ?_) (a' := ?_) (bm 14 4607) rfl rfl (any_of HT_.out (by kernel_rfl)) (fun _ _ _ h => h) (Or.inl ⟨by kernel_rfl, ?_⟩) ?_ ?_
                     rotate_left
                     ·intro w'
                      go_simp
                      with_reducible rfl
                     rotate_left
                     ·exact pA
                     exact norm_ (by first | (simp only [putAll, Act.put, List.setIfInBounds_toArray, List.set_cons_zero, List.set_cons_succ]; done) | (simp only [putAll, Act.put, List.setIfInBounds_toArray, List.set_cons_zero, List.set_cons_succ]; rfl)) (hJ3_4 (v437) _ ⟨(pR HO438.out), pB⟩)
                    ·skip
                     refine Kd.R_lit_step (Kd.int .u8) _ 5 ?hg (N := 65) ?hd (xs := ([(48 + (Int.tmod (rd l1 x10_1) 10)) % 256] : List Int)) (inner := [.int .u8 ((48 + (Int.tmod (rd l1 x10_1) 10)) % 256)]) (ok := fun _ => True) (okp := fun _ => True) ?hr ?hp (fun _ hk => hk) trivial (Below.refl _ _) (Nat.le_refl _) (by simp) ?_; (case hd => rfl); (case hg => rfl); (case hr => first | (go_simp; done) | (go_simp; rfl)); (case hp => exact (Reps.one (show Kd.M (Kd.int .u8) _ _ _ ((48 + (Int.tmod (rd l1 x10_1) 10)) % 256) [.int .u8 ((48 + (Int.tmod (rd l1 x10_1) 10)) % 256)] from rfl) (Reps.none _ _)))
                     intro v440 w31 ho32 hb hg_ hnew_
                     clear hg_ hnew_
                     (first | rw [← Ny439.out] at ho32 | (simp only [Int.reduceToNat] at ho32; rw [← Ny439.out] at ho32))
                     have n0_ := Aside0.mk (Kd.R_elder' (pR HO438.out) (Kd.R_base ho32) hb)
                     have n1_ := Aside0.mk (Kd.R_lower (Kd.R_new' ho32 (Kd.R_lt (pR HO438.out))) (below_size pB))
                     have n2_ := Aside0.mk (below_step pB hb)
                     clear HO438 HB; have HO438 := n0_; have HO441 := n1_; have HB := n2_; clear n0_ n1_ n2_ hb ho32
                     refine hK.out _ _ trivial (fun hHeld => ?_)
                     clear hK K
                     refine norm_ (a' := ?_) ?_ ?_
                     rotate_left
                     ·show Act.put _ (some 65) _ = _
                      exact pA
                     exact norm_ (by first | (simp only [putAll, Act.put, List.setIfInBounds_toArray, List.set_cons_zero, List.set_cons_succ]; done) | (simp only [putAll, Act.put, List.setIfInBounds_toArray, List.set_cons_zero, List.set_cons_succ]; rfl)) (hJ3_9 (v437, v440) _ ⟨(by (with_reducible repeat (first | apply Kd.R_alloc | apply Kd.R_drewN | apply Kd.R_drew)); exact Kd.R_mono HO438.out (fun _ hk => hk.2)), (by (with_reducible repeat (first | apply Kd.R_alloc | apply Kd.R_drewN | apply Kd.R_drew)); exact Kd.R_mono HO441.out (fun _ hk => hk.2)), pB⟩)
                  ·skip
                   rintro v440 w31 ⟨h0_, h1_⟩
                   have n0_ : Aside0 (Kd.R (Kd.int .u8) 5 w31 w.heap.size (fun _ => True) v440 y439) := ⟨h0_⟩
                   have n1_ : Aside0 (Below w.heap.size w w31) := ⟨h1_⟩
                   clear HB h0_ h1_; have HO441 := n0_; have HB := n1_; clear n0_ n1_
                   have hHeld := trivial
                   refine norm_ (a' := ?_) ?_ ?_
                   rotate_left
                   ·exact pA2
                   refine one_ (i := 3) (N := some 59) (bm 14 4047) rfl rfl (one_of HT_.out (by kernel_rfl)) (by decide) (fun K hK => ?_)
                   refine Kd.R_lit_step (Kd.int .u8) _ 5 ?hg (N := 59) ?hd (xs := ([(48 + (Int.tmod (rd l0 x10_1) 10)) % 256] : List Int)) (inner := [.int .u8 ((48 + (Int.tmod (rd l0 x10_1) 10)) % 256)]) (ok := fun _ => True) (okp := fun _ => True) ?hr ?hp (fun _ hk => hk) trivial (Below.refl _ _) (Nat.le_refl _) (by simp) ?_; (case hd => rfl); (case hg => rfl); (case hr => first | (go_simp; done) | (go_simp; rfl)); (case hp => exact (Reps.one (show Kd.M (Kd.int .u8) _ _ _ ((48 + (Int.tmod (rd l0 x10_1) 10)) % 256) [.int .u8 ((48 + (Int.tmod (rd l0 x10_1) 10)) % 256)] from rfl) (Reps.none _ _)))
                   intro v437 w32 ho33 hb hg_ hnew_
                   clear hg_ hnew_
                   (first | rw [← Ny436.out] at ho33 | (simp only [Int.reduceToNat] at ho33; rw [← Ny436.out] at ho33))
                   have n0_ := Aside0.mk (Kd.R_elder' (pR HO441.out) (Kd.R_base ho33) hb)
                   have n1_ := Aside0.mk (Kd.R_lower (Kd.R_new' ho33 (Kd.R_lt (pR HO441.out))) (below_size pB))
                   have n2_ := Aside0.mk (below_step pB hb)
                   clear HO441 HB; have HO441 := n0_; have HO438 := n1_; have HB := n2_; clear n0_ n1_ n2_ hb ho33
                   refine hK.out _ _ trivial (fun hHeld => ?_)
                   clear hK K
                   refine norm_ (a' := ?_) ?_ ?_
                   rotate_left
                   ·show Act.put _ (some 59) _ = _
                    exact pA
                   exact norm_ (by first | (simp only [putAll, Act.put, List.setIfInBounds_toArray, List.set_cons_zero, List.set_cons_succ]; done) | (simp only [putAll, Act.put, List.setIfInBounds_toArray, List.set_cons_zero, List.set_cons_succ]; rfl)) (hJ3_9_10 (v437, v440) _ ⟨(by (with_reducible repeat (first | apply Kd.R_alloc | apply Kd.R_drewN | apply Kd.R_drew)); exact Kd.R_mono HO438.out (fun _ hk => hk.2)), (by (with_reducible repeat (first | apply Kd.R_alloc | apply Kd.R_drewN | apply Kd.R_drew)); exact Kd.R_mono HO441.out (fun _ hk => hk.2)), pB⟩)
                 ·skip
                  rintro ⟨v437, v440⟩ w32 ⟨h0_, h1_, h2_⟩
                  have n0_ : Aside0 (Kd.R (Kd.int .u8) 5 w32 w.heap.size (fun k_ => some k_ ≠ (v440 : Value).ownBlock) v437 y436) := ⟨h0_⟩
                  have n1_ : Aside0 (Kd.R (Kd.int .u8) 5 w32 w.heap.size (fun k_ => some k_ ≠ (v437 : Value).ownBlock) v440 y439) := ⟨h1_⟩
                  have n2_ : Aside0 (Below w.heap.size w w32) := ⟨h2_⟩
                  clear HB h0_ h1_ h2_; have HO438 := n0_; have HO441 := n1_; have HB := n2_; clear n0_ n1_ n2_
                  have hHeld := trivial
                  refine norm_ (a' := ?_) ?_ ?_
                  rotate_left
                  ·exact pA2
                  refine two_ (i := 4) (j := 10) (Ni := some 60) (Nj := some 66) (bm 14 991) (bm 14 1999) rfl rfl rfl rfl (two_of HT_.out (by kernel_rfl)) (by decide) (by decide) (fun K hK => ?_) (fun K hK => ?_)
                  ·skip
                   have hcv33 := own_string (P := Tryd.prog) Tryd.underlying35 Tryd.underlying5 Tryd.underlying9 (Kd.own_of_R HO438.out)
                   refine value_ (w1 := ?_) (v := ?_) (by rfl) rfl ?_ ?_
                   rotate_left 2
                   ·go_simp
                    constructor
                    ·rfl
                    ·rfl
                   clear hcv33
                   refine hK.out _ _ trivial (fun hHeld => ?_)
                   clear hK K
                   refine norm_ (a' := ?_) ?_ ?_
                   rotate_left
                   ·show Act.put _ (some 60) _ = _
                    exact pA
                   refine pure_ (i := 5) (N := some 61) (v := ?_) (a' := ?_) (bm 14 1023) rfl rfl (any_of HT_.out (by kernel_rfl)) (fun _ _ _ h => h) (Or.inl ⟨by kernel_rfl, ?_⟩) ?_ ?_
                   rotate_left
                   ·intro w'
                    go_simp
                    with_reducible rfl
                   rotate_left
                   ·exact pA
                   refine pure_ (i := 12) (N := some 7) (v := ?_) (a' := ?_) (bm 14 5119) rfl rfl (any_of HT_.out (by kernel_rfl)) (fun _ _ _ h => h) (Or.inl ⟨by kernel_rfl, ?_⟩) ?_ ?_
                   rotate_left
                   ·intro w'
                    go_simp
                    with_reducible rfl
                   rotate_left
                   ·exact pA
                   exact norm_ (by first | (simp only [putAll, Act.put, List.setIfInBounds_toArray, List.set_cons_zero, List.set_cons_succ]; done) | (simp only [putAll, Act.put, List.setIfInBounds_toArray, List.set_cons_zero, List.set_cons_succ]; rfl)) (hJ3_4_9 (v437, v440) _ ⟨(pR HO438.out), (pR HO441.out), pB⟩)
                  ·skip
                   have hcv33 := own_string (P := Tryd.prog) Tryd.underlying35 Tryd.underlying5 Tryd.underlying9 (Kd.own_of_R HO441.out)
                   refine value_ (w1 := ?_) (v := ?_) (by rfl) rfl ?_ ?_
                   rotate_left 2
                   ·go_simp
                    constructor
                    ·rfl
                    ·rfl
                   clear hcv33
                   refine hK.out _ _ trivial (fun hHeld => ?_)
                   clear hK K
                   refine norm_ (a' := ?_) ?_ ?_
                   rotate_left
                   ·show Act.put _ (some 66) _ = _
                    exact pA
                   refine pure_ (i := 11) (N := some 67) (v := ?_) (a' := ?_) (bm 14 4047) rfl rfl (any_of HT_.out (by kernel_rfl)) (fun _ _ _ h => h) (Or.inl ⟨by kernel_rfl, ?_⟩) ?_ ?_
                   rotate_left
                   ·intro w'
                    go_simp
                    with_reducible rfl
                   rotate_left
                   ·exact pA
                   exact norm_ (by first | (simp only [putAll, Act.put, List.setIfInBounds_toArray, List.set_cons_zero, List.set_cons_succ]; done) | (simp only [putAll, Act.put, List.setIfInBounds_toArray, List.set_cons_zero, List.set_cons_succ]; rfl)) (hJ3_9_10 (v437, v440) _ ⟨(pR HO438.out), (pR HO441.out), pB⟩)
                ·skip
                 rintro v437 w31 ⟨h0_, h1_⟩
                 have n0_ : Aside0 (Kd.R (Kd.int .u8) 5 w31 w.heap.size (fun _ => True) v437 y436) := ⟨h0_⟩
                 have n1_ : Aside0 (Below w.heap.size w w31) := ⟨h1_⟩
                 clear HB h0_ h1_; have HO438 := n0_; have HB := n1_; clear n0_ n1_
                 have hHeld := trivial
                 refine norm_ (a' := ?_) ?_ ?_
                 rotate_left
                 ·exact pA2
                 refine one_ (i := 9) (N := some 65) (bm 14 5119) rfl rfl (one_of HT_.out (by kernel_rfl)) (by decide) (fun K hK => ?_)
                 refine Kd.R_lit_step (Kd.int .u8) _ 5 ?hg (N := 65) ?hd (xs := ([(48 + (Int.tmod (rd l1 x10_1) 10)) % 256] : List Int)) (inner := [.int .u8 ((48 + (Int.tmod (rd l1 x10_1) 10)) % 256)]) (ok := fun _ => True) (okp := fun _ => True) ?hr ?hp (fun _ hk => hk) trivial (Below.refl _ _) (Nat.le_refl _) (by simp) ?_; (case hd => rfl); (case hg => rfl); (case hr => first | (go_simp; done) | (go_simp; rfl)); (case hp => exact (Reps.one (show Kd.M (Kd.int .u8) _ _ _ ((48 + (Int.tmod (rd l1 x10_1) 10)) % 256) [.int .u8 ((48 + (Int.tmod (rd l1 x10_1) 10)) % 256)] from rfl) (Reps.none _ _)))
                 intro v440 w32 ho33 hb hg_ hnew_
                 clear hg_ hnew_
                 (first | rw [← Ny439.out] at ho33 | (simp only [Int.reduceToNat] at ho33; rw [← Ny439.out] at ho33))
                 have n0_ := Aside0.mk (Kd.R_elder' (pR HO438.out) (Kd.R_base ho33) hb)
                 have n1_ := Aside0.mk (Kd.R_lower (Kd.R_new' ho33 (Kd.R_lt (pR HO438.out))) (below_size pB))
                 have n2_ := Aside0.mk (below_step pB hb)
                 clear HO438 HB; have HO438 := n0_; have HO441 := n1_; have HB := n2_; clear n0_ n1_ n2_ hb ho33
                 refine hK.out _ _ trivial (fun hHeld => ?_)
                 clear hK K
                 refine norm_ (a' := ?_) ?_ ?_
                 rotate_left
                 ·show Act.put _ (some 65) _ = _
                  exact pA
                 exact norm_ (by first | (simp only [putAll, Act.put, List.setIfInBounds_toArray, List.set_cons_zero, List.set_cons_succ]; done) | (simp only [putAll, Act.put, List.setIfInBounds_toArray, List.set_cons_zero, List.set_cons_succ]; rfl)) (hJ3_4_9 (v437, v440) _ ⟨(by (with_reducible repeat (first | apply Kd.R_alloc | apply Kd.R_drewN | apply Kd.R_drew)); exact Kd.R_mono HO438.out (fun _ hk => hk.2)), (by (with_reducible repeat (first | apply Kd.R_alloc | apply Kd.R_drewN | apply Kd.R_drew)); exact Kd.R_mono HO441.out (fun _ hk => hk.2)), pB⟩)
               ·skip
                rintro ⟨v437, v440⟩ w33 ⟨h0_, h1_, h2_⟩
                have n0_ : Aside0 (Kd.R (Kd.int .u8) 5 w33 w.heap.size (fun k_ => some k_ ≠ (v440 : Value).ownBlock) v437 y436) := ⟨h0_⟩
                have n1_ : Aside0 (Kd.R (Kd.int .u8) 5 w33 w.heap.size (fun k_ => some k_ ≠ (v437 : Value).ownBlock) v440 y439) := ⟨h1_⟩
                have n2_ : Aside0 (Below w.heap.size w w33) := ⟨h2_⟩
                clear HB h0_ h1_ h2_; have HO438 := n0_; have HO441 := n1_; have HB := n2_; clear n0_ n1_ n2_
                have hHeld := trivial
                refine norm_ (a' := ?_) ?_ ?_
                rotate_left
                ·exact pA2
                refine one_ (i := 4) (N := some 60) (bm 14 4063) rfl rfl (one_of HT_.out (by kernel_rfl)) (by decide) (fun K hK => ?_)
                have hcv34 := own_string (P := Tryd.prog) Tryd.underlying35 Tryd.underlying5 Tryd.underlying9 (Kd.own_of_R HO438.out)
                refine value_ (w1 := ?_) (v := ?_) (by rfl) rfl ?_ ?_
                rotate_left 2
                ·go_simp
                 constructor
                 ·rfl
                 ·rfl
                clear hcv34
                refine hK.out _ _ trivial (fun hHeld => ?_)
                clear hK K
                refine norm_ (a' := ?_) ?_ ?_
                rotate_left
                ·show Act.put _ (some 60) _ = _
                 exact pA
                refine pure_ (i := 5) (N := some 61) (v := ?_) (a' := ?_) (bm 14 4095) rfl rfl (any_of HT_.out (by kernel_rfl)) (fun _ _ _ h => h) (Or.inl ⟨by kernel_rfl, ?_⟩) ?_ ?_
                rotate_left
                ·intro w'
                 go_simp
                 with_reducible rfl
                rotate_left
                ·exact pA
                refine pure_ (i := 12) (N := some 7) (v := ?_) (a' := ?_) (bm 14 8191) rfl rfl (any_of HT_.out (by kernel_rfl)) (fun _ _ _ h => h) (Or.inl ⟨by kernel_rfl, ?_⟩) ?_ ?_
                rotate_left
                ·intro w'
                 go_simp
                 with_reducible rfl
                rotate_left
                ·exact pA
                exact norm_ (by first | (simp only [putAll, Act.put, List.setIfInBounds_toArray, List.set_cons_zero, List.set_cons_succ]; done) | (simp only [putAll, Act.put, List.setIfInBounds_toArray, List.set_cons_zero, List.set_cons_succ]; rfl)) (hJ3_4_9_10 (v437, v440) _ ⟨(pR HO438.out), (pR HO441.out), pB⟩)
              ·skip
               rintro ⟨v437, v440⟩ w33 ⟨h0_, h1_, h2_⟩
               have n0_ : Aside0 (Kd.R (Kd.int .u8) 5 w33 w.heap.size (fun k_ => some k_ ≠ (v440 : Value).ownBlock) v437 y436) := ⟨h0_⟩
               have n1_ : Aside0 (Kd.R (Kd.int .u8) 5 w33 w.heap.size (fun k_ => some k_ ≠ (v437 : Value).ownBlock) v440 y439) := ⟨h1_⟩
               have n2_ : Aside0 (Below w.heap.size w w33) := ⟨h2_⟩
               clear HB h0_ h1_ h2_; have HO438 := n0_; have HO441 := n1_; have HB := n2_; clear n0_ n1_ n2_
               have hHeld := trivial
               refine norm_ (a' := ?_) ?_ ?_
               rotate_left
               ·exact pA2
               refine one_ (i := 10) (N := some 66) (bm 14 6143) rfl rfl (one_of HT_.out (by kernel_rfl)) (by decide) (fun K hK => ?_)
               have hcv34 := own_string (P := Tryd.prog) Tryd.underlying35 Tryd.underlying5 Tryd.underlying9 (Kd.own_of_R HO441.out)
               refine value_ (w1 := ?_) (v := ?_) (by rfl) rfl ?_ ?_
               rotate_left 2
               ·go_simp
                constructor
                ·rfl
                ·rfl
               clear hcv34
               refine hK.out _ _ trivial (fun hHeld => ?_)
               clear hK K
               refine norm_ (a' := ?_) ?_ ?_
               rotate_left
               ·show Act.put _ (some 66) _ = _
                exact pA
               refine pure_ (i := 11) (N := some 67) (v := ?_) (a' := ?_) (bm 14 8191) rfl rfl (any_of HT_.out (by kernel_rfl)) (fun _ _ _ h => h) (Or.inl ⟨by kernel_rfl, ?_⟩) ?_ ?_
               rotate_left
               ·intro w'
                go_simp
                with_reducible rfl
               rotate_left
               ·exact pA
               exact norm_ (by first | (simp only [putAll, Act.put, List.setIfInBounds_toArray, List.set_cons_zero, List.set_cons_succ]; done) | (simp only [putAll, Act.put, List.setIfInBounds_toArray, List.set_cons_zero, List.set_cons_succ]; rfl)) (hJ3_4_9_10 (v437, v440) _ ⟨(pR HO438.out), (pR HO441.out), pB⟩)
             rintro ⟨v437, v440⟩ w34 ⟨h0_, h1_, h2_⟩
             have n0_ : Aside0 (Kd.R (Kd.int .u8) 5 w34 w.heap.size (fun k_ => some k_ ≠ (v440 : Value).ownBlock) v437 y436) := ⟨h0_⟩
             have n1_ : Aside0 (Kd.R (Kd.int .u8) 5 w34 w.heap.size (fun k_ => some k_ ≠ (v437 : Value).ownBlock) v440 y439) := ⟨h1_⟩
             have n2_ : Aside0 (Below w.heap.size w w34) := ⟨h2_⟩
             clear HB h0_ h1_ h2_; have HO438 := n0_; have HO441 := n1_; have HB := n2_; clear n0_ n1_ n2_
             have hHeld := trivial
             refine norm_ (a' := ?_) ?_ ?_
             rotate_left
             ·exact pA2
             refine pure_ (i := 13) (N := some 8) (v := ?_) (a' := ?_) (bm 14 16383) rfl rfl (any_of HT_.out (by kernel_rfl)) (fun _ _ _ h => h) (Or.inl ⟨by kernel_rfl, ?_⟩) ?_ ?_
             rotate_left
             ·intro w'
              go_simp
              with_reducible rfl
             rotate_left
             ·exact pA
             refine done_ (done_of HT_.out (by kernel_rfl)) ?_
             try go_wp2
             go_roundg kj3
             case measure => have := HK1.out; have := HJ3.out; omega
             case rel => exact ⟨(x7_1 ++ (strOfNums y436)), (x8_1 ++ (strOfNums y439)), (wrap64 ((wrap64 (Int.tmod (rd l0 x10_1) 10)) - (wrap64 (Int.tmod (rd l1 x10_1) 10)))), (wrap64 (x10_1 + 1)), (by first | rfl | (simp; done) | (simp [*]; done)), (by first | rfl | (simp; done) | (simp [*]; done)), (by first | rfl | (simp; done) | (simp [*]; done)), (by first | rfl | (simp; done) | (simp [*]; done)), H', ⟨by have := HK1.out; have := HJ3.out; omega⟩, ⟨pB⟩⟩
            ·rw [if_neg c25] at H
             exact absurd H (by simp)
           ·rw [if_neg c24] at H
            exact absurd H (by simp)
         ·rw [if_neg c11] at H
          have c11b0 : (x9_1 == 0) = false := beq_eq_false_iff_ne.mpr c11
          have c11b1 : (x9_1 != 0) = true := bne_iff_ne.mpr c11
          obtain ⟨y442, hy442⟩ : ∃ y_ : List Int, y_ = (([(48 + (Int.tmod (rd l0 x10_1) 10)) % 256] : List Int)) := ⟨_, rfl⟩
          replace H : (if x7_1.size + (strOfNums y442).size ≤ 9223372036854775807 then ((some (([(48 + (Int.tmod (rd l1 x10_1) 10)) % 256] : List Int) : List Int)).bind fun y445 => (if x8_1.size + (strOfNums y445).size ≤ 9223372036854775807 then (minstrellaw05_DecRises.l0 kj3 l0 l1 a2 (x7_1 ++ (strOfNums y442)) (x8_1 ++ (strOfNums y445)) x9_1 (wrap64 (x10_1 + 1))) else (none))) else (none)) = some r := by first | (rw [hy442]; with_reducible exact H) | (have H2_ := (Option.bind_some _ _).symm.trans H; rw [hy442]; with_reducible exact H2_) | (have H2_ := (Option.bind_some _ _).symm.trans H; with_reducible exact H2_) | with_reducible exact H | (rw [hy442]; exact H) | exact H
          have Ny442 := Aside0.mk hy442
          clear hy442
          by_cases c35 : x7_1.size + (strOfNums y442).size ≤ 9223372036854775807
          ·rw [if_pos c35] at H
           have c35b0 := eq_true c35
           have c35b1 : decide (x7_1.size + (strOfNums y442).size ≤ 9223372036854775807) = true := decide_eq_true c35
           try have c35b2 : (9223372036854775807 < x7_1.size + (strOfNums y442).size) = False := eq_false (Nat.not_lt.2 c35)
           obtain ⟨y445, hy445⟩ : ∃ y_ : List Int, y_ = (([(48 + (Int.tmod (rd l1 x10_1) 10)) % 256] : List Int)) := ⟨_, rfl⟩
           replace H : (if x8_1.size + (strOfNums y445).size ≤ 9223372036854775807 then (minstrellaw05_DecRises.l0 kj3 l0 l1 a2 (x7_1 ++ (strOfNums y442)) (x8_1 ++ (strOfNums y445)) x9_1 (wrap64 (x10_1 + 1))) else (none)) = some r := by first | (rw [hy445]; with_reducible exact H) | (have H2_ := (Option.bind_some _ _).symm.trans H; rw [hy445]; with_reducible exact H2_) | (have H2_ := (Option.bind_some _ _).symm.trans H; with_reducible exact H2_) | with_reducible exact H | (rw [hy445]; exact H) | exact H
           have Ny445 := Aside0.mk hy445
           clear hy445
           by_cases c36 : x8_1.size + (strOfNums y445).size ≤ 9223372036854775807
           ·rw [if_pos c36] at H
            have c36b0 := eq_true c36
            have c36b1 : decide (x8_1.size + (strOfNums y445).size ≤ 9223372036854775807) = true := decide_eq_true c36
            try have c36b2 : (9223372036854775807 < x8_1.size + (strOfNums y445).size) = False := eq_false (Nat.not_lt.2 c36)
            have H' := Aside0.mk H
            clear H
            try go_wp2
            have n0_ := Aside0.mk (below_drew1 HB.out)
            clear HB; have HB := n0_; clear n0_
            have p428 : 0 ≤ (x10_1 : Int) := pD
            have q428 : x10_1 < (l0.length : Int) := pD
            obtain ⟨ad428, e428, hx428_0⟩ := Kd.at_int HR0.out x10_1 p428 q428
            have hw428_0 := hx428_0
            cases e428
            replace hx428_0 := (HB.out.cell (World.block_lt_of_cell? w _ hx428_0)).trans hx428_0
            replace p428 := eq_true p428
            replace q428 := eq_true q428
            have p429 : 0 ≤ (x10_1 : Int) := pD
            have q429 : x10_1 < (l1.length : Int) := pD
            obtain ⟨ad429, e429, hx429_0⟩ := Kd.at_int HR1.out x10_1 p429 q429
            have hw429_0 := hx429_0
            cases e429
            replace hx429_0 := (HB.out.cell (World.block_lt_of_cell? w _ hx429_0)).trans hx429_0
            replace p429 := eq_true p429
            replace q429 := eq_true q429
            refine start_ (n := 12) (S := fun w' => w'.cell? (ad428.add (x10_1).toNat) = some (.int .u8 (rd l0 x10_1)) ∧ w'.cell? (ad429.add (x10_1).toNat) = some (.int .u8 (rd l1 x10_1))) (ds := []) (bm 12 0) (by kernel_rfl) rfl rfl ⟨((HB.out.cell (World.block_lt_of_cell? w _ hw428_0)).trans hw428_0), ((HB.out.cell (World.block_lt_of_cell? w _ hw429_0)).trans hw429_0)⟩ (fun hHeld => ?_); refine with_tabW minstrellaw05_DecRises.tab5 minstrellaw05_DecRises.bits5 (fun HT_ HW_ => ?_)
            generalize wc.drew = w37 at HB hx428_0 hx429_0 hHeld ⊢
            refine pure_ (i := 0) (N := some 34) (v := ?_) (a' := ?_) (bm 12 1) rfl rfl (any_of HT_.out (by kernel_rfl)) (fun _ _ _ h => h) (Or.inl ⟨by kernel_rfl, ?_⟩) ?_ ?_
            rotate_left
            ·intro w'
             go_simp
             with_reducible rfl
            rotate_left
            ·exact pA
            refine pure_ (i := 1) (N := some 35) (v := ?_) (a' := ?_) (bm 12 3) rfl rfl (any_of HT_.out (by kernel_rfl)) (fun _ _ _ h => h) (Or.inl ⟨by kernel_rfl, ?_⟩) ?_ ?_
            rotate_left
            ·intro w'
             go_simp
             with_reducible rfl
            rotate_left
            ·exact pA
            refine pure_ (i := 2) (N := some 36) (v := ?_) (a' := ?_) (bm 12 7) rfl rfl (any_of HT_.out (by kernel_rfl)) (fun _ _ _ h => h) (Or.inl ⟨by kernel_rfl, ?_⟩) ?_ ?_
            rotate_left
            ·intro w'
             go_simp
             with_reducible rfl
            rotate_left
            ·exact pA
            refine pure_ (i := 5) (N := some 39) (v := ?_) (a' := ?_) (bm 12 39) rfl rfl (any_of HT_.out (by kernel_rfl)) (fun _ _ _ h => h) (Or.inl ⟨by kernel_rfl, ?_⟩) ?_ ?_
            rotate_left
            ·intro w'
             go_simp
             with_reducible rfl
            rotate_left
            ·exact pA
            refine pure_ (i := 6) (N := some 40) (v := ?_) (a' := ?_) (bm 12 103) rfl rfl (any_of HT_.out (by kernel_rfl)) (fun _ _ _ h => h) (Or.inl ⟨by kernel_rfl, ?_⟩) ?_ ?_
            rotate_left
            ·intro w'
             go_simp
             with_reducible rfl
            rotate_left
            ·exact pA
            refine pure_ (i := 7) (N := some 41) (v := ?_) (a' := ?_) (bm 12 231) rfl rfl (any_of HT_.out (by kernel_rfl)) (fun _ _ _ h => h) (Or.inl ⟨by kernel_rfl, ?_⟩) ?_ ?_
            rotate_left
            ·intro w'
             go_simp
             with_reducible rfl
            rotate_left
            ·exact pA
            refine take_ (i := 3) (N := some 37) (v := ?_) (a' := ?_) (bm 12 239) rfl rfl (take_ofW HT_.out HW_.out (by kernel_rfl)) (fun _ _ _ h => h) (Or.inl ⟨by kernel_rfl, ?_⟩) hHeld ?_ ?_
            rotate_left
            ·rintro w' ⟨s0, s1⟩
             go_simp
             with_reducible rfl
            rotate_left
            ·exact pA
            refine pure_ (i := 4) (N := some 38) (v := ?_) (a' := ?_) (bm 12 255) rfl rfl (any_of HT_.out (by kernel_rfl)) (fun _ _ _ h => h) (Or.inl ⟨by kernel_rfl, ?_⟩) ?_ ?_
            rotate_left
            ·intro w'
             go_simp
             with_reducible rfl
            rotate_left
            ·exact pA
            refine pure_ (i := 10) (N := some 11) (v := ?_) (a' := ?_) (bm 12 1279) rfl rfl (any_of HT_.out (by kernel_rfl)) (fun _ _ _ h => h) (Or.inl ⟨by kernel_rfl, ?_⟩) ?_ ?_
            rotate_left
            ·intro w'
             go_simp
             with_reducible rfl
            rotate_left
            ·exact pA
            refine take_ (i := 8) (N := some 42) (v := ?_) (a' := ?_) (bm 12 1535) rfl rfl (take_ofW HT_.out HW_.out (by kernel_rfl)) (fun _ _ _ h => h) (Or.inl ⟨by kernel_rfl, ?_⟩) hHeld ?_ ?_
            rotate_left
            ·rintro w' ⟨s0, s1⟩
             go_simp
             with_reducible rfl
            rotate_left
            ·exact pA
            refine pure_ (i := 9) (N := some 43) (v := ?_) (a' := ?_) (bm 12 2047) rfl rfl (any_of HT_.out (by kernel_rfl)) (fun _ _ _ h => h) (Or.inl ⟨by kernel_rfl, ?_⟩) ?_ ?_
            rotate_left
            ·intro w'
             go_simp
             with_reducible rfl
            rotate_left
            ·exact pA
            refine pure_ (i := 11) (N := some 12) (v := ?_) (a' := ?_) (bm 12 4095) rfl rfl (any_of HT_.out (by kernel_rfl)) (fun _ _ _ h => h) (Or.inl ⟨by kernel_rfl, ?_⟩) ?_ ?_
            rotate_left
            ·intro w'
             go_simp
             with_reducible rfl
            rotate_left
            ·exact pA
            refine done_ (done_of HT_.out (by kernel_rfl)) ?_
            try go_wp2
            have n0_ := Aside0.mk (below_drew1 HB.out)
            clear HB; have HB := n0_; clear n0_
            refine start_ (n := 14) (S := fun w' => True) (ds := []) (bm 14 0) (by kernel_rfl) rfl rfl trivial (fun hHeld => ?_); refine with_tabW minstrellaw05_DecRises.tab8 minstrellaw05_DecRises.bits8 (fun HT_ HW_ => ?_)
            generalize w37.drew = w38 at HB hHeld ⊢
            refine pure_ (i := 0) (N := some 56) (v := ?_) (a' := ?_) (bm 14 1) rfl rfl (any_of HT_.out (by kernel_rfl)) (fun _ _ _ h => h) (Or.inl ⟨by kernel_rfl, ?_⟩) ?_ ?_
            rotate_left
            ·intro w'
             go_simp
             with_reducible rfl
            rotate_left
            ·exact pA
            refine pure_ (i := 1) (N := some 57) (v := ?_) (a' := ?_) (bm 14 3) rfl rfl (any_of HT_.out (by kernel_rfl)) (fun _ _ _ h => h) (Or.inl ⟨by kernel_rfl, ?_⟩) ?_ ?_
            rotate_left
            ·intro w'
             go_simp
             with_reducible rfl
            rotate_left
            ·exact pA
            refine pure_ (i := 2) (N := some 58) (v := ?_) (a' := ?_) (bm 14 7) rfl rfl (any_of HT_.out (by kernel_rfl)) (fun _ _ _ h => h) (Or.inl ⟨by kernel_rfl, ?_⟩) ?_ ?_
            rotate_left
            ·intro w'
             go_simp
             with_reducible rfl
            rotate_left
            ·exact pA
            refine pure_ (i := 6) (N := some 62) (v := ?_) (a' := ?_) (bm 14 71) rfl rfl (any_of HT_.out (by kernel_rfl)) (fun _ _ _ h => h) (Or.inl ⟨by kernel_rfl, ?_⟩) ?_ ?_
            rotate_left
            ·intro w'
             go_simp
             with_reducible rfl
            rotate_left
            ·exact pA
            refine pure_ (i := 7) (N := some 63) (v := ?_) (a' := ?_) (bm 14 199) rfl rfl (any_of HT_.out (by kernel_rfl)) (fun _ _ _ h => h) (Or.inl ⟨by kernel_rfl, ?_⟩) ?_ ?_
            rotate_left
            ·intro w'
             go_simp
             with_reducible rfl
            rotate_left
            ·exact pA
            refine pure_ (i := 8) (N := some 64) (v := ?_) (a' := ?_) (bm 14 455) rfl rfl (any_of HT_.out (by kernel_rfl)) (fun _ _ _ h => h) (Or.inl ⟨by kernel_rfl, ?_⟩) ?_ ?_
            rotate_left
            ·intro w'
             go_simp
             with_reducible rfl
            rotate_left
            ·exact pA
            refine join_ (σ := Value × Value) 1 (bm 14 8191) (fun s_ => [(59, s_.1), (60, .string (strOfNums y442)), (65, s_.2), (66, .string (strOfNums y445)), (61, .string (x7_1 ++ (strOfNums y442))), (67, .string (x8_1 ++ (strOfNums y445))), (7, .string (x7_1 ++ (strOfNums y442)))]) (fun s_ w' => (Kd.R (Kd.int .u8) 5 w' w.heap.size (fun k_ => some k_ ≠ (s_.2 : Value).ownBlock) s_.1 y442) ∧ (Kd.R (Kd.int .u8) 5 w' w.heap.size (fun k_ => some k_ ≠ (s_.1 : Value).ownBlock) s_.2 y445) ∧ (Below w.heap.size w w')) ?_ ?_
            rotate_left
            ·intro hJ3_4_9_10
             refine join_ (σ := Value × Value) 3 (bm 14 5119) (fun s_ => [(59, s_.1), (60, .string (strOfNums y442)), (65, s_.2), (61, .string (x7_1 ++ (strOfNums y442))), (7, .string (x7_1 ++ (strOfNums y442)))]) (fun s_ w' => (Kd.R (Kd.int .u8) 5 w' w.heap.size (fun k_ => some k_ ≠ (s_.2 : Value).ownBlock) s_.1 y442) ∧ (Kd.R (Kd.int .u8) 5 w' w.heap.size (fun k_ => some k_ ≠ (s_.1 : Value).ownBlock) s_.2 y445) ∧ (Below w.heap.size w w')) ?_ ?_
             rotate_left
             ·intro hJ3_4_9
              refine join_ (σ := Value × Value) 4 (bm 14 4047) (fun s_ => [(59, s_.1), (65, s_.2), (66, .string (strOfNums y445)), (67, .string (x8_1 ++ (strOfNums y445)))]) (fun s_ w' => (Kd.R (Kd.int .u8) 5 w' w.heap.size (fun k_ => some k_ ≠ (s_.2 : Value).ownBlock) s_.1 y442) ∧ (Kd.R (Kd.int .u8) 5 w' w.heap.size (fun k_ => some k_ ≠ (s_.1 : Value).ownBlock) s_.2 y445) ∧ (Below w.heap.size w w')) ?_ ?_
              rotate_left
              ·intro hJ3_9_10
               refine join_ (σ := Value) 4 (bm 14 4607) (fun s_ => [(59, s_), (60, .string (strOfNums y442)), (61, .string (x7_1 ++ (strOfNums y442))), (7, .string (x7_1 ++ (strOfNums y442)))]) (fun s_ w' => (Kd.R (Kd.int .u8) 5 w' w.heap.size (fun _ => True) s_ y442) ∧ (Below w.heap.size w w')) ?_ ?_
               rotate_left
               ·intro hJ3_4
                refine join_ (σ := Value × Value) 6 (bm 14 975) (fun s_ => [(59, s_.1), (65, s_.2)]) (fun s_ w' => (Kd.R (Kd.int .u8) 5 w' w.heap.size (fun k_ => some k_ ≠ (s_.2 : Value).ownBlock) s_.1 y442) ∧ (Kd.R (Kd.int .u8) 5 w' w.heap.size (fun k_ => some k_ ≠ (s_.1 : Value).ownBlock) s_.2 y445) ∧ (Below w.heap.size w w')) ?_ ?_
                rotate_left
                ·intro hJ3_9
                 refine join_ (σ := Value) 5 (bm 14 4039) (fun s_ => [(65, s_), (66, .string (strOfNums y445)), (67, .string (x8_1 ++ (strOfNums y445)))]) (fun s_ w' => (Kd.R (Kd.int .u8) 5 w' w.heap.size (fun _ => True) s_ y445) ∧ (Below w.heap.size w w')) ?_ ?_
                 rotate_left
                 ·intro hJ9_10
                  refine join_ (σ := Value) 7 (bm 14 463) (fun s_ => [(59, s_)]) (fun s_ w' => (Kd.R (Kd.int .u8) 5 w' w.heap.size (fun _ => True) s_ y442) ∧ (Below w.heap.size w w')) ?_ ?_
                  rotate_left
                  ·intro hJ3
                   refine join_ (σ := Value) 7 (bm 14 967) (fun s_ => [(65, s_)]) (fun s_ w' => (Kd.R (Kd.int .u8) 5 w' w.heap.size (fun _ => True) s_ y445) ∧ (Below w.heap.size w w')) ?_ ?_
                   rotate_left
                   ·intro hJ9
                    refine two_ (i := 3) (j := 9) (Ni := some 59) (Nj := some 65) (bm 14 463) (bm 14 967) rfl rfl rfl rfl (two_of HT_.out (by kernel_rfl)) (by decide) (by decide) (fun K hK => ?_) (fun K hK => ?_)
                    ·skip
                     refine Kd.R_lit_step (Kd.int .u8) _ 5 ?hg (N := 59) ?hd (xs := ([(48 + (Int.tmod (rd l0 x10_1) 10)) % 256] : List Int)) (inner := [.int .u8 ((48 + (Int.tmod (rd l0 x10_1) 10)) % 256)]) (ok := fun _ => True) (okp := fun _ => True) ?hr ?hp (fun _ hk => hk) trivial (Below.refl _ _) (Nat.le_refl _) (by simp) ?_; (case hd => rfl); (case hg => rfl); (case hr => first | (go_simp; done) | (go_simp; rfl)); (case hp => exact (Reps.one (show Kd.M (Kd.int .u8) _ _ _ ((48 + (Int.tmod (rd l0 x10_1) 10)) % 256) [.int .u8 ((48 + (Int.tmod (rd l0 x10_1) 10)) % 256)] from rfl) (Reps.none _ _)))
                     intro v443 w39 ho40 hb hg_ hnew_
                     clear hg_ hnew_
                     (first | rw [← Ny442.out] at ho40 | (simp only [Int.reduceToNat] at ho40; rw [← Ny442.out] at ho40))
                     have n0_ := Aside0.mk (Kd.R_lower ho40 (below_size pB))
                     have n1_ := Aside0.mk (below_step pB hb)
                     clear HB; have HO444 := n0_; have HB := n1_; clear n0_ n1_ hb ho40
                     refine hK.out _ _ trivial (fun hHeld => ?_)
                     clear hK K
                     refine norm_ (a' := ?_) ?_ ?_
                     rotate_left
                     ·show Act.put _ (some 59) _ = _
                      exact pA
                     exact norm_ (by first | (simp only [putAll, Act.put, List.setIfInBounds_toArray, List.set_cons_zero, List.set_cons_succ]; done) | (simp only [putAll, Act.put, List.setIfInBounds_toArray, List.set_cons_zero, List.set_cons_succ]; rfl)) (hJ3 (v443) _ ⟨(pR HO444.out), pB⟩)
                    ·skip
                     refine Kd.R_lit_step (Kd.int .u8) _ 5 ?hg (N := 65) ?hd (xs := ([(48 + (Int.tmod (rd l1 x10_1) 10)) % 256] : List Int)) (inner := [.int .u8 ((48 + (Int.tmod (rd l1 x10_1) 10)) % 256)]) (ok := fun _ => True) (okp := fun _ => True) ?hr ?hp (fun _ hk => hk) trivial (Below.refl _ _) (Nat.le_refl _) (by simp) ?_; (case hd => rfl); (case hg => rfl); (case hr => first | (go_simp; done) | (go_simp; rfl)); (case hp => exact (Reps.one (show Kd.M (Kd.int .u8) _ _ _ ((48 + (Int.tmod (rd l1 x10_1) 10)) % 256) [.int .u8 ((48 + (Int.tmod (rd l1 x10_1) 10)) % 256)] from rfl) (Reps.none _ _)))
                     intro v446 w39 ho40 hb hg_ hnew_
                     clear hg_ hnew_
                     (first | rw [← Ny445.out] at ho40 | (simp only [Int.reduceToNat] at ho40; rw [← Ny445.out] at ho40))
                     have n0_ := Aside0.mk (Kd.R_lower ho40 (below_size pB))
                     have n1_ := Aside0.mk (below_step pB hb)
                     clear HB; have HO447 := n0_; have HB := n1_; clear n0_ n1_ hb ho40
                     refine hK.out _ _ trivial (fun hHeld => ?_)
                     clear hK K
                     refine norm_ (a' := ?_) ?_ ?_
                     rotate_left
                     ·show Act.put _ (some 65) _ = _
                      exact pA
                     exact norm_ (by first | (simp only [putAll, Act.put, List.setIfInBounds_toArray, List.set_cons_zero, List.set_cons_succ]; done) | (simp only [putAll, Act.put, List.setIfInBounds_toArray, List.set_cons_zero, List.set_cons_succ]; rfl)) (hJ9 (v446) _ ⟨(pR HO447.out), pB⟩)
                   ·skip
                    rintro v446 w41 ⟨h0_, h1_⟩
                    have n0_ : Aside0 (Kd.R (Kd.int .u8) 5 w41 w.heap.size (fun _ => True) v446 y445) := ⟨h0_⟩
                    have n1_ : Aside0 (Below w.heap.size w w41) := ⟨h1_⟩
                    clear HB h0_ h1_; have HO447 := n0_; have HB := n1_; clear n0_ n1_
                    have hHeld := trivial
                    refine norm_ (a' := ?_) ?_ ?_
                    rotate_left
                    ·exact pA2
                    refine two_ (i := 3) (j := 10) (Ni := some 59) (Nj := some 66) (bm 14 975) (bm 14 1991) rfl rfl rfl rfl (two_of HT_.out (by kernel_rfl)) (by decide) (by decide) (fun K hK => ?_) (fun K hK => ?_)
                    ·skip
                     refine Kd.R_lit_step (Kd.int .u8) _ 5 ?hg (N := 59) ?hd (xs := ([(48 + (Int.tmod (rd l0 x10_1) 10)) % 256] : List Int)) (inner := [.int .u8 ((48 + (Int.tmod (rd l0 x10_1) 10)) % 256)]) (ok := fun _ => True) (okp := fun _ => True) ?hr ?hp (fun _ hk => hk) trivial (Below.refl _ _) (Nat.le_refl _) (by simp) ?_; (case hd => rfl); (case hg => rfl); (case hr => first | (go_simp; done) | (go_simp; rfl)); (case hp => exact (Reps.one (show Kd.M (Kd.int .u8) _ _ _ ((48 + (Int.tmod (rd l0 x10_1) 10)) % 256) [.int .u8 ((48 + (Int.tmod (rd l0 x10_1) 10)) % 256)] from rfl) (Reps.none _ _)))
                     intro v443 w42 ho43 hb hg_ hnew_
                     clear hg_ hnew_
                     (first | rw [← Ny442.out] at ho43 | (simp only [Int.reduceToNat] at ho43; rw [← Ny442.out] at ho43))
                     have n0_ := Aside0.mk (Kd.R_elder' (pR HO447.out) (Kd.R_base ho43) hb)
                     have n1_ := Aside0.mk (Kd.R_lower (Kd.R_new' ho43 (Kd.R_lt (pR HO447.out))) (below_size pB))
                     have n2_ := Aside0.mk (below_step pB hb)
                     clear HO447 HB; have HO447 := n0_; have HO444 := n1_; have HB := n2_; clear n0_ n1_ n2_ hb ho43
                     refine hK.out _ _ trivial (fun hHeld => ?_)
                     clear hK K
                     refine norm_ (a' := ?_) ?_ ?_
                     rotate_left
                     ·show Act.put _ (some 59) _ = _
                      exact pA
                     exact norm_ (by first | (simp only [putAll, Act.put, List.setIfInBounds_toArray, List.set_cons_zero, List.set_cons_succ]; done) | (simp only [putAll, Act.put, List.setIfInBounds_toArray, List.set_cons_zero, List.set_cons_succ]; rfl)) (hJ3_9 (v443, v446) _ ⟨(by (with_reducible repeat (first | apply Kd.R_alloc | apply Kd.R_drewN | apply Kd.R_drew)); exact Kd.R_mono HO444.out (fun _ hk => hk.2)), (by (with_reducible repeat (first | apply Kd.R_alloc | apply Kd.R_drewN | apply Kd.R_drew)); exact Kd.R_mono HO447.out (fun _ hk => hk.2)), pB⟩)
                    ·skip
                     have hcv42 := own_string (P := Tryd.prog) Tryd.underlying35 Tryd.underlying5 Tryd.underlying9 (Kd.own_of_R HO447.out)
                     refine value_ (w1 := ?_) (v := ?_) (by rfl) rfl ?_ ?_
                     rotate_left 2
                     ·go_simp
                      constructor
                      ·rfl
                      ·rfl
                     clear hcv42
                     refine hK.out _ _ trivial (fun hHeld => ?_)
                     clear hK K
                     refine norm_ (a' := ?_) ?_ ?_
                     rotate_left
                     ·show Act.put _ (some 66) _ = _
                      exact pA
                     refine pure_ (i := 11) (N := some 67) (v := ?_) (a' := ?_) (bm 14 4039) rfl rfl (any_of HT_.out (by kernel_rfl)) (fun _ _ _ h => h) (Or.inl ⟨by kernel_rfl, ?_⟩) ?_ ?_
                     rotate_left
                     ·intro w'
                      go_simp
                      with_reducible rfl
                     rotate_left
                     ·exact pA
                     exact norm_ (by first | (simp only [putAll, Act.put, List.setIfInBounds_toArray, List.set_cons_zero, List.set_cons_succ]; done) | (simp only [putAll, Act.put, List.setIfInBounds_toArray, List.set_cons_zero, List.set_cons_succ]; rfl)) (hJ9_10 (v446) _ ⟨(pR HO447.out), pB⟩)
                  ·skip
                   rintro v443 w41 ⟨h0_, h1_⟩
                   have n0_ : Aside0 (Kd.R (Kd.int .u8) 5 w41 w.heap.size (fun _ => True) v443 y442) := ⟨h0_⟩
                   have n1_ : Aside0 (Below w.heap.size w w41) := ⟨h1_⟩
                   clear HB h0_ h1_; have HO444 := n0_; have HB := n1_; clear n0_ n1_
                   have hHeld := trivial
                   refine norm_ (a' := ?_) ?_ ?_
                   rotate_left
                   ·exact pA2
                   refine two_ (i := 4) (j := 9) (Ni := some 60) (Nj := some 65) (bm 14 479) (bm 14 975) rfl rfl rfl rfl (two_of HT_.out (by kernel_rfl)) (by decide) (by decide) (fun K hK => ?_) (fun K hK => ?_)
                   ·skip
                    have hcv42 := own_string (P := Tryd.prog) Tryd.underlying35 Tryd.underlying5 Tryd.underlying9 (Kd.own_of_R HO444.out)
                    refine value_ (w1 := ?_) (v := ?_) (by rfl) rfl ?_ ?_
                    rotate_left 2
                    ·go_simp
                     constructor
                     ·rfl
                     ·rfl
                    clear hcv42
                    refine hK.out _ _ trivial (fun hHeld => ?_)
                    clear hK K
                    refine norm_ (a' := ?_) ?_ ?_
                    rotate_left
                    ·show Act.put _ (some 60) _ = _
                     exact pA
                    refine pure_ (i := 5) (N := some 61) (v := ?_) (a' := ?_) (bm 14 511) rfl rfl (any_of HT_.out (by kernel_rfl)) (fun _ _ _ h => h) (Or.inl ⟨by kernel_rfl, ?_⟩) ?_ ?_
                    rotate_left
                    ·intro w'
                     go_simp
                     with_reducible rfl
                    rotate_left
                    ·exact pA
                    refine pure_ (i := 12) (N := some 7) (v := ?_) (a' := ?_) (bm 14 4607) rfl rfl (any_of HT_.out (by kernel_rfl)) (fun _ _ _ h => h) (Or.inl ⟨by kernel_rfl, ?_⟩) ?_ ?_
                    rotate_left
                    ·intro w'
                     go_simp
                     with_reducible rfl
                    rotate_left
                    ·exact pA
                    exact norm_ (by first | (simp only [putAll, Act.put, List.setIfInBounds_toArray, List.set_cons_zero, List.set_cons_succ]; done) | (simp only [putAll, Act.put, List.setIfInBounds_toArray, List.set_cons_zero, List.set_cons_succ]; rfl)) (hJ3_4 (v443) _ ⟨(pR HO444.out), pB⟩)
                   ·skip
                    refine Kd.R_lit_step (Kd.int .u8) _ 5 ?hg (N := 65) ?hd (xs := ([(48 + (Int.tmod (rd l1 x10_1) 10)) % 256] : List Int)) (inner := [.int .u8 ((48 + (Int.tmod (rd l1 x10_1) 10)) % 256)]) (ok := fun _ => True) (okp := fun _ => True) ?hr ?hp (fun _ hk => hk) trivial (Below.refl _ _) (Nat.le_refl _) (by simp) ?_; (case hd => rfl); (case hg => rfl); (case hr => first | (go_simp; done) | (go_simp; rfl)); (case hp => exact (Reps.one (show Kd.M (Kd.int .u8) _ _ _ ((48 + (Int.tmod (rd l1 x10_1) 10)) % 256) [.int .u8 ((48 + (Int.tmod (rd l1 x10_1) 10)) % 256)] from rfl) (Reps.none _ _)))
                    intro v446 w42 ho43 hb hg_ hnew_
                    clear hg_ hnew_
                    (first | rw [← Ny445.out] at ho43 | (simp only [Int.reduceToNat] at ho43; rw [← Ny445.out] at ho43))
                    have n0_ := Aside0.mk (Kd.R_elder' (pR HO444.out) (Kd.R_base ho43) hb)
                    have n1_ := Aside0.mk (Kd.R_lower (Kd.R_new' ho43 (Kd.R_lt (pR HO444.out))) (below_size pB))
                    have n2_ := Aside0.mk (below_step pB hb)
                    clear HO444 HB; have HO444 := n0_; have HO447 := n1_; have HB := n2_; clear n0_ n1_ n2_ hb ho43
                    refine hK.out _ _ trivial (fun hHeld => ?_)
                    clear hK K
                    refine norm_ (a' := ?_) ?_ ?_
                    rotate_left
                    ·show Act.put _ (some 65) _ = _
                     exact pA
                    exact norm_ (by first | (simp only [putAll, Act.put, List.setIfInBounds_toArray, List.set_cons_zero, List.set_cons_succ]; done) | (simp only [putAll, Act.put, List.setIfInBounds_toArray, List.set_cons_zero, List.set_cons_succ]; rfl)) (hJ3_9 (v443, v446) _ ⟨(by (with_reducible repeat (first | apply Kd.R_alloc | apply Kd.R_drewN | apply Kd.R_drew)); exact Kd.R_mono HO444.out (fun _ hk => hk.2)), (by (with_reducible repeat (first | apply Kd.R_alloc | apply Kd.R_drewN | apply Kd.R_drew)); exact Kd.R_mono HO447.out (fun _ hk => hk.2)), pB⟩)
                 ·skip
                  rintro v446 w42 ⟨h0_, h1_⟩
                  have n0_ : Aside0 (Kd.R (Kd.int .u8) 5 w42 w.heap.size (fun _ => True) v446 y445) := ⟨h0_⟩
                  have n1_ : Aside0 (Below w.heap.size w w42) := ⟨h1_⟩
                  clear HB h0_ h1_; have HO447 := n0_; have HB := n1_; clear n0_ n1_
                  have hHeld := trivial
                  refine norm_ (a' := ?_) ?_ ?_
                  rotate_left
                  ·exact pA2
                  refine one_ (i := 3) (N := some 59) (bm 14 4047) rfl rfl (one_of HT_.out (by kernel_rfl)) (by decide) (fun K hK => ?_)
                  refine Kd.R_lit_step (Kd.int .u8) _ 5 ?hg (N := 59) ?hd (xs := ([(48 + (Int.tmod (rd l0 x10_1) 10)) % 256] : List Int)) (inner := [.int .u8 ((48 + (Int.tmod (rd l0 x10_1) 10)) % 256)]) (ok := fun _ => True) (okp := fun _ => True) ?hr ?hp (fun _ hk => hk) trivial (Below.refl _ _) (Nat.le_refl _) (by simp) ?_; (case hd => rfl); (case hg => rfl); (case hr => first | (go_simp; done) | (go_simp; rfl)); (case hp => exact (Reps.one (show Kd.M (Kd.int .u8) _ _ _ ((48 + (Int.tmod (rd l0 x10_1) 10)) % 256) [.int .u8 ((48 + (Int.tmod (rd l0 x10_1) 10)) % 256)] from rfl) (Reps.none _ _)))
                  intro v443 w43 ho44 hb hg_ hnew_
                  clear hg_ hnew_
                  (first | rw [← Ny442.out] at ho44 | (simp only [Int.reduceToNat] at ho44; rw [← Ny442.out] at ho44))
                  have n0_ := Aside0.mk (Kd.R_elder' (pR HO447.out) (Kd.R_base ho44) hb)
                  have n1_ := Aside0.mk (Kd.R_lower (Kd.R_new' ho44 (Kd.R_lt (pR HO447.out))) (below_size pB))
                  have n2_ := Aside0.mk (below_step pB hb)
                  clear HO447 HB; have HO447 := n0_; have HO444 := n1_; have HB := n2_; clear n0_ n1_ n2_ hb ho44
                  refine hK.out _ _ trivial (fun hHeld => ?_)
                  clear hK K
                  refine norm_ (a' := ?_) ?_ ?_
                  rotate_left
                  ·show Act.put _ (some 59) _ = _
                   exact pA
                  exact norm_ (by first | (simp only [putAll, Act.put, List.setIfInBounds_toArray, List.set_cons_zero, List.set_cons_succ]; done) | (simp only [putAll, Act.put, List.setIfInBounds_toArray, List.set_cons_zero, List.set_cons_succ]; rfl)) (hJ3_9_10 (v443, v446) _ ⟨(by (with_reducible repeat (first | apply Kd.R_alloc | apply Kd.R_drewN | apply Kd.R_drew)); exact Kd.R_mono HO444.out (fun _ hk => hk.2)), (by (with_reducible repeat (first | apply Kd.R_alloc | apply Kd.R_drewN | apply Kd.R_drew)); exact Kd.R_mono HO447.out (fun _ hk => hk.2)), pB⟩)
                ·skip
                 rintro ⟨v443, v446⟩ w43 ⟨h0_, h1_, h2_⟩
                 have n0_ : Aside0 (Kd.R (Kd.int .u8) 5 w43 w.heap.size (fun k_ => some k_ ≠ (v446 : Value).ownBlock) v443 y442) := ⟨h0_⟩
                 have n1_ : Aside0 (Kd.R (Kd.int .u8) 5 w43 w.heap.size (fun k_ => some k_ ≠ (v443 : Value).ownBlock) v446 y445) := ⟨h1_⟩
                 have n2_ : Aside0 (Below w.heap.size w w43) := ⟨h2_⟩
                 clear HB h0_ h1_ h2_; have HO444 := n0_; have HO447 := n1_; have HB := n2_; clear n0_ n1_ n2_
                 have hHeld := trivial
                 refine norm_ (a' := ?_) ?_ ?_
                 rotate_left
                 ·exact pA2
                 refine two_ (i := 4) (j := 10) (Ni := some 60) (Nj := some 66) (bm 14 991) (bm 14 1999) rfl rfl rfl rfl (two_of HT_.out (by kernel_rfl)) (by decide) (by decide) (fun K hK => ?_) (fun K hK => ?_)
                 ·skip
                  have hcv44 := own_string (P := Tryd.prog) Tryd.underlying35 Tryd.underlying5 Tryd.underlying9 (Kd.own_of_R HO444.out)
                  refine value_ (w1 := ?_) (v := ?_) (by rfl) rfl ?_ ?_
                  rotate_left 2
                  ·go_simp
                   constructor
                   ·rfl
                   ·rfl
                  clear hcv44
                  refine hK.out _ _ trivial (fun hHeld => ?_)
                  clear hK K
                  refine norm_ (a' := ?_) ?_ ?_
                  rotate_left
                  ·show Act.put _ (some 60) _ = _
                   exact pA
                  refine pure_ (i := 5) (N := some 61) (v := ?_) (a' := ?_) (bm 14 1023) rfl rfl (any_of HT_.out (by kernel_rfl)) (fun _ _ _ h => h) (Or.inl ⟨by kernel_rfl, ?_⟩) ?_ ?_
                  rotate_left
                  ·intro w'
                   go_simp
                   with_reducible rfl
                  rotate_left
                  ·exact pA
                  refine pure_ (i := 12) (N := some 7) (v := ?_) (a' := ?_) (bm 14 5119) rfl rfl (any_of HT_.out (by kernel_rfl)) (fun _ _ _ h => h) (Or.inl ⟨by kernel_rfl, ?_⟩) ?_ ?_
                  rotate_left
                  ·intro w'
                   go_simp
                   with_reducible rfl
                  rotate_left
                  ·exact pA
                  exact norm_ (by first | (simp only [putAll, Act.put, List.setIfInBounds_toArray, List.set_cons_zero, List.set_cons_succ]; done) | (simp only [putAll, Act.put, List.setIfInBounds_toArray, List.set_cons_zero, List.set_cons_succ]; rfl)) (hJ3_4_9 (v443, v446) _ ⟨(pR HO444.out), (pR HO447.out), pB⟩)
                 ·skip
                  have hcv44 := own_string (P := Tryd.prog) Tryd.underlying35 Tryd.underlying5 Tryd.underlying9 (Kd.own_of_R HO447.out)
                  refine value_ (w1 := ?_) (v := ?_) (by rfl) rfl ?_ ?_
                  rotate_left 2
                  ·go_simp
                   constructor
                   ·rfl
                   ·rfl
                  clear hcv44
                  refine hK.out _ _ trivial (fun hHeld => ?_)
                  clear hK K
                  refine norm_ (a' := ?_) ?_ ?_
                  rotate_left
                  ·show Act.put _ (some 66) _ = _
                   exact pA
                  refine pure_ (i := 11) (N := some 67) (v := ?_) (a' := ?_) (bm 14 4047) rfl rfl (any_of HT_.out (by kernel_rfl)) (fun _ _ _ h => h) (Or.inl ⟨by kernel_rfl, ?_⟩) ?_ ?_
                  rotate_left
                  ·intro w'
                   go_simp
                   with_reducible rfl
                  rotate_left
                  ·exact pA
                  exact norm_ (by first | (simp only [putAll, Act.put, List.setIfInBounds_toArray, List.set_cons_zero, List.set_cons_succ]; done) | (simp only [putAll, Act.put, List.setIfInBounds_toArray, List.set_cons_zero, List.set_cons_succ]; rfl)) (hJ3_9_10 (v443, v446) _ ⟨(pR HO444.out), (pR HO447.out), pB⟩)
               ·skip
                rintro v443 w42 ⟨h0_, h1_⟩
                have n0_ : Aside0 (Kd.R (Kd.int .u8) 5 w42 w.heap.size (fun _ => True) v443 y442) := ⟨h0_⟩
                have n1_ : Aside0 (Below w.heap.size w w42) := ⟨h1_⟩
                clear HB h0_ h1_; have HO444 := n0_; have HB := n1_; clear n0_ n1_
                have hHeld := trivial
                refine norm_ (a' := ?_) ?_ ?_
                rotate_left
                ·exact pA2
                refine one_ (i := 9) (N := some 65) (bm 14 5119) rfl rfl (one_of HT_.out (by kernel_rfl)) (by decide) (fun K hK => ?_)
                refine Kd.R_lit_step (Kd.int .u8) _ 5 ?hg (N := 65) ?hd (xs := ([(48 + (Int.tmod (rd l1 x10_1) 10)) % 256] : List Int)) (inner := [.int .u8 ((48 + (Int.tmod (rd l1 x10_1) 10)) % 256)]) (ok := fun _ => True) (okp := fun _ => True) ?hr ?hp (fun _ hk => hk) trivial (Below.refl _ _) (Nat.le_refl _) (by simp) ?_; (case hd => rfl); (case hg => rfl); (case hr => first | (go_simp; done) | (go_simp; rfl)); (case hp => exact (Reps.one (show Kd.M (Kd.int .u8) _ _ _ ((48 + (Int.tmod (rd l1 x10_1) 10)) % 256) [.int .u8 ((48 + (Int.tmod (rd l1 x10_1) 10)) % 256)] from rfl) (Reps.none _ _)))
                intro v446 w43 ho44 hb hg_ hnew_
                clear hg_ hnew_
                (first | rw [← Ny445.out] at ho44 | (simp only [Int.reduceToNat] at ho44; rw [← Ny445.out] at ho44))
                have n0_ := Aside0.mk (Kd.R_elder' (pR HO444.out) (Kd.R_base ho44) hb)
                have n1_ := Aside0.mk (Kd.R_lower (Kd.R_new' ho44 (Kd.R_lt (pR HO444.out))) (below_size pB))
                have n2_ := Aside0.mk (below_step pB hb)
                clear HO444 HB; have HO444 := n0_; have HO447 := n1_; have HB := n2_; clear n0_ n1_ n2_ hb ho44
                refine hK.out _ _ trivial (fun hHeld => ?_)
                clear hK K
                refine norm_ (a' := ?_) ?_ ?_
                rotate_left
                ·show Act.put _ (some 65) _ = _
                 exact pA
                exact norm_ (by first | (simp only [putAll, Act.put, List.setIfInBounds_toArray, List.set_cons_zero, List.set_cons_succ]; done) | (simp only [putAll, Act.put, List.setIfInBounds_toArray, List.set_cons_zero, List.set_cons_succ]; rfl)) (hJ3_4_9 (v443, v446) _ ⟨(by (with_reducible repeat (first | apply Kd.R_alloc | apply Kd.R_drewN | apply Kd.R_drew)); exact Kd.R_mono HO444.out (fun _ hk => hk.2)), (by (with_reducible repeat (first | apply Kd.R_alloc | apply Kd.R_drewN | apply Kd.R_drew)); exact Kd.R_mono HO447.out (fun _ hk => hk.2)), pB⟩)
              ·skip
               rintro ⟨v443, v446⟩ w44 ⟨h0_, h1_, h2_⟩
               have n0_ : Aside0 (Kd.R (Kd.int .u8) 5 w44 w.heap.size (fun k_ => some k_ ≠ (v446 : Value).ownBlock) v443 y442) := ⟨h0_⟩
               have n1_ : Aside0 (Kd.R (Kd.int .u8) 5 w44 w.heap.size (fun k_ => some k_ ≠ (v443 : Value).ownBlock) v446 y445) := ⟨h1_⟩
               have n2_ : Aside0 (Below w.heap.size w w44) := ⟨h2_⟩
               clear HB h0_ h1_ h2_; have HO444 := n0_; have HO447 := n1_; have HB := n2_; clear n0_ n1_ n2_
               have hHeld := trivial
               refine norm_ (a' := ?_) ?_ ?_
               rotate_left
               ·exact pA2
               refine one_ (i := 4) (N := some 60) (bm 14 4063) rfl rfl (one_of HT_.out (by kernel_rfl)) (by decide) (fun K hK => ?_)
               have hcv45 := own_string (P := Tryd.prog) Tryd.underlying35 Tryd.underlying5 Tryd.underlying9 (Kd.own_of_R HO444.out)
               refine value_ (w1 := ?_) (v := ?_) (by rfl) rfl ?_ ?_
               rotate_left 2
               ·go_simp
                constructor
                ·rfl
                ·rfl
               clear hcv45
               refine hK.out _ _ trivial (fun hHeld => ?_)
               clear hK K
               refine norm_ (a' := ?_) ?_ ?_
               rotate_left
               ·show Act.put _ (some 60) _ = _
                exact pA
               refine pure_ (i := 5) (N := some 61) (v := ?_) (a' := ?_) (bm 14 4095) rfl rfl (any_of HT_.out (by kernel_rfl)) (fun _ _ _ h => h) (Or.inl ⟨by kernel_rfl, ?_⟩) ?_ ?_
               rotate_left
               ·intro w'
                go_simp
                with_reducible rfl
               rotate_left
               ·exact pA
               refine pure_ (i := 12) (N := some 7) (v := ?_) (a' := ?_) (bm 14 8191) rfl rfl (any_of HT_.out (by kernel_rfl)) (fun _ _ _ h => h) (Or.inl ⟨by kernel_rfl, ?_⟩) ?_ ?_
               rotate_left
               ·intro w'
                go_simp
                with_reducible rfl
               rotate_left
               ·exact pA
               exact norm_ (by first | (simp only [putAll, Act.put, List.setIfInBounds_toArray, List.set_cons_zero, List.set_cons_succ]; done) | (simp only [putAll, Act.put, List.setIfInBounds_toArray, List.set_cons_zero, List.set_cons_succ]; rfl)) (hJ3_4_9_10 (v443, v446) _ ⟨(pR HO444.out), (pR HO447.out), pB⟩)
             ·skip
              rintro ⟨v443, v446⟩ w44 ⟨h0_, h1_, h2_⟩
              have n0_ : Aside0 (Kd.R (Kd.int .u8) 5 w44 w.heap.size (fun k_ => some k_ ≠ (v446 : Value).ownBlock) v443 y442) := ⟨h0_⟩
              have n1_ : Aside0 (Kd.R (Kd.int .u8) 5 w44 w.heap.size (fun k_ => some k_ ≠ (v443 : Value).ownBlock) v446 y445) := ⟨h1_⟩
              have n2_ : Aside0 (Below w.heap.size w w44) := ⟨h2_⟩
              clear HB h0_ h1_ h2_; have HO444 := n0_; have HO447 := n1_; have HB := n2_; clear n0_ n1_ n2_
              have hHeld := trivial
              refine norm_ (a' := ?_) ?_ ?_
              rotate_left
              ·exact pA2
              refine one_ (i := 10) (N := some 66) (bm 14 6143) rfl rfl (one_of HT_.out (by kernel_rfl)) (by decide) (fun K hK => ?_)
              have hcv45 := own_string (P := Tryd.prog) Tryd.underlying35 Tryd.underlying5 Tryd.underlying9 (Kd.own_of_R HO447.out)
              refine value_ (w1 := ?_) (v := ?_) (by rfl) rfl ?_ ?_
              rotate_left 2
              ·go_simp
               constructor
               ·rfl
               ·rfl
              clear hcv45
              refine hK.out _ _ trivial (fun hHeld => ?_)
              clear hK K
              refine norm_ (a' := ?_) ?_ ?_
              rotate_left
              ·show Act.put _ (some 66) _ = _
               exact pA
              refine pure_ (i := 11) (N := some 67) (v := ?_) (a' := ?_) (bm 14 8191) rfl rfl (any_of HT_.out (by kernel_rfl)) (fun _ _ _ h => h) (Or.inl ⟨by kernel_rfl, ?_⟩) ?_ ?_
              rotate_left
              ·intro w'
               go_simp
               with_reducible rfl
              rotate_left
              ·exact pA
              exact norm_ (by first | (simp only [putAll, Act.put, List.setIfInBounds_toArray, List.set_cons_zero, List.set_cons_succ]; done) | (simp only [putAll, Act.put, List.setIfInBounds_toArray, List.set_cons_zero, List.set_cons_succ]; rfl)) (hJ3_4_9_10 (v443, v446) _ ⟨(pR HO444.out), (pR HO447.out), pB⟩)
            rintro ⟨v443, v446⟩ w45 ⟨h0_, h1_, h2_⟩
            have n0_ : Aside0 (Kd.R (Kd.int .u8) 5 w45 w.heap.size (fun k_ => some k_ ≠ (v446 : Value).ownBlock) v443 y442) := ⟨h0_⟩
            have n1_ : Aside0 (Kd.R (Kd.int .u8) 5 w45 w.heap.size (fun k_ => some k_ ≠ (v443 : Value).ownBlock) v446 y445) := ⟨h1_⟩
            have n2_ : Aside0 (Below w.heap.size w w45) := ⟨h2_⟩
            clear HB h0_ h1_ h2_; have HO444 := n0_; have HO447 := n1_; have HB := n2_; clear n0_ n1_ n2_
            have hHeld := trivial
            refine norm_ (a' := ?_) ?_ ?_
            rotate_left
            ·exact pA2
            refine pure_ (i := 13) (N := some 8) (v := ?_) (a' := ?_) (bm 14 16383) rfl rfl (any_of HT_.out (by kernel_rfl)) (fun _ _ _ h => h) (Or.inl ⟨by kernel_rfl, ?_⟩) ?_ ?_
            rotate_left
            ·intro w'
             go_simp
             with_reducible rfl
            rotate_left
            ·exact pA
            refine done_ (done_of HT_.out (by kernel_rfl)) ?_
            try go_wp2
            go_roundg kj3
            case measure => have := HK1.out; have := HJ3.out; omega
            case rel => exact ⟨(x7_1 ++ (strOfNums y442)), (x8_1 ++ (strOfNums y445)), (x9_1), (wrap64 (x10_1 + 1)), (by first | rfl | (simp; done) | (simp [*]; done)), (by first | rfl | (simp; done) | (simp [*]; done)), (by first | rfl | (simp; done) | (simp [*]; done)), (by first | rfl | (simp; done) | (simp [*]; done)), H', ⟨by have := HK1.out; have := HJ3.out; omega⟩, ⟨pB⟩⟩
           ·rw [if_neg c36] at H
            exact absurd H (by simp)
          ·rw [if_neg c35] at H
           exact absurd H (by simp)
        ·rw [if_neg c10] at H
         exact absurd H (by simp)
       ·rw [if_neg c9] at H
        exact absurd H (by simp)
      ·rw [if_neg c8] at H
       exact absurd H (by simp)
     ·replace c7 := Bool.eq_false_iff.mpr c7
      subst c7
      have H1 : (if x7_1.toList = ([] : List UInt8) then ((minstrellaw05_lives.f kj3).bind fun t448 => (some t448)) else ((minstrellaw05_digits.f kj3 (wrap64 (a2))).bind fun t449 => (if 1 + t449.size ≤ 9223372036854775807 then (if a2 < 0 then ((minstrellaw05_digits.f kj3 (wrap64 (-(wrap64 (a2))))).bind fun t450 => (if 2 + t450.size ≤ 9223372036854775807 then (minstrellaw05_DecRises.j2 kj3 x7_1 x8_1 x9_1 ((⟨#[101, 45]⟩ : ByteArray) ++ t450)) else (none))) else (minstrellaw05_DecRises.j2 kj3 x7_1 x8_1 x9_1 ((⟨#[101]⟩ : ByteArray) ++ t449))) else (none)))) = some r := by rw [if_neg (show ¬ (false = true) by decide)] at H; exact H
      clear H
      have H := H1
      clear H1
      by_cases c46 : x7_1.toList = ([] : List UInt8)
      ·rw [if_pos c46] at H
       have c46b0 : (x7_1.toList == ([] : List UInt8)) = true := beq_iff_eq.mpr c46
       have c46b1 : (x7_1.toList != ([] : List UInt8)) = false := bne_eq_false_iff_eq.mpr c46
       clear c46
       replace H := Option.bind_eq_some_iff.mp H
       obtain ⟨t448, A470, H⟩ := H
       replace H : (some t448) = some r := H
       have A47 := Aside0.mk A470
       clear A470
       obtain rfl := Option.some.inj H
       go_wp2_with (first | ((with_reducible refine gate_callee (f := 7) rfl ?_); refine goesL_ (some 70) rfl rfl Tryd.func7 (by kernel_rfl) rfl #[] rfl pM ?_; (with_reducible refine (minstrellaw05_lives.calls kj3  t448 _ ?side1 A47.out).mono ?_); (case side1 => exact pG); rintro e w48 ⟨rfl, hb⟩; refine ⟨_, rfl, ?_⟩; have n0_ := Aside0.mk (below_step pB hb); clear HB; have HB := n0_; clear n0_; (try clear hb); (try clear hb2); (try clear hk); (try clear hi)))
       go_ret
       exact ⟨pE, pB⟩
      ·rw [if_neg c46] at H
       have c46b0 : (x7_1.toList == ([] : List UInt8)) = false := beq_eq_false_iff_ne.mpr c46
       have c46b1 : (x7_1.toList != ([] : List UInt8)) = true := bne_iff_ne.mpr c46
       replace H := Option.bind_eq_some_iff.mp H
       obtain ⟨t449, A490, H⟩ := H
       replace H : (if 1 + t449.size ≤ 9223372036854775807 then (if a2 < 0 then ((minstrellaw05_digits.f kj3 (wrap64 (-(wrap64 (a2))))).bind fun t450 => (if 2 + t450.size ≤ 9223372036854775807 then (minstrellaw05_DecRises.j2 kj3 x7_1 x8_1 x9_1 ((⟨#[101, 45]⟩ : ByteArray) ++ t450)) else (none))) else (minstrellaw05_DecRises.j2 kj3 x7_1 x8_1 x9_1 ((⟨#[101]⟩ : ByteArray) ++ t449))) else (none)) = some r := H
       have A49 := Aside0.mk A490
       clear A490
       by_cases c50 : 1 + t449.size ≤ 9223372036854775807
       ·rw [if_pos c50] at H
        have c50b0 := eq_true c50
        have c50b1 : decide (1 + t449.size ≤ 9223372036854775807) = true := decide_eq_true c50
        try have c50b2 : (9223372036854775807 < 1 + t449.size) = False := eq_false (Nat.not_lt.2 c50)
        have HC51 := Aside0.mk H
        clear H
        go_upto_if 76 with (first | ((with_reducible refine gate_callee (f := 12) rfl ?_); refine goesL_ (some 73) rfl rfl Tryd.func12 (by kernel_rfl) rfl #[.int .i64 (wrap64 (a2))] rfl pM ?_; (with_reducible refine (minstrellaw05_digits.calls kj3 (wrap64 (a2)) t449 _ A49.out).mono ?_); rintro e w52 ⟨rfl, hb⟩; refine ⟨_, rfl, ?_⟩; have n0_ := Aside0.mk (below_step pB hb); clear HB; have HB := n0_; clear n0_; (try clear hb); (try clear hb2); (try clear hk); (try clear hi)))
        (try simp only [Act.put, List.setIfInBounds_toArray, List.set_cons_zero, List.set_cons_succ])
        go_cut [13] (fun v13 wc => ∃ (kq : Nat) (x13_50 : ByteArray), v13 = .string x13_50 ∧ Aside0 (minstrellaw05_DecRises.j2 kq x7_1 x8_1 x9_1 x13_50 = some r) ∧ Aside0 (kq ≤ kj3) ∧ Aside0 (Below w.heap.size w wc))
        case first =>
         have H := HC51.out
         clear HC51
         by_cases c53 : a2 < 0
         ·rw [if_pos c53] at H
          have c53b0 : decide (a2 < 0) = true := decide_eq_true c53
          clear c53
          (first | rw [c53b0] | (simp only [i64_w, i32_w]; rw [c53b0]) | rw [c53b1] | (simp only [i64_w, i32_w]; rw [c53b1]) | skip)
          replace H := Option.bind_eq_some_iff.mp H
          obtain ⟨t450, A540, H⟩ := H
          replace H : (if 2 + t450.size ≤ 9223372036854775807 then (minstrellaw05_DecRises.j2 kj3 x7_1 x8_1 x9_1 ((⟨#[101, 45]⟩ : ByteArray) ++ t450)) else (none)) = some r := H
          have A54 := Aside0.mk A540
          clear A540
          by_cases c55 : 2 + t450.size ≤ 9223372036854775807
          ·rw [if_pos c55] at H
           have c55b0 := eq_true c55
           have c55b1 : decide (2 + t450.size ≤ 9223372036854775807) = true := decide_eq_true c55
           try have c55b2 : (9223372036854775807 < 2 + t450.size) = False := eq_false (Nat.not_lt.2 c55)
           have H' := Aside0.mk H
           clear H
           go_wp2_with (first | ((with_reducible refine gate_callee (f := 12) rfl ?_); refine goesL_ (some 80) rfl rfl Tryd.func12 (by kernel_rfl) rfl #[.int .i64 (wrap64 (-(wrap64 (a2))))] rfl pM ?_; (with_reducible refine (minstrellaw05_digits.calls kj3 (wrap64 (-(wrap64 (a2)))) t450 _ A54.out).mono ?_); rintro e w56 ⟨rfl, hb⟩; refine ⟨_, rfl, ?_⟩; have n0_ := Aside0.mk (below_step pB hb); clear HB; have HB := n0_; clear n0_; (try clear hb); (try clear hb2); (try clear hk); (try clear hi)))
           go_meet
           case rel => exact ⟨_, ((⟨#[101, 45]⟩ : ByteArray) ++ t450), (by first | rfl | (simp; done) | (simp [*]; done)), H', ⟨by have := HK1.out; have := HJ3.out; first | omega | exact Nat.le_refl _⟩, ⟨pB⟩⟩
          ·rw [if_neg c55] at H
           exact absurd H (by simp)
         ·rw [if_neg c53] at H
          have c53b0 : decide (a2 < 0) = false := decide_eq_false c53
          clear c53
          (first | rw [c53b0] | (simp only [i64_w, i32_w]; rw [c53b0]) | rw [c53b1] | (simp only [i64_w, i32_w]; rw [c53b1]) | skip)
          have H' := Aside0.mk H
          clear H
          go_wp2
          go_meet
          case rel => exact ⟨_, ((⟨#[101]⟩ : ByteArray) ++ t449), (by first | rfl | (simp; done) | (simp [*]; done)), H', ⟨by have := HK1.out; have := HJ3.out; first | omega | exact Nat.le_refl _⟩, ⟨pB⟩⟩
        case rest =>
         clear HC51
         try clear c1
         try clear p2
         try clear c3
         try clear c4
         try clear hcv4
         try clear c5
         try clear p6
         try clear c7
         try clear c8
         try clear c9
         try clear c10
         try clear c12
         try clear c35
         try clear c36
         try clear hcv42
         try clear hcv44
         try clear hcv45
         try clear c46
         try clear c46b0
         try clear c46b1
         try clear c50
         try clear c50b0
         try clear c50b1
         try clear c50b2
         try clear c53
         try clear c53b0
         try clear c53b1
         try clear c55
         try clear c55b0
         try clear c55b1
         try clear c55b2
         obtain ⟨kq, x13_50, rfl, HA, HJ50, HB⟩ := hcut
         cases kq with
         | zero => exact absurd HA.out (by simp [minstrellaw05_DecRises.j2])
         | succ kj50 =>
          have H := HA.out
          clear HA
          simp only [minstrellaw05_DecRises.j2] at H
          by_cases c57 : x7_1.size + x13_50.size ≤ 9223372036854775807
          ·rw [if_pos c57] at H
           have c57b0 := eq_true c57
           have c57b1 : decide (x7_1.size + x13_50.size ≤ 9223372036854775807) = true := decide_eq_true c57
           try have c57b2 : (9223372036854775807 < x7_1.size + x13_50.size) = False := eq_false (Nat.not_lt.2 c57)
           replace H := Option.bind_eq_some_iff.mp H
           obtain ⟨⟨t451, t452⟩, A580, H⟩ := H
           replace H : (if x8_1.size + x13_50.size ≤ 9223372036854775807 then ((dec_Parse.f kj50 (x8_1 ++ x13_50)).bind fun bt453 => (if t452 = 0 then (minstrellaw05_DecRises.j3 kj50 x9_1 t451 bt453.1 (bt453.2 != 0)) else (minstrellaw05_DecRises.j3 kj50 x9_1 t451 bt453.1 true))) else (none)) = some r := H
           have A58 := Aside0.mk A580
           clear A580
           by_cases c59 : x8_1.size + x13_50.size ≤ 9223372036854775807
           ·rw [if_pos c59] at H
            have c59b0 := eq_true c59
            have c59b1 : decide (x8_1.size + x13_50.size ≤ 9223372036854775807) = true := decide_eq_true c59
            try have c59b2 : (9223372036854775807 < x8_1.size + x13_50.size) = False := eq_false (Nat.not_lt.2 c59)
            replace H := Option.bind_eq_some_iff.mp H
            obtain ⟨⟨t453, t454⟩, A600, H⟩ := H
            replace H : (if t452 = 0 then (minstrellaw05_DecRises.j3 kj50 x9_1 t451 t453 (t454 != 0)) else (minstrellaw05_DecRises.j3 kj50 x9_1 t451 t453 true)) = some r := H
            have A60 := Aside0.mk A600
            clear A600
            have HC61 := Aside0.mk H
            clear H
            go_upto_region 16 with (first | ((with_reducible refine gate_callee (f := 9) rfl ?_); refine goesL_ (some 86) rfl rfl Tryd.func9 (by kernel_rfl) rfl #[.string (x7_1 ++ x13_50)] rfl pM ?_; (with_reducible refine (dec_Parse.calls kj50 (x7_1 ++ x13_50) t451 t452 _ A58.out).mono ?_); rintro e w62 ⟨rfl, hb⟩; refine ⟨_, rfl, ?_⟩; have n0_ := Aside0.mk (below_step pB hb); clear HB; have HB := n0_; clear n0_; (try clear hb); (try clear hb2); (try clear hk); (try clear hi)) | ((with_reducible refine gate_callee (f := 9) rfl ?_); refine goesL_ (some 93) rfl rfl Tryd.func9 (by kernel_rfl) rfl #[.string (x8_1 ++ x13_50)] rfl pM ?_; (with_reducible refine (dec_Parse.calls kj50 (x8_1 ++ x13_50) t453 t454 _ A60.out).mono ?_); rintro e w63 ⟨rfl, hb⟩; refine ⟨_, rfl, ?_⟩; have n0_ := Aside0.mk (below_step pB hb); clear HB; have HB := n0_; clear n0_; (try clear hb); (try clear hb2); (try clear hk); (try clear hi)))
            (try simp only [Act.put, List.setIfInBounds_toArray, List.set_cons_zero, List.set_cons_succ])
            go_cut [101] (fun v101 wc => ∃ (kq : Nat) (x101_60 : Bool), v101 = .bool x101_60 ∧ Aside0 (minstrellaw05_DecRises.j3 kq x9_1 t451 t453 x101_60 = some r) ∧ Aside0 (kq ≤ kj50) ∧ Aside0 (Below w.heap.size w wc))
            case first =>
             have H := HC61.out
             clear HC61
             by_cases c64 : t452 = 0
             ·rw [if_pos c64] at H
              have c64b0 : (t452 == 0) = true := beq_iff_eq.mpr c64
              have c64b1 : (t452 != 0) = false := bne_eq_false_iff_eq.mpr c64
              clear c64
              (first | rw [c64b0] | (simp only [i64_w, i32_w]; rw [c64b0]) | rw [c64b1] | (simp only [i64_w, i32_w]; rw [c64b1]) | skip)
              have H' := Aside0.mk H
              clear H
              go_wp2
              go_meet
              case rel => exact ⟨_, ((t454 != 0)), (by first | rfl | (simp; done) | (simp [*]; done)), H', ⟨by have := HK1.out; have := HJ3.out; have := HJ50.out; first | omega | exact Nat.le_refl _⟩, ⟨pB⟩⟩
             ·rw [if_neg c64] at H
              have c64b0 : (t452 == 0) = false := beq_eq_false_iff_ne.mpr c64
              have c64b1 : (t452 != 0) = true := bne_iff_ne.mpr c64
              (first | rw [c64b0] | (simp only [i64_w, i32_w]; rw [c64b0]) | rw [c64b1] | (simp only [i64_w, i32_w]; rw [c64b1]) | skip)
              have H' := Aside0.mk H
              clear H
              go_wp2
              go_meet
              case rel => exact ⟨_, (true), (by first | rfl | (simp; done) | (simp [*]; done)), H', ⟨by have := HK1.out; have := HJ3.out; have := HJ50.out; first | omega | exact Nat.le_refl _⟩, ⟨pB⟩⟩
            case rest =>
             clear HC61
             try clear c1
             try clear p2
             try clear c3
             try clear c4
             try clear hcv4
             try clear c5
             try clear c6
             try clear p6
             try clear c7
             try clear c8
             try clear c9
             try clear c10
             try clear c12
             try clear c35
             try clear c36
             try clear hcv42
             try clear hcv44
             try clear hcv45
             try clear c46
             try clear c46b0
             try clear c46b1
             try clear c50
             try clear c50b0
             try clear c50b1
             try clear c50b2
             try clear c53
             try clear c53b0
             try clear c53b1
             try clear c55
             try clear c55b0
             try clear c55b1
             try clear c55b2
             try clear c57
             try clear c57b0
             try clear c57b1
             try clear c57b2
             try clear c59
             try clear c59b0
             try clear c59b1
             try clear c59b2
             try clear c64
             try clear c64b0
             try clear c64b1
             try clear p64
             try clear p2
             try clear p6
             obtain ⟨kq, x101_60, rfl, HA, HJ60, HB⟩ := hcut
             cases kq with
             | zero => exact absurd HA.out (by simp [minstrellaw05_DecRises.j3])
             | succ kj60 =>
              have H := HA.out
              clear HA
              simp only [minstrellaw05_DecRises.j3] at H
              by_cases c65 : x101_60 = true
              ·subst c65
               have H1 : (none) = some r := by rw [if_pos rfl] at H; exact H
               clear H
               have H := H1
               clear H1
               exact absurd H (by simp)
              ·replace c65 := Bool.eq_false_iff.mpr c65
               subst c65
               have H1 : (if x9_1 ≤ 0 then (if x9_1 ≥ 0 then (if x9_1 = 0 then (if t451 = t453 then ((minstrellaw05_lives.f kj60).bind fun t455 => (some t455)) else (none)) else ((minstrellaw05_lives.f kj60).bind fun t456 => (some t456))) else ((minstrelref01_Less.f kj60 t453 t451).bind fun t457 => (if t457 = true then (none) else (if x9_1 = 0 then (if t451 = t453 then ((minstrellaw05_lives.f kj60).bind fun t458 => (some t458)) else (none)) else ((minstrellaw05_lives.f kj60).bind fun t459 => (some t459)))))) else ((minstrelref01_Less.f kj60 t451 t453).bind fun t460 => (if t460 = true then (none) else (if x9_1 ≥ 0 then (if x9_1 = 0 then (if t451 = t453 then ((minstrellaw05_lives.f kj60).bind fun t461 => (some t461)) else (none)) else ((minstrellaw05_lives.f kj60).bind fun t462 => (some t462))) else ((minstrelref01_Less.f kj60 t453 t451).bind fun t463 => (if t463 = true then (none) else (if x9_1 = 0 then (if t451 = t453 then ((minstrellaw05_lives.f kj60).bind fun t464 => (some t464)) else (none)) else ((minstrellaw05_lives.f kj60).bind fun t465 => (some t465))))))))) = some r := by rw [if_neg (show ¬ (false = true) by decide)] at H; exact H
               clear H
               have H := H1
               clear H1
               by_cases c66 : x9_1 ≤ 0
               ·rw [if_pos c66] at H
                have c66b0 : decide (x9_1 ≤ 0) = true := decide_eq_true c66
                clear c66
                by_cases c67 : x9_1 ≥ 0
                ·rw [if_pos c67] at H
                 have c67b0 : decide (0 ≤ x9_1) = true := decide_eq_true c67
                 clear c67
                 by_cases c68 : x9_1 = 0
                 ·rw [if_pos c68] at H
                  have c68b0 : (x9_1 == 0) = true := beq_iff_eq.mpr c68
                  have c68b1 : (x9_1 != 0) = false := bne_eq_false_iff_eq.mpr c68
                  clear c68
                  by_cases c69 : t451 = t453
                  ·rw [if_pos c69] at H
                   have c69b0 : (t451 == t453) = true := beq_iff_eq.mpr c69
                   have c69b1 : (t451 != t453) = false := bne_eq_false_iff_eq.mpr c69
                   clear c69
                   replace H := Option.bind_eq_some_iff.mp H
                   obtain ⟨t455, A700, H⟩ := H
                   replace H : (some t455) = some r := H
                   have A70 := Aside0.mk A700
                   clear A700
                   obtain rfl := Option.some.inj H
                   go_wp2_with (first | (go_at_call 7; (with_reducible refine (minstrellaw05_lives.calls kj60  t455 _ ?side1 A70.out).mono ?_); (case side1 => exact pG); rintro e w71 ⟨rfl, hb⟩; have n0_ := Aside0.mk (below_step pB hb); clear HB; have HB := n0_; clear n0_))
                   go_ret
                   exact ⟨pE, pB⟩
                  ·rw [if_neg c69] at H
                   exact absurd H (by simp)
                 ·rw [if_neg c68] at H
                  have c68b0 : (x9_1 == 0) = false := beq_eq_false_iff_ne.mpr c68
                  have c68b1 : (x9_1 != 0) = true := bne_iff_ne.mpr c68
                  replace H := Option.bind_eq_some_iff.mp H
                  obtain ⟨t456, A720, H⟩ := H
                  replace H : (some t456) = some r := H
                  have A72 := Aside0.mk A720
                  clear A720
                  obtain rfl := Option.some.inj H
                  go_wp2_with (first | (go_at_call 7; (with_reducible refine (minstrellaw05_lives.calls kj60  t456 _ ?side1 A72.out).mono ?_); (case side1 => exact pG); rintro e w73 ⟨rfl, hb⟩; have n0_ := Aside0.mk (below_step pB hb); clear HB; have HB := n0_; clear n0_))
                  go_ret
                  exact ⟨pE, pB⟩
                ·rw [if_neg c67] at H
                 have c67b0 : decide (0 ≤ x9_1) = false := decide_eq_false c67
                 clear c67
                 replace H := Option.bind_eq_some_iff.mp H
                 obtain ⟨t457, A740, H⟩ := H
                 replace H : (if t457 = true then (none) else (if x9_1 = 0 then (if t451 = t453 then ((minstrellaw05_lives.f kj60).bind fun t458 => (some t458)) else (none)) else ((minstrellaw05_lives.f kj60).bind fun t459 => (some t459)))) = some r := H
                 have A74 := Aside0.mk A740
                 clear A740
                 by_cases c75 : t457 = true
                 ·subst c75
                  have H1 : (none) = some r := by rw [if_pos rfl] at H; exact H
                  clear H
                  have H := H1
                  clear H1
                  exact absurd H (by simp)
                 ·replace c75 := Bool.eq_false_iff.mpr c75
                  subst c75
                  have H1 : (if x9_1 = 0 then (if t451 = t453 then ((minstrellaw05_lives.f kj60).bind fun t458 => (some t458)) else (none)) else ((minstrellaw05_lives.f kj60).bind fun t459 => (some t459))) = some r := by rw [if_neg (show ¬ (false = true) by decide)] at H; exact H
                  clear H
                  have H := H1
                  clear H1
                  by_cases c76 : x9_1 = 0
                  ·rw [if_pos c76] at H
                   have c76b0 : (x9_1 == 0) = true := beq_iff_eq.mpr c76
                   have c76b1 : (x9_1 != 0) = false := bne_eq_false_iff_eq.mpr c76
                   clear c76
                   by_cases c77 : t451 = t453
                   ·rw [if_pos c77] at H
                    have c77b0 : (t451 == t453) = true := beq_iff_eq.mpr c77
                    have c77b1 : (t451 != t453) = false := bne_eq_false_iff_eq.mpr c77
                    clear c77
                    replace H := Option.bind_eq_some_iff.mp H
                    obtain ⟨t458, A780, H⟩ := H
                    replace H : (some t458) = some r := H
                    have A78 := Aside0.mk A780
                    clear A780
                    obtain rfl := Option.some.inj H
                    go_wp2_with (first | (go_at_call 13; (with_reducible refine (minstrelref01_Less.calls kj60 t453 t451 false _ A74.out).mono ?_); rintro e w' ⟨rfl, ⟨nd, rfl⟩⟩) | (go_at_call 7; (with_reducible refine (minstrellaw05_lives.calls kj60  t458 _ ?side1 A78.out).mono ?_); (case side1 => exact pG); rintro e w79 ⟨rfl, hb⟩; have n0_ := Aside0.mk (below_step pB hb); clear HB; have HB := n0_; clear n0_))
                    go_ret
                    exact ⟨pE, pB⟩
                   ·rw [if_neg c77] at H
                    exact absurd H (by simp)
                  ·rw [if_neg c76] at H
                   have c76b0 : (x9_1 == 0) = false := beq_eq_false_iff_ne.mpr c76
                   have c76b1 : (x9_1 != 0) = true := bne_iff_ne.mpr c76
                   replace H := Option.bind_eq_some_iff.mp H
                   obtain ⟨t459, A800, H⟩ := H
                   replace H : (some t459) = some r := H
                   have A80 := Aside0.mk A800
                   clear A800
                   obtain rfl := Option.some.inj H
                   go_wp2_with (first | (go_at_call 13; (with_reducible refine (minstrelref01_Less.calls kj60 t453 t451 false _ A74.out).mono ?_); rintro e w' ⟨rfl, ⟨nd, rfl⟩⟩) | (go_at_call 7; (with_reducible refine (minstrellaw05_lives.calls kj60  t459 _ ?side1 A80.out).mono ?_); (case side1 => exact pG); rintro e w81 ⟨rfl, hb⟩; have n0_ := Aside0.mk (below_step pB hb); clear HB; have HB := n0_; clear n0_))
                   go_ret
                   exact ⟨pE, pB⟩
               ·rw [if_neg c66] at H
                have c66b0 : decide (x9_1 ≤ 0) = false := decide_eq_false c66
                clear c66
                replace H := Option.bind_eq_some_iff.mp H
                obtain ⟨t460, A820, H⟩ := H
                replace H : (if t460 = true then (none) else (if x9_1 ≥ 0 then (if x9_1 = 0 then (if t451 = t453 then ((minstrellaw05_lives.f kj60).bind fun t461 => (some t461)) else (none)) else ((minstrellaw05_lives.f kj60).bind fun t462 => (some t462))) else ((minstrelref01_Less.f kj60 t453 t451).bind fun t463 => (if t463 = true then (none) else (if x9_1 = 0 then (if t451 = t453 then ((minstrellaw05_lives.f kj60).bind fun t464 => (some t464)) else (none)) else ((minstrellaw05_lives.f kj60).bind fun t465 => (some t465))))))) = some r := H
                have A82 := Aside0.mk A820
                clear A820
                by_cases c83 : t460 = true
                ·subst c83
                 have H1 : (none) = some r := by rw [if_pos rfl] at H; exact H
                 clear H
                 have H := H1
                 clear H1
                 exact absurd H (by simp)
                ·replace c83 := Bool.eq_false_iff.mpr c83
                 subst c83
                 have H1 : (if x9_1 ≥ 0 then (if x9_1 = 0 then (if t451 = t453 then ((minstrellaw05_lives.f kj60).bind fun t461 => (some t461)) else (none)) else ((minstrellaw05_lives.f kj60).bind fun t462 => (some t462))) else ((minstrelref01_Less.f kj60 t453 t451).bind fun t463 => (if t463 = true then (none) else (if x9_1 = 0 then (if t451 = t453 then ((minstrellaw05_lives.f kj60).bind fun t464 => (some t464)) else (none)) else ((minstrellaw05_lives.f kj60).bind fun t465 => (some t465)))))) = some r := by rw [if_neg (show ¬ (false = true) by decide)] at H; exact H
                 clear H
                 have H := H1
                 clear H1
                 by_cases c84 : x9_1 ≥ 0
                 ·rw [if_pos c84] at H
                  have c84b0 : decide (0 ≤ x9_1) = true := decide_eq_true c84
                  clear c84
                  by_cases c85 : x9_1 = 0
                  ·rw [if_pos c85] at H
                   have c85b0 : (x9_1 == 0) = true := beq_iff_eq.mpr c85
                   have c85b1 : (x9_1 != 0) = false := bne_eq_false_iff_eq.mpr c85
                   clear c85
                   by_cases c86 : t451 = t453
                   ·rw [if_pos c86] at H
                    have c86b0 : (t451 == t453) = true := beq_iff_eq.mpr c86
                    have c86b1 : (t451 != t453) = false := bne_eq_false_iff_eq.mpr c86
                    clear c86
                    replace H := Option.bind_eq_some_iff.mp H
                    obtain ⟨t461, A870, H⟩ := H
                    replace H : (some t461) = some r := H
                    have A87 := Aside0.mk A870
                    clear A870
                    obtain rfl := Option.some.inj H
                    go_wp2_with (first | (go_at_call 13; (with_reducible refine (minstrelref01_Less.calls kj60 t451 t453 false _ A82.out).mono ?_); rintro e w' ⟨rfl, ⟨nd, rfl⟩⟩) | (go_at_call 7; (with_reducible refine (minstrellaw05_lives.calls kj60  t461 _ ?side1 A87.out).mono ?_); (case side1 => exact pG); rintro e w88 ⟨rfl, hb⟩; have n0_ := Aside0.mk (below_step pB hb); clear HB; have HB := n0_; clear n0_))
                    go_ret
                    exact ⟨pE, pB⟩
                   ·rw [if_neg c86] at H
                    exact absurd H (by simp)
                  ·rw [if_neg c85] at H
                   have c85b0 : (x9_1 == 0) = false := beq_eq_false_iff_ne.mpr c85
                   have c85b1 : (x9_1 != 0) = true := bne_iff_ne.mpr c85
                   replace H := Option.bind_eq_some_iff.mp H
                   obtain ⟨t462, A890, H⟩ := H
                   replace H : (some t462) = some r := H
                   have A89 := Aside0.mk A890
                   clear A890
                   obtain rfl := Option.some.inj H
                   go_wp2_with (first | (go_at_call 13; (with_reducible refine (minstrelref01_Less.calls kj60 t451 t453 false _ A82.out).mono ?_); rintro e w' ⟨rfl, ⟨nd, rfl⟩⟩) | (go_at_call 7; (with_reducible refine (minstrellaw05_lives.calls kj60  t462 _ ?side1 A89.out).mono ?_); (case side1 => exact pG); rintro e w90 ⟨rfl, hb⟩; have n0_ := Aside0.mk (below_step pB hb); clear HB; have HB := n0_; clear n0_))
                   go_ret
                   exact ⟨pE, pB⟩
                 ·rw [if_neg c84] at H
                  have c84b0 : decide (0 ≤ x9_1) = false := decide_eq_false c84
                  clear c84
                  replace H := Option.bind_eq_some_iff.mp H
                  obtain ⟨t463, A910, H⟩ := H
                  replace H : (if t463 = true then (none) else (if x9_1 = 0 then (if t451 = t453 then ((minstrellaw05_lives.f kj60).bind fun t464 => (some t464)) else (none)) else ((minstrellaw05_lives.f kj60).bind fun t465 => (some t465)))) = some r := H
                  have A91 := Aside0.mk A910
                  clear A910
                  by_cases c92 : t463 = true
                  ·subst c92
                   have H1 : (none) = some r := by rw [if_pos rfl] at H; exact H
                   clear H
                   have H := H1
                   clear H1
                   exact absurd H (by simp)
                  ·replace c92 := Bool.eq_false_iff.mpr c92
                   subst c92
                   have H1 : (if x9_1 = 0 then (if t451 = t453 then ((minstrellaw05_lives.f kj60).bind fun t464 => (some t464)) else (none)) else ((minstrellaw05_lives.f kj60).bind fun t465 => (some t465))) = some r := by rw [if_neg (show ¬ (false = true) by decide)] at H; exact H
                   clear H
                   have H := H1
                   clear H1
                   by_cases c93 : x9_1 = 0
                   ·rw [if_pos c93] at H
                    have c93b0 : (x9_1 == 0) = true := beq_iff_eq.mpr c93
                    have c93b1 : (x9_1 != 0) = false := bne_eq_false_iff_eq.mpr c93
                    clear c93
                    by_cases c94 : t451 = t453
                    ·rw [if_pos c94] at H
                     have c94b0 : (t451 == t453) = true := beq_iff_eq.mpr c94
                     have c94b1 : (t451 != t453) = false := bne_eq_false_iff_eq.mpr c94
                     clear c94
                     replace H := Option.bind_eq_some_iff.mp H
                     obtain ⟨t464, A950, H⟩ := H
                     replace H : (some t464) = some r := H
                     have A95 := Aside0.mk A950
                     clear A950
                     obtain rfl := Option.some.inj H
                     go_wp2_with (first | (go_at_call 13; (with_reducible refine (minstrelref01_Less.calls kj60 t451 t453 false _ A82.out).mono ?_); rintro e w' ⟨rfl, ⟨nd, rfl⟩⟩) | (go_at_call 13; (with_reducible refine (minstrelref01_Less.calls kj60 t453 t451 false _ A91.out).mono ?_); rintro e w' ⟨rfl, ⟨nd, rfl⟩⟩) | (go_at_call 7; (with_reducible refine (minstrellaw05_lives.calls kj60  t464 _ ?side1 A95.out).mono ?_); (case side1 => exact pG); rintro e w96 ⟨rfl, hb⟩; have n0_ := Aside0.mk (below_step pB hb); clear HB; have HB := n0_; clear n0_))
                     go_ret
                     exact ⟨pE, pB⟩
                    ·rw [if_neg c94] at H
                     exact absurd H (by simp)
                   ·rw [if_neg c93] at H
                    have c93b0 : (x9_1 == 0) = false := beq_eq_false_iff_ne.mpr c93
                    have c93b1 : (x9_1 != 0) = true := bne_iff_ne.mpr c93
                    replace H := Option.bind_eq_some_iff.mp H
                    obtain ⟨t465, A970, H⟩ := H
                    replace H : (some t465) = some r := H
                    have A97 := Aside0.mk A970
                    clear A970
                    obtain rfl := Option.some.inj H
                    go_wp2_with (first | (go_at_call 13; (with_reducible refine (minstrelref01_Less.calls kj60 t451 t453 false _ A82.out).mono ?_); rintro e w' ⟨rfl, ⟨nd, rfl⟩⟩) | (go_at_call 13; (with_reducible refine (minstrelref01_Less.calls kj60 t453 t451 false _ A91.out).mono ?_); rintro e w' ⟨rfl, ⟨nd, rfl⟩⟩) | (go_at_call 7; (with_reducible refine (minstrellaw05_lives.calls kj60  t465 _ ?side1 A97.out).mono ?_); (case side1 => exact pG); rintro e w98 ⟨rfl, hb⟩; have n0_ := Aside0.mk (below_step pB hb); clear HB; have HB := n0_; clear n0_))
                    go_ret
                    exact ⟨pE, pB⟩
           ·rw [if_neg c59] at H
            exact absurd H (by simp)
          ·rw [if_neg c57] at H
           exact absurd H (by simp)
       ·rw [if_neg c50] at H
        exact absurd H (by simp)
def minstrellaw05_DecRises.Pure : Prop := ∀ (l0 : List Int) (l1 : List Int) (a2 : Int), l0.length ≤ maxLen → l0.length * 1 ≤ 140737488351232 → (∀ x ∈ l0, (Lit.int .u8 x).wf = true) → l1.length ≤ maxLen → l1.length * 1 ≤ 140737488351232 → (∀ x ∈ l1, (Lit.int .u8 x).wf = true) → (Lit.int .i16 a2).wf = true → ∃ k, minstrellaw05_DecRises.f k l0 l1 a2 = some true
end Go.Proofs.YtflcanpajgpghaaDoor.Pr
end
section

end
section
namespace Go.Proofs.YtflcanpajgpghaaDoor.Pure
open Go.RowKit Go.Proofs.YtflcanpajgpghaaDoor.Pr Go.Proofs.YtflcanpajgpghaaDoorW.PrintWords Go.Proofs.YtflcanpajgpghaaDoorW.PrintLast Go.Proofs.YtflcanpajgpghaaDoorW.PrintMore
def toB (x : Nat) : List Int := if x = 0 then [] else ((x % 4294967296 : Nat) : Int) :: toB (x / 4294967296)
termination_by x
decreasing_by omega
theorem toB_zero : toB 0 = [] := by rw [toB]; rfl
theorem toB_pos {x : Nat} (h : x ≠ 0) : toB x = ((x % 4294967296 : Nat) : Int) :: toB (x / 4294967296) := by rw [toB, if_neg h]
def valB : List Int → Nat
 | [] => 0
 | a :: l => a.toNat + 4294967296 * valB l
def Parts (l : List Int) : Prop := ∀ x ∈ l, 0 ≤ x ∧ x < 4294967296
theorem val_toB (x : Nat) : valB (toB x) = x := by
 induction x using Nat.strongRecOn with
 | _ x ih =>
  by_cases h : x = 0
  ·subst h; rw [toB_zero]; rfl
  ·rw [toB_pos h, valB, ih (x / 4294967296) (by omega), Int.toNat_natCast]
   omega
theorem parts_toB (x : Nat) : Parts (toB x) := by
 induction x using Nat.strongRecOn with
 | _ x ih =>
  by_cases h : x = 0
  ·subst h; rw [toB_zero]; intro y hy; cases hy
  ·rw [toB_pos h]
   intro y hy
   rcases List.mem_cons.1 hy with rfl | hy
   ·omega
   ·exact ih (x / 4294967296) (by omega) y hy
theorem val_append (l m : List Int) : valB (l ++ m) = valB l + 4294967296 ^ l.length * valB m := by
 induction l with
 | nil => simp [valB]
 | cons a l ih =>
  rw [List.cons_append, valB, valB, ih, List.length_cons, Nat.pow_succ, Nat.mul_add, ← Nat.mul_assoc, Nat.mul_comm 4294967296 (4294967296 ^ l.length)]
  omega
theorem val_lt {l : List Int} (h : Parts l) : valB l < 4294967296 ^ l.length := by
 induction l with
 | nil => simp [valB]
 | cons a l ih =>
  have h1 := ih (fun x hx => h x (List.mem_cons_of_mem _ hx))
  have h2 := h a (List.mem_cons_self ..)
  rw [valB, List.length_cons, Nat.pow_succ]
  omega
theorem toB_val {l : List Int} (h : Parts l) (hl : l = [] ∨ l.getLast? ≠ some 0) : toB (valB l) = l := by
 induction l with
 | nil => exact toB_zero
 | cons a l ih =>
  have h2 := h a (List.mem_cons_self ..)
  have hp : Parts l := fun x hx => h x (List.mem_cons_of_mem _ hx)
  have hlast : (a :: l).getLast? ≠ some 0 := hl.resolve_left (by simp)
  have hne : valB (a :: l) ≠ 0 := by
   intro h0
   rw [valB] at h0
   by_cases hn : l = []
   ·subst hn
    simp at hlast
    omega
   ·have := ih hp (.inr (by
     cases l with
     | nil => exact absurd rfl hn
     | cons b l => rwa [List.getLast?_cons_cons] at hlast))
    have h3 : valB l = 0 := by omega
    rw [h3, toB_zero] at this
    exact hn this.symm
  rw [toB_pos hne]
  have e1 : (valB (a :: l) % 4294967296 : Nat) = a.toNat := by rw [valB]; omega
  have e2 : valB (a :: l) / 4294967296 = valB l := by rw [valB]; omega
  rw [e1, e2, ih hp (by
   by_cases hn : l = []
   ·exact .inl hn
   ·refine .inr ?_
    cases l with
    | nil => exact absurd rfl hn
    | cons b l => rwa [List.getLast?_cons_cons] at hlast)]
  congr 1
  omega
theorem wrapB (n : Int) (h0 : -9223372036854775808 ≤ n) (h1 : n ≤ 9223372036854775807) : wrap64 n = n := by unfold wrap64; omega
theorem parts_append {l m : List Int} (h : Parts l) (g : Parts m) : Parts (l ++ m) := fun x hx => (List.mem_append.1 hx).elim (h x) (g x)
theorem rd_last (m : List Int) (a : Int) : rd (m ++ [a]) (m.length : Int) = a := by
 unfold rd
 rw [Int.toNat_natCast, List.getD_eq_getElem?_getD, List.getElem?_append_right (Nat.le_refl _), Nat.sub_self]
 rfl
theorem trim_ev : ∀ (n : Nat) (l : List Int), l.length = n → Parts l → n ≤ 4611686018427387904 → Ev (fun k => dec_big_trim.l0 k l) (toB (valB l))
 | 0, l, hn, hp, hb => by
  obtain rfl := List.eq_nil_of_length_eq_zero hn
  refine Ev.step (f := fun k => some []) (fun k => ?_) (by rw [show valB [] = 0 from rfl, toB_zero]; exact Ev.now _)
  rw [dec_big_trim.l0, if_neg (by simp)]
 | n + 1, l, hn, hp, hb => by
  obtain ⟨m, a, rfl⟩ : ∃ m a, l = m ++ [a] := ⟨l.dropLast, l.getLast (by intro h; rw [h] at hn; cases hn), (List.dropLast_concat_getLast _).symm⟩
  have hm : m.length = n := by rw [List.length_append, List.length_singleton] at hn; omega
  have hlen : (((m ++ [a]).length : Nat) : Int) = (m.length : Int) + 1 := by rw [List.length_append, List.length_singleton]; omega
  have hw : wrap64 (((m ++ [a]).length : Int) - 1) = (m.length : Int) := by rw [hlen, wrapB _ (by omega) (by omega)]; omega
  have hpm : Parts m := fun x hx => hp x (List.mem_append_left _ hx)
  have ha := hp a (List.mem_append_right _ (List.mem_singleton.2 rfl))
  by_cases h0 : a = 0
  ·have ih := trim_ev n m hm hpm (by omega)
   have hv : valB (m ++ [a]) = valB m := by rw [val_append, h0]; simp [valB]
   rw [hv]
   refine Ev.step (fun k => ?_) ih
   rw [dec_big_trim.l0, if_pos (by omega), hw, if_pos (by omega), if_pos (by omega), rd_last, if_pos h0, if_pos (by omega), Int.toNat_natCast, List.take_left']
   rfl
  ·refine Ev.step (f := fun k => some (m ++ [a])) (fun k => ?_) ?_
   ·rw [dec_big_trim.l0, if_pos (by omega), hw, if_pos (by omega), if_pos (by omega), rd_last, if_neg h0]
   ·rw [toB_val hp (.inr (by rw [List.getLast?_append]; simp; exact h0))]
    exact Ev.now _
theorem mul_small {x n c : Nat} (hx : x < 4294967296) (hn : n < 4294967296) (hc : c < 4294967296) : c + x * n < 18446744073709551616 ∧ (c + x * n) / 4294967296 < 4294967296 := by
 have h : x * n ≤ 4294967295 * 4294967295 := Nat.mul_le_mul (by omega) (by omega)
 have h2 : (4294967295 : Nat) * 4294967295 = 18446744065119617025 := rfl
 omega
theorem u64_in (n : Nat) (h : n < 18446744073709551616) : IntKind.u64.wrap (n : Int) = (n : Int) := by
 unfold IntKind.wrap
 simp [IntKind.bits, IntKind.signed]
 omega
theorem val_drop {l : List Int} {i : Nat} (h : i < l.length) : valB (l.drop i) = (l.getD i 0).toNat + 4294967296 * valB (l.drop (i + 1)) := by
 rw [List.drop_eq_getElem_cons h, valB, List.getD_eq_getElem?_getD, List.getElem?_eq_getElem h]
 rfl
theorem times_loop (l : List Int) (n : Nat) (hn : n < 4294967296) (hl : l.length ≤ 1048576) (hp : Parts l) : ∀ (d i : Nat) (acc : List Int) (c : Nat), i + d = l.length → acc.length = i → Parts acc → c < 4294967296 →
  Ev (fun k => dec_big_times.l0 k (n : Int) acc (c : Int) l (l.length : Int) (i : Int)) (toB (valB acc + 4294967296 ^ i * (valB (l.drop i) * n + c)))
 | 0, i, acc, c, hi, ha, hpa, hc => by
  have hd : l.drop i = [] := List.drop_eq_nil_of_le (by omega)
  have hv : valB acc + 4294967296 ^ i * (valB (l.drop i) * n + c) = valB (acc ++ [(c : Int) % 4294967296]) := by
   rw [hd, val_append, ha]
   simp only [valB, Nat.zero_mul, Nat.zero_add, Nat.mul_zero, Nat.add_zero]
   congr 2
   omega
  rw [hv]
  have ht := trim_ev (acc ++ [(c : Int) % 4294967296]).length (acc ++ [(c : Int) % 4294967296]) rfl (parts_append hpa (fun x hx => by rw [List.mem_singleton.1 hx]; omega)) (by rw [List.length_append, List.length_singleton]; omega)
  have hb : Ev (fun k => (dec_big_trim.f k (acc ++ [(c : Int) % 4294967296])).bind fun t => some t) (toB (valB (acc ++ [(c : Int) % 4294967296]))) := Ev.bind ht (Ev.now _)
  refine Ev.step (fun k => ?_) hb
  rw [dec_big_times.l0, if_neg (by omega), if_pos (by omega)]
 | d + 1, i, acc, c, hi, ha, hpa, hc => by
  have hlt : i < l.length := by omega
  obtain ⟨x, hx, hx2⟩ : ∃ x : Nat, l.getD i 0 = (x : Int) ∧ x < 4294967296 := by
   have := hp (l.getD i 0) (by rw [List.getD_eq_getElem?_getD, List.getElem?_eq_getElem hlt]; exact List.getElem_mem hlt)
   exact ⟨(l.getD i 0).toNat, by omega, by omega⟩
  have hrd : rd l (i : Int) = (x : Int) := by unfold rd; rw [Int.toNat_natCast]; exact hx
  obtain ⟨hs1, hs2⟩ := mul_small hx2 hn hc
  have hxn : x * n < 18446744073709551616 := by omega
  have he : IntKind.u64.wrap ((c : Int) + (IntKind.u64.wrap ((IntKind.u64.wrap (rd l (i : Int))) * (IntKind.u64.wrap ((n : Nat) : Int))))) = ((c + x * n : Nat) : Int) := by
   rw [hrd, u64_in x (by omega), u64_in n (by omega), show ((x : Int) * (n : Int)) = ((x * n : Nat) : Int) by push_cast; rfl, u64_in _ hxn, show ((c : Int) + ((x * n : Nat) : Int)) = ((c + x * n : Nat) : Int) by push_cast; rfl, u64_in _ hs1]
  have ih := times_loop l n hn hl hp d (i + 1) (acc ++ [(((c + x * n) % 4294967296 : Nat) : Int)]) ((c + x * n) / 4294967296) (by omega) (by rw [List.length_append, List.length_singleton]; omega) (parts_append hpa (fun y hy => by rw [List.mem_singleton.1 hy]; omega)) hs2
  have hv : valB acc + 4294967296 ^ i * (valB (l.drop i) * n + c) = valB (acc ++ [(((c + x * n) % 4294967296 : Nat) : Int)]) + 4294967296 ^ (i + 1) * (valB (l.drop (i + 1)) * n + (c + x * n) / 4294967296) := by
   rw [val_append, ha, val_drop hlt, hx, Int.toNat_natCast, Nat.pow_succ, Nat.mul_assoc, Nat.add_assoc, ← Nat.mul_add]
   simp only [valB, Nat.mul_zero, Nat.add_zero, Int.toNat_natCast]
   congr 2
   rw [Nat.add_mul, Nat.mul_assoc, Nat.mul_add]
   generalize valB (l.drop (i + 1)) * n = v
   have := Nat.mod_add_div (c + x * n) 4294967296
   omega
  rw [hv]
  refine Ev.step (fun k => ?_) ih
  rw [dec_big_times.l0, if_pos (by omega), if_pos (by omega), if_pos (by omega), if_pos (by omega), he, wrapB _ (by omega) (by omega)]
  simp only [Int.natCast_emod, Int.natCast_ediv, Int.natCast_add, Int.natCast_one]
  rfl
theorem times_ev (x n m : Nat) (hn : n < 4294967296) (hm : m < 4294967296) (hl : (toB x).length ≤ 1048576) : Ev (fun k => dec_big_times.f k (toB x) (n : Int) (m : Int)) (toB (x * n + m)) := by
 have h := times_loop (toB x) n hn hl (parts_toB x) (toB x).length 0 [] m (by omega) rfl (fun y hy => by cases hy) hm
 rw [List.drop_zero, val_toB, Nat.pow_zero, Nat.one_mul] at h
 have e : valB [] + (x * n + m) = x * n + m := by simp [valB]
 rw [e] at h
 refine Ev.congr (fun k => ?_) h
 unfold dec_big_times.f
 rw [wrapB _ (by omega) (by omega), if_pos (by omega), if_pos (by omega), u64_in m (by omega)]
 rfl
theorem len_toB : ∀ (L x : Nat), x < 4294967296 ^ L → (toB x).length ≤ L
 | 0, x, h => by
  have : x = 0 := by rw [Nat.pow_zero] at h; omega
  rw [this, toB_zero]; exact Nat.le_refl _
 | L + 1, x, h => by
  by_cases h0 : x = 0
  ·rw [h0, toB_zero]; exact Nat.zero_le _
  ·rw [toB_pos h0, List.length_cons]
   have : x / 4294967296 < 4294967296 ^ L := by
    rw [Nat.pow_succ] at h
    exact Nat.div_lt_of_lt_mul (by rw [Nat.mul_comm]; exact h)
   have := len_toB L _ this
   omega
theorem tens1 (n : Nat) (hn : n ≤ 1048576) (L : Nat) (hL : L ≤ 1048576) : ∀ (d j x : Nat), j + d = n → x * 10 ^ d < 4294967296 ^ L → Ev (fun k => dec_big_tens.l1 k (toB x) (n : Int) (j : Int)) (toB (x * 10 ^ d))
 | 0, j, x, hj, hx => by
  rw [Nat.pow_zero, Nat.mul_one]
  refine Ev.step (f := fun k => some (toB x)) (fun k => ?_) (Ev.now _)
  rw [dec_big_tens.l1, if_neg (by omega)]
 | d + 1, j, x, hj, hx => by
  have h1 : x * 10 * 10 ^ d = x * 10 ^ (d + 1) := by rw [Nat.pow_succ, Nat.mul_assoc, Nat.mul_comm 10]
  have hxl : x < 4294967296 ^ L := Nat.lt_of_le_of_lt (Nat.le_mul_of_pos_right _ (Nat.pow_pos (by decide))) hx
  have ih := tens1 n hn L hL d (j + 1) (x * 10) (by omega) (by rw [h1]; exact hx)
  rw [h1] at ih
  have ht := times_ev x 10 0 (by decide) (by decide) (Nat.le_trans (len_toB L x hxl) hL)
  rw [Nat.add_zero] at ht
  have hb : Ev (fun k => (dec_big_times.f k (toB x) 10 0).bind fun t => dec_big_tens.l1 k t (n : Int) ((j + 1 : Nat) : Int)) (toB (x * 10 ^ (d + 1))) := Ev.bind ht ih
  refine Ev.step (fun k => ?_) hb
  rw [dec_big_tens.l1, if_pos (by omega), wrapB _ (by omega) (by omega)]
  rfl
theorem tens0 (L : Nat) (hL : L ≤ 1048576) : ∀ (n x : Nat), n ≤ 1048576 → x * 10 ^ n < 4294967296 ^ L → Ev (fun k => dec_big_tens.l0 k (toB x) (n : Int)) (toB (x * 10 ^ n)) := by
 intro n
 induction n using Nat.strongRecOn with
 | _ n ih =>
  intro x hn hx
  by_cases h9 : 9 ≤ n
  ·obtain ⟨m, rfl⟩ := Nat.exists_eq_add_of_le h9
   have h1 : x * 1000000000 * 10 ^ m = x * 10 ^ (9 + m) := by rw [Nat.pow_add, ← Nat.mul_assoc]
   have hxl : x < 4294967296 ^ L := Nat.lt_of_le_of_lt (Nat.le_mul_of_pos_right _ (Nat.pow_pos (by decide))) hx
   have g := ih m (by omega) (x * 1000000000) (by omega) (by rw [h1]; exact hx)
   rw [h1] at g
   have ht := times_ev x 1000000000 0 (by decide) (by decide) (Nat.le_trans (len_toB L x hxl) hL)
   rw [Nat.add_zero] at ht
   have hb : Ev (fun k => (dec_big_times.f k (toB x) 1000000000 0).bind fun t => dec_big_tens.l0 k t (m : Int)) (toB (x * 10 ^ (9 + m))) := Ev.bind ht g
   refine Ev.step (fun k => ?_) hb
   rw [dec_big_tens.l0, if_pos (by omega), wrapB _ (by omega) (by omega), show (((9 + m : Nat) : Int) - 9) = (m : Int) by omega]
  ·have g := tens1 n hn L hL n 0 x (by omega) hx
   refine Ev.step (fun k => ?_) g
   rw [dec_big_tens.l0, if_neg (by omega)]
   rfl
end Go.Proofs.YtflcanpajgpghaaDoor.Pure
end
section
namespace Go.Proofs.YtflcanpajgpghaaDoor.Pure
open Go.RowKit Go.Proofs.YtflcanpajgpghaaDoor.Pr Go.Proofs.YtflcanpajgpghaaDoorW.PrintWords Go.Proofs.YtflcanpajgpghaaDoorW.PrintLast Go.Proofs.YtflcanpajgpghaaDoorW.PrintMore
theorem bitLen_spec : ∀ (x : Nat), x ≠ 0 → x < 2 ^ 64 → 1 ≤ Lib.bitLen x ∧ 2 ^ (Lib.bitLen x - 1) ≤ x ∧ x < 2 ^ (Lib.bitLen x) := by
 intro x
 induction x using Nat.strongRecOn with
 | _ x ih =>
  intro h0 h
  rw [Lib.bitLen_half x h0 h]
  by_cases h1 : x / 2 = 0
  ·obtain rfl : x = 1 := by omega
   decide
  ·obtain ⟨c, a, b⟩ := ih (x / 2) (by omega) h1 (by omega)
   obtain ⟨n, hn⟩ : ∃ n, Lib.bitLen (x / 2) = n + 1 := ⟨_, (Nat.sub_add_cancel c).symm⟩
   rw [hn] at a b ⊢
   rw [Nat.add_sub_cancel] at a
   refine ⟨by omega, ?_, ?_⟩
   ·rw [show 1 + (n + 1) - 1 = n + 1 by omega, Nat.pow_succ]; omega
   ·rw [show 1 + (n + 1) = (n + 1) + 1 by omega, Nat.pow_succ 2 (n + 1)]; omega
def LenIs (x L : Nat) : Prop := (x = 0 → L = 0) ∧ (x ≠ 0 → 1 ≤ L ∧ 2 ^ (L - 1) ≤ x ∧ x < 2 ^ L)
theorem lenIs_lt {x L : Nat} (h : LenIs x L) : x < 2 ^ L := by
 by_cases h0 : x = 0
 ·rw [h0]; exact Nat.two_pow_pos _
 ·exact (h.2 h0).2.2
theorem base_pow (n : Nat) : (4294967296 : Nat) ^ n = 2 ^ (32 * n) := by rw [Nat.pow_mul]
theorem base_pos (n : Nat) : 0 < (4294967296 : Nat) ^ n := Nat.pow_pos (by decide)
theorem toB_last {x : Nat} (h : x ≠ 0) : ∃ (m : List Int) (a : Nat), toB x = m ++ [(a : Int)] ∧ 0 < a ∧ a < 4294967296 := by
 induction x using Nat.strongRecOn with
 | _ x ih =>
  rw [toB_pos h]
  by_cases h1 : x / 4294967296 = 0
  ·rw [h1, toB_zero]
   exact ⟨[], x % 4294967296, rfl, by omega, by omega⟩
  ·obtain ⟨m, a, e, h2, h3⟩ := ih (x / 4294967296) (by omega) h1
   exact ⟨_ :: m, a, by rw [e]; rfl, h2, h3⟩
theorem toB_split {x : Nat} (h : x ≠ 0) : ∃ (m : List Int) (a : Nat), toB x = m ++ [(a : Int)] ∧ 0 < a ∧ a < 4294967296 ∧ x = valB m + 4294967296 ^ m.length * a ∧ valB m < 4294967296 ^ m.length := by
 obtain ⟨m, a, e, h1, h2⟩ := toB_last h
 refine ⟨m, a, e, h1, h2, ?_, ?_⟩
 ·have := val_toB x
  rw [e, val_append] at this
  rw [← this]
  simp [valB]
 ·have hp := parts_toB x
  rw [e] at hp
  exact val_lt fun y hy => hp y (List.mem_append_left _ hy)
theorem len_ev (x : Nat) (hl : (toB x).length ≤ 1048576) : ∃ L : Nat, dec_big_len.f (toB x) = some (L : Int) ∧ LenIs x L ∧ L ≤ 32 * (toB x).length := by
 by_cases h0 : x = 0
 ·subst h0
  refine ⟨0, ?_, ⟨fun _ => rfl, fun h => absurd rfl h⟩, by omega⟩
  rw [toB_zero]
  rfl
 ·obtain ⟨m, a, e, h1, h2, hx, hm⟩ := toB_split h0
  obtain ⟨b1, b2, b3⟩ := bitLen_spec a (by omega) (by omega)
  have b4 := Lib.bitLen_le a 32 (by omega) (by omega)
  refine ⟨32 * m.length + Lib.bitLen a, ?_, ⟨fun h => absurd h h0, fun _ => ⟨by omega, ?_, ?_⟩⟩, ?_⟩
  ·have hlen : (((toB x).length : Nat) : Int) = (m.length : Int) + 1 := by rw [e, List.length_append, List.length_singleton]; omega
   have hml : m.length < 1048576 := by rw [e, List.length_append, List.length_singleton] at hl; omega
   unfold dec_big_len.f
   rw [hlen, if_neg (by omega), wrapB _ (by omega) (by omega), if_pos (by omega), if_pos (by omega), show ((m.length : Int) + 1 - 1) = (m.length : Int) by omega, e, rd_last]
   unfold bits_Len32.f
   rw [if_pos (by omega), Option.bind_some, Int.toNat_natCast, wrapB (32 * _) (by omega) (by omega), wrapB _ (by omega) (by omega)]
   congr 1
  ·rw [show 32 * m.length + Lib.bitLen a - 1 = 32 * m.length + (Lib.bitLen a - 1) by omega, Nat.pow_add, ← base_pow]
   have := Nat.mul_le_mul_left (4294967296 ^ m.length) b2
   omega
  ·rw [Nat.pow_add, ← base_pow]
   have := Nat.mul_le_mul_left (4294967296 ^ m.length) b3
   rw [Nat.mul_succ] at this
   omega
  ·rw [e, List.length_append, List.length_singleton]; omega
theorem toB_len_lt {x y : Nat} (h : (toB x).length < (toB y).length) : x < y := by
 have h1 : x < 4294967296 ^ (toB x).length := by
  have := val_lt (parts_toB x)
  rwa [val_toB] at this
 have hy : y ≠ 0 := by intro h0; rw [h0, toB_zero] at h; exact absurd h (Nat.not_lt_zero _)
 obtain ⟨m, a, e, h2, h3, h4, h5⟩ := toB_split hy
 rw [e, List.length_append, List.length_singleton] at h
 have h6 : 4294967296 ^ (toB x).length ≤ 4294967296 ^ m.length := Nat.pow_le_pow_right (by decide) (by omega)
 have h7 : 4294967296 ^ m.length * 1 ≤ 4294967296 ^ m.length * a := Nat.mul_le_mul_left _ h2
 omega
theorem len_mono {x y : Nat} (h : x ≤ y) : (toB x).length ≤ (toB y).length := by
 apply Nat.le_of_not_lt
 intro hlt
 have := toB_len_lt hlt
 omega
theorem val_take {l : List Int} {i : Nat} (h : i < l.length) : valB (l.take (i + 1)) = valB (l.take i) + 4294967296 ^ i * (l.getD i 0).toNat := by
 rw [List.take_succ_eq_append_getElem h, val_append, List.length_take, Nat.min_eq_left (Nat.le_of_lt h), List.getD_eq_getElem?_getD, List.getElem?_eq_getElem h]
 simp [valB]
theorem val_take_lt {l : List Int} (hp : Parts l) {i : Nat} (h : i ≤ l.length) : valB (l.take i) < 4294967296 ^ i := by
 have := val_lt (l := l.take i) (fun x hx => hp x (List.mem_of_mem_take hx))
 rwa [List.length_take, Nat.min_eq_left h] at this
theorem getD_in {l : List Int} (hp : Parts l) {i : Nat} (h : i < l.length) : ∃ a : Nat, l.getD i 0 = (a : Int) ∧ a < 4294967296 := by
 have := hp (l.getD i 0) (by rw [List.getD_eq_getElem?_getD, List.getElem?_eq_getElem h]; exact List.getElem_mem h)
 exact ⟨(l.getD i 0).toNat, by omega, by omega⟩
theorem rd_nat (l : List Int) (i : Nat) : rd l (i : Int) = l.getD i 0 := by unfold rd; rw [Int.toNat_natCast]
theorem cmp_loop (l m : List Int) (hp : Parts l) (hm : Parts m) (hlen : l.length = m.length) (hb : l.length ≤ 1048576) : ∀ i, i ≤ l.length →
  ∃ c : Int, Ev (fun k => dec_big_cmp.l0 k l m ((i : Int) - 1)) c ∧ (c < 0 ↔ valB (l.take i) < valB (m.take i)) ∧ (c = 0 ↔ valB (l.take i) = valB (m.take i))
 | 0, _ => by
  refine ⟨0, Ev.step (f := fun _ => some 0) (fun k => ?_) (Ev.now _), by simp [valB], by simp [valB]⟩
  rw [dec_big_cmp.l0, if_neg (by omega)]
 | i + 1, hi => by
  obtain ⟨a, ha, ha2⟩ := getD_in hp (i := i) (by omega)
  obtain ⟨b, hb', hb2⟩ := getD_in hm (i := i) (by omega)
  have ha3 : (l.getD i 0).toNat = a := by rw [ha]; rfl
  have hb3 : (m.getD i 0).toNat = b := by rw [hb']; rfl
  have e1 := val_take (l := l) (i := i) (by omega)
  have e2 := val_take (l := m) (i := i) (by omega)
  have t1 := val_take_lt hp (i := i) (by omega)
  have t2 := val_take_lt hm (i := i) (by omega)
  rw [ha3] at e1
  rw [hb3] at e2
  have hk : ((i + 1 : Nat) : Int) - 1 = (i : Int) := by omega
  rw [hk, e1, e2]
  obtain ⟨P, hP⟩ : ∃ P, P = 4294967296 ^ i := ⟨_, rfl⟩
  rw [← hP] at t1 t2 ⊢
  by_cases hab : a = b
  ·obtain ⟨c, hc, c1, c2⟩ := cmp_loop l m hp hm hlen hb i (by omega)
   refine ⟨c, Ev.step (fun k => ?_) hc, ?_, ?_⟩
   ·rw [dec_big_cmp.l0, if_pos (by omega), if_pos (by omega), if_pos (by omega), if_pos (by omega), rd_nat, rd_nat, if_pos (by rw [ha, hb', hab]), wrapB _ (by omega) (by omega)]
   ·rw [c1, hab]; omega
   ·rw [c2, hab]; omega
  ·by_cases hlt : a < b
   ·refine ⟨-1, Ev.step (f := fun _ => some (-1)) (fun k => ?_) (Ev.now _), ?_, ?_⟩
    ·rw [dec_big_cmp.l0, if_pos (by omega), if_pos (by omega), if_pos (by omega), if_pos (by omega), rd_nat, rd_nat, if_neg (by rw [ha, hb']; omega), if_pos (by rw [ha, hb']; omega)]
    ·have : P * (a + 1) ≤ P * b := Nat.mul_le_mul_left _ hlt
     rw [Nat.mul_succ] at this
     omega
    ·have : P * (a + 1) ≤ P * b := Nat.mul_le_mul_left _ hlt
     rw [Nat.mul_succ] at this
     omega
   ·have hlt' : b < a := by omega
    refine ⟨1, Ev.step (f := fun _ => some 1) (fun k => ?_) (Ev.now _), ?_, ?_⟩
    ·rw [dec_big_cmp.l0, if_pos (by omega), if_pos (by omega), if_pos (by omega), if_pos (by omega), rd_nat, rd_nat, if_neg (by rw [ha, hb']; omega), if_neg (by rw [ha, hb']; omega)]
    ·have : P * (b + 1) ≤ P * a := Nat.mul_le_mul_left _ hlt'
     rw [Nat.mul_succ] at this
     omega
    ·have : P * (b + 1) ≤ P * a := Nat.mul_le_mul_left _ hlt'
     rw [Nat.mul_succ] at this
     omega
theorem cmp_ev (x y : Nat) (hx : (toB x).length ≤ 1048576) (hy : (toB y).length ≤ 1048576) : ∃ c : Int, Ev (fun k => dec_big_cmp.f k (toB x) (toB y)) c ∧ (c < 0 ↔ x < y) ∧ (c = 0 ↔ x = y) := by
 by_cases h : (toB x).length = (toB y).length
 ·obtain ⟨c, hc, c1, c2⟩ := cmp_loop (toB x) (toB y) (parts_toB x) (parts_toB y) h hx (toB x).length (Nat.le_refl _)
  rw [List.take_length, h, List.take_length, val_toB, val_toB] at c1 c2
  refine ⟨c, Ev.congr (fun k => ?_) hc, c1, c2⟩
  unfold dec_big_cmp.f
  rw [if_pos (by rw [h]), wrapB _ (by omega) (by omega)]
 ·refine ⟨((toB x).length : Int) - ((toB y).length : Int), Ev.congr (f := fun _ => some (((toB x).length : Int) - ((toB y).length : Int))) (fun k => ?_) (Ev.now _), ?_, ?_⟩
  ·unfold dec_big_cmp.f
   rw [if_neg (by omega), wrapB _ (by omega) (by omega)]
  ·constructor
   ·intro hc; exact toB_len_lt (by omega)
   ·intro hxy
    have := len_mono (Nat.le_of_lt hxy)
    omega
  ·constructor
   ·intro hc; omega
   ·intro hxy; rw [hxy] at h; exact absurd rfl h
theorem toB_shift {x : Nat} (h : x ≠ 0) : ∀ q, toB (x * 4294967296 ^ q) = List.replicate q 0 ++ toB x
 | 0 => by rw [Nat.pow_zero, Nat.mul_one]; rfl
 | q + 1 => by
  have h1 : x * 4294967296 ^ q ≠ 0 := Nat.mul_ne_zero h (Nat.ne_of_gt (base_pos q))
  have h2 : x * 4294967296 ^ (q + 1) = x * 4294967296 ^ q * 4294967296 := by rw [Nat.pow_succ, Nat.mul_assoc]
  rw [h2, toB_pos (Nat.mul_ne_zero h1 (by decide)), Nat.mul_mod_left, Nat.mul_div_cancel _ (by decide), toB_shift h q]
  rfl
theorem shl_u32 (n : Nat) (h : n < 32) : shl .u32 1 (n : Int) = ((2 ^ n : Nat) : Int) := by
 unfold shl
 rw [Int.toNat_natCast, show IntKind.u32.bits = 32 from rfl, Nat.min_eq_left (Nat.le_of_lt h), Int.one_mul]
 have : (2 : Nat) ^ n < 2 ^ 32 := Nat.pow_lt_pow_right (by decide) h
 have e : ((2 : Int) ^ n) = ((2 ^ n : Nat) : Int) := by push_cast; rfl
 rw [e]
 generalize (2 : Nat) ^ n = z at this
 unfold IntKind.wrap
 simp [IntKind.bits, IntKind.signed]
 omega
theorem up_ev (x n : Nat) (h : x ≠ 0 ∨ n < 32) (hl : (toB x).length + n / 32 ≤ 1048000) : Ev (fun k => dec_big_up.f k (toB x) (n : Int)) (toB (x * 2 ^ n)) := by
 have hq : Int.tdiv (n : Int) 32 = ((n / 32 : Nat) : Int) := by rw [Int.tdiv_eq_ediv_of_nonneg (by omega)]; omega
 have hr : Int.tmod (n : Int) 32 = ((n % 32 : Nat) : Int) := by rw [Int.tmod_eq_emod_of_nonneg (by omega)]; omega
 have hlt : 2 ^ (n % 32) < 4294967296 := Nat.lt_of_lt_of_le (Nat.pow_lt_pow_right (by decide) (Nat.mod_lt n (by decide : 0 < 32))) (Nat.le_refl _)
 have ht := times_ev x (2 ^ (n % 32)) 0 hlt (by decide) (by omega)
 rw [Nat.add_zero] at ht
 have hx2 : x * 2 ^ n = x * 2 ^ (n % 32) * 4294967296 ^ (n / 32) := by
  rw [base_pow, Nat.mul_assoc, ← Nat.pow_add]
  congr 2
  omega
 have hlen2 : (toB (x * 2 ^ (n % 32))).length ≤ (toB x).length + 1 := by
  refine len_toB _ _ ?_
  have h1 : x < 4294967296 ^ (toB x).length := by
   have := val_lt (parts_toB x)
   rwa [val_toB] at this
  rw [Nat.pow_succ]
  exact Nat.mul_lt_mul_of_lt_of_lt h1 hlt
 have hres : toB (x * 2 ^ n) = List.replicate (n / 32) 0 ++ toB (x * 2 ^ (n % 32)) := by
  rw [hx2]
  by_cases h0 : x = 0
  ·subst h0
   have : n / 32 = 0 := by omega
   rw [this, Nat.zero_mul, Nat.zero_mul, toB_zero]
   rfl
  ·exact toB_shift (Nat.mul_ne_zero h0 (Nat.ne_of_gt (Nat.two_pow_pos _))) _
 rw [hres]
 have hb : Ev (fun k => (dec_big_times.f k (toB x) ((2 ^ (n % 32) : Nat) : Int) 0).bind fun t => some (List.replicate (n / 32) 0 ++ t)) (List.replicate (n / 32) 0 ++ toB (x * 2 ^ (n % 32))) := Ev.bind ht (Ev.now _)
 refine Ev.congr (fun k => ?_) hb
 unfold dec_big_up.f
 rw [hq, hr, wrapB ((n / 32 : Nat) : Int) (by omega) (by omega), wrapB (((n / 32 : Nat) : Int) + ((toB x).length : Int)) (by omega) (by omega), wrapB _ (by omega) (by omega), if_pos (by omega), if_pos (by omega), if_pos (by omega), Option.bind_some, Int.toNat_natCast, if_pos (by rw [List.length_replicate]; omega), Option.bind_some, if_pos (by rw [List.length_append, List.length_replicate]; omega), if_pos (by omega), shl_u32 _ (Nat.mod_lt _ (by decide)),
  List.drop_left' (List.length_replicate ..), List.take_left' (List.length_replicate ..)]
 cases hk : dec_big_times.f k (toB x) ((2 ^ (n % 32) : Nat) : Int) 0 with
 | none => rfl
 | some t =>
  rw [Option.bind_some, Option.bind_some]
  have hk2 : t = toB (x * 2 ^ (n % 32)) := by
   obtain ⟨K, hK⟩ := ht
   have h1 := hK (max K k) (Nat.le_max_left ..)
   have h2 : dec_big_times.f (max K k) (toB x) ((2 ^ (n % 32) : Nat) : Int) 0 = some t := by
    have : ∀ d, dec_big_times.f (k + d) (toB x) ((2 ^ (n % 32) : Nat) : Int) 0 = some t := by
     intro d
     induction d with
     | zero => exact hk
     | succ d ih => exact dec_big_times.mono _ _ _ _ _ ih
    have h3 := this (max K k - k)
    rwa [show k + (max K k - k) = max K k by omega] at h3
   have h3 : dec_big_times.f (max K k) (toB x) ((2 ^ (n % 32) : Nat) : Int) 0 = some (toB (x * 2 ^ (n % 32))) := h1
   exact Option.some.inj (h2.symm.trans h3)
  unfold slices_Concat.f
  rw [if_pos (by simp [List.flatten]; rw [hk2]; omega)]
  simp [List.flatten]
end Go.Proofs.YtflcanpajgpghaaDoor.Pure
end
section
namespace Go.Proofs.YtflcanpajgpghaaDoor.Pure
open Go.RowKit Go.Proofs.YtflcanpajgpghaaDoor.Pr Go.Proofs.YtflcanpajgpghaaDoorW.PrintWords Go.Proofs.YtflcanpajgpghaaDoorW.PrintLast Go.Proofs.YtflcanpajgpghaaDoorW.PrintMore
theorem u64_neg (z : Int) (h : -9223372036854775808 ≤ z) (h1 : z < 0) : IntKind.u64.wrap z = z + 18446744073709551616 := by
 unfold IntKind.wrap
 simp [IntKind.bits, IntKind.signed]
 omega
theorem val_drop' (l : List Int) (i : Nat) (hp : Parts l) : ∃ b : Nat, b < 4294967296 ∧ valB (l.drop i) = b + 4294967296 * valB (l.drop (i + 1)) ∧ (i < l.length → rd l (i : Int) = (b : Int)) ∧ (l.length ≤ i → b = 0) := by
 by_cases h : i < l.length
 ·obtain ⟨b, hb, hb2⟩ := getD_in hp h
  refine ⟨b, hb2, ?_, fun _ => by rw [rd_nat, hb], fun h2 => by omega⟩
  rw [val_drop h, hb, Int.toNat_natCast]
 ·rw [List.drop_eq_nil_of_le (by omega), List.drop_eq_nil_of_le (by omega)]
  exact ⟨0, by decide, rfl, fun h2 => absurd h2 h, fun _ => rfl⟩
theorem minus_loop (l m : List Int) (hp : Parts l) (hm : Parts m) (hl : l.length ≤ 1048576) (hml : m.length ≤ 1048576) : ∀ (d i : Nat) (acc : List Int) (c : Nat), i + d = l.length → acc.length = i → Parts acc → c ≤ 1 → valB (m.drop i) + c ≤ valB (l.drop i) →
  Ev (fun k => dec_big_minus.l0 k m acc (c : Int) l (l.length : Int) (i : Int)) (toB (valB acc + 4294967296 ^ i * (valB (l.drop i) - valB (m.drop i) - c)))
 | 0, i, acc, c, hi, ha, hpa, hc, hle => by
  have hd : l.drop i = [] := List.drop_eq_nil_of_le (by omega)
  rw [hd] at hle ⊢
  have e : valB ([] : List Int) - valB (m.drop i) - c = 0 := by simp [valB]
  rw [e, Nat.mul_zero, Nat.add_zero]
  have ht := trim_ev acc.length acc rfl hpa (by omega)
  have hb : Ev (fun k => (dec_big_trim.f k acc).bind fun t => some t) (toB (valB acc)) := Ev.bind ht (Ev.now _)
  refine Ev.step (fun k => ?_) hb
  rw [dec_big_minus.l0, if_neg (by omega)]
 | d + 1, i, acc, c, hi, ha, hpa, hc, hle => by
  obtain ⟨a, ha2, hL, hra, _⟩ := val_drop' l i hp
  obtain ⟨b, hb2, hM, hrb, hb0⟩ := val_drop' m i hm
  have hra := hra (by omega)
  obtain ⟨L, hLe⟩ : ∃ L, L = valB (l.drop (i + 1)) := ⟨_, rfl⟩
  obtain ⟨M, hMe⟩ : ∃ M, M = valB (m.drop (i + 1)) := ⟨_, rfl⟩
  rw [hL, hM, ← hLe, ← hMe] at hle ⊢
  obtain ⟨e, c', he, hc', hwe, hwc⟩ : ∃ e c' : Nat, (e + b + c = a + 4294967296 * c' ∧ e < 4294967296) ∧ c' ≤ 1 ∧ (IntKind.u64.wrap ((a : Int) - ((c : Int) + (b : Int)))) % 4294967296 = (e : Int) ∧ (IntKind.u64.wrap ((a : Int) - ((c : Int) + (b : Int)))) / 9223372036854775808 = (c' : Int) := by
   by_cases h : b + c ≤ a
   ·refine ⟨a - b - c, 0, ⟨by omega, by omega⟩, by omega, ?_, ?_⟩
    ·rw [show ((a : Int) - ((c : Int) + (b : Int))) = ((a - b - c : Nat) : Int) by omega, u64_in _ (by omega)]; omega
    ·rw [show ((a : Int) - ((c : Int) + (b : Int))) = ((a - b - c : Nat) : Int) by omega, u64_in _ (by omega)]; omega
   ·refine ⟨a + 4294967296 - b - c, 1, ⟨by omega, by omega⟩, by omega, ?_, ?_⟩
    ·rw [u64_neg _ (by omega) (by omega)]; omega
    ·rw [u64_neg _ (by omega) (by omega)]; omega
  have hle2 : M + c' ≤ L := by omega
  have ih := minus_loop l m hp hm hl hml d (i + 1) (acc ++ [(e : Int)]) c' (by omega) (by rw [List.length_append, List.length_singleton]; omega) (parts_append hpa (fun y hy => by rw [List.mem_singleton.1 hy]; omega)) hc' (by rw [← hLe, ← hMe]; exact hle2)
  rw [← hLe, ← hMe] at ih
  have hv : valB acc + 4294967296 ^ i * (a + 4294967296 * L - (b + 4294967296 * M) - c) = valB (acc ++ [(e : Int)]) + 4294967296 ^ (i + 1) * (L - M - c') := by
   rw [val_append, ha, Nat.pow_succ, Nat.mul_assoc, Nat.add_assoc, ← Nat.mul_add]
   simp only [valB, Nat.mul_zero, Nat.add_zero, Int.toNat_natCast]
   congr 2
   omega
  rw [hv]
  refine Ev.step (fun k => ?_) ih
  by_cases hi2 : i < m.length
  ·have hrb := hrb hi2
   rw [dec_big_minus.l0, if_pos (by omega), if_pos (by omega), if_pos (by omega), if_pos (by omega), if_pos (by omega), hra, hrb, u64_in a (by omega), u64_in b (by omega), show ((c : Int) + (b : Int)) = ((c + b : Nat) : Int) by push_cast; rfl, u64_in (c + b) (by omega), show ((c + b : Nat) : Int) = ((c : Int) + (b : Int)) by push_cast; rfl, hwe, hwc, wrapB _ (by omega) (by omega)]
   rfl
  ·have hb0 := hb0 (by omega)
   subst hb0
   rw [show ((c : Int) + ((0 : Nat) : Int)) = (c : Int) by omega] at hwe hwc
   rw [dec_big_minus.l0, if_pos (by omega), if_pos (by omega), if_pos (by omega), if_neg (by omega), if_pos (by omega), hra, u64_in a (by omega), hwe, hwc, wrapB _ (by omega) (by omega)]
   rfl
theorem minus_ev (x y : Nat) (h : y ≤ x) (hl : (toB x).length ≤ 1048576) : Ev (fun k => dec_big_minus.f k (toB x) (toB y)) (toB (x - y)) := by
 have hy := len_mono h
 have g := minus_loop (toB x) (toB y) (parts_toB x) (parts_toB y) hl (by omega) (toB x).length 0 [] 0 (by omega) rfl (fun y hy => by cases hy) (by omega) (by rw [List.drop_zero, List.drop_zero, val_toB, val_toB]; omega)
 rw [List.drop_zero, List.drop_zero, val_toB, val_toB, Nat.pow_zero, Nat.one_mul] at g
 have e : valB [] + (x - y - 0) = x - y := by simp [valB]
 rw [e] at g
 refine Ev.congr (fun k => ?_) g
 unfold dec_big_minus.f
 rw [if_pos (by omega), if_pos (by omega)]
 rfl
theorem bits_or (a b : Nat) (ha : a < 18446744073709551616) (hb : b < 18446744073709551616) : Go.bits .or .u64 (a : Int) (b : Int) = ((a ||| b : Nat) : Int) := by
 have hlt : a ||| b < 2 ^ 64 := Nat.or_lt_two_pow ha hb
 unfold Go.bits
 rw [show IntKind.u64.bits = 64 from rfl]
 simp only [BitVec.toNat_or]
 have e2 : (BitVec.ofInt 64 (a : Int)).toNat = a := by rw [BitVec.ofInt_natCast, BitVec.toNat_ofNat, Nat.mod_eq_of_lt ha]
 have e3 : (BitVec.ofInt 64 (b : Int)).toNat = b := by rw [BitVec.ofInt_natCast, BitVec.toNat_ofNat, Nat.mod_eq_of_lt hb]
 rw [e2, e3]
 exact u64_in _ hlt
theorem bits_and (a b : Nat) (ha : a < 18446744073709551616) (hb : b < 18446744073709551616) : Go.bits .and .u64 (a : Int) (b : Int) = ((a &&& b : Nat) : Int) := by
 have hlt : a &&& b < 2 ^ 64 := Nat.and_lt_two_pow _ hb
 unfold Go.bits
 rw [show IntKind.u64.bits = 64 from rfl]
 simp only [BitVec.toNat_and]
 have e2 : (BitVec.ofInt 64 (a : Int)).toNat = a := by rw [BitVec.ofInt_natCast, BitVec.toNat_ofNat, Nat.mod_eq_of_lt ha]
 have e3 : (BitVec.ofInt 64 (b : Int)).toNat = b := by rw [BitVec.ofInt_natCast, BitVec.toNat_ofNat, Nat.mod_eq_of_lt hb]
 rw [e2, e3]
 exact u64_in _ hlt
theorem shl_u64 (x n : Nat) (h : n ≤ 64) : shl .u64 (x : Int) (n : Int) = ((x * 2 ^ n % 2 ^ 64 : Nat) : Int) := by
 unfold shl
 rw [Int.toNat_natCast, show IntKind.u64.bits = 64 from rfl, Nat.min_eq_left h]
 have e : ((x : Int) * (2 : Int) ^ n) = ((x * 2 ^ n : Nat) : Int) := by push_cast; rfl
 rw [e]
 generalize x * 2 ^ n = z
 unfold IntKind.wrap
 simp [IntKind.bits, IntKind.signed]
theorem shr_u64 (x n : Nat) (h : n ≤ 64) : shr .u64 (x : Int) (n : Int) = ((x / 2 ^ n : Nat) : Int) := by
 unfold shr
 rw [Int.toNat_natCast, show IntKind.u64.bits = 64 from rfl, Nat.min_eq_left h]
 push_cast
 rfl
theorem or_bit (t i : Nat) : (2 ^ (i + 1) * t ||| 2 ^ i) = 2 ^ (i + 1) * t + 2 ^ i := by
 rw [Nat.two_pow_add_eq_or_of_lt (by rw [Nat.pow_succ]; have := Nat.two_pow_pos i; omega)]
theorem toB_pos_len (r : Nat) : decide (((toB r).length : Int) > 0) = decide (r ≠ 0) := by
 by_cases h : r = 0
 ·subst h; rw [toB_zero]; rfl
 ·rw [toB_pos h, List.length_cons]
  rw [decide_eq_true (by omega), decide_eq_true h]
theorem by_loop (b : Nat) (hb : b ≠ 0) (hlb : (toB b).length ≤ 500000) : ∀ (i r t : Nat), i ≤ 64 → r < b * 2 ^ i → (toB r).length ≤ 1000000 → 2 ^ i * t < 2 ^ 64 →
  Ev (fun k => dec_big_by.l0 k (toB r) (toB b) ((2 ^ i * t : Nat) : Int) ((i : Int) - 1)) (((2 ^ i * t + r / b : Nat) : Int), decide (r % b ≠ 0))
 | 0, r, t, _, hr, _, _ => by
  rw [Nat.pow_zero, Nat.mul_one] at hr
  refine Ev.step (f := fun _ => some (((2 ^ 0 * t + r / b : Nat) : Int), decide (r % b ≠ 0))) (fun k => ?_) (Ev.now _)
  rw [dec_big_by.l0, if_neg (by omega), toB_pos_len, Nat.div_eq_of_lt hr, Nat.mod_eq_of_lt hr, Nat.add_zero]
 | i + 1, r, t, hi, hr, hlr, ht => by
  obtain ⟨lr, hlr1, hlr2, hlr3⟩ := len_ev r (by omega)
  obtain ⟨lb, hlb1, hlb2, hlb3⟩ := len_ev b (by omega)
  obtain ⟨g1, g2, g3⟩ := hlb2.2 hb
  have hk : ((i + 1 : Nat) : Int) - 1 = (i : Int) := by omega
  have hp2 : 2 ^ (i + 1) * t = 2 ^ i * (2 * t) := by rw [Nat.pow_succ, Nat.mul_assoc]
  have hpow : b * 2 ^ (i + 1) = b * 2 ^ i + b * 2 ^ i := by rw [Nat.pow_succ, ← Nat.mul_assoc, Nat.mul_two]
  by_cases hskip : lr < lb + i
  ·have hlt : r < b * 2 ^ i := by
    have h1 := lenIs_lt hlr2
    have h2 : 2 ^ lr ≤ 2 ^ (lb - 1 + i) := Nat.pow_le_pow_right (by decide) (by omega)
    rw [Nat.pow_add] at h2
    have h3 : 2 ^ (lb - 1) * 2 ^ i ≤ b * 2 ^ i := Nat.mul_le_mul_right _ g2
    omega
   have ih := by_loop b hb hlb i r (2 * t) (by omega) hlt hlr (by rw [← hp2]; exact ht)
   rw [← hp2] at ih
   refine Ev.step (fun k => ?_) ih
   rw [hk, dec_big_by.l0, if_pos (by omega), hlr1, Option.bind_some, hlb1, Option.bind_some, wrapB _ (by omega) (by omega), if_pos (by omega), wrapB _ (by omega) (by omega)]
  ·have hup := up_ev b i (.inl hb) (by omega)
   have hlu : (toB (b * 2 ^ i)).length ≤ 1000003 := by
    have h1 : b < 4294967296 ^ (toB b).length := by
     have := val_lt (parts_toB b)
     rwa [val_toB] at this
    have h2 : (toB (b * 2 ^ i)).length ≤ (toB b).length + 2 := by
     refine len_toB _ _ ?_
     rw [Nat.pow_add, base_pow 2]
     refine Nat.mul_lt_mul_of_lt_of_le h1 (Nat.pow_le_pow_right (by decide) (by omega)) (Nat.two_pow_pos _)
    omega
   obtain ⟨c, hc, c1, c2⟩ := cmp_ev r (b * 2 ^ i) (by omega) (by omega)
   by_cases hge : b * 2 ^ i ≤ r
   ·have hcge : c ≥ 0 := by omega
    have hm := minus_ev r (b * 2 ^ i) hge (by omega)
    have hr' : r - b * 2 ^ i < b * 2 ^ i := by omega
    have hor : 2 ^ (i + 1) * t + 2 ^ i = 2 ^ i * (2 * t + 1) := by rw [hp2, Nat.mul_succ]
    have hsum : 2 ^ i * (2 * t + 1) < 2 ^ 64 := by
     obtain ⟨j, hj⟩ : ∃ j, 64 = (i + 1) + j := ⟨64 - (i + 1), by omega⟩
     have e64 : (2 : Nat) ^ 64 = 2 ^ (i + 1) * 2 ^ j := by rw [← Nat.pow_add, ← hj]
     have ht2 : t < 2 ^ j := by
      rw [e64] at ht
      exact Nat.lt_of_mul_lt_mul_left ht
     have h5 : 2 ^ (i + 1) * (t + 1) ≤ 2 ^ (i + 1) * 2 ^ j := Nat.mul_le_mul_left _ ht2
     rw [Nat.mul_succ, ← e64] at h5
     have h6 : 2 ^ i < 2 ^ (i + 1) := Nat.pow_lt_pow_right (by decide) (by omega)
     rw [← hor]
     omega
    have ih := by_loop b hb hlb i (r - b * 2 ^ i) (2 * t + 1) (by omega) hr' (Nat.le_trans (len_mono (Nat.sub_le ..)) hlr) hsum
    have hdiv : r / b = 2 ^ i + (r - b * 2 ^ i) / b := by
     have : r = (r - b * 2 ^ i) + b * 2 ^ i := by omega
     have h7 := Nat.add_mul_div_left (r - b * 2 ^ i) (2 ^ i) (Nat.pos_of_ne_zero hb)
     rw [← this] at h7
     omega
    have hmod : r % b = (r - b * 2 ^ i) % b := by
     have : r = (r - b * 2 ^ i) + b * 2 ^ i := by omega
     have h7 := Nat.add_mul_mod_self_left (r - b * 2 ^ i) b (2 ^ i)
     rw [← this] at h7
     exact h7
    have hres : 2 ^ (i + 1) * t + r / b = 2 ^ i * (2 * t + 1) + (r - b * 2 ^ i) / b := by rw [hdiv, ← hor]; omega
    rw [hres, hmod]
    have hq : Go.bits .or .u64 ((2 ^ (i + 1) * t : Nat) : Int) (shl .u64 1 (i : Int)) = ((2 ^ i * (2 * t + 1) : Nat) : Int) := by
     have h8 : (2 : Nat) ^ i < 2 ^ 64 := Nat.pow_lt_pow_right (by decide) (by omega)
     have h9 := shl_u64 1 i (by omega)
     rw [Nat.one_mul, Nat.mod_eq_of_lt h8] at h9
     have h10 : shl .u64 1 (i : Int) = ((2 ^ i : Nat) : Int) := h9
     rw [h10, bits_or _ _ ht h8, or_bit, hor]
    have hb1 : Ev (fun k => (dec_big_up.f k (toB b) (i : Int)).bind fun u => (dec_big_cmp.f k (toB r) u).bind fun c => if c ≥ 0 then (dec_big_minus.f k (toB r) u).bind fun m => (if (0 : Int) ≤ (i : Int) then dec_big_by.l0 k m (toB b) ((2 ^ i * (2 * t + 1) : Nat) : Int) ((i : Int) - 1) else none) else dec_big_by.l0 k (toB r) (toB b) ((2 ^ (i + 1) * t : Nat) : Int) ((i : Int) - 1)) _ :=
     Ev.bind hup (Ev.bind hc (Ev.congr (fun k => if_pos hcge) (Ev.bind hm (Ev.congr (fun k => if_pos (by omega)) ih))))
    refine Ev.step (fun k => ?_) hb1
    rw [hk, dec_big_by.l0, if_pos (by omega), hlr1, Option.bind_some, hlb1, Option.bind_some, wrapB _ (by omega) (by omega), if_neg (by omega), wrapB _ (by omega) (by omega), hq]
   ·have hlt : r < b * 2 ^ i := by omega
    have hcl : ¬ c ≥ 0 := by omega
    have ih := by_loop b hb hlb i r (2 * t) (by omega) hlt hlr (by rw [← hp2]; exact ht)
    rw [← hp2] at ih
    have hb1 : Ev (fun k => (dec_big_up.f k (toB b) (i : Int)).bind fun u => (dec_big_cmp.f k (toB r) u).bind fun c => if c ≥ 0 then (dec_big_minus.f k (toB r) u).bind fun m => (if (0 : Int) ≤ (i : Int) then dec_big_by.l0 k m (toB b) (Go.bits .or .u64 ((2 ^ (i + 1) * t : Nat) : Int) (shl .u64 1 (i : Int))) ((i : Int) - 1) else none) else dec_big_by.l0 k (toB r) (toB b) ((2 ^ (i + 1) * t : Nat) : Int) ((i : Int) - 1)) _ :=
     Ev.bind hup (Ev.bind hc (Ev.congr (fun k => if_neg hcl) ih))
    refine Ev.step (fun k => ?_) hb1
    rw [hk, dec_big_by.l0, if_pos (by omega), hlr1, Option.bind_some, hlb1, Option.bind_some, wrapB _ (by omega) (by omega), if_neg (by omega), wrapB _ (by omega) (by omega)]
theorem by_ev (a b : Nat) (hb : b ≠ 0) (hlb : (toB b).length ≤ 500000) (hla : (toB a).length ≤ 1000000) (h : a < b * 2 ^ 64) : Ev (fun k => dec_big_by.f k (toB a) (toB b)) (((a / b : Nat) : Int), decide (a % b ≠ 0)) := by
 have g := by_loop b hb hlb 64 a 0 (Nat.le_refl _) h hla (by rw [Nat.mul_zero]; exact Nat.two_pow_pos _)
 rw [Nat.mul_zero, Nat.zero_add] at g
 refine Ev.congr (fun k => ?_) g
 rfl
end Go.Proofs.YtflcanpajgpghaaDoor.Pure
end
section
namespace Go.Proofs.YtflcanpajgpghaaDoor.Flo
open Go Ieee
def mid (w : Nat) : Nat := units w + units (w + 1)
def kE : Nat := 1075
def K : Nat := 2 ^ kE
def Above (A B w : Nat) : Prop := w = 0 ∨ mid (w - 1) * B < A * K ∨ (mid (w - 1) * B = A * K ∧ w % 2 = 0)
def Under (A B w : Nat) : Prop := A * K < mid w * B ∨ (A * K = mid w * B ∧ w % 2 = 0)
def Nearest (A B w : Nat) : Prop := Above A B w ∧ Under A B w
theorem units_succ (w : Nat) : units w < units (w + 1) := units_mono (Nat.lt_succ_self w)
theorem mid_mono {v w : Nat} (h : v < w) : mid v < mid w := by
 unfold mid
 have h1 := units_mono h
 have h2 : units (v + 1) < units (w + 1) := units_mono (by omega)
 omega
theorem nearest_le {A B A' B' v w : Nat} (hB : 0 < B) (hB' : 0 < B') (h : A * B' ≤ A' * B) (hv : Nearest A B v) (hw : Nearest A' B' w) : v ≤ w := by
 apply Nat.le_of_not_lt
 intro hlt
 have hm : mid w ≤ mid (v - 1) := by
  rcases Nat.lt_or_eq_of_le (show w ≤ v - 1 by omega) with h1 | h1
  ·exact Nat.le_of_lt (mid_mono h1)
  ·rw [h1]; exact Nat.le_refl _
 have ha : mid (v - 1) * B ≤ A * K ∧ (mid (v - 1) * B = A * K → v % 2 = 0) := by
  rcases hv.1 with h1 | h1 | h1
  ·omega
  ·exact ⟨Nat.le_of_lt h1, fun e => by omega⟩
  ·exact ⟨Nat.le_of_eq h1.1, fun _ => h1.2⟩
 have hu : A' * K ≤ mid w * B' ∧ (A' * K = mid w * B' → w % 2 = 0) := by
  rcases hw.2 with h1 | h1
  ·exact ⟨Nat.le_of_lt h1, fun e => by omega⟩
  ·exact ⟨Nat.le_of_eq h1.1, fun _ => h1.2⟩
 have c1 : mid (v - 1) * B * B' ≤ A * K * B' := Nat.mul_le_mul_right _ ha.1
 have c2 : A * K * B' ≤ A' * K * B := by
  have := Nat.mul_le_mul_right K h
  rw [Nat.mul_right_comm A K B', Nat.mul_right_comm A' K B]
  exact this
 have c3 : A' * K * B ≤ mid w * B' * B := Nat.mul_le_mul_right _ hu.1
 have c4 : mid w * B' * B ≤ mid (v - 1) * B' * B := Nat.mul_le_mul_right _ (Nat.mul_le_mul_right _ hm)
 have c5 : mid (v - 1) * B' * B = mid (v - 1) * B * B' := Nat.mul_right_comm _ _ _
 have e1 : mid (v - 1) * B * B' = A * K * B' := by omega
 have e2 : A' * K * B = mid w * B' * B := by omega
 have e3 : mid w * B' * B = mid (v - 1) * B' * B := by omega
 have f1 : mid (v - 1) * B = A * K := Nat.eq_of_mul_eq_mul_right hB' e1
 have f2 : A' * K = mid w * B' := Nat.eq_of_mul_eq_mul_right hB e2
 have f3 : mid w = mid (v - 1) := Nat.eq_of_mul_eq_mul_right hB' (Nat.eq_of_mul_eq_mul_right hB e3)
 have g1 := ha.2 f1
 have g2 := hu.2 f2
 have : w = v - 1 := by
  rcases Nat.lt_trichotomy w (v - 1) with k | k | k
  ·have := mid_mono k; omega
  ·exact k
  ·have := mid_mono k; omega
 omega
theorem nearest_one {A B A' B' v w : Nat} (hB : 0 < B) (hB' : 0 < B') (h : A * B' = A' * B) (hv : Nearest A B v) (hw : Nearest A' B' w) : v = w :=
 Nat.le_antisymm (nearest_le hB hB' (Nat.le_of_eq h) hv hw) (nearest_le hB' hB (Nat.le_of_eq h.symm) hw hv)
theorem pow_step (c j : Nat) : (c + 0) * 2 ^ (j + 1) = (c * 2) * 2 ^ j := by rw [Nat.add_zero, Nat.pow_succ, Nat.mul_comm (2 ^ j) 2, Nat.mul_assoc]
theorem units_low {r : Nat} (h : r < 4503599627370496) : units r = r := by unfold units; rw [if_pos h]
theorem units_high {r : Nat} (h : ¬ r < 4503599627370496) : units r = (4503599627370496 + r % 4503599627370496) * 2 ^ (r / 4503599627370496 - 1) := by unfold units; rw [if_neg h]
theorem units_of (j q : Nat) (h1 : q ≤ 9007199254740992) (h2 : j = 0 ∨ 4503599627370496 ≤ q) : units (j * 4503599627370496 + q) = q * 2 ^ j := by
 by_cases hq : q < 4503599627370496
 ·obtain rfl : j = 0 := by omega
  rw [units_low (by omega)]
  omega
 ·rw [units_high (by omega)]
  by_cases he : q = 9007199254740992
  ·have e1 : (j * 4503599627370496 + q) % 4503599627370496 = 0 := by omega
   have e2 : (j * 4503599627370496 + q) / 4503599627370496 - 1 = j + 1 := by omega
   have e3 : 4503599627370496 * 2 = q := by omega
   rw [e1, e2, pow_step, e3]
  ·have e1 : 4503599627370496 + (j * 4503599627370496 + q) % 4503599627370496 = q := by omega
   have e2 : (j * 4503599627370496 + q) / 4503599627370496 - 1 = j := by omega
   rw [e1, e2]
theorem nearest_of {A B j q : Nat} (hB : 0 < B) (h1 : q < 9007199254740992) (h2 : j = 0 ∨ 4503599627370496 ≤ q) (lo : 2 * q * (2 ^ j * B) ≤ A * K) (hi : A * K < 2 * (q + 1) * (2 ^ j * B)) :
  Nearest A B (j * 4503599627370496 + if (2 * q + 1) * (2 ^ j * B) < A * K ∨ ((2 * q + 1) * (2 ^ j * B) = A * K ∧ q % 2 = 1) then q + 1 else q) := by
 have u0 := units_of j q (by omega) h2
 have u1 := units_of j (q + 1) (by omega) (by omega)
 have hmid : mid (j * 4503599627370496 + q) * B = (2 * q + 1) * (2 ^ j * B) := by
  unfold mid
  rw [Nat.add_assoc, u0, u1, ← Nat.add_mul, ← Nat.mul_assoc]
  congr 2
  omega
 have hK : ∃ a, a = A * K := ⟨_, rfl⟩
 obtain ⟨a, ha⟩ := hK
 obtain ⟨c, hc⟩ : ∃ c, c = 2 ^ j * B := ⟨_, rfl⟩
 rw [← ha, ← hc] at lo hi
 rw [← hc] at hmid
 rw [← ha, ← hc]
 have q0 : units (j * 4503599627370496 + q) * B = q * c := by rw [u0, hc, Nat.mul_assoc]
 have q1 : units (j * 4503599627370496 + (q + 1)) * B = (q + 1) * c := by rw [u1, hc, Nat.mul_assoc]
 by_cases hup : (2 * q + 1) * c < a ∨ ((2 * q + 1) * c = a ∧ q % 2 = 1)
 ·rw [if_pos hup]
  have hw : j * 4503599627370496 + (q + 1) - 1 = j * 4503599627370496 + q := by omega
  refine ⟨.inr ?_, .inl ?_⟩
  ·rw [hw, hmid, ← ha]
   rcases hup with g | g
   ·exact .inl g
   ·exact .inr ⟨g.1, by omega⟩
  ·rw [← ha]
   refine Nat.lt_of_lt_of_le hi ?_
   unfold mid
   have h3 := units_succ (j * 4503599627370496 + (q + 1))
   have h4 : units (j * 4503599627370496 + (q + 1)) * B ≤ units (j * 4503599627370496 + (q + 1) + 1) * B := Nat.mul_le_mul_right _ (Nat.le_of_lt h3)
   rw [Nat.add_mul, q1]
   rw [q1] at h4
   have h5 : 2 * (q + 1) * c = (q + 1) * c + (q + 1) * c := by rw [Nat.mul_assoc, Nat.two_mul]
   omega
 ·rw [if_neg hup]
  have g1 : a ≤ (2 * q + 1) * c := Nat.le_of_not_lt fun g => hup (.inl g)
  refine ⟨?_, ?_⟩
  ·by_cases h0 : j * 4503599627370496 + q = 0
   ·exact .inl h0
   ·refine .inr (.inl ?_)
    rw [← ha]
    refine Nat.lt_of_lt_of_le ?_ lo
    unfold mid
    have h3 := units_succ (j * 4503599627370496 + q - 1)
    rw [show j * 4503599627370496 + q - 1 + 1 = j * 4503599627370496 + q by omega] at h3 ⊢
    have h4 : units (j * 4503599627370496 + q - 1) * B < units (j * 4503599627370496 + q) * B := Nat.mul_lt_mul_of_pos_right h3 hB
    rw [Nat.add_mul, q0]
    rw [q0] at h4
    have h5 : 2 * q * c = q * c + q * c := by rw [Nat.mul_assoc, Nat.two_mul]
    omega
  ·unfold Under
   rw [← ha, hmid]
   rcases Nat.lt_or_eq_of_le g1 with g | g
   ·exact .inl g
   ·refine .inr ⟨g, ?_⟩
    have : ¬ q % 2 = 1 := fun k => hup (.inr ⟨g.symm, k⟩)
    omega
end Go.Proofs.YtflcanpajgpghaaDoor.Flo
end
section
namespace Go.Proofs.YtflcanpajgpghaaDoor.Flo
open Go Ieee
theorem K_exp : ∃ E : Nat, E = 1075 ∧ K = 2 ^ E := ⟨kE, rfl, rfl⟩
theorem K_pos : 0 < K := by
 obtain ⟨E, _, h⟩ := K_exp
 rw [h]
 exact Nat.two_pow_pos E
theorem cut_nearest {A B P M Q R n j : Nat} (hB : 0 < B) (hP : 0 < P) (hM : 0 < M) (hn : 1 ≤ n) (hK : K * (M * 2 ^ n) = 2 ^ (j + 1) * P)
  (hA : A * P = Q * (B * M) + R) (hR : R < B * M) (h1 : Q / 2 ^ n < 9007199254740992) (h2 : j = 0 ∨ 4503599627370496 ≤ Q / 2 ^ n) :
  Nearest A B (j * 4503599627370496 + if 2 ^ (n - 1) < Q % 2 ^ n ∨ (Q % 2 ^ n = 2 ^ (n - 1) ∧ (0 < R ∨ Q / 2 ^ n % 2 = 1)) then Q / 2 ^ n + 1 else Q / 2 ^ n) := by
 obtain ⟨m, rfl⟩ : ∃ m, n = m + 1 := ⟨n - 1, by omega⟩
 rw [Nat.add_sub_cancel]
 have hT : 0 < 2 ^ m := Nat.two_pow_pos m
 have hS : (2 : Nat) ^ (m + 1) = 2 * 2 ^ m := by rw [Nat.pow_succ, Nat.mul_comm]
 rw [hS] at hK h1 h2 ⊢
 obtain ⟨T, hTT⟩ : ∃ T, T = 2 ^ m := ⟨_, rfl⟩
 rw [← hTT] at hK h1 h2 hT ⊢
 obtain ⟨C, hC⟩ : ∃ C, C = B * M := ⟨_, rfl⟩
 have hC0 : 0 < C := by rw [hC]; exact Nat.mul_pos hB hM
 rw [← hC] at hA hR
 have hQ := Nat.div_add_mod Q (2 * T)
 have hr : Q % (2 * T) < 2 * T := Nat.mod_lt _ (by omega)
 obtain ⟨q, hq⟩ : ∃ q, q = Q / (2 * T) := ⟨_, rfl⟩
 obtain ⟨r, hrr⟩ : ∃ r, r = Q % (2 * T) := ⟨_, rfl⟩
 rw [← hq] at h1 h2
 rw [← hq, ← hrr] at hQ ⊢
 rw [← hrr] at hr
 have key : ∀ c, c * (2 ^ j * B) * P = c * T * C * K := by
  intro c
  have e1 : 2 * (c * (2 ^ j * B) * P) = 2 * (c * T * C * K) := by
   have g1 : 2 * (c * (2 ^ j * B) * P) = c * B * (2 ^ (j + 1) * P) := by
    rw [Nat.pow_succ]
    simp only [Nat.mul_assoc, Nat.mul_comm, Nat.mul_left_comm]
   rw [g1, ← hK, hC]
   simp only [Nat.mul_assoc, Nat.mul_comm, Nat.mul_left_comm]
  omega
 have keyA : A * K * P = (Q * C + R) * K := by rw [← hA]; simp only [Nat.mul_assoc, Nat.mul_comm, Nat.mul_left_comm]
 have hlt : ∀ c, c * (2 ^ j * B) < A * K ↔ c * T * C < Q * C + R := by
  intro c
  rw [← Nat.mul_lt_mul_right hP, key, keyA, Nat.mul_lt_mul_right K_pos]
 have hgt : ∀ c, A * K < c * (2 ^ j * B) ↔ Q * C + R < c * T * C := by
  intro c
  rw [← Nat.mul_lt_mul_right hP, key, keyA, Nat.mul_lt_mul_right K_pos]
 have heq : ∀ c, c * (2 ^ j * B) = A * K ↔ c * T * C = Q * C + R := by
  intro c
  have a := hlt c
  have b := hgt c
  omega
 have hle : ∀ c, c * (2 ^ j * B) ≤ A * K ↔ c * T * C ≤ Q * C + R := by
  intro c
  have b := hgt c
  omega
 have cQ : ∀ x, x ≤ Q → x * C ≤ Q * C + R := fun x h => Nat.le_trans (Nat.mul_le_mul_right C h) (Nat.le_add_right _ _)
 have cG : ∀ x, Q < x → Q * C + R < x * C := fun x h => by
  have := Nat.mul_le_mul_right C (show Q + 1 ≤ x from h)
  rw [Nat.add_mul, Nat.one_mul] at this
  omega
 have e2 : 2 * q * T + r = Q := by rw [Nat.mul_assoc, Nat.mul_comm q T, ← Nat.mul_assoc]; exact hQ
 have e3 : 2 * (q + 1) * T = 2 * q * T + 2 * T := by rw [Nat.mul_add, Nat.add_mul]
 have e4 : (2 * q + 1) * T = 2 * q * T + T := by rw [Nat.add_mul, Nat.one_mul]
 have g2 : 2 * q * T ≤ Q := by clear hlt hgt heq hle key keyA hA hK; omega
 have g3 : Q < 2 * (q + 1) * T := by clear hlt hgt heq hle key keyA hA hK; omega
 have hmain := nearest_of (A := A) (B := B) (j := j) (q := q) hB h1 h2 ((hle _).2 (cQ _ g2)) ((hgt _).2 (cG _ g3))
 have hcond : ((2 * q + 1) * (2 ^ j * B) < A * K ∨ ((2 * q + 1) * (2 ^ j * B) = A * K ∧ q % 2 = 1)) ↔ (T < r ∨ (r = T ∧ (0 < R ∨ q % 2 = 1))) := by
  rw [hlt, heq]
  rcases Nat.lt_trichotomy T r with h | h | h
  ·have := Nat.mul_le_mul_right C (show (2 * q + 1) * T + 1 ≤ Q by omega)
   rw [Nat.add_mul _ 1, Nat.one_mul] at this
   exact ⟨fun _ => .inl h, fun _ => .inl (by omega)⟩
  ·have : (2 * q + 1) * T = Q := by omega
   rw [this]
   omega
  ·have := cG ((2 * q + 1) * T) (by omega)
   omega
 simp only [hcond] at hmain
 exact hmain
theorem zero_nearest {A B : Nat} (h : A * K < B) : Nearest A B 0 := by
 refine ⟨.inl rfl, .inl ?_⟩
 have : mid 0 = 1 := by rfl
 rw [this, Nat.one_mul]
 exact h
end Go.Proofs.YtflcanpajgpghaaDoor.Flo
end
section
namespace Go.Proofs.YtflcanpajgpghaaDoor.Flo
open Go Ieee
def INF : Nat := 9218868437227405312
def upN (D : Nat) (e : Int) : Nat := D * 10 ^ e.toNat
def loN (e : Int) : Nat := 10 ^ (-e).toNat
def ReadAs (D : Nat) (e : Int) (w : Nat) : Prop :=
 if D = 0 ∨ e < -1000 then w = 0 else if 400 < e then w = INF else ∃ v, Nearest (upN D e) (loN e) v ∧ w = min v INF
theorem loN_pos (e : Int) : 0 < loN e := Nat.pow_pos (by decide)
theorem readAs_one {D : Nat} {e : Int} {v w : Nat} (hv : ReadAs D e v) (hw : ReadAs D e w) : v = w := by
 unfold ReadAs at hv hw
 by_cases h1 : D = 0 ∨ e < -1000
 ·rw [if_pos h1] at hv hw; rw [hv, hw]
 ·rw [if_neg h1] at hv hw
  by_cases h2 : 400 < e
  ·rw [if_pos h2] at hv hw; rw [hv, hw]
  ·rw [if_neg h2] at hv hw
   obtain ⟨a, ha, rfl⟩ := hv
   obtain ⟨b, hb, rfl⟩ := hw
   rw [nearest_one (loN_pos e) (loN_pos e) rfl ha hb]
theorem readAs_le {D D' : Nat} {e : Int} {v w : Nat} (h : D ≤ D') (hv : ReadAs D e v) (hw : ReadAs D' e w) : v ≤ w := by
 unfold ReadAs at hv hw
 by_cases h1 : D = 0 ∨ e < -1000
 ·rw [if_pos h1] at hv; rw [hv]; exact Nat.zero_le _
 ·rw [if_neg h1] at hv
  rw [if_neg (by omega)] at hw
  by_cases h2 : 400 < e
  ·rw [if_pos h2] at hv hw; rw [hv, hw]; exact Nat.le_refl _
  ·rw [if_neg h2] at hv hw
   obtain ⟨a, ha, rfl⟩ := hv
   obtain ⟨b, hb, rfl⟩ := hw
   have := nearest_le (loN_pos e) (loN_pos e) (Nat.mul_le_mul_right (loN e) (show upN D e ≤ upN D' e from Nat.mul_le_mul_right _ h)) ha hb
   omega
theorem readAs_max {D : Nat} {e : Int} {w : Nat} (hw : ReadAs D e w) : w ≤ INF := by
 unfold ReadAs at hw
 by_cases h1 : D = 0 ∨ e < -1000
 ·rw [if_pos h1] at hw; rw [hw]; exact Nat.zero_le _
 ·rw [if_neg h1] at hw
  by_cases h2 : 400 < e
  ·rw [if_pos h2] at hw; rw [hw]; exact Nat.le_refl _
  ·rw [if_neg h2] at hw
   obtain ⟨a, ha, rfl⟩ := hw
   exact Nat.min_le_right _ _
end Go.Proofs.YtflcanpajgpghaaDoor.Flo
end
section
namespace Go.Proofs.YtflcanpajgpghaaDoor.Pure
open Go.RowKit Go.Proofs.YtflcanpajgpghaaDoor.Pr Go.Proofs.YtflcanpajgpghaaDoorW.PrintWords Go.Proofs.YtflcanpajgpghaaDoorW.PrintLast Go.Proofs.YtflcanpajgpghaaDoorW.PrintMore Go.Proofs.YtflcanpajgpghaaDoor.Flo
def rnd (q n : Nat) : Nat := if 2 ^ (n - 1) < q % 2 ^ n ∨ (q % 2 ^ n = 2 ^ (n - 1) ∧ q / 2 ^ n % 2 = 1) then q / 2 ^ n + 1 else q / 2 ^ n
theorem mask_eq (n : Nat) (h : n ≤ 64) : IntKind.u64.wrap ((shl .u64 1 (n : Int)) - 1) = ((2 ^ n - 1 : Nat) : Int) := by
 have h9 := shl_u64 1 n h
 rw [Nat.one_mul] at h9
 have h9 : shl .u64 1 (n : Int) = ((2 ^ n % 2 ^ 64 : Nat) : Int) := h9
 rw [h9]
 by_cases he : n = 64
 ·subst he
  rw [Nat.mod_self]
  rfl
 ·have h8 : (2 : Nat) ^ n < 2 ^ 64 := Nat.pow_lt_pow_right (by decide) (by omega)
  have h7 := Nat.two_pow_pos n
  rw [Nat.mod_eq_of_lt h8, show (((2 ^ n : Nat) : Int) - 1) = ((2 ^ n - 1 : Nat) : Int) by omega, u64_in _ (by omega)]
theorem shifted_ev (q n : Nat) (hq : q < 2 ^ 64) (hn : 1 ≤ n) (hn2 : n ≤ 64) : flo_shifted.f (q : Int) false (n : Int) = some ((rnd q n : Nat) : Int) := by
 have hm : Go.bits .and .u64 (q : Int) (IntKind.u64.wrap ((shl .u64 1 (n : Int)) - 1)) = ((q % 2 ^ n : Nat) : Int) := by
  rw [mask_eq n hn2, bits_and _ _ hq (by have := Nat.pow_le_pow_right (show 0 < 2 by decide) hn2; have := Nat.two_pow_pos n; omega), Nat.and_two_pow_sub_one_eq_mod]
 have h8 : (2 : Nat) ^ (n - 1) < 2 ^ 64 := Nat.pow_lt_pow_right (by decide) (by omega)
 have hmid : shl .u64 1 (((n - 1 : Nat) : Int)) = ((2 ^ (n - 1) : Nat) : Int) := by
  have h9 := shl_u64 1 (n - 1) (by omega)
  rw [Nat.one_mul, Nat.mod_eq_of_lt h8] at h9
  exact h9
 have hsr := shr_u64 q n hn2
 have hdl : q / 2 ^ n < 2 ^ 64 := Nat.lt_of_le_of_lt (Nat.div_le_self ..) hq
 have hlow : Go.bits .and .u64 ((q / 2 ^ n : Nat) : Int) 1 = ((q / 2 ^ n % 2 : Nat) : Int) := by
  have := bits_and (q / 2 ^ n) 1 hdl (by decide)
  rw [show (1 : Nat) = 2 ^ 1 - 1 from rfl, Nat.and_two_pow_sub_one_eq_mod] at this
  exact this
 have h2 : (2 : Nat) ≤ 2 ^ n := by
  have := Nat.pow_le_pow_right (show 0 < 2 by decide) hn
  omega
 have hd2 : q / 2 ^ n + 1 < 18446744073709551616 := by
  have : q / 2 ^ n ≤ q / 2 := Nat.div_le_div_left h2 (by decide)
  omega
 have hinc : IntKind.u64.wrap (((q / 2 ^ n : Nat) : Int) + 1) = ((q / 2 ^ n + 1 : Nat) : Int) := by
  rw [show (((q / 2 ^ n : Nat) : Int) + 1) = ((q / 2 ^ n + 1 : Nat) : Int) by push_cast; rfl, u64_in _ hd2]
 unfold flo_shifted.f
 rw [if_pos (by omega), if_neg (by omega), wrapB _ (by omega) (by omega), if_pos (by omega), hm, show ((n : Int) - 1) = ((n - 1 : Nat) : Int) by omega, hmid, hsr, hlow, hinc]
 unfold rnd
 obtain ⟨x, hx⟩ : ∃ x, x = q % 2 ^ n := ⟨_, rfl⟩
 obtain ⟨y, hy⟩ : ∃ y, y = 2 ^ (n - 1) := ⟨_, rfl⟩
 obtain ⟨z, hz⟩ : ∃ z, z = q / 2 ^ n := ⟨_, rfl⟩
 rw [← hx, ← hy, ← hz]
 by_cases c1 : y < x
 ·rw [if_pos (by omega), if_pos (.inl c1)]
 ·rw [if_neg (by omega)]
  by_cases c2 : x = y
  ·rw [if_pos (by omega), if_neg (by decide)]
   by_cases c3 : z % 2 = 1
   ·rw [if_pos (by omega), if_pos (.inr ⟨c2, c3⟩)]
   ·rw [if_neg (by omega), if_neg (by omega)]
  ·rw [if_neg (by omega), if_neg (by omega)]
theorem or_frac (a b : Nat) (h : b < 4503599627370496) (ha : a < 4096) : Go.bits .or .u64 ((a * 4503599627370496 : Nat) : Int) (b : Int) = ((a * 4503599627370496 + b : Nat) : Int) := by
 rw [bits_or _ _ (by omega) (by omega)]
 have := Nat.two_pow_add_eq_or_of_lt (i := 52) h a
 rw [Nat.mul_comm a, show (4503599627370496 : Nat) = 2 ^ 52 from rfl, this]
theorem or_nought (a : Nat) (h : a < 18446744073709551616) : Go.bits .or .u64 0 (a : Int) = (a : Int) := by
 have := bits_or 0 a (by decide) h
 rw [Nat.zero_or] at this
 exact this
theorem and_frac (a : Nat) (h : a < 18446744073709551616) : Go.bits .and .u64 (a : Int) 4503599627370495 = ((a % 4503599627370496 : Nat) : Int) := by
 have := bits_and a 4503599627370495 h (by decide)
 rw [show (4503599627370495 : Nat) = 2 ^ 52 - 1 from rfl, Nat.and_two_pow_sub_one_eq_mod] at this
 exact this
theorem join_ev (e : Int) (n j R : Nat) (hj : (j : Int) = e + n + 1074) (hb : j ≤ 100000) (hn : n ≤ 100000) (hR : R ≤ 9007199254740992) (h2 : j = 0 ∨ 4503599627370496 ≤ R) :
  Ev (fun k => flo_Make.j2 k e (R : Int) 0 (n : Int)) ((min (j * 4503599627370496 + R) INF : Nat) : Int) := by
 unfold INF
 by_cases hbig : R = 9007199254740992
 ·subst hbig
  have hw : wrap64 (wrap64 (e + n) + 1) = (j : Int) - 1073 := by rw [wrapB (e + n) (by omega) (by omega), wrapB _ (by omega) (by omega)]; omega
  refine Ev.step (f := fun k => flo_Make.j3 k ((j : Int) - 1073) 4503599627370496 0) (fun k => ?_) (Ev.step (f := fun _ => some ((min (j * 4503599627370496 + 9007199254740992) 9218868437227405312 : Nat) : Int)) (fun k => ?_) (Ev.now _))
  ·rw [flo_Make.j2, if_pos (by rfl), hw]
  ·rw [flo_Make.j3, if_neg (by omega)]
   by_cases ho : (j : Int) - 1073 > 971
   ·rw [if_pos ho, Nat.min_eq_right (by omega)]
    have := or_nought 9218868437227405312 (by decide)
    exact congrArg some this
   ·rw [if_neg ho, if_neg (by omega), wrapB _ (by omega) (by omega), Nat.min_eq_left (by omega)]
    have h1 : IntKind.u64.wrap ((j : Int) - 1073 + 1075) = ((j + 2 : Nat) : Int) := by rw [show ((j : Int) - 1073 + 1075) = ((j + 2 : Nat) : Int) by omega, u64_in _ (by omega)]
    have h3 : IntKind.u64.wrap (((j + 2 : Nat) : Int) * 4503599627370496) = (((j + 2) * 4503599627370496 : Nat) : Int) := by rw [show (((j + 2 : Nat) : Int) * 4503599627370496) = (((j + 2) * 4503599627370496 : Nat) : Int) by omega, u64_in _ (by omega)]
    have h4 := and_frac 4503599627370496 (by decide)
    rw [Nat.mod_self] at h4
    have h4 : Go.bits .and .u64 4503599627370496 4503599627370495 = ((0 : Nat) : Int) := h4
    rw [h1, h3, or_nought _ (by omega), h4, or_frac _ _ (by decide) (by omega)]
    exact congrArg (fun z : Nat => some (z : Int)) (by omega)
 ·have hw : wrap64 (e + n) = (j : Int) - 1074 := by rw [wrapB (e + n) (by omega) (by omega)]; omega
  refine Ev.step (f := fun k => flo_Make.j3 k ((j : Int) - 1074) (R : Int) 0) (fun k => ?_) (Ev.step (f := fun _ => some ((min (j * 4503599627370496 + R) 9218868437227405312 : Nat) : Int)) (fun k => ?_) (Ev.now _))
  ·rw [flo_Make.j2, if_neg (by omega), hw]
  ·by_cases h0 : R = 0
   ·subst h0
    obtain rfl : j = 0 := by omega
    rw [flo_Make.j3, if_pos (by rfl)]
    rfl
   ·rw [flo_Make.j3, if_neg (by omega)]
    by_cases ho : (j : Int) - 1074 > 971
    ·rw [if_pos ho, Nat.min_eq_right (by omega)]
     have := or_nought 9218868437227405312 (by decide)
     exact congrArg some this
    ·rw [if_neg ho, Nat.min_eq_left (by omega)]
     by_cases hs : R < 4503599627370496
     ·obtain rfl : j = 0 := by omega
      rw [if_pos (by omega), or_nought _ (by omega), Nat.zero_mul, Nat.zero_add]
     ·rw [if_neg (by omega), wrapB _ (by omega) (by omega)]
      have h1 : IntKind.u64.wrap ((j : Int) - 1074 + 1075) = ((j + 1 : Nat) : Int) := by rw [show ((j : Int) - 1074 + 1075) = ((j + 1 : Nat) : Int) by omega, u64_in _ (by omega)]
      have h3 : IntKind.u64.wrap (((j + 1 : Nat) : Int) * 4503599627370496) = (((j + 1) * 4503599627370496 : Nat) : Int) := by rw [show (((j + 1 : Nat) : Int) * 4503599627370496) = (((j + 1) * 4503599627370496 : Nat) : Int) by omega, u64_in _ (by omega)]
      rw [h1, h3, or_nought _ (by omega), and_frac _ (by omega), or_frac _ _ (by omega) (by omega)]
      exact congrArg (fun z : Nat => some (z : Int)) (by omega)
theorem div_pow_lt {q L n : Nat} (h : q < 2 ^ L) (hn : L ≤ n + 53) : q / 2 ^ n < 9007199254740992 := by
 rw [Nat.div_lt_iff_lt_mul (Nat.two_pow_pos n), show (9007199254740992 : Nat) = 2 ^ 53 from rfl, ← Nat.pow_add]
 exact Nat.lt_of_lt_of_le h (Nat.pow_le_pow_right (by decide) (by omega))
theorem le_div_pow {q L n : Nat} (h : 2 ^ (L - 1) ≤ q) (hn : L = n + 53) : 4503599627370496 ≤ q / 2 ^ n := by
 rw [Nat.le_div_iff_mul_le (Nat.two_pow_pos n), show (4503599627370496 : Nat) = 2 ^ 52 from rfl, ← Nat.pow_add]
 exact Nat.le_trans (Nat.pow_le_pow_right (by decide) (by omega)) h
theorem rnd_bounds (q n : Nat) : q / 2 ^ n ≤ rnd q n ∧ rnd q n ≤ q / 2 ^ n + 1 := by
 unfold rnd
 by_cases h : 2 ^ (n - 1) < q % 2 ^ n ∨ (q % 2 ^ n = 2 ^ (n - 1) ∧ q / 2 ^ n % 2 = 1)
 ·rw [if_pos h]; omega
 ·rw [if_neg h]; omega
theorem make_ev (q : Nat) (e : Int) (n j L : Nat) (hL : L = Lib.bitLen q) (hq : 2 ^ 62 ≤ q) (hq2 : q < 2 ^ 64) (he : -8000 ≤ e) (he2 : e ≤ 8000) (hn1 : L ≤ n + 53) (hn2 : -1074 - e ≤ n) (hn3 : n + 53 = L ∨ (n : Int) = -1074 - e) (hj : (j : Int) = e + n + 1074) :
  Ev (fun k => flo_Make.f k false e (q : Int) false) ((if 64 < n then 0 else min (j * 4503599627370496 + rnd q n) INF : Nat) : Int) := by
 obtain ⟨b1, b2, b3⟩ := bitLen_spec q (by omega) hq2
 rw [← hL] at b1 b2 b3
 have hL63 : 63 ≤ L := by
  apply Nat.le_of_not_lt
  intro hlt
  have : 2 ^ L ≤ 2 ^ 62 := Nat.pow_le_pow_right (by decide) (by omega)
  omega
 have hL64 : L ≤ 64 := by
  apply Nat.le_of_not_lt
  intro hlt
  have : (2 : Nat) ^ 64 ≤ 2 ^ (L - 1) := Nat.pow_le_pow_right (by decide) (by omega)
  omega
 have hlen : bits_Len64.f (q : Int) = some (L : Int) := by
  unfold bits_Len64.f
  rw [if_pos (by omega), Int.toNat_natCast, hL]
 have hclamp : mn (mx e (-1048576)) 1048576 = e := by unfold mn mx; omega
 have hmx : mx (wrap64 ((wrap64 ((L : Int) - 52)) - 1)) (wrap64 ((-1074) - e)) = (n : Int) := by
  rw [wrapB ((L : Int) - 52) (by omega) (by omega), wrapB _ (by omega) (by omega), wrapB _ (by omega) (by omega)]
  unfold mx
  omega
 have hj1 : ∀ (t : Int) (r : Int), flo_shifted.f (q : Int) false (n : Int) = some t → Ev (fun k => flo_Make.j2 k e t 0 (n : Int)) r → Ev (fun k => flo_Make.f k false e (q : Int) false) r := by
  intro t r ht hr
  refine Ev.congr (f := fun k => flo_Make.j0 k e (q : Int) false 0) (fun k => ?_) (Ev.step (f := fun k => flo_Make.j1 k e (q : Int) false 0) (fun k => ?_) (Ev.step (fun k => ?_) hr))
  ·unfold flo_Make.f
   rw [if_neg (by decide)]
  ·rw [flo_Make.j0, if_neg (by omega), hclamp]
  ·rw [flo_Make.j1, hlen, Option.bind_some, hmx, if_pos (by omega), ht, Option.bind_some]
 by_cases h64 : 64 < n
 ·rw [if_pos h64]
  refine hj1 0 _ ?_ ?_
  ·unfold flo_shifted.f
   rw [if_pos (by omega), if_pos (by omega)]
  ·have h0 : j = 0 := by omega
   have := join_ev e n j 0 hj (by omega) (by omega) (by omega) (.inl h0)
   rw [h0] at this
   exact this
 ·rw [if_neg h64]
  refine hj1 _ _ (shifted_ev q n hq2 (by omega) (by omega)) ?_
  have h5 := div_pow_lt b3 hn1
  have h6 := rnd_bounds q n
  refine join_ev e n j (rnd q n) hj (by omega) (by omega) (by omega) ?_
  rcases hn3 with h | h
  ·have := le_div_pow b2 h.symm
   exact .inr (by omega)
  ·exact .inl (by omega)
end Go.Proofs.YtflcanpajgpghaaDoor.Pure
end
section
namespace Go.Proofs.YtflcanpajgpghaaDoor.Pure
open Go.RowKit Go.Proofs.YtflcanpajgpghaaDoor.Pr Go.Proofs.YtflcanpajgpghaaDoorW.PrintWords Go.Proofs.YtflcanpajgpghaaDoorW.PrintLast Go.Proofs.YtflcanpajgpghaaDoorW.PrintMore Go.Proofs.YtflcanpajgpghaaDoor.Flo
theorem or_one (Q : Nat) : Q ||| 1 = 2 * (Q / 2) + 1 := by
 have h := Nat.two_pow_add_eq_or_of_lt (i := 1) (b := 1) (by decide) (Q / 2)
 rw [Nat.pow_one] at h
 rcases Nat.mod_two_eq_zero_or_one Q with h2 | h2
 ·rw [h, show 2 * (Q / 2) = Q by omega]
 ·have e : Q = 2 * (Q / 2) ||| 1 := by rw [← h]; omega
  rw [h]
  have : Q ||| 1 = (2 * (Q / 2) ||| 1) ||| 1 := by rw [← e]
  rw [this, Nat.or_assoc, Nat.or_self]
def stick (Q R : Nat) : Nat := if 0 < R then Q ||| 1 else Q
theorem rnd_stick (Q R n : Nat) (hn : 2 ≤ n) : stick Q R / 2 ^ n = Q / 2 ^ n ∧ rnd (stick Q R) n = if 2 ^ (n - 1) < Q % 2 ^ n ∨ (Q % 2 ^ n = 2 ^ (n - 1) ∧ (0 < R ∨ Q / 2 ^ n % 2 = 1)) then Q / 2 ^ n + 1 else Q / 2 ^ n := by
 unfold stick
 by_cases hR : 0 < R
 ·rw [if_pos hR, or_one]
  obtain ⟨m, rfl⟩ : ∃ m, n = m + 2 := ⟨n - 2, by omega⟩
  unfold rnd
  rw [show m + 2 - 1 = m + 1 by omega]
  have e1 : (2 : Nat) ^ (m + 1) = 2 * 2 ^ m := by rw [Nat.pow_succ, Nat.mul_comm]
  have e2 : (2 : Nat) ^ (m + 2) = 4 * 2 ^ m := by rw [show m + 2 = m + 1 + 1 from rfl, Nat.pow_succ, e1]; omega
  rw [e1, e2]
  have hT := Nat.two_pow_pos m
  obtain ⟨T, hTT⟩ : ∃ T, T = 2 ^ m := ⟨_, rfl⟩
  rw [← hTT] at hT ⊢
  have hdm := Nat.div_add_mod Q (4 * T)
  have hlt := Nat.mod_lt Q (show 0 < 4 * T by omega)
  obtain ⟨z, hz⟩ : ∃ z, z = Q / (4 * T) := ⟨_, rfl⟩
  obtain ⟨r, hr⟩ : ∃ r, r = Q % (4 * T) := ⟨_, rfl⟩
  rw [← hz, ← hr] at hdm
  rw [← hr] at hlt
  have hzz : 4 * T * z = 2 * (2 * (T * z)) := by rw [show 4 * T * z = 4 * (T * z) from Nat.mul_assoc ..]; omega
  have hq : 2 * (Q / 2) + 1 = (2 * (r / 2) + 1) + 4 * T * z := by omega
  have hr2 : 2 * (r / 2) + 1 < 4 * T := by omega
  have d1 : (2 * (Q / 2) + 1) / (4 * T) = z := by rw [hq, Nat.add_mul_div_left _ _ (by omega), Nat.div_eq_of_lt hr2, Nat.zero_add]
  have d2 : (2 * (Q / 2) + 1) % (4 * T) = 2 * (r / 2) + 1 := by rw [hq, Nat.add_mul_mod_self_left, Nat.mod_eq_of_lt hr2]
  rw [d1, d2, ← hz, ← hr]
  refine ⟨rfl, ?_⟩
  by_cases c : 2 * T < 2 * (r / 2) + 1 ∨ (2 * (r / 2) + 1 = 2 * T ∧ z % 2 = 1)
  ·rw [if_pos c, if_pos (by omega)]
  ·rw [if_neg c, if_neg (by omega)]
 ·rw [if_neg hR]
  refine ⟨rfl, ?_⟩
  unfold rnd
  by_cases c : 2 ^ (n - 1) < Q % 2 ^ n ∨ (Q % 2 ^ n = 2 ^ (n - 1) ∧ Q / 2 ^ n % 2 = 1)
  ·rw [if_pos c, if_pos (by omega)]
  ·rw [if_neg c, if_neg (by omega)]
theorem stick_bounds (Q R : Nat) (h1 : 2 ^ 62 ≤ Q) (h2 : Q < 2 ^ 64) : 2 ^ 62 ≤ stick Q R ∧ stick Q R < 2 ^ 64 := by
 unfold stick
 by_cases hR : 0 < R
 ·rw [if_pos hR, or_one]; omega
 ·rw [if_neg hR]; exact ⟨h1, h2⟩
theorem word_ev {A B P M Q R : Nat} {e : Int} (hB : 0 < B) (hP : 0 < P) (hM : 0 < M) (hA : A * P = Q * (B * M) + R) (hR : R < B * M) (hQ1 : 2 ^ 62 ≤ Q) (hQ2 : Q < 2 ^ 64) (he : -8000 ≤ e) (he2 : e ≤ 8000)
  (hK : ∀ n j : Nat, (j : Int) = e + n + 1074 → K * (M * 2 ^ n) = 2 ^ (j + 1) * P) :
  ∃ v, Nearest A B v ∧ Ev (fun k => flo_Make.f k false e ((stick Q R : Nat) : Int) false) ((min v INF : Nat) : Int) := by
 obtain ⟨s1, s2⟩ := stick_bounds Q R hQ1 hQ2
 obtain ⟨L, hL⟩ : ∃ L, L = Lib.bitLen (stick Q R) := ⟨_, rfl⟩
 obtain ⟨b1, b2, b3⟩ := bitLen_spec (stick Q R) (by omega) s2
 rw [← hL] at b1 b2 b3
 have hL63 : 63 ≤ L := by
  apply Nat.le_of_not_lt
  intro hlt
  have : 2 ^ L ≤ 2 ^ 62 := Nat.pow_le_pow_right (by decide) (by omega)
  omega
 have hL64 : L ≤ 64 := by
  apply Nat.le_of_not_lt
  intro hlt
  have : (2 : Nat) ^ 64 ≤ 2 ^ (L - 1) := Nat.pow_le_pow_right (by decide) (by omega)
  omega
 obtain ⟨n, hn1, hn2, hn3⟩ : ∃ n : Nat, L ≤ n + 53 ∧ -1074 - e ≤ n ∧ (n + 53 = L ∨ (n : Int) = -1074 - e) := by
  by_cases h : -1074 - e ≤ ((L - 53 : Nat) : Int)
  ·exact ⟨L - 53, by omega, h, .inl (by omega)⟩
  ·exact ⟨(-1074 - e).toNat, by omega, by omega, .inr (by omega)⟩
 obtain ⟨j, hj⟩ : ∃ j : Nat, (j : Int) = e + n + 1074 := ⟨(e + n + 1074).toNat, by omega⟩
 have hmk := make_ev (stick Q R) e n j L hL s1 s2 he he2 hn1 hn2 hn3 hj
 have hKK := hK n j hj
 obtain ⟨t1, t2⟩ := rnd_stick Q R n (by omega)
 by_cases h64 : 64 < n
 ·rw [if_pos h64] at hmk
  refine ⟨0, zero_nearest ?_, ?_⟩
  ·have h0 : j = 0 := by omega
   rw [h0, Nat.zero_add, Nat.pow_one] at hKK
   have c1 : A * P < 2 ^ 64 * (B * M) := by
    have := Nat.mul_le_mul_right (B * M) (show Q + 1 ≤ 2 ^ 64 from hQ2)
    rw [Nat.add_mul, Nat.one_mul] at this
    omega
   have c2 : A * P * (K * 2 ^ n) < 2 ^ 64 * (B * M) * (K * 2 ^ n) := Nat.mul_lt_mul_of_pos_right c1 (Nat.mul_pos K_pos (Nat.two_pow_pos n))
   have c3 : 2 ^ 64 * (B * M) * (K * 2 ^ n) = 2 ^ 65 * B * P := by
    have : 2 ^ 64 * (B * M) * (K * 2 ^ n) = 2 ^ 64 * B * (K * (M * 2 ^ n)) := by simp only [Nat.mul_assoc, Nat.mul_comm, Nat.mul_left_comm]
    rw [this, hKK, show (2 : Nat) ^ 65 = 2 ^ 64 * 2 from rfl]
    simp only [Nat.mul_assoc, Nat.mul_comm, Nat.mul_left_comm]
   have c4 : A * P * (K * 2 ^ n) = A * K * 2 ^ n * P := by simp only [Nat.mul_assoc, Nat.mul_comm, Nat.mul_left_comm]
   rw [c3, c4] at c2
   have c5 := Nat.lt_of_mul_lt_mul_right c2
   have c6 : A * K * 2 ^ 65 ≤ A * K * 2 ^ n := Nat.mul_le_mul_left _ (Nat.pow_le_pow_right (by decide) h64)
   have c7 : A * K * 2 ^ 65 < 2 ^ 65 * B := Nat.lt_of_le_of_lt c6 c5
   rw [Nat.mul_comm _ (2 ^ 65)] at c7
   exact Nat.lt_of_mul_lt_mul_left c7
  ·exact hmk
 ·rw [if_neg h64, t2] at hmk
  have h5 := div_pow_lt b3 hn1
  rw [t1] at h5
  refine ⟨_, cut_nearest hB hP hM (by omega) hKK hA hR h5 ?_, hmk⟩
  rcases hn3 with h | h
  ·have := le_div_pow b2 h.symm
   rw [t1] at this
   exact .inr this
  ·exact .inl (by omega)
end Go.Proofs.YtflcanpajgpghaaDoor.Pure
end
section
namespace Go.Proofs.YtflcanpajgpghaaDoor.Pure
open Go.RowKit Go.Proofs.YtflcanpajgpghaaDoor.Pr Go.Proofs.YtflcanpajgpghaaDoorW.PrintWords Go.Proofs.YtflcanpajgpghaaDoorW.PrintLast Go.Proofs.YtflcanpajgpghaaDoorW.PrintMore Go.Proofs.YtflcanpajgpghaaDoor.Flo
theorem len_of_lt {x m : Nat} (h : x < 2 ^ m) : (toB x).length ≤ m / 32 + 1 := by
 refine len_toB _ _ (Nat.lt_of_lt_of_le h ?_)
 rw [base_pow]
 exact Nat.pow_le_pow_right (by decide) (by omega)
theorem ten_lt (n : Nat) : 10 ^ n < 2 ^ (4 * n + 1) := by
 have h1 : 10 ^ n ≤ 16 ^ n := Nat.pow_le_pow_left (by decide) n
 have h2 : (16 : Nat) ^ n = 2 ^ (4 * n) := by rw [Nat.pow_mul]
 have h3 : (2 : Nat) ^ (4 * n) < 2 ^ (4 * n + 1) := Nat.pow_lt_pow_right (by decide) (by omega)
 omega
theorem tens_ev (x n m : Nat) (hn : n ≤ 100000) (hm : m ≤ 1000000) (h : x * 10 ^ n < 2 ^ m) : Ev (fun k => dec_big_tens.f k (toB x) (n : Int)) (toB (x * 10 ^ n)) := by
 refine tens0 (m / 32 + 1) (by omega) n x (by omega) (Nat.lt_of_lt_of_le h ?_)
 rw [base_pow]
 exact Nat.pow_le_pow_right (by decide) (by omega)
theorem quot_bounds {A B la lb u v : Nat} (hA : A ≠ 0) (hB : B ≠ 0) (ha : LenIs A la) (hb : LenIs B lb) (h : la + u = 63 + lb + v) : 2 ^ 62 ≤ A * 2 ^ u / (B * 2 ^ v) ∧ A * 2 ^ u < B * 2 ^ v * 2 ^ 64 := by
 obtain ⟨a1, a2, a3⟩ := ha.2 hA
 obtain ⟨b1, b2, b3⟩ := hb.2 hB
 have hpos : 0 < B * 2 ^ v := Nat.mul_pos (Nat.pos_of_ne_zero hB) (Nat.two_pow_pos v)
 constructor
 ·rw [Nat.le_div_iff_mul_le hpos]
  have h1 : 2 ^ 62 * (B * 2 ^ v) ≤ 2 ^ 62 * (2 ^ lb * 2 ^ v) := Nat.mul_le_mul_left _ (Nat.mul_le_mul_right _ (Nat.le_of_lt b3))
  have h2 : 2 ^ 62 * (2 ^ lb * 2 ^ v) = 2 ^ (la - 1) * 2 ^ u := by
   rw [← Nat.pow_add, ← Nat.pow_add, ← Nat.pow_add]
   congr 1
   omega
  have h3 : 2 ^ (la - 1) * 2 ^ u ≤ A * 2 ^ u := Nat.mul_le_mul_right _ a2
  omega
 ·have h1 : A * 2 ^ u < 2 ^ la * 2 ^ u := Nat.mul_lt_mul_of_pos_right a3 (Nat.two_pow_pos u)
  have h2 : 2 ^ la * 2 ^ u = 2 ^ (lb - 1) * 2 ^ v * 2 ^ 64 := by
   rw [← Nat.pow_add, ← Nat.pow_add, ← Nat.pow_add]
   congr 1
   omega
  have h3 : 2 ^ (lb - 1) * 2 ^ v * 2 ^ 64 ≤ B * 2 ^ v * 2 ^ 64 := Nat.mul_le_mul_right _ (Nat.mul_le_mul_right _ b2)
  omega
theorem K_split (e : Int) (u v n j : Nat) (hj : (j : Int) = e + n + 1074) (he : e = (v : Int) - u) : K * (2 ^ v * 2 ^ n) = 2 ^ (j + 1) * 2 ^ u := by
 obtain ⟨E, hE, hKE⟩ := K_exp
 rw [hKE, ← Nat.pow_add, ← Nat.pow_add, ← Nat.pow_add, show E + (v + n) = j + 1 + u by omega]
theorem up_len {x m u : Nat} (h : x < 2 ^ m) : (toB (x * 2 ^ u)).length ≤ (m + u) / 32 + 1 := by
 refine len_of_lt ?_
 rw [Nat.pow_add]
 exact Nat.mul_lt_mul_of_pos_right h (Nat.two_pow_pos u)
theorem quot_ev (A B m : Nat) (hA : A ≠ 0) (hB : B ≠ 0) (hm : m ≤ 6000) (hAm : A < 2 ^ m) (hBm : B < 2 ^ m) :
  ∃ v, Nearest A B v ∧ Ev (fun k => dec_nearest.j2 k (toB A) (toB B)) ((min v INF : Nat) : Int) := by
 have lA := len_of_lt hAm
 have lB := len_of_lt hBm
 obtain ⟨la, hla, hla2, hla3⟩ := len_ev A (by omega)
 obtain ⟨lb, hlb, hlb2, hlb3⟩ := len_ev B (by omega)
 have hla' : la ≤ m := by
  apply Nat.le_of_not_lt
  intro hlt
  have h1 := (hla2.2 hA).2.1
  have : 2 ^ m ≤ 2 ^ (la - 1) := Nat.pow_le_pow_right (by decide) (by omega)
  omega
 have hlb' : lb ≤ m := by
  apply Nat.le_of_not_lt
  intro hlt
  have h1 := (hlb2.2 hB).2.1
  have : 2 ^ m ≤ 2 ^ (lb - 1) := Nat.pow_le_pow_right (by decide) (by omega)
  omega
 obtain ⟨u, v, hu0, huv, hupv⟩ : ∃ u v : Nat, (u = 0 ∨ v = 0) ∧ la + u = 63 + lb + v ∧ (63 - ((la : Int) - lb)) = (u : Int) - v := by
  by_cases h : la ≤ 63 + lb
  ·exact ⟨63 + lb - la, 0, .inr rfl, by omega, by omega⟩
  ·exact ⟨0, la - 63 - lb, .inl rfl, by omega, by omega⟩
 obtain ⟨q1, q2⟩ := quot_bounds hA hB hla2 hlb2 huv
 have hpos : 0 < B * 2 ^ v := Nat.mul_pos (Nat.pos_of_ne_zero hB) (Nat.two_pow_pos v)
 have hq3 : A * 2 ^ u / (B * 2 ^ v) < 2 ^ 64 := by
  rw [Nat.div_lt_iff_lt_mul hpos, Nat.mul_comm (2 ^ 64)]
  exact q2
 obtain ⟨w, hw, hwe⟩ := word_ev (A := A) (B := B) (P := 2 ^ u) (M := 2 ^ v) (Q := A * 2 ^ u / (B * 2 ^ v)) (R := A * 2 ^ u % (B * 2 ^ v)) (e := (v : Int) - u) (Nat.pos_of_ne_zero hB) (Nat.two_pow_pos u) (Nat.two_pow_pos v)
  (by rw [Nat.mul_comm (A * 2 ^ u / (B * 2 ^ v))]; exact (Nat.div_add_mod ..).symm) (Nat.mod_lt _ hpos) q1 hq3 (by omega) (by omega) (fun n j hj => K_split _ u v n j hj rfl)
 refine ⟨w, hw, ?_⟩
 have lA2 : (toB (A * 2 ^ u)).length ≤ 1000000 := by have := up_len (u := u) hAm; omega
 have lB2 : (toB (B * 2 ^ v)).length ≤ 500000 := by have := up_len (u := v) hBm; omega
 have hby := by_ev (A * 2 ^ u) (B * 2 ^ v) (by omega) lB2 lA2 q2
 have hj3 : Ev (fun k => dec_nearest.j3 k (toB (A * 2 ^ u)) (toB (B * 2 ^ v)) ((u : Int) - v)) ((min w INF : Nat) : Int) := by
  have hwr : wrap64 (-((u : Int) - v)) = (v : Int) - u := by rw [wrapB _ (by omega) (by omega)]; omega
  refine Ev.step (fun k => ?_) (Ev.bind hby (f := fun k bt => if bt.2 = true then ((flo_Make.f k false ((v : Int) - u) (Go.bits .or .u64 bt.1 1) false).bind fun t => some t) else ((flo_Make.f k false ((v : Int) - u) bt.1 false).bind fun t => some t)) ?_)
  ·rw [dec_nearest.j3, hwr]
  ·by_cases hR : A * 2 ^ u % (B * 2 ^ v) ≠ 0
   ·have hor : Go.bits .or .u64 ((A * 2 ^ u / (B * 2 ^ v) : Nat) : Int) 1 = ((stick (A * 2 ^ u / (B * 2 ^ v)) (A * 2 ^ u % (B * 2 ^ v)) : Nat) : Int) := by
     unfold stick
     rw [if_pos (Nat.pos_of_ne_zero hR)]
     exact bits_or _ 1 hq3 (by decide)
    refine Ev.congr (fun k => ?_) (Ev.bind hwe (Ev.now _))
    simp only [decide_eq_true hR, if_true]
    rw [hor]
   ·have hor : ((A * 2 ^ u / (B * 2 ^ v) : Nat) : Int) = ((stick (A * 2 ^ u / (B * 2 ^ v)) (A * 2 ^ u % (B * 2 ^ v)) : Nat) : Int) := by
     unfold stick
     rw [if_neg (by omega)]
    refine Ev.congr (fun k => ?_) (Ev.bind hwe (Ev.now _))
    simp only [decide_eq_false hR]
    rw [hor]
    rfl
 have hup : wrap64 (63 - wrap64 ((la : Int) - (lb : Int))) = (u : Int) - v := by rw [wrapB ((la : Int) - lb) (by omega) (by omega), wrapB _ (by omega) (by omega)]; exact hupv
 by_cases hvu : (u : Int) - v ≥ 0
 ·have hv0 : v = 0 := by omega
  subst hv0
  have huu := up_ev A u (.inl hA) (by omega)
  rw [Nat.pow_zero, Nat.mul_one] at hj3
  refine Ev.step (fun k => ?_) (Ev.bind huu (f := fun k t => dec_nearest.j3 k t (toB B) ((u : Int) - (0 : Nat))) hj3)
  rw [dec_nearest.j2, hla, Option.bind_some, hlb, Option.bind_some, hup, if_pos hvu, show ((u : Int) - (0 : Nat)) = (u : Int) by omega]
 ·have hu00 : u = 0 := by omega
  subst hu00
  have huu := up_ev B v (.inl hB) (by omega)
  rw [Nat.pow_zero, Nat.mul_one] at hj3
  refine Ev.step (fun k => ?_) (Ev.bind huu (f := fun k t => dec_nearest.j3 k (toB A) t (((0 : Nat) : Int) - v)) hj3)
  rw [dec_nearest.j2, hla, Option.bind_some, hlb, Option.bind_some, hup, if_neg hvu, wrapB _ (by omega) (by omega), show (-(((0 : Nat) : Int) - (v : Int))) = (v : Int) by omega]
theorem far_ev : Ev (fun k => flo_Make.f k false 9999 1 false) ((INF : Nat) : Int) := Ev.of (k := 8) (fun k => flo_Make.mono _ _ _ _ _) (by kernel_rfl)
theorem after_ev (D m : Nat) (e : Int) (hm : m ≤ 1700) (hD : D < 2 ^ m) (he : -100000 ≤ e) (he2 : e ≤ 100000) (s : ByteArray) : ∃ w, ReadAs D e w ∧ Ev (fun k => if ((toB D).length : Int) = 0 then dec_nearest.j1 k (toB D) true s e else dec_nearest.j1 k (toB D) (decide (e < (-1000))) s e) ((w : Nat) : Int) := by
 unfold ReadAs
 by_cases h1 : D = 0 ∨ e < -1000
 ·refine ⟨0, by rw [if_pos h1], ?_⟩
  have hz : Ev (fun k => dec_nearest.j1 k (toB D) true s e) ((0 : Nat) : Int) := Ev.step (f := fun _ => some 0) (fun k => by rw [dec_nearest.j1, if_pos rfl]) (Ev.now _)
  by_cases h0 : ((toB D).length : Int) = 0
  ·simp only [if_pos h0]; exact hz
  ·have hD0 : D ≠ 0 := by intro h; rw [h, toB_zero] at h0; exact h0 rfl
   have he3 : e < -1000 := h1.resolve_left hD0
   simp only [if_neg h0, decide_eq_true he3]
   exact hz
 ·have hD0 : D ≠ 0 := fun h => h1 (.inl h)
  have he3 : ¬ e < -1000 := fun h => h1 (.inr h)
  have hlen : ¬ ((toB D).length : Int) = 0 := by rw [toB_pos hD0, List.length_cons]; omega
  by_cases h2 : 400 < e
  ·refine ⟨INF, by rw [if_neg h1, if_pos h2], ?_⟩
   simp only [if_neg hlen, decide_eq_false he3]
   refine Ev.step (fun k => ?_) (Ev.bind far_ev (Ev.now _))
   rw [dec_nearest.j1, if_neg (by decide), if_pos h2]
  ·have hone : toB 1 = [1] := by rw [toB_pos (by decide)]; show (1 : Int) :: toB 0 = [1]; rw [toB_zero]
   by_cases h3 : e ≥ 0
   ·obtain ⟨n, rfl⟩ := Int.eq_ofNat_of_zero_le h3
    have hb : D * 10 ^ n < 2 ^ (m + (4 * n + 1)) := by
     rw [Nat.pow_add]
     exact Nat.mul_lt_mul'' hD (ten_lt n)
    have ht := tens_ev D n (m + (4 * n + 1)) (by omega) (by omega) hb
    obtain ⟨v, hv, hve⟩ := quot_ev (D * 10 ^ n) 1 (m + (4 * n + 1)) (Nat.mul_ne_zero hD0 (Nat.ne_of_gt (Nat.pow_pos (by decide)))) (by decide) (by omega) hb (Nat.one_lt_two_pow (by omega))
    refine ⟨min v INF, ?_, ?_⟩
    ·rw [if_neg h1, if_neg h2]
     refine ⟨v, ?_, rfl⟩
     unfold upN loN
     rw [show (-(n : Int)).toNat = 0 by omega, Nat.pow_zero, Int.toNat_natCast]
     exact hv
    ·simp only [if_neg hlen, decide_eq_false he3]
     rw [hone] at hve
     refine Ev.step (fun k => ?_) (Ev.bind ht (f := fun k t => dec_nearest.j2 k t [1]) hve)
     rw [dec_nearest.j1, if_neg (by decide), if_neg h2, Option.bind_some, if_pos h3]
   ·obtain ⟨n, hn⟩ := Int.eq_ofNat_of_zero_le (show 0 ≤ -e by omega)
    have hb : 1 * 10 ^ n < 2 ^ (4 * n + 1) := by rw [Nat.one_mul]; exact ten_lt n
    have ht := tens_ev 1 n (4 * n + 1) (by omega) (by omega) hb
    rw [Nat.one_mul] at ht hb
    have hDm : D < 2 ^ (m + (4 * n + 1)) := Nat.lt_of_lt_of_le hD (Nat.pow_le_pow_right (by decide) (by omega))
    have hBm : 10 ^ n < 2 ^ (m + (4 * n + 1)) := Nat.lt_of_lt_of_le hb (Nat.pow_le_pow_right (by decide) (by omega))
    obtain ⟨v, hv, hve⟩ := quot_ev D (10 ^ n) (m + (4 * n + 1)) hD0 (Nat.ne_of_gt (Nat.pow_pos (by decide))) (by omega) hDm hBm
    refine ⟨min v INF, ?_, ?_⟩
    ·rw [if_neg h1, if_neg h2]
     refine ⟨v, ?_, rfl⟩
     unfold upN loN
     rw [show e.toNat = 0 by omega, show (-e).toNat = n by omega, Nat.pow_zero, Nat.mul_one]
     exact hv
    ·simp only [if_neg hlen, decide_eq_false he3]
     rw [hone] at ht
     refine Ev.step (fun k => ?_) (Ev.bind ht (f := fun k t => dec_nearest.j2 k (toB D) t) hve)
     rw [dec_nearest.j1, if_neg (by decide), if_neg h2, Option.bind_some, if_neg h3, wrapB _ (by omega) (by omega), hn]
def dval (s : ByteArray) : Nat → Nat
 | 0 => 0
 | i + 1 => dval s i * 10 + (bt s (i : Int) - 48).toNat
def AllDigits (s : ByteArray) : Prop := ∀ i : Nat, i < s.size → 48 ≤ bt s (i : Int) ∧ bt s (i : Int) ≤ 57
theorem dval_lt (s : ByteArray) (h : AllDigits s) : ∀ i, i ≤ s.size → dval s i < 10 ^ i
 | 0, _ => by simp [dval]
 | i + 1, hi => by
  have ih := dval_lt s h i (by omega)
  have := h i (by omega)
  rw [dval, Nat.pow_succ]
  omega
theorem digits_loop (s : ByteArray) (e : Int) (hs : AllDigits s) (hsz : s.size ≤ 400) (w : Int) (hend : Ev (fun k => if ((toB (dval s s.size)).length : Int) = 0 then dec_nearest.j1 k (toB (dval s s.size)) true s e else dec_nearest.j1 k (toB (dval s s.size)) (decide (e < (-1000))) s e) w) : ∀ d i : Nat, i + d = s.size →
  Ev (fun k => dec_nearest.l0 k (toB (dval s i)) (s.size : Int) (i : Int) s e) w
 | 0, i, hi => by
  obtain rfl : i = s.size := by omega
  refine Ev.step (fun k => ?_) hend
  rw [dec_nearest.l0, if_neg (by omega)]
 | d + 1, i, hi => by
  have ih := digits_loop s e hs hsz w hend d (i + 1) (by omega)
  have hb := hs i (by omega)
  have hl : (toB (dval s i)).length ≤ 1048576 := by
   have := len_of_lt (Nat.lt_trans (dval_lt s hs i (by omega)) (ten_lt i))
   omega
  have ht := times_ev (dval s i) 10 (bt s (i : Int) - 48).toNat (by decide) (by omega) hl
  have hbt : (bt s (i : Int) - 48) % 256 = (((bt s (i : Int) - 48).toNat : Nat) : Int) := by omega
  refine Ev.step (fun k => ?_) (Ev.bind ht (f := fun k t => dec_nearest.l0 k t (s.size : Int) ((i + 1 : Nat) : Int) s e) ih)
  rw [dec_nearest.l0, if_pos (by omega), if_pos (by omega), if_pos (by omega), hbt, wrapB _ (by omega) (by omega)]
  rfl
theorem nearest_ev (s : ByteArray) (e : Int) (hs : AllDigits s) (hsz : s.size ≤ 400) (he : -100000 ≤ e) (he2 : e ≤ 100000) : ∃ w, ReadAs (dval s s.size) e w ∧ Ev (fun k => dec_nearest.f k s e) ((w : Nat) : Int) := by
 have hbig : dval s s.size < 2 ^ (4 * s.size + 1) := Nat.lt_trans (dval_lt s hs s.size (Nat.le_refl _)) (ten_lt s.size)
 obtain ⟨w, hw, hwe⟩ := after_ev (dval s s.size) (4 * s.size + 1) e (by omega) hbig he he2 s
 refine ⟨w, hw, ?_⟩
 have h := digits_loop s e hs hsz _ hwe s.size 0 (by omega)
 refine Ev.congr (fun k => ?_) h
 unfold dec_nearest.f dval
 rw [toB_zero]
 rfl
end Go.Proofs.YtflcanpajgpghaaDoor.Pure
end
section
namespace Go.Proofs.YtflcanpajgpghaaDoor.Pure
open Go.RowKit Go.Proofs.YtflcanpajgpghaaDoor.Pr Go.Proofs.YtflcanpajgpghaaDoorW.PrintWords Go.Proofs.YtflcanpajgpghaaDoorW.PrintLast Go.Proofs.YtflcanpajgpghaaDoorW.PrintMore Go.Proofs.YtflcanpajgpghaaDoor.Flo
abbrev bytes (s : ByteArray) : List UInt8 := s.data.toList
theorem bytes_length (s : ByteArray) : (bytes s).length = s.size := Array.length_toList
theorem ba_ext {a b : ByteArray} (h : bytes a = bytes b) : a = b := by
 cases a; cases b
 congr 1
 exact Array.toList_inj.1 h
theorem toList_bytes (s : ByteArray) : s.toList = bytes s := Go.ByteArray.toList_eq s
theorem bytes_extract (s : ByteArray) (a b : Nat) : bytes (s.extract a b) = ((bytes s).take b).drop a := by
 unfold bytes
 rw [ByteArray.data_extract, Array.toList_extract, List.extract_eq_take_drop, List.drop_take]
theorem bytes_append (a b : ByteArray) : bytes (a ++ b) = bytes a ++ bytes b := by
 unfold bytes
 rw [ByteArray.data_append, Array.toList_append]
theorem bt_get (s : ByteArray) (k : Nat) : bt s (k : Int) = (((bytes s)[k]?).map fun b => (b.toNat : Int)).getD 0 := by
 unfold bt
 rw [Int.toNat_natCast]
 by_cases h : k < s.size
 ·rw [dif_pos h]
  unfold bytes
  rw [List.getElem?_eq_getElem (by rw [bytes_length]; exact h)]
  rfl
 ·rw [dif_neg h, List.getElem?_eq_none (by rw [bytes_length]; omega)]
  rfl
theorem bt_app (a b : ByteArray) (k : Nat) : bt (a ++ b) (k : Int) = if k < a.size then bt a (k : Int) else bt b ((k - a.size : Nat) : Int) := by
 rw [bt_get, bytes_append]
 by_cases h : k < a.size
 ·rw [if_pos h, List.getElem?_append_left (by rw [bytes_length]; exact h), bt_get]
 ·rw [if_neg h, List.getElem?_append_right (by rw [bytes_length]; omega), bytes_length, bt_get]
def suf (s : ByteArray) (a : Nat) : ByteArray := s.extract a s.size
theorem suf_size (s : ByteArray) (a : Nat) : (suf s a).size = s.size - a := by
 have := bytes_length (suf s a)
 unfold suf at this ⊢
 rw [bytes_extract, List.length_drop, List.length_take, bytes_length, Nat.min_self] at this
 exact this.symm
theorem bytes_suf (s : ByteArray) (a : Nat) : bytes (suf s a) = (bytes s).drop a := by
 unfold suf
 rw [bytes_extract, List.take_of_length_le (by rw [bytes_length]; exact Nat.le_refl _)]
theorem suf_suf (s : ByteArray) (a b : Nat) : (suf s a).extract b (suf s a).size = suf s (a + b) := by
 refine ba_ext ?_
 rw [show (suf s a).extract b (suf s a).size = suf (suf s a) b from rfl, bytes_suf, bytes_suf, bytes_suf, List.drop_drop]
theorem suf_zero (s : ByteArray) : suf s 0 = s := ba_ext (by rw [bytes_suf, List.drop_zero])
theorem suf_mid (s : ByteArray) (a b c : Nat) : (suf s a).extract b c = s.extract (a + b) (a + c) := by
 refine ba_ext ?_
 rw [bytes_extract, bytes_suf, bytes_extract, List.take_drop, List.drop_drop]
theorem bt_suf (s : ByteArray) (a i : Nat) : bt (suf s a) (i : Int) = bt s ((a + i : Nat) : Int) := by
 rw [bt_get, bytes_suf, List.getElem?_drop, bt_get]
theorem ext_size (s : ByteArray) (a b : Nat) (h : b ≤ s.size) : (s.extract a b).size = b - a := by
 have := bytes_length (s.extract a b)
 rw [bytes_extract, List.length_drop, List.length_take, bytes_length, Nat.min_eq_left h] at this
 exact this.symm
theorem nil_iff (s : ByteArray) : s.toList = ([] : List UInt8) ↔ s.size = 0 := by
 rw [toList_bytes]
 constructor
 ·intro h; rw [← bytes_length, h]; rfl
 ·intro h; exact List.eq_nil_of_length_eq_zero (by rw [bytes_length]; exact h)
def Dg (s : ByteArray) (i : Nat) : Prop := i < s.size ∧ 48 ≤ bt s (i : Int) ∧ bt s (i : Int) ≤ 57
instance (s : ByteArray) (i : Nat) : Decidable (Dg s i) := by unfold Dg; exact inferInstance
def DE (s : ByteArray) (i j : Nat) : Prop := i ≤ j ∧ j ≤ s.size ∧ (∀ t, i ≤ t → t < j → Dg s t) ∧ ¬ Dg s j
theorem pdigits_loop (s : ByteArray) (a j : Nat) (hsz : s.size ≤ 1000000) (h : DE s a j) : ∀ d i : Nat, a ≤ i → i + d = j → Ev (fun k => dec_digits.l0 k (suf s a) ((suf s a).size : Int) ((i - a : Nat) : Int)) ((j - a : Nat) : Int)
 | 0, i, ha, hi => by
  obtain rfl : i = j := by omega
  have hs := suf_size s a
  have h2 := h.2.1
  by_cases he : i = s.size
  ·refine Ev.step (f := fun _ => some ((i - a : Nat) : Int)) (fun k => ?_) (Ev.now _)
   rw [dec_digits.l0, if_neg (by omega), hs, he]
  ·have hnd : ¬ (48 ≤ bt s (i : Int) ∧ bt s (i : Int) ≤ 57) := fun g => h.2.2.2 ⟨by omega, g⟩
   refine Ev.step (f := fun _ => some ((i - a : Nat) : Int)) (fun k => ?_) (Ev.now _)
   rw [dec_digits.l0, if_pos (by omega), if_pos (by omega), if_pos (by omega), bt_suf, show a + (i - a) = i by omega]
   by_cases c : bt s (i : Int) < 48
   ·rw [if_pos c]
   ·rw [if_neg c, if_pos (by omega)]
 | d + 1, i, ha, hi => by
  have ih := pdigits_loop s a j hsz h d (i + 1) (by omega) (by omega)
  have hg := h.2.2.1 i ha (by omega)
  have hs := suf_size s a
  have h2 := h.2.1
  have h3 := hg.1
  refine Ev.step (fun k => ?_) ih
  rw [dec_digits.l0, if_pos (by omega), if_pos (by omega), if_pos (by omega), bt_suf, show a + (i - a) = i by omega, if_neg (by have := hg.2.1; omega), if_neg (by have := hg.2.2; omega), wrapB _ (by omega) (by omega), show (((i - a : Nat) : Int) + 1) = ((i + 1 - a : Nat) : Int) by omega]
theorem pdigits (s : ByteArray) (a j : Nat) (hsz : s.size ≤ 1000000) (h : DE s a j) : Ev (fun k => dec_digits.f k (suf s a)) ((j - a : Nat) : Int) := by
 have g := pdigits_loop s a j hsz h (j - a) a (Nat.le_refl _) (by have := h.1; omega)
 rw [Nat.sub_self] at g
 exact g
def efold (s : ByteArray) : Nat → Nat → Nat → Nat
 | 0, a, e => e
 | n + 1, a, e => efold s n (a + 1) (min (10 * e + (bt s (a : Int) - 48).toNat) 9999)
theorem efold_le (s : ByteArray) : ∀ n a e, e ≤ 9999 → efold s n a e ≤ 9999
 | 0, a, e, h => h
 | n + 1, a, e, h => efold_le s n (a + 1) _ (Nat.min_le_right ..)
def efrom (s : ByteArray) (a : Nat) : Nat := efold s (s.size - a) a 0
theorem exp_loop (s : ByteArray) (a : Nat) (hsz : s.size ≤ 1000000) (x8 x : Int) (d : ByteArray) (h8 : x8 = 1 ∨ x8 = -1) (hx : -1000000 ≤ x ∧ x ≤ 1000000) (hd : ∀ t, a ≤ t → t < s.size → Dg s t) : ∀ n i e : Nat, a ≤ i → i + n = s.size → e ≤ 9999 →
  Ev (fun k => dec_cut.l0 k (suf s a) x8 (e : Int) ((suf s a).size : Int) ((i - a : Nat) : Int) d x) (d, x + x8 * (efold s n i e : Nat), true)
 | 0, i, e, ha, hi, he => by
  have hs := suf_size s a
  have hw : wrap64 (x + wrap64 (x8 * (e : Int))) = x + x8 * (efold s 0 i e : Nat) := by
   show _ = x + x8 * (e : Int)
   rcases h8 with h | h
   ·rw [h, wrapB (1 * (e : Int)) (by omega) (by omega), wrapB _ (by omega) (by omega)]
   ·rw [h, wrapB (-1 * (e : Int)) (by omega) (by omega), wrapB _ (by omega) (by omega)]
  refine Ev.step (f := fun _ => some (d, x + x8 * (efold s 0 i e : Nat), true)) (fun k => ?_) (Ev.now _)
  rw [dec_cut.l0, if_neg (by omega), hw]
 | n + 1, i, e, ha, hi, he => by
  have hs := suf_size s a
  have hg := hd i ha (by omega)
  have g1 := hg.2.1
  have g2 := hg.2.2
  have ih := exp_loop s a hsz x8 x d h8 hx hd n (i + 1) (min (10 * e + (bt s (i : Int) - 48).toNat) 9999) (by omega) (by omega) (Nat.min_le_right ..)
  refine Ev.step (fun k => ?_) ih
  have hb : (bt s (i : Int) - 48) % 256 = bt s (i : Int) - 48 := by omega
  have hm : mn (wrap64 ((wrap64 (10 * (e : Int))) + (bt s (i : Int) - 48))) 9999 = ((min (10 * e + (bt s (i : Int) - 48).toNat) 9999 : Nat) : Int) := by
   rw [wrapB (10 * (e : Int)) (by omega) (by omega), wrapB _ (by omega) (by omega)]
   unfold mn
   omega
  rw [dec_cut.l0, if_pos (by omega), if_pos (by omega), if_pos (by omega), bt_suf, show a + (i - a) = i by omega, hb, hm, wrapB _ (by omega) (by omega), show (((i - a : Nat) : Int) + 1) = ((i + 1 - a : Nat) : Int) by omega]
theorem exp_ev (s : ByteArray) (a j : Nat) (hsz : s.size ≤ 1000000) (ha : a ≤ s.size) (x8 x : Int) (d : ByteArray) (h8 : x8 = 1 ∨ x8 = -1) (hx : -1000000 ≤ x ∧ x ≤ 1000000) (h : DE s a j) :
  Ev (fun k => dec_cut.j3 k (suf s a) x8 d x) (if a = s.size ∨ j ≠ s.size then (d, x, false) else (d, x + x8 * (efrom s a : Nat), true)) := by
 have hs := suf_size s a
 by_cases h0 : a = s.size
 ·rw [if_pos (.inl h0)]
  refine Ev.step (fun k => ?_) (Ev.step (f := fun _ => some (d, x, false)) (g := fun k => dec_cut.j4 k (suf s a) x8 true d x) (fun k => ?_) (Ev.now _))
  ·rw [dec_cut.j3, if_pos ((nil_iff _).2 (by omega))]
  ·rw [dec_cut.j4, if_pos rfl]
 ·have hdg := pdigits s a j hsz h
  have h1 := h.1
  have h2 := h.2.1
  by_cases hj : j = s.size
  ·rw [if_neg (by omega)]
   have hl := exp_loop s a hsz x8 x d h8 hx (fun t t1 t2 => h.2.2.1 t t1 (by omega)) (s.size - a) a 0 (Nat.le_refl _) (by omega) (by omega)
   rw [Nat.sub_self] at hl
   have h4 : Ev (fun k => dec_cut.j4 k (suf s a) x8 (((j - a : Nat) : Int) != ((suf s a).size : Int)) d x) (d, x + x8 * (efrom s a : Nat), true) := by
    refine Ev.step (fun k => ?_) hl
    rw [dec_cut.j4, if_neg (by rw [hs, hj]; simp)]
    rfl
   refine Ev.step (fun k => ?_) (Ev.bind hdg (f := fun k t => dec_cut.j4 k (suf s a) x8 (t != ((suf s a).size : Int)) d x) h4)
   rw [dec_cut.j3, if_neg (fun c => by have := (nil_iff _).1 c; omega)]
  ·rw [if_pos (.inr hj)]
   have h4 : Ev (fun k => dec_cut.j4 k (suf s a) x8 (((j - a : Nat) : Int) != ((suf s a).size : Int)) d x) (d, x, false) := by
    refine Ev.step (f := fun _ => some (d, x, false)) (fun k => ?_) (Ev.now _)
    rw [dec_cut.j4, if_pos (by rw [hs]; exact bne_iff_ne.2 (by omega))]
   refine Ev.step (fun k => ?_) (Ev.bind hdg (f := fun k t => dec_cut.j4 k (suf s a) x8 (t != ((suf s a).size : Int)) d x) h4)
   rw [dec_cut.j3, if_neg (fun c => by have := (nil_iff _).1 c; omega)]
theorem suf_one (s : ByteArray) (a : Nat) : (suf s a).extract 1 (suf s a).size = suf s (a + 1) := suf_suf s a 1
theorem bt_suf0 (s : ByteArray) (a : Nat) : bt (suf s a) 0 = bt s (a : Int) := bt_suf s a 0
theorem tail_ev (s : ByteArray) (a : Nat) (hsz : s.size ≤ 1000000) (ha : a ≤ s.size) (x : Int) (d : ByteArray) (r : ByteArray × Int × Bool)
  (h0 : a = s.size → r = (d, x, true))
  (h1 : a < s.size → bt s (a : Int) ≠ 101 → bt s (a : Int) ≠ 69 → r = (d, x, false))
  (h2 : a < s.size → (bt s (a : Int) = 101 ∨ bt s (a : Int) = 69) → a + 1 < s.size → bt s ((a + 1 : Nat) : Int) = 45 → Ev (fun k => dec_cut.j3 k (suf s (a + 2)) (-1) d x) r)
  (h3 : a < s.size → (bt s (a : Int) = 101 ∨ bt s (a : Int) = 69) → a + 1 < s.size → bt s ((a + 1 : Nat) : Int) = 43 → Ev (fun k => dec_cut.j3 k (suf s (a + 2)) 1 d x) r)
  (h4 : a < s.size → (bt s (a : Int) = 101 ∨ bt s (a : Int) = 69) → (a + 1 = s.size ∨ (bt s ((a + 1 : Nat) : Int) ≠ 43 ∧ bt s ((a + 1 : Nat) : Int) ≠ 45)) → Ev (fun k => dec_cut.j3 k (suf s (a + 1)) 1 d x) r) :
  Ev (fun k => dec_cut.j0 k (suf s a) d x) r := by
 have hs := suf_size s a
 have hs1 := suf_size s (a + 1)
 by_cases c0 : a = s.size
 ·rw [h0 c0]
  refine Ev.step (f := fun _ => some (d, x, true)) (fun k => ?_) (Ev.now _)
  rw [dec_cut.j0, if_pos ((nil_iff _).2 (by omega))]
 ·have hlt : a < s.size := by omega
  by_cases ce : bt s (a : Int) = 101 ∨ bt s (a : Int) = 69
  ·
   have hj1 : Ev (fun k => dec_cut.j1 k (suf s a) false d x) r := by
    by_cases c1 : a + 1 = s.size
    ·have g := h4 hlt ce (.inl c1)
     refine Ev.step (fun k => ?_) (Ev.step (g := fun k => dec_cut.j2 k (suf s (a + 1)) 1 false d x) (fun k => ?_) g)
     ·rw [dec_cut.j1, if_neg (by decide), if_pos (by omega), suf_one, if_pos ((nil_iff _).2 (by omega))]
     ·rw [dec_cut.j2, if_neg (by decide)]
    ·have hlt1 : a + 1 < s.size := by omega
     by_cases c2 : bt s ((a + 1 : Nat) : Int) = 43
     ·have g := h3 hlt ce hlt1 c2
      refine Ev.step (fun k => ?_) (Ev.step (g := fun k => dec_cut.j2 k (suf s (a + 1)) 1 true d x) (fun k => ?_) g)
      ·rw [dec_cut.j1, if_neg (by decide), if_pos (by omega), suf_one, if_neg (fun c => by have := (nil_iff _).1 c; omega), if_pos (by omega), bt_suf0, if_pos c2]
      ·rw [dec_cut.j2, if_pos rfl, if_pos (by omega), bt_suf0, if_neg (by rw [c2]; decide), if_pos (by omega), suf_one]
     ·by_cases c3 : bt s ((a + 1 : Nat) : Int) = 45
      ·have g := h2 hlt ce hlt1 c3
       refine Ev.step (fun k => ?_) (Ev.step (g := fun k => dec_cut.j2 k (suf s (a + 1)) 1 true d x) (fun k => ?_) g)
       ·rw [dec_cut.j1, if_neg (by decide), if_pos (by omega), suf_one, if_neg (fun c => by have := (nil_iff _).1 c; omega), if_pos (by omega), bt_suf0, if_neg c2, c3]
        rfl
       ·rw [dec_cut.j2, if_pos rfl, if_pos (by omega), bt_suf0, if_pos c3, if_pos (by omega), suf_one]
      ·have g := h4 hlt ce (.inr ⟨c2, c3⟩)
       refine Ev.step (fun k => ?_) (Ev.step (g := fun k => dec_cut.j2 k (suf s (a + 1)) 1 false d x) (fun k => ?_) g)
       ·rw [dec_cut.j1, if_neg (by decide), if_pos (by omega), suf_one, if_neg (fun c => by have := (nil_iff _).1 c; omega), if_pos (by omega), bt_suf0, if_neg c2, beq_eq_false_iff_ne.2 c3]
       ·rw [dec_cut.j2, if_neg (by decide)]
   refine Ev.step (fun k => ?_) hj1
   rw [dec_cut.j0, if_neg (fun c => by have := (nil_iff _).1 c; omega), if_pos (by omega), bt_suf0]
   rcases ce with c | c
   ·rw [if_pos c]
   ·rw [if_neg (by rw [c]; decide), c]
    rfl
  ·have c1 : bt s (a : Int) ≠ 101 := fun c => ce (.inl c)
   have c2 : bt s (a : Int) ≠ 69 := fun c => ce (.inr c)
   rw [h1 hlt c1 c2]
   refine Ev.step (fun k => ?_) (Ev.step (f := fun _ => some (d, x, false)) (g := fun k => dec_cut.j1 k (suf s a) true d x) (fun k => ?_) (Ev.now _))
   ·rw [dec_cut.j0, if_neg (fun c => by have := (nil_iff _).1 c; omega), if_pos (by omega), bt_suf0, if_neg c1, bne_iff_ne.2 c2]
   ·rw [dec_cut.j1, if_pos rfl]
theorem dot_prefix (s : ByteArray) (a : Nat) : strings_HasPrefix.f (suf s a) (⟨#[46]⟩ : ByteArray) = some (decide (a < s.size ∧ bt s (a : Int) = 46)) := by
 have hs := suf_size s a
 unfold strings_HasPrefix.f stringslite_HasPrefix.f
 rw [show (((⟨#[46]⟩ : ByteArray).size : Nat) : Int) = 1 from rfl]
 by_cases h : a < s.size
 ·rw [if_pos (by omega), if_pos (by omega), if_pos (by omega), Option.bind_some, toList_bytes, toList_bytes, show ((1 : Int)).toNat = 1 from rfl, bytes_extract, List.drop_zero, bytes_suf]
  obtain ⟨b, l, hb⟩ : ∃ b l, (bytes s).drop a = b :: l := by
   cases hd : (bytes s).drop a with
   | nil => have := congrArg List.length hd; rw [List.length_drop, bytes_length] at this; simp at this; omega
   | cons b l => exact ⟨b, l, rfl⟩
  have hbt : bt s (a : Int) = (b.toNat : Int) := by
   rw [bt_get, show (bytes s)[a]? = some b by
    have := List.getElem?_drop (xs := bytes s) (i := a) (j := 0)
    rw [hb] at this
    simpa using this.symm]
   rfl
  rw [hb, hbt]
  show some (([b] : List UInt8) == [46]) = _
  congr 1
  by_cases e : b = 46
  ·subst e; simp [h]
  ·rw [decide_eq_false (by
    rintro ⟨_, c⟩
    exact e (UInt8.toNat_inj.1 (by show b.toNat = 46; omega)))]
   exact beq_eq_false_iff_ne.2 (fun c => e (by injection c))
 ·rw [if_neg (by omega), Option.bind_some, decide_eq_false (fun c => h c.1)]
theorem cut_ev (s : ByteArray) (n m : Nat) (hsz : s.size ≤ 1000000) (hn : DE s 0 n) (r : ByteArray × Int × Bool)
  (hr0 : n = 0 → r = (s.extract 0 0, 0, false))
  (h1 : n ≠ 0 → n < s.size → bt s (n : Int) = 46 → DE s (n + 1) m ∧ (m = n + 1 → r = (s.extract 0 n, 0, false)) ∧ (m ≠ n + 1 → Ev (fun k => dec_cut.j0 k (suf s m) (s.extract 0 n ++ s.extract (n + 1) m) (-((m - n - 1 : Nat) : Int))) r))
  (h2 : n ≠ 0 → ¬ (n < s.size ∧ bt s (n : Int) = 46) → Ev (fun k => dec_cut.j0 k (suf s n) (s.extract 0 n) 0) r) :
  Ev (fun k => dec_cut.f k s) r := by
 have hdg := pdigits s 0 n hsz hn
 rw [Nat.sub_zero, suf_zero] at hdg
 have hn2 := hn.2.1
 have hbody : Ev (fun k => (if (0 : Int) ≤ (n : Int) then (if (n : Int) ≤ (s.size : Int) then (if (n : Int) = 0 then (some (s.extract 0 ((n : Int) : Int).toNat, (0 : Int), false)) else ((strings_HasPrefix.f (s.extract ((n : Int) : Int).toNat s.size) (⟨#[46]⟩ : ByteArray)).bind fun t366 => (if t366 = true then (if 1 ≤ ((s.extract ((n : Int) : Int).toNat s.size).size : Int) then ((dec_digits.f k ((s.extract ((n : Int) : Int).toNat s.size).extract 1 (s.extract ((n : Int) : Int).toNat s.size).size)).bind fun t367 => (if t367 = 0 then (some (s.extract 0 ((n : Int) : Int).toNat, 0, false)) else (if 1 ≤ (wrap64 (1 + t367)) then (if (wrap64 (1 + t367)) ≤ ((s.extract ((n : Int) : Int).toNat s.size).size : Int) then (if (s.extract 0 ((n : Int) : Int).toNat).size + ((s.extract ((n : Int) : Int).toNat s.size).extract 1 ((wrap64 (1 + t367)) : Int).toNat).size ≤ 9223372036854775807 then (if 0 ≤ (wrap64 (1 + t367)) then (dec_cut.j0 k ((s.extract ((n : Int) : Int).toNat s.size).extract ((wrap64 (1 + t367)) : Int).toNat (s.extract ((n : Int) : Int).toNat s.size).size) ((s.extract 0 ((n : Int) : Int).toNat) ++ ((s.extract ((n : Int) : Int).toNat s.size).extract 1 ((wrap64 (1 + t367)) : Int).toNat)) (wrap64 (-t367))) else (none)) else (none)) else (none)) else (none)))) else (none)) else (dec_cut.j0 k (s.extract ((n : Int) : Int).toNat s.size) (s.extract 0 ((n : Int) : Int).toNat) 0)))) else (none)) else (none))) r := by
  simp only [Int.toNat_natCast]
  by_cases c0 : n = 0
  ·rw [hr0 c0]
   subst c0
   refine Ev.congr (fun k => ?_) (Ev.now _)
   rw [if_pos (by omega), if_pos (by omega), if_pos (by rfl)]
  ·have hp := dot_prefix s n
   unfold suf at hp
   by_cases cd : n < s.size ∧ bt s (n : Int) = 46
   ·obtain ⟨hm, g1, g2⟩ := h1 c0 cd.1 cd.2
    have hdg2 := pdigits s (n + 1) m hsz hm
    have hm1 := hm.1
    have hm2 := hm.2.1
    have hse := suf_size s n
    have hso := suf_one s n
    unfold suf at hse hso hdg2
    rw [decide_eq_true cd] at hp
    by_cases cm : m = n + 1
    ·rw [g1 cm]
     refine Ev.congr (fun k => ?_) (Ev.bind hdg2 (f := fun k t => if t = 0 then some (s.extract 0 n, (0 : Int), false) else none) (Ev.congr (fun k => by rw [if_pos (by omega)]) (Ev.now _)))
     rw [if_pos (by omega), if_pos (by omega), if_neg (by omega), hp, Option.bind_some, if_pos rfl, if_pos (by omega), hso]
     cases hq : dec_digits.f k (s.extract (n + 1) s.size) with
     | none => rfl
     | some t =>
      have ht : t = ((m - (n + 1) : Nat) : Int) := by
       obtain ⟨K, hK⟩ := hdg2
       have hup : ∀ z, dec_digits.f (k + z) (s.extract (n + 1) s.size) = some t := by
        intro z
        induction z with
        | zero => exact hq
        | succ z ih => exact dec_digits.mono _ _ _ ih
       have h5 := hK (k + K) (Nat.le_add_left ..)
       exact Option.some.inj ((hup K).symm.trans h5)
      rw [Option.bind_some, Option.bind_some, if_pos (by omega), if_pos (by omega)]
    ·have g := g2 cm
     have hw : wrap64 (1 + ((m - (n + 1) : Nat) : Int)) = ((m - n : Nat) : Int) := by rw [wrapB _ (by omega) (by omega)]; omega
     have hw2 : wrap64 (-((m - (n + 1) : Nat) : Int)) = -((m - n - 1 : Nat) : Int) := by rw [wrapB _ (by omega) (by omega)]; omega
     have hmid := suf_mid s n 1 (m - n)
     have hsuf := suf_suf s n (m - n)
     unfold suf at hmid hsuf g
     rw [show n + (m - n) = m by omega] at hmid hsuf
     refine Ev.congr (fun k => ?_) (Ev.bind hdg2 (f := fun k t => if t = 0 then some (s.extract 0 n, (0 : Int), false) else (if 1 ≤ (wrap64 (1 + t)) then (if (wrap64 (1 + t)) ≤ ((s.extract n s.size).size : Int) then (if (s.extract 0 n).size + ((s.extract n s.size).extract 1 ((wrap64 (1 + t)) : Int).toNat).size ≤ 9223372036854775807 then (if 0 ≤ (wrap64 (1 + t)) then (dec_cut.j0 k ((s.extract n s.size).extract ((wrap64 (1 + t)) : Int).toNat (s.extract n s.size).size) ((s.extract 0 n) ++ ((s.extract n s.size).extract 1 ((wrap64 (1 + t)) : Int).toNat)) (wrap64 (-t))) else (none)) else (none)) else (none)) else (none)))
      (Ev.congr (fun k => ?_) g))
     ·rw [if_pos (by omega), if_pos (by omega), if_neg (by omega), hp, Option.bind_some, if_pos rfl, if_pos (by omega), hso]
     ·rw [if_neg (by omega), hw, if_pos (by omega), if_pos (by omega), Int.toNat_natCast, hmid, ext_size s 0 n hn2, ext_size s (n + 1) m hm2, if_pos (by omega), if_pos (by omega), hsuf, hw2]
   ·have g := h2 c0 cd
    rw [decide_eq_false cd] at hp
    unfold suf at g
    refine Ev.congr (fun k => ?_) g
    rw [if_pos (by omega), if_pos (by omega), if_neg (by omega), hp, Option.bind_some, if_neg (by decide)]
 refine Ev.congr (fun k => ?_) (Ev.bind hdg (f := fun k t364 => (if (0 : Int) ≤ t364 then (if t364 ≤ (s.size : Int) then (if t364 = 0 then (some (s.extract 0 (t364 : Int).toNat, (0 : Int), false)) else ((strings_HasPrefix.f (s.extract (t364 : Int).toNat s.size) (⟨#[46]⟩ : ByteArray)).bind fun t366 => (if t366 = true then (if 1 ≤ ((s.extract (t364 : Int).toNat s.size).size : Int) then ((dec_digits.f k ((s.extract (t364 : Int).toNat s.size).extract 1 (s.extract (t364 : Int).toNat s.size).size)).bind fun t367 => (if t367 = 0 then (some (s.extract 0 (t364 : Int).toNat, 0, false)) else (if 1 ≤ (wrap64 (1 + t367)) then (if (wrap64 (1 + t367)) ≤ ((s.extract (t364 : Int).toNat s.size).size : Int) then (if (s.extract 0 (t364 : Int).toNat).size + ((s.extract (t364 : Int).toNat s.size).extract 1 ((wrap64 (1 + t367)) : Int).toNat).size ≤ 9223372036854775807 then (if 0 ≤ (wrap64 (1 + t367)) then (dec_cut.j0 k ((s.extract (t364 : Int).toNat s.size).extract ((wrap64 (1 + t367)) : Int).toNat (s.extract (t364 : Int).toNat s.size).size) ((s.extract 0 (t364 : Int).toNat) ++ ((s.extract (t364 : Int).toNat s.size).extract 1 ((wrap64 (1 + t367)) : Int).toNat)) (wrap64 (-t367))) else (none)) else (none)) else (none)) else (none)))) else (none)) else (dec_cut.j0 k (s.extract (t364 : Int).toNat s.size) (s.extract 0 (t364 : Int).toNat) 0)))) else (none)) else (none))) hbody)
 rfl
end Go.Proofs.YtflcanpajgpghaaDoor.Pure
end
section
namespace Go.Proofs.YtflcanpajgpghaaDoor.Pure
open Go.RowKit Go.Proofs.YtflcanpajgpghaaDoor.Pr Go.Proofs.YtflcanpajgpghaaDoorW.PrintWords Go.Proofs.YtflcanpajgpghaaDoorW.PrintLast Go.Proofs.YtflcanpajgpghaaDoorW.PrintMore Go.Proofs.YtflcanpajgpghaaDoor.Flo
theorem ext_app (a b : ByteArray) : (a ++ b).extract 0 a.size = a := by
 refine ba_ext ?_
 rw [bytes_extract, bytes_append, List.drop_zero, List.take_left' (bytes_length a)]
theorem app_size (a b : ByteArray) : (a ++ b).size = a.size + b.size := ByteArray.size_append
theorem parse_of_cut (s d : ByteArray) (e : Int) (hsz : s.size ≤ 400) (hd : AllDigits d) (hds : d.size ≤ 400) (he : -100000 ≤ e) (he2 : e ≤ 100000) (h : Ev (fun k => dec_cut.f k s) (d, e, true)) : ∃ w, ReadAs (dval d d.size) e w ∧ Ev (fun k => dec_Parse.f k s) (((w : Nat) : Int), 0) := by
 obtain ⟨w, hw, hwe⟩ := nearest_ev d e hd hds he he2
 refine ⟨w, hw, ?_⟩
 have hn : Ev (fun k => (dec_nearest.f k d e).bind fun t => some (t, (0 : Int))) (((w : Nat) : Int), 0) := Ev.bind hwe (Ev.now _)
 refine Ev.congr (fun k => ?_) (Ev.bind h (f := fun k bt => if bt.2.2 = true then ((dec_nearest.f k bt.1 bt.2.1).bind fun t => (some (t, (0 : Int)))) else (some (0, 4))) (Ev.congr (fun k => if_pos rfl) hn))
 unfold dec_Parse.f
 rw [if_neg (by omega)]
theorem cut_exp (s g : ByteArray) (hs : AllDigits s) (hs0 : s.size ≠ 0) (hg : AllDigits g) (hg0 : g.size ≠ 0) (hsz : s.size + g.size ≤ 1000) (neg : Bool) :
  ∃ E : Nat, E ≤ 9999 ∧ Ev (fun k => dec_cut.f k (s ++ ((if neg = true then (⟨#[101, 45]⟩ : ByteArray) else ⟨#[101]⟩) ++ g))) (s, (if neg = true then -(E : Int) else (E : Int)), true) ∧ E = efold g g.size 0 0 := by
 obtain ⟨p, hp⟩ : ∃ p, p = (if neg = true then (⟨#[101, 45]⟩ : ByteArray) else ⟨#[101]⟩) := ⟨_, rfl⟩
 rw [← hp]
 obtain ⟨S, hS⟩ : ∃ S, S = s ++ (p ++ g) := ⟨_, rfl⟩
 rw [← hS]
 have hpsz : p.size = if neg = true then 2 else 1 := by rw [hp]; cases neg <;> rfl
 have hSs : S.size = s.size + (p.size + g.size) := by rw [hS, app_size, app_size]
 have hps : 1 ≤ p.size ∧ p.size ≤ 2 := by rw [hpsz]; cases neg <;> simp
 have b1 : ∀ i : Nat, i < s.size → bt S (i : Int) = bt s (i : Int) := fun i hi => by rw [hS, bt_app, if_pos hi]
 have b2 : bt S (s.size : Int) = 101 := by
  rw [hS, bt_app, if_neg (by omega), Nat.sub_self, bt_app, if_pos (by omega), hp]
  cases neg <;> rfl
 have b3 : ∀ i : Nat, bt S ((s.size + p.size + i : Nat) : Int) = bt g (i : Int) := fun i => by
  rw [hS, bt_app, if_neg (by omega), bt_app, if_neg (by omega)]
  congr 2
  omega
 have hDE : DE S 0 s.size := by
  refine ⟨Nat.zero_le _, by omega, fun t _ ht => ⟨by omega, ?_⟩, fun c => ?_⟩
  ·rw [b1 t ht]; exact hs t ht
  ·have := c.2.2; rw [b2] at this; omega
 have hDE2 : DE S (s.size + p.size) S.size := by
  refine ⟨by omega, Nat.le_refl _, fun t h1 h2 => ⟨h2, ?_⟩, fun c => by have := c.1; omega⟩
  obtain ⟨i, rfl⟩ := Nat.exists_eq_add_of_le h1
  rw [b3 i]
  exact hg i (by omega)
 have hfold : ∀ n i e, efold S n (s.size + p.size + i) e = efold g n i e := by
  intro n
  induction n with
  | zero => intro i e; rfl
  | succ n ih =>
   intro i e
   rw [efold, efold, b3 i, Nat.add_assoc (s.size + p.size) i 1, ih]
 have hE : efrom S (s.size + p.size) = efold g g.size 0 0 := by
  unfold efrom
  rw [show S.size - (s.size + p.size) = g.size by omega]
  exact hfold g.size 0 0
 have hle : efrom S (s.size + p.size) ≤ 9999 := efold_le _ _ _ _ (by omega)
 have hext : S.extract 0 s.size = s := by rw [hS]; exact ext_app _ _
 refine ⟨efrom S (s.size + p.size), hle, ?_, hE⟩
 refine cut_ev S s.size 0 (by omega) hDE _ (fun h => absurd h hs0) (fun _ h1 h2 => by rw [b2] at h2; exact absurd h2 (by decide)) (fun _ _ => ?_)
 rw [hext]
 have hx8 : ∀ x8 : Int, (x8 = 1 ∨ x8 = -1) → Ev (fun k => dec_cut.j3 k (suf S (s.size + p.size)) x8 s 0) (s, 0 + x8 * (efrom S (s.size + p.size) : Nat), true) := by
  intro x8 h8
  have := exp_ev S (s.size + p.size) S.size (by omega) (by omega) x8 0 s h8 (by omega) hDE2
  rw [if_neg (by omega)] at this
  exact this
 have hg1 := hg 0 (by omega)
 have b4 := b3 0
 rw [Nat.add_zero] at b4
 refine tail_ev S s.size (by omega) (by omega) 0 s _ (fun h => by omega) (fun _ h => absurd b2 h) (fun _ _ h1 h2 => ?_) (fun _ _ h1 h2 => ?_) (fun _ _ h1 => ?_)
 ·cases neg with
  | true =>
   have hz := hx8 (-1) (.inr rfl)
   rw [show p.size = 2 from hpsz] at hz ⊢
   rw [if_pos rfl, show (-((efrom S (s.size + 2) : Nat) : Int)) = 0 + -1 * ((efrom S (s.size + 2) : Nat) : Int) by omega]
   exact hz
  | false =>
   rw [show p.size = 1 from hpsz] at b4
   have h7 : bt g ((0 : Nat) : Int) = 45 := b4.symm.trans h2
   have h8 := hg1.1
   rw [h7] at h8
   exact absurd h8 (by decide)
 ·cases neg with
  | true =>
   have b5 : bt S ((s.size + 1 : Nat) : Int) = 45 := by
    rw [hS, bt_app, if_neg (by omega), bt_app, if_pos (by rw [show p.size = 2 from hpsz]; omega), hp, show s.size + 1 - s.size = 1 by omega]
    rfl
   rw [b5] at h2
   exact absurd h2 (by decide)
  | false =>
   rw [show p.size = 1 from hpsz] at b4
   have h7 : bt g ((0 : Nat) : Int) = 43 := b4.symm.trans h2
   have h8 := hg1.1
   rw [h7] at h8
   exact absurd h8 (by decide)
 ·cases neg with
  | true =>
   have b5 : bt S ((s.size + 1 : Nat) : Int) = 45 := by
    rw [hS, bt_app, if_neg (by omega), bt_app, if_pos (by rw [show p.size = 2 from hpsz]; omega), hp, show s.size + 1 - s.size = 1 by omega]
    rfl
   rw [show p.size = 2 from hpsz] at hSs
   rcases h1 with h1 | h1
   ·omega
   ·exact absurd b5 h1.2
  | false =>
   have hz := hx8 1 (.inl rfl)
   rw [show p.size = 1 from hpsz] at hz ⊢
   rw [if_neg (by decide), show (((efrom S (s.size + 1) : Nat) : Int)) = 0 + 1 * ((efrom S (s.size + 1) : Nat) : Int) by omega]
   exact hz
end Go.Proofs.YtflcanpajgpghaaDoor.Pure
end
section
namespace Go.Proofs.YtflcanpajgpghaaDoor.Pure
open Go.RowKit Go.Proofs.YtflcanpajgpghaaDoor.Pr Go.Proofs.YtflcanpajgpghaaDoorW.PrintWords Go.Proofs.YtflcanpajgpghaaDoorW.PrintLast Go.Proofs.YtflcanpajgpghaaDoorW.PrintMore Go.Proofs.YtflcanpajgpghaaDoor.Flo
theorem rkind_ev (a : Nat) (h : a ≤ INF) : ∃ c : Int, c ≠ 4 ∧ (c = 0 ↔ a = 0) ∧ Ev (fun k => minstrelref01_Kind.f k (a : Int)) c := by
 unfold INF at h
 have hq : Go.bits .and .u64 ((a : Int) / 4503599627370496) 2047 = ((a / 4503599627370496 : Nat) : Int) := by
  have := bits_and (a / 4503599627370496) 2047 (by omega) (by decide)
  rw [show (2047 : Nat) = 2 ^ 11 - 1 from rfl, Nat.and_two_pow_sub_one_eq_mod, Nat.mod_eq_of_lt (by omega)] at this
  rw [← this]
  congr 1
 have hf : Go.bits .and .u64 (a : Int) 4503599627370495 = ((a % 4503599627370496 : Nat) : Int) := and_frac a (by omega)
 unfold minstrelref01_Kind.f
 rw [hq, hf]
 by_cases c1 : a / 4503599627370496 = 2047
 ·refine ⟨3, by decide, ⟨fun h => absurd h (by decide), fun h => by omega⟩, ?_⟩
  have h0 : a % 4503599627370496 = 0 := by omega
  refine Ev.congr (fun k => if_pos (by omega)) (Ev.step (f := fun _ => some 3) (fun k => ?_) (Ev.now _))
  rw [minstrelref01_Kind.j0, if_neg (by rw [h0]; decide), if_pos (by omega)]
 ·by_cases c2 : a / 4503599627370496 = 0
  ·by_cases c3 : a = 0
   ·refine ⟨0, by decide, ⟨fun _ => c3, fun _ => rfl⟩, ?_⟩
    refine Ev.congr (fun k => if_neg (by omega)) (Ev.step (fun k => ?_) (Ev.step (f := fun _ => some 0) (g := fun k => minstrelref01_Kind.j1 k ((a / 4503599627370496 : Nat) : Int) true) (fun k => ?_) (Ev.now _)))
    ·rw [minstrelref01_Kind.j0, if_neg (by decide), if_neg (by omega), if_pos (by omega), c3]
     rfl
    ·rw [minstrelref01_Kind.j1, if_pos rfl]
   ·refine ⟨1, by decide, ⟨fun h => absurd h (by decide), fun h => absurd h c3⟩, ?_⟩
    have hn : (((a % 4503599627370496 : Nat) : Int) == 0) = false := beq_eq_false_iff_ne.2 (by omega)
    refine Ev.congr (fun k => if_neg (by omega)) (Ev.step (fun k => ?_) (Ev.step (f := fun _ => some 1) (g := fun k => minstrelref01_Kind.j1 k ((a / 4503599627370496 : Nat) : Int) false) (fun k => ?_) (Ev.now _)))
    ·rw [minstrelref01_Kind.j0, if_neg (by decide), if_neg (by omega), if_pos (by omega), hn]
    ·rw [minstrelref01_Kind.j1, if_neg (by decide), if_pos (by omega)]
  ·refine ⟨2, by decide, ⟨fun h => absurd h (by decide), fun h => by omega⟩, ?_⟩
   refine Ev.congr (fun k => if_neg (by omega)) (Ev.step (fun k => ?_) (Ev.step (f := fun _ => some 2) (g := fun k => minstrelref01_Kind.j1 k ((a / 4503599627370496 : Nat) : Int) false) (fun k => ?_) (Ev.now _)))
   ·rw [minstrelref01_Kind.j0, if_neg (by decide), if_neg (by omega), if_neg (by omega)]
   ·rw [minstrelref01_Kind.j1, if_neg (by decide), if_neg (by omega)]
theorem bits_andNot_sign (a : Nat) (h : a < 9223372036854775808) : Go.bits .andNot .u64 (a : Int) 9223372036854775808 = (a : Int) := by
 unfold Go.bits
 rw [show IntKind.u64.bits = 64 from rfl]
 simp only [BitVec.toNat_and, BitVec.toNat_not]
 have e2 : (BitVec.ofInt 64 (a : Int)).toNat = a := by rw [BitVec.ofInt_natCast, BitVec.toNat_ofNat, Nat.mod_eq_of_lt (by omega)]
 rw [e2, show 2 ^ 64 - 1 - (BitVec.ofInt 64 9223372036854775808).toNat = 2 ^ 63 - 1 from rfl, Nat.and_two_pow_sub_one_eq_mod, Nat.mod_eq_of_lt h]
 exact u64_in a (by omega)
theorem neg_false (a : Nat) (h : a < 9223372036854775808) : minstrelref01_Neg.f (a : Int) = some false := by
 unfold minstrelref01_Neg.f
 rw [show ((a : Int) / 9223372036854775808) = 0 by omega]
 rfl
theorem less_ev (a b : Nat) (ha : a ≤ INF) (hb : b ≤ INF) : Ev (fun k => minstrelref01_Less.f k (a : Int) (b : Int)) (decide (a < b)) := by
 obtain ⟨c, c1, c2, c3⟩ := rkind_ev a ha
 obtain ⟨d, d1, d2, d3⟩ := rkind_ev b hb
 unfold INF at ha hb
 have ho : ∃ o : Int, (o < 0 ↔ a < b) ∧ Ev (fun k => minstrelref01_Order.f k (a : Int) (b : Int)) o := by
  have hj : ∀ z : Bool, (z = true → a = b) → ∃ o : Int, (o < 0 ↔ a < b) ∧ Ev (fun k => minstrelref01_Order.j0 k (a : Int) (b : Int) z) o := by
   intro z hz
   cases z with
   | true =>
    have := hz rfl
    exact ⟨0, by omega, Ev.step (f := fun _ => some 0) (fun k => by rw [minstrelref01_Order.j0, if_pos rfl]) (Ev.now _)⟩
   | false =>
    have n1 := neg_false a (by omega)
    have n2 := neg_false b (by omega)
    have a1 := bits_andNot_sign a (by omega)
    have a2 := bits_andNot_sign b (by omega)
    by_cases e : a = b
    ·refine ⟨0, by omega, Ev.step (f := fun _ => some 0) (fun k => ?_) (Ev.now _)⟩
     rw [minstrelref01_Order.j0, if_neg (by decide), n1, Option.bind_some, n2, Option.bind_some, if_neg (by decide), a1, a2, if_pos (by omega)]
    ·by_cases l : a < b
     ·refine ⟨-1, by omega, Ev.step (f := fun _ => some (-1)) (fun k => ?_) (Ev.now _)⟩
      rw [minstrelref01_Order.j0, if_neg (by decide), n1, Option.bind_some, n2, Option.bind_some, if_neg (by decide), a1, a2, if_neg (by omega), Option.bind_some, decide_eq_true (by omega), if_pos (by decide)]
     ·refine ⟨1, by omega, Ev.step (f := fun _ => some 1) (fun k => ?_) (Ev.now _)⟩
      rw [minstrelref01_Order.j0, if_neg (by decide), n1, Option.bind_some, n2, Option.bind_some, if_neg (by decide), a1, a2, if_neg (by omega), Option.bind_some, decide_eq_false (by omega), if_neg (by decide)]
  unfold minstrelref01_Order.f
  by_cases hc : c = 0
  ·obtain ⟨o, o1, o2⟩ := hj (d == 0) (fun h => by have h := beq_iff_eq.1 h; have := c2.1 hc; have := d2.1 h; omega)
   refine ⟨o, o1, Ev.bind c3 (f := fun k t => if t = 0 then ((minstrelref01_Kind.f k (b : Int)).bind fun t420 => (minstrelref01_Order.j0 k (a : Int) (b : Int) (t420 == 0))) else (minstrelref01_Order.j0 k (a : Int) (b : Int) false)) (Ev.congr (fun k => if_pos hc) (Ev.bind d3 (f := fun k t420 => minstrelref01_Order.j0 k (a : Int) (b : Int) (t420 == 0)) o2))⟩
  ·obtain ⟨o, o1, o2⟩ := hj false (fun h => by cases h)
   exact ⟨o, o1, Ev.bind c3 (f := fun k t => if t = 0 then ((minstrelref01_Kind.f k (b : Int)).bind fun t420 => (minstrelref01_Order.j0 k (a : Int) (b : Int) (t420 == 0))) else (minstrelref01_Order.j0 k (a : Int) (b : Int) false)) (Ev.congr (fun k => if_neg hc) o2)⟩
 obtain ⟨o, o1, o2⟩ := ho
 unfold minstrelref01_Less.f
 refine Ev.bind c3 (f := fun k t425 => if t425 = 4 then (some false) else ((minstrelref01_Kind.f k (b : Int)).bind fun t426 => (if t426 = 4 then (some false) else ((minstrelref01_Order.f k (a : Int) (b : Int)).bind fun t427 => (some (decide (t427 < 0)))))))
  (Ev.congr (fun k => if_neg c1) (Ev.bind d3 (f := fun k t426 => if t426 = 4 then (some false) else ((minstrelref01_Order.f k (a : Int) (b : Int)).bind fun t427 => (some (decide (t427 < 0))))) (Ev.congr (fun k => if_neg d1) (Ev.bind o2 (f := fun _ t427 => some (decide (t427 < 0))) ?_))))
 rw [show decide (a < b) = decide (o < 0) from decide_eq_decide.2 o1.symm]
 exact Ev.now _
end Go.Proofs.YtflcanpajgpghaaDoor.Pure
end
section
namespace Go.Proofs.YtflcanpajgpghaaDoor.Pure
open Go.RowKit Go.Proofs.YtflcanpajgpghaaDoor.Pr Go.Proofs.YtflcanpajgpghaaDoorW.PrintWords Go.Proofs.YtflcanpajgpghaaDoorW.PrintLast Go.Proofs.YtflcanpajgpghaaDoorW.PrintMore
theorem lives_200 : minstrellaw05_lives.f 200 = some true := by kernel_rfl
theorem lives_ev : Ev (fun k => minstrellaw05_lives.f k) true := Ev.of (k := 200) (fun k => minstrellaw05_lives.mono _) lives_200
end Go.Proofs.YtflcanpajgpghaaDoor.Pure
end
