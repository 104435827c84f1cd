/- A part of the proof of the law that RowProgChecks shows: lemmas, and contracts of the calls that it reaches. -/
import Derived.Test.YtlhnkfheojlghaaDoorProg
import Derived.Below
import Derived.Deep.Draws
import Derived.Deep.AppendLies
import Derived.Maps.AppendAt
import Derived.OwnWalk
import Derived.Laws.BytesArg
import Derived.Laws.MakeOwn
import Derived.Laws.OwnMore
import Derived.Deep.OwnRows
import Derived.Tactics
import Derived.Lib.ConvBytes
import Derived.Laws.Slices
import Derived.WalkKit
import Derived.KernelRfl
import Derived.RowKit3
import Derived.Deep.LoopGhost
import Derived.Deep.QuietTactic
import Derived.BigQuiet
import Derived.WideLaws
import Derived.Deep.DeepCutAuto
import Derived.Deep.CutBlock
import Derived.Deep.RegionHeld3
import Derived.Laws.Rows
import Derived.Lib.AppendStr
import Derived.ArgAppend
import Derived.Laws.IdiomCopy
import Derived.OrdersHeld
import Derived.Laws.BitsLemmas
import Derived.RowKit
import Derived.Test.YtlhnkfheojlghaaDoorZPK0
import Derived.Test.YtlhnkfheojlghaaDoorZPK1
import Derived.Test.YtlhnkfheojlghaaDoorZPK2
set_option linter.unusedVariables false
set_option linter.unusedSimpArgs false
section
namespace Go.Proofs.YtlhnkfheojlghaaDoor.Pr
open Go.RowKit Go.Proofs.YtlhnkfheojlghaaDoorW.PrintWords Go.Proofs.YtlhnkfheojlghaaDoorW.PrintLast Go.Proofs.YtlhnkfheojlghaaDoorW.PrintMore
attribute [local go_sem] max2_int min2_int max_two min_two max_three min_three max_four min_four
mutual
def minstrelref11_Show.j0 : Nat → ByteArray → Int → Int → ByteArray → Int → Int → Int → List (S94) → List (S90) → Option (ByteArray)
 | 0, _, _, _, _, _, _, _, _, _ => none
 | k + 1, x3, x176000, x176001, x176002, x176003, x176004, x176005, x176006, x176007 => if x176003 = 0 then (minstrelref11_Show.j1 k x3 x176000 x176001 x176002 x176003 x176004 x176005 x176006 x176007) else (if x3.size + 1 ≤ 9223372036854775807 then ((minstrelref11_dec.f k x176003).bind fun t177 => (if (x3 ++ (⟨#[32]⟩ : ByteArray)).size + t177.size ≤ 9223372036854775807 then (minstrelref11_Show.j1 k ((x3 ++ (⟨#[32]⟩ : ByteArray)) ++ t177) x176000 x176001 x176002 x176003 x176004 x176005 x176006 x176007) else (none))) else (none))
def minstrelref11_Show.j1 : Nat → ByteArray → Int → Int → ByteArray → Int → Int → Int → List (S94) → List (S90) → Option (ByteArray)
 | 0, _, _, _, _, _, _, _, _, _ => none
 | k + 1, x3, x176000, x176001, x176002, x176003, x176004, x176005, x176006, x176007 => if x176004 = 0 then (minstrelref11_Show.j2 k x3 x176000 x176001 x176002 x176003 x176004 x176005 x176006 x176007) else (if x3.size + 1 ≤ 9223372036854775807 then ((minstrelref11_signed.f k x176004).bind fun t178 => (if (x3 ++ (⟨#[32]⟩ : ByteArray)).size + t178.size ≤ 9223372036854775807 then (minstrelref11_Show.j2 k ((x3 ++ (⟨#[32]⟩ : ByteArray)) ++ t178) x176000 x176001 x176002 x176003 x176004 x176005 x176006 x176007) else (none))) else (none))
def minstrelref11_Show.j2 : Nat → ByteArray → Int → Int → ByteArray → Int → Int → Int → List (S94) → List (S90) → Option (ByteArray)
 | 0, _, _, _, _, _, _, _, _, _ => none
 | k + 1, x3, x176000, x176001, x176002, x176003, x176004, x176005, x176006, x176007 => minstrelref11_Show.l0 k x3 0 x176000 x176001 x176002 x176003 x176004 x176005 x176006 x176007
def minstrelref11_Show.l0 : Nat → ByteArray → Int → Int → Int → ByteArray → Int → Int → Int → List (S94) → List (S90) → Option (ByteArray)
 | 0, _, _, _, _, _, _, _, _, _, _ => none
 | k + 1, x3, x4, x176000, x176001, x176002, x176003, x176004, x176005, x176006, x176007 => if x4 < (x176007.length : Int) then (if x3.size + 1 ≤ 9223372036854775807 then (if 0 ≤ x4 then ((minstrelref11_Show.f k ((rd_T90 x176007 x4).f0) ((rd_T90 x176007 x4).f1) ((rd_T90 x176007 x4).f2) ((rd_T90 x176007 x4).f3) ((rd_T90 x176007 x4).f4) ((rd_T90 x176007 x4).f5) ((rd_T90 x176007 x4).f6) ((rd_T90 x176007 x4).f7)).bind fun t180 => (if (x3 ++ (⟨#[32]⟩ : ByteArray)).size + t180.size ≤ 9223372036854775807 then (minstrelref11_Show.l0 k ((x3 ++ (⟨#[32]⟩ : ByteArray)) ++ t180) (wrap64 (x4 + 1)) x176000 x176001 x176002 x176003 x176004 x176005 x176006 x176007) else (none))) else (none)) else (none)) else (if x3.size + 1 ≤ 9223372036854775807 then (some (x3 ++ (⟨#[41]⟩ : ByteArray))) else (none))
def minstrelref11_Show.f : Nat → Int → Int → ByteArray → Int → Int → Int → List (S94) → List (S90) → Option (ByteArray)
 | 0, _, _, _, _, _, _, _, _ => none
 | k + 1, a0_0, a0_1, a0_2, a0_3, a0_4, a0_5, l0_6, l0_7 => (minstrelref11_signed.f k a0_0).bind fun t176 => (if 1 + t176.size ≤ 9223372036854775807 then (if a0_2.toList = ([] : List UInt8) then (minstrelref11_Show.j0 k ((⟨#[40]⟩ : ByteArray) ++ t176) a0_0 a0_1 a0_2 a0_3 a0_4 a0_5 l0_6 l0_7) else (if ((⟨#[40]⟩ : ByteArray) ++ t176).size + 1 ≤ 9223372036854775807 then (if (((⟨#[40]⟩ : ByteArray) ++ t176) ++ (⟨#[32]⟩ : ByteArray)).size + a0_2.size ≤ 9223372036854775807 then (minstrelref11_Show.j0 k ((((⟨#[40]⟩ : ByteArray) ++ t176) ++ (⟨#[32]⟩ : ByteArray)) ++ a0_2) a0_0 a0_1 a0_2 a0_3 a0_4 a0_5 l0_6 l0_7) else (none)) else (none))) else (none))
end
set_option maxHeartbeats 8000000 in
set_option maxRecDepth 100000 in
theorem minstrelref11_Show.calls (k : Nat) : ∀ (a0_0 : Int) (a0_1 : Int) (a0_2 : ByteArray) (a0_3 : Int) (a0_4 : Int) (a0_5 : Int) (A0_6 : Option Addr) (c0_6 : Nat) (l0_6 : List (S94)) (A0_7 : Option Addr) (c0_7 : Nat) (l0_7 : List (S90)) (r : ByteArray) (w : World) (hr0_6 : Kd.C k94 w A0_6 l0_6.length l0_6) (hc0_6 : l0_6.length ≤ c0_6) (hr0_7 : Kd.C k90 w A0_7 l0_7.length l0_7) (hc0_7 : l0_7.length ≤ c0_7) (h : minstrelref11_Show.f k a0_0 a0_1 a0_2 a0_3 a0_4 a0_5 l0_6 l0_7 = some r),
  Calls Tryd.prog 48 #[.agg #[.int .i64 a0_0, .int .i64 a0_1, .string a0_2, .int .u64 a0_3, .int .i64 a0_4, .int .i64 a0_5, .slice A0_6 l0_6.length c0_6, .slice A0_7 l0_7.length c0_7]] w fun e w' => e = .returned (.string r) ∧ Below w.heap.size w w' := by
 induction k using Nat.strongRecOn with
 | _ k ih =>
 intro a0_0 a0_1 a0_2 a0_3 a0_4 a0_5 A0_6 c0_6 l0_6 A0_7 c0_7 l0_7 r w hr0_6 hc0_6 hr0_7 hc0_7 h
 cases k with
 | zero => exact absurd h (by simp [minstrelref11_Show.f])
 | succ k =>
 simp only [minstrelref11_Show.f] at h
 have hu90 := Tryd.underlying90
 have HR0_6 := am hr0_6
 have HC0_6 := am hc0_6
 clear hr0_6 hc0_6
 have HR0_7 := am hr0_7
 have HC0_7 := am hc0_7
 clear hr0_7 hc0_7
 have HB := am (Below.refl w.heap.size w)
 have H : ((minstrelref11_signed.f k a0_0).bind fun t176 => (if 1 + t176.size ≤ 9223372036854775807 then (if a0_2.toList = ([] : List UInt8) then (minstrelref11_Show.j0 k ((⟨#[40]⟩ : ByteArray) ++ t176) a0_0 a0_1 a0_2 a0_3 a0_4 a0_5 l0_6 l0_7) else (if ((⟨#[40]⟩ : ByteArray) ++ t176).size + 1 ≤ 9223372036854775807 then (if (((⟨#[40]⟩ : ByteArray) ++ t176) ++ (⟨#[32]⟩ : ByteArray)).size + a0_2.size ≤ 9223372036854775807 then (minstrelref11_Show.j0 k ((((⟨#[40]⟩ : ByteArray) ++ t176) ++ (⟨#[32]⟩ : ByteArray)) ++ a0_2) a0_0 a0_1 a0_2 a0_3 a0_4 a0_5 l0_6 l0_7) else (none)) else (none))) else (none))) = some r := h
 clear h
 replace H := Option.bind_eq_some_iff.mp H
 obtain ⟨t176, A20, H⟩ := H
 try dsimp only at H
 have A2 := am A20
 clear A20
 by_cases c3 : 1 + t176.size ≤ 9223372036854775807
 ·rw [if_pos c3] at H
  have c3b0 := eq_true c3
  have c3b1 : decide (1 + t176.size ≤ 9223372036854775807) = true := decide_eq_true c3
  try have c3b2 : (9223372036854775807 < 1 + t176.size) = False := eq_false (Nat.not_lt.2 c3)
  have HC4 := am H
  clear H
  go_enter Tryd.func48, Tryd.ntmps48
  go_upto_if 11 with (first | ((with_reducible refine gate_dst (N := 1) rfl ?_); refine box_event ?hg (N := 1) ?hd (cs := #[.int .i64 a0_0, .int .i64 a0_1, .string a0_2, .int .u64 a0_3, .int .i64 a0_4, .int .i64 a0_5, .slice A0_6 l0_6.length c0_6, .slice A0_7 l0_7.length c0_7]) (t := 90) ?hr ?_; (case hd => rfl); (case hg => rfl); (case hr => first | (go_simp; done) | (go_simp; rfl)); intro gb175 hg w5 hbox hb; have BK175 := am (hbox); have GW175 := am ((by rw [hg]; exact (below_size pB) : w.heap.size ≤ gb175)); have GE175 := am ((by rw [hg]; exact (below_size pB) : w.heap.size ≤ gb175)); replace HB := am (below_step pB hb); clear hb hbox hg; have q6 := cf8 BK175.out) | ((with_reducible refine gate_callee (f := 73) rfl ?_); refine goesL_ (some 7) rfl rfl Tryd.func73 (by kernel_rfl) rfl #[.int .i64 a0_0] rfl pM ?_; (with_reducible refine (minstrelref11_signed.calls k a0_0 t176 _ A2.out).mono ?_); rintro e w7 ⟨rfl, hb⟩; refine ⟨_, rfl, ?_⟩; replace BK175 := am (pkb BK175.out hb); replace HB := am (below_step pB hb); (try clear hb); (try clear hb2); (try clear hk); (try clear hi); have q8 := cf8 BK175.out))
  (try simp only [Act.put, List.setIfInBounds_toArray, List.set_cons_zero, List.set_cons_succ])
  go_cut [3] (fun v3 wc => ∃ (kq : Nat) (x3_3 : ByteArray), v3 = .string x3_3 ∧ Aside0 (minstrelref11_Show.j0 kq x3_3 a0_0 a0_1 a0_2 a0_3 a0_4 a0_5 l0_6 l0_7 = some r) ∧ Aside0 (kq ≤ k) ∧ Aside0 (wc.heap[gb175]? = some (.cells #[.int .i64 a0_0, .int .i64 a0_1, .string a0_2, .int .u64 a0_3, .int .i64 a0_4, .int .i64 a0_5, (.slice A0_6 l0_6.length c0_6), (.slice A0_7 l0_7.length c0_7)] 90 (0, 0))) ∧ Aside0 (Below w.heap.size w wc))
  case first =>
   have H := HC4.out
   clear HC4
   by_cases c9 : a0_2.toList = ([] : List UInt8)
   ·rw [if_pos c9] at H
    have c9b0 : (a0_2.toList == ([] : List UInt8)) = true := beq_iff_eq.mpr c9
    have c9b1 : (a0_2.toList != ([] : List UInt8)) = false := bne_eq_false_iff_eq.mpr c9
    have c9b2 : a0_2.toList.isEmpty = true := by rw [c9]; rfl
    clear c9
    (first | rw [c9b0] | (simp only [i64_w, i32_w]; rw [c9b0]) | rw [c9b1] | (simp only [i64_w, i32_w]; rw [c9b1]) | (rw [c9b2]; simp only [Bool.not_true, Bool.not_false]) | skip)
    have H' := am H
    clear H
    go_wp2
    go_meet
    case rel => exact ⟨_, ((⟨#[40]⟩ : ByteArray) ++ t176), (by first | rfl | (simp; done) | (simp [*]; done)), H', ⟨by first | omega | exact Nat.le_refl _⟩, ⟨by (with_reducible repeat (first | refine blk_drewN ?_ _ | refine blk_drew ?_ | refine blk_alloc ?_ _)); exact BK175.out⟩, ⟨pB⟩⟩
   ·rw [if_neg c9] at H
    have c9b0 : (a0_2.toList == ([] : List UInt8)) = false := beq_eq_false_iff_ne.mpr c9
    have c9b1 : (a0_2.toList != ([] : List UInt8)) = true := bne_iff_ne.mpr c9
    have c9b2 : a0_2.toList.isEmpty = false := by cases he_ : a0_2.toList with | nil => exact absurd he_ c9 | cons _ _ => rfl
    (first | rw [c9b0] | (simp only [i64_w, i32_w]; rw [c9b0]) | rw [c9b1] | (simp only [i64_w, i32_w]; rw [c9b1]) | (rw [c9b2]; simp only [Bool.not_true, Bool.not_false]) | skip)
    by_cases c10 : ((⟨#[40]⟩ : ByteArray) ++ t176).size + 1 ≤ 9223372036854775807
    ·rw [if_pos c10] at H
     have c10b0 := eq_true c10
     have c10b1 : decide (((⟨#[40]⟩ : ByteArray) ++ t176).size + 1 ≤ 9223372036854775807) = true := decide_eq_true c10
     try have c10b2 : (9223372036854775807 < ((⟨#[40]⟩ : ByteArray) ++ t176).size + 1) = False := eq_false (Nat.not_lt.2 c10)
     try have c10b3 : (9223372036854775807 < 1 + t176.size + 1) = False := eq_false (Nat.not_lt.2 (by have q_ := c10; simp only [ByteArray.size_append] at q_; exact q_))
     by_cases c11 : (((⟨#[40]⟩ : ByteArray) ++ t176) ++ (⟨#[32]⟩ : ByteArray)).size + a0_2.size ≤ 9223372036854775807
     ·rw [if_pos c11] at H
      have c11b0 := eq_true c11
      have c11b1 : decide ((((⟨#[40]⟩ : ByteArray) ++ t176) ++ (⟨#[32]⟩ : ByteArray)).size + a0_2.size ≤ 9223372036854775807) = true := decide_eq_true c11
      try have c11b2 : (9223372036854775807 < (((⟨#[40]⟩ : ByteArray) ++ t176) ++ (⟨#[32]⟩ : ByteArray)).size + a0_2.size) = False := eq_false (Nat.not_lt.2 c11)
      try have c11b3 : (9223372036854775807 < 1 + t176.size + 1 + a0_2.size) = False := eq_false (Nat.not_lt.2 (by have q_ := c11; simp only [ByteArray.size_append] at q_; exact q_))
      have H' := am H
      clear H
      have q12 := cf8 BK175.out
      go_wp2
      go_meet
      case rel => exact ⟨_, ((((⟨#[40]⟩ : ByteArray) ++ t176) ++ (⟨#[32]⟩ : ByteArray)) ++ a0_2), (by first | rfl | (simp; done) | (simp [*]; done)), H', ⟨by first | omega | exact Nat.le_refl _⟩, ⟨by (with_reducible repeat (first | refine blk_drewN ?_ _ | refine blk_drew ?_ | refine blk_alloc ?_ _)); exact BK175.out⟩, ⟨pB⟩⟩
     ·rw [if_neg c11] at H
      exact absurd H (by simp)
    ·rw [if_neg c10] at H
     exact absurd H (by simp)
  case rest =>
   clear HC4
   try clear c1
   try clear p2
   try clear c3
   try clear c3b0
   try clear c3b1
   try clear c3b2
   try clear c4
   try clear c7
   try clear c9
   try clear c9b0
   try clear c9b1
   try clear c10
   try clear c10b0
   try clear c10b1
   try clear c10b2
   try clear c11
   try clear c11b0
   try clear c11b1
   try clear c11b2
   try clear q12 q6 q8
   obtain ⟨kq, x3_3, rfl, HA, HJ3, BK175, HB⟩ := hcut
   cases kq with
   | zero => exact absurd HA.out (by simp [minstrelref11_Show.j0])
   | succ kj3 =>
    have H := HA.out
    clear HA
    simp only [minstrelref11_Show.j0] at H
    have HC13 := am H
    clear H
    have q14 := cf8 BK175.out
    go_upto_if 19 with (fail)
    go_cut [3] (fun v3 wc => ∃ (kq : Nat) (x3_12 : ByteArray), v3 = .string x3_12 ∧ Aside0 (minstrelref11_Show.j1 kq x3_12 a0_0 a0_1 a0_2 a0_3 a0_4 a0_5 l0_6 l0_7 = some r) ∧ Aside0 (kq ≤ kj3) ∧ Aside0 (wc.heap[gb175]? = some (.cells #[.int .i64 a0_0, .int .i64 a0_1, .string a0_2, .int .u64 a0_3, .int .i64 a0_4, .int .i64 a0_5, (.slice A0_6 l0_6.length c0_6), (.slice A0_7 l0_7.length c0_7)] 90 (0, 0))) ∧ Aside0 (Below w.heap.size w wc))
    case first =>
     have H := HC13.out
     clear HC13
     by_cases c15 : a0_3 = 0
     ·rw [if_pos c15] at H
      have c15b0 : (a0_3 == 0) = true := beq_iff_eq.mpr c15
      have c15b1 : (a0_3 != 0) = false := bne_eq_false_iff_eq.mpr c15
      clear c15
      (first | rw [c15b0] | (simp only [i64_w, i32_w]; rw [c15b0]) | rw [c15b1] | (simp only [i64_w, i32_w]; rw [c15b1]) | skip)
      have H' := am H
      clear H
      go_wp2
      go_meet
      case rel => exact ⟨_, (x3_3), (by first | rfl | (simp; done) | (simp [*]; done)), H', ⟨by have := HJ3.out; first | omega | exact Nat.le_refl _⟩, ⟨by (with_reducible repeat (first | refine blk_drewN ?_ _ | refine blk_drew ?_ | refine blk_alloc ?_ _)); exact BK175.out⟩, ⟨pB⟩⟩
     ·rw [if_neg c15] at H
      have c15b0 : (a0_3 == 0) = false := beq_eq_false_iff_ne.mpr c15
      have c15b1 : (a0_3 != 0) = true := bne_iff_ne.mpr c15
      (first | rw [c15b0] | (simp only [i64_w, i32_w]; rw [c15b0]) | rw [c15b1] | (simp only [i64_w, i32_w]; rw [c15b1]) | skip)
      by_cases c16 : x3_3.size + 1 ≤ 9223372036854775807
      ·rw [if_pos c16] at H
       have c16b0 := eq_true c16
       have c16b1 : decide (x3_3.size + 1 ≤ 9223372036854775807) = true := decide_eq_true c16
       try have c16b2 : (9223372036854775807 < x3_3.size + 1) = False := eq_false (Nat.not_lt.2 c16)
       replace H := Option.bind_eq_some_iff.mp H
       obtain ⟨t177, A170, H⟩ := H
       try dsimp only at H
       have A17 := am A170
       clear A170
       by_cases c18 : (x3_3 ++ (⟨#[32]⟩ : ByteArray)).size + t177.size ≤ 9223372036854775807
       ·rw [if_pos c18] at H
        have c18b0 := eq_true c18
        have c18b1 : decide ((x3_3 ++ (⟨#[32]⟩ : ByteArray)).size + t177.size ≤ 9223372036854775807) = true := decide_eq_true c18
        try have c18b2 : (9223372036854775807 < (x3_3 ++ (⟨#[32]⟩ : ByteArray)).size + t177.size) = False := eq_false (Nat.not_lt.2 c18)
        try have c18b3 : (9223372036854775807 < x3_3.size + 1 + t177.size) = False := eq_false (Nat.not_lt.2 (by have q_ := c18; simp only [ByteArray.size_append] at q_; exact q_))
        have H' := am H
        clear H
        have q19 := cf8 BK175.out
        go_wp2_with (first | ((with_reducible refine gate_callee (f := 74) rfl ?_); refine goesL_ (some 24) rfl rfl Tryd.func74 (by kernel_rfl) rfl #[.int .u64 a0_3] rfl pM ?_; (with_reducible refine (minstrelref11_dec.calls kj3 a0_3 t177 _ A17.out).mono ?_); rintro e w20 ⟨rfl, hb⟩; refine ⟨_, rfl, ?_⟩; replace BK175 := am (pkb BK175.out hb); replace HB := am (below_step pB hb); (try clear hb); (try clear hb2); (try clear hk); (try clear hi)))
        go_meet
        case rel => exact ⟨_, ((x3_3 ++ (⟨#[32]⟩ : ByteArray)) ++ t177), (by first | rfl | (simp; done) | (simp [*]; done)), H', ⟨by have := HJ3.out; first | omega | exact Nat.le_refl _⟩, ⟨by (with_reducible repeat (first | refine blk_drewN ?_ _ | refine blk_drew ?_ | refine blk_alloc ?_ _)); exact BK175.out⟩, ⟨pB⟩⟩
       ·rw [if_neg c18] at H
        exact absurd H (by simp)
      ·rw [if_neg c16] at H
       exact absurd H (by simp)
    case rest =>
     clear HC13
     try clear c1
     try clear p2
     try clear c3
     try clear c3b0
     try clear c3b1
     try clear c3b2
     try clear c4
     try clear c7
     try clear c9
     try clear c9b0
     try clear c9b1
     try clear c10
     try clear c10b0
     try clear c10b1
     try clear c10b2
     try clear c11
     try clear c11b0
     try clear c11b1
     try clear c11b2
     try clear c15
     try clear c15b0
     try clear c15b1
     try clear c16
     try clear c16b0
     try clear c16b1
     try clear c16b2
     try clear c18
     try clear c18b0
     try clear c18b1
     try clear c18b2
     try clear q12 q14 q19 q6 q8
     try clear p2
     obtain ⟨kq, x3_12, rfl, HA, HJ12, BK175, HB⟩ := hcut
     cases kq with
     | zero => exact absurd HA.out (by simp [minstrelref11_Show.j1])
     | succ kj12 =>
      have H := HA.out
      clear HA
      simp only [minstrelref11_Show.j1] at H
      have HC21 := am H
      clear H
      have q22 := cf8 BK175.out
      go_upto_if 28 with (fail)
      go_cut [3] (fun v3 wc => ∃ (kq : Nat) (x3_20 : ByteArray), v3 = .string x3_20 ∧ Aside0 (minstrelref11_Show.j2 kq x3_20 a0_0 a0_1 a0_2 a0_3 a0_4 a0_5 l0_6 l0_7 = some r) ∧ Aside0 (kq ≤ kj12) ∧ Aside0 (wc.heap[gb175]? = some (.cells #[.int .i64 a0_0, .int .i64 a0_1, .string a0_2, .int .u64 a0_3, .int .i64 a0_4, .int .i64 a0_5, (.slice A0_6 l0_6.length c0_6), (.slice A0_7 l0_7.length c0_7)] 90 (0, 0))) ∧ Aside0 (Below w.heap.size w wc))
      case first =>
       have H := HC21.out
       clear HC21
       by_cases c23 : a0_4 = 0
       ·rw [if_pos c23] at H
        have c23b0 : (a0_4 == 0) = true := beq_iff_eq.mpr c23
        have c23b1 : (a0_4 != 0) = false := bne_eq_false_iff_eq.mpr c23
        clear c23
        (first | rw [c23b0] | (simp only [i64_w, i32_w]; rw [c23b0]) | rw [c23b1] | (simp only [i64_w, i32_w]; rw [c23b1]) | skip)
        have H' := am H
        clear H
        go_wp2
        go_meet
        case rel => exact ⟨_, (x3_12), (by first | rfl | (simp; done) | (simp [*]; done)), H', ⟨by have := HJ3.out; have := HJ12.out; first | omega | exact Nat.le_refl _⟩, ⟨by (with_reducible repeat (first | refine blk_drewN ?_ _ | refine blk_drew ?_ | refine blk_alloc ?_ _)); exact BK175.out⟩, ⟨pB⟩⟩
       ·rw [if_neg c23] at H
        have c23b0 : (a0_4 == 0) = false := beq_eq_false_iff_ne.mpr c23
        have c23b1 : (a0_4 != 0) = true := bne_iff_ne.mpr c23
        (first | rw [c23b0] | (simp only [i64_w, i32_w]; rw [c23b0]) | rw [c23b1] | (simp only [i64_w, i32_w]; rw [c23b1]) | skip)
        by_cases c24 : x3_12.size + 1 ≤ 9223372036854775807
        ·rw [if_pos c24] at H
         have c24b0 := eq_true c24
         have c24b1 : decide (x3_12.size + 1 ≤ 9223372036854775807) = true := decide_eq_true c24
         try have c24b2 : (9223372036854775807 < x3_12.size + 1) = False := eq_false (Nat.not_lt.2 c24)
         replace H := Option.bind_eq_some_iff.mp H
         obtain ⟨t178, A250, H⟩ := H
         try dsimp only at H
         have A25 := am A250
         clear A250
         by_cases c26 : (x3_12 ++ (⟨#[32]⟩ : ByteArray)).size + t178.size ≤ 9223372036854775807
         ·rw [if_pos c26] at H
          have c26b0 := eq_true c26
          have c26b1 : decide ((x3_12 ++ (⟨#[32]⟩ : ByteArray)).size + t178.size ≤ 9223372036854775807) = true := decide_eq_true c26
          try have c26b2 : (9223372036854775807 < (x3_12 ++ (⟨#[32]⟩ : ByteArray)).size + t178.size) = False := eq_false (Nat.not_lt.2 c26)
          try have c26b3 : (9223372036854775807 < x3_12.size + 1 + t178.size) = False := eq_false (Nat.not_lt.2 (by have q_ := c26; simp only [ByteArray.size_append] at q_; exact q_))
          have H' := am H
          clear H
          have q27 := cf8 BK175.out
          go_wp2_with (first | ((with_reducible refine gate_callee (f := 73) rfl ?_); refine goesL_ (some 33) rfl rfl Tryd.func73 (by kernel_rfl) rfl #[.int .i64 a0_4] rfl pM ?_; (with_reducible refine (minstrelref11_signed.calls kj12 a0_4 t178 _ A25.out).mono ?_); rintro e w28 ⟨rfl, hb⟩; refine ⟨_, rfl, ?_⟩; replace BK175 := am (pkb BK175.out hb); replace HB := am (below_step pB hb); (try clear hb); (try clear hb2); (try clear hk); (try clear hi)))
          go_meet
          case rel => exact ⟨_, ((x3_12 ++ (⟨#[32]⟩ : ByteArray)) ++ t178), (by first | rfl | (simp; done) | (simp [*]; done)), H', ⟨by have := HJ3.out; have := HJ12.out; first | omega | exact Nat.le_refl _⟩, ⟨by (with_reducible repeat (first | refine blk_drewN ?_ _ | refine blk_drew ?_ | refine blk_alloc ?_ _)); exact BK175.out⟩, ⟨pB⟩⟩
         ·rw [if_neg c26] at H
          exact absurd H (by simp)
        ·rw [if_neg c24] at H
         exact absurd H (by simp)
      case rest =>
       clear HC21
       try clear c1
       try clear c2
       try clear p2
       try clear c3
       try clear c3b0
       try clear c3b1
       try clear c3b2
       try clear c4
       try clear c7
       try clear c9
       try clear c9b0
       try clear c9b1
       try clear c10
       try clear c10b0
       try clear c10b1
       try clear c10b2
       try clear c11
       try clear c11b0
       try clear c11b1
       try clear c11b2
       try clear c15
       try clear c15b0
       try clear c15b1
       try clear c16
       try clear c16b0
       try clear c16b1
       try clear c16b2
       try clear c18
       try clear c18b0
       try clear c18b1
       try clear c18b2
       try clear c23
       try clear c23b0
       try clear c23b1
       try clear c24
       try clear c24b0
       try clear c24b1
       try clear c24b2
       try clear c26
       try clear c26b0
       try clear c26b1
       try clear c26b2
       try clear q12 q14 q19 q22 q27 q6 q8
       try clear p2
       obtain ⟨kq, x3_20, rfl, HA, HJ20, BK175, HB⟩ := hcut
       cases kq with
       | zero => exact absurd HA.out (by simp [minstrelref11_Show.j2])
       | succ kj20 =>
        have H := HA.out
        clear HA
        simp only [minstrelref11_Show.j2] at H
        have H' := am H
        clear H
        go_wp2
        go_loopg [3, 4] kj20 (fun kq v3 v4 w' => ∃ (x3_4 : ByteArray) (x4_4 : Int), v3 = .string x3_4 ∧ v4 = .int .i64 x4_4 ∧ Aside0 (minstrelref11_Show.l0 kq x3_4 x4_4 a0_0 a0_1 a0_2 a0_3 a0_4 a0_5 l0_6 l0_7 = some r) ∧ Aside0 (kq ≤ kj20) ∧ Aside0 (w'.heap[gb175]? = some (.cells #[.int .i64 a0_0, .int .i64 a0_1, .string a0_2, .int .u64 a0_3, .int .i64 a0_4, .int .i64 a0_5, (.slice A0_6 l0_6.length c0_6), (.slice A0_7 l0_7.length c0_7)] 90 (0, 0))) ∧ Aside0 (Below w.heap.size w w'))
        case atStart => exact ⟨(x3_20), (0), (by first | rfl | (simp; done) | (simp [*]; done)), (by first | rfl | (simp; done) | (simp [*]; done)), H', ⟨Nat.le_refl _⟩, ⟨by (with_reducible repeat (first | refine blk_drewN ?_ _ | refine blk_drew ?_ | refine blk_alloc ?_ _)); exact BK175.out⟩, ⟨pB⟩⟩
        case round =>
         clear H'
         try clear c1
         try clear c2
         try clear p2
         try clear c3
         try clear c3b0
         try clear c3b1
         try clear c3b2
         try clear c4
         try clear c7
         try clear c9
         try clear c9b0
         try clear c9b1
         try clear c10
         try clear c10b0
         try clear c10b1
         try clear c10b2
         try clear c11
         try clear c11b0
         try clear c11b1
         try clear c11b2
         try clear c15
         try clear c15b0
         try clear c15b1
         try clear c16
         try clear c16b0
         try clear c16b1
         try clear c16b2
         try clear c18
         try clear c18b0
         try clear c18b1
         try clear c18b2
         try clear c23
         try clear c23b0
         try clear c23b1
         try clear c24
         try clear c24b0
         try clear c24b1
         try clear c24b2
         try clear c26
         try clear c26b0
         try clear c26b1
         try clear c26b2
         try clear q12 q14 q19 q22 q27 q6 q8
         try clear p2
         obtain ⟨x3_4, x4_4, rfl, rfl, HA, HK4, BK175, HB⟩ := hrel
         cases gk with
         | zero => exact absurd HA.out (by simp [minstrelref11_Show.l0])
         | succ k4 =>
          have H := HA.out
          clear HA
          simp only [minstrelref11_Show.l0] at H
          by_cases c29 : x4_4 < (l0_7.length : Int)
          ·rw [if_pos c29] at H
           have c29b0 : decide (x4_4 < (l0_7.length : Int)) = true := decide_eq_true c29
           clear c29
           by_cases c30 : x3_4.size + 1 ≤ 9223372036854775807
           ·rw [if_pos c30] at H
            have c30b0 := eq_true c30
            have c30b1 : decide (x3_4.size + 1 ≤ 9223372036854775807) = true := decide_eq_true c30
            try have c30b2 : (9223372036854775807 < x3_4.size + 1) = False := eq_false (Nat.not_lt.2 c30)
            by_cases c31 : 0 ≤ x4_4
            ·rw [if_pos c31] at H
             have c31b0 : decide (0 ≤ x4_4) = true := decide_eq_true c31
             clear c31
             replace H := Option.bind_eq_some_iff.mp H
             obtain ⟨t180, A320, H⟩ := H
             try dsimp only at H
             have A32 := am A320
             clear A320
             by_cases c33 : (x3_4 ++ (⟨#[32]⟩ : ByteArray)).size + t180.size ≤ 9223372036854775807
             ·rw [if_pos c33] at H
              have c33b0 := eq_true c33
              have c33b1 : decide ((x3_4 ++ (⟨#[32]⟩ : ByteArray)).size + t180.size ≤ 9223372036854775807) = true := decide_eq_true c33
              try have c33b2 : (9223372036854775807 < (x3_4 ++ (⟨#[32]⟩ : ByteArray)).size + t180.size) = False := eq_false (Nat.not_lt.2 c33)
              try have c33b3 : (9223372036854775807 < x3_4.size + 1 + t180.size) = False := eq_false (Nat.not_lt.2 (by have q_ := c33; simp only [ByteArray.size_append] at q_; exact q_))
              have H' := am H
              clear H
              have q34 := cf8 BK175.out
              have p179 : 0 ≤ (x4_4 : Int) := pD
              have q179 : x4_4 < (l0_7.length : Int) := pD
              obtain ⟨ad179, A179_6, c179_6, A179_7, c179_7, e179, hx179_0, hx179_1, hx179_2, hx179_3, hx179_4, hx179_5, hx179_6, hx179_7, hl179_6, hi179_6, hl179_7, hi179_7⟩ := at_T90 HR0_7.out x4_4 p179 q179
              cases e179
              replace hx179_0 := (HB.out.cell (World.block_lt_of_cell? w _ hx179_0)).trans hx179_0
              replace hx179_1 := (HB.out.cell (World.block_lt_of_cell? w _ hx179_1)).trans hx179_1
              replace hx179_2 := (HB.out.cell (World.block_lt_of_cell? w _ hx179_2)).trans hx179_2
              replace hx179_3 := (HB.out.cell (World.block_lt_of_cell? w _ hx179_3)).trans hx179_3
              replace hx179_4 := (HB.out.cell (World.block_lt_of_cell? w _ hx179_4)).trans hx179_4
              replace hx179_5 := (HB.out.cell (World.block_lt_of_cell? w _ hx179_5)).trans hx179_5
              replace hx179_6 := (HB.out.cell (World.block_lt_of_cell? w _ hx179_6)).trans hx179_6
              replace hx179_7 := (HB.out.cell (World.block_lt_of_cell? w _ hx179_7)).trans hx179_7
              have HR179_6 := am hi179_6
              have HC179_6 := am hl179_6
              clear hi179_6 hl179_6
              have HR179_7 := am hi179_7
              have HC179_7 := am hl179_7
              clear hi179_7 hl179_7
              replace p179 := eq_true p179
              replace q179 := eq_true q179
              go_wp2_with (first | ((with_reducible refine gate_callee (f := 48) rfl ?_); refine goesL_ (some 49) rfl rfl Tryd.func48 (by kernel_rfl) rfl #[.agg #[.int .i64 ((rd_T90 l0_7 x4_4).f0), .int .i64 ((rd_T90 l0_7 x4_4).f1), .string ((rd_T90 l0_7 x4_4).f2), .int .u64 ((rd_T90 l0_7 x4_4).f3), .int .i64 ((rd_T90 l0_7 x4_4).f4), .int .i64 ((rd_T90 l0_7 x4_4).f5), .slice A179_6 ((rd_T90 l0_7 x4_4).f6).length c179_6, .slice A179_7 ((rd_T90 l0_7 x4_4).f7).length c179_7]] rfl pM ?_; (with_reducible refine (ih k4 (by have := HJ3.out; have := HJ12.out; have := HJ20.out; have := HK4.out; omega) ((rd_T90 l0_7 x4_4).f0) ((rd_T90 l0_7 x4_4).f1) ((rd_T90 l0_7 x4_4).f2) ((rd_T90 l0_7 x4_4).f3) ((rd_T90 l0_7 x4_4).f4) ((rd_T90 l0_7 x4_4).f5) _ _ ((rd_T90 l0_7 x4_4).f6) _ _ ((rd_T90 l0_7 x4_4).f7) t180 _ ?side1 ?side2 ?side3 ?side4 A32.out).mono ?_); (case side1 => exact pC (Kd.C_below HR179_6.out HB.out)); (case side2 => exact HC179_6.out); (case side3 => exact pC (Kd.C_below HR179_7.out HB.out)); (case side4 => exact HC179_7.out); rintro e w35 ⟨rfl, hb⟩; refine ⟨_, rfl, ?_⟩; replace BK175 := am (pkb BK175.out hb); replace HB := am (below_step pB hb); (try clear hb); (try clear hb2); (try clear hk); (try clear hi)))
              go_roundg k4
              case measure => have := HJ3.out; have := HJ12.out; have := HJ20.out; have := HK4.out; omega
              case rel => exact ⟨((x3_4 ++ (⟨#[32]⟩ : ByteArray)) ++ t180), (wrap64 (x4_4 + 1)), (by first | rfl | (simp; done) | (simp [*]; done)), (by first | rfl | (simp; done) | (simp [*]; done)), H', ⟨by have := HJ3.out; have := HJ12.out; have := HJ20.out; have := HK4.out; omega⟩, ⟨by (with_reducible repeat (first | refine blk_drewN ?_ _ | refine blk_drew ?_ | refine blk_alloc ?_ _)); exact BK175.out⟩, ⟨pB⟩⟩
             ·rw [if_neg c33] at H
              exact absurd H (by simp)
            ·rw [if_neg c31] at H
             exact absurd H (by simp)
           ·rw [if_neg c30] at H
            exact absurd H (by simp)
          ·rw [if_neg c29] at H
           have c29b0 : decide (x4_4 < (l0_7.length : Int)) = false := decide_eq_false c29
           clear c29
           by_cases c36 : x3_4.size + 1 ≤ 9223372036854775807
           ·rw [if_pos c36] at H
            have c36b0 := eq_true c36
            have c36b1 : decide (x3_4.size + 1 ≤ 9223372036854775807) = true := decide_eq_true c36
            try have c36b2 : (9223372036854775807 < x3_4.size + 1) = False := eq_false (Nat.not_lt.2 c36)
            obtain rfl := Option.some.inj H
            have q37 := cf8 BK175.out
            go_wp2
            go_ret
            exact ⟨pE, pB⟩
           ·rw [if_neg c36] at H
            exact absurd H (by simp)
 ·rw [if_neg c3] at H
  exact absurd H (by simp)
end Go.Proofs.YtlhnkfheojlghaaDoor.Pr
end
section
namespace Go.Proofs.YtlhnkfheojlghaaDoor.Pr
open Go.RowKit Go.Proofs.YtlhnkfheojlghaaDoorW.PrintWords Go.Proofs.YtlhnkfheojlghaaDoorW.PrintLast Go.Proofs.YtlhnkfheojlghaaDoorW.PrintMore
attribute [local go_sem] max2_int min2_int max_two min_two max_three min_three max_four min_four
def minstrelref13_dec.f (k : Nat) (a0 : Int) : Option (ByteArray) := (minstrelref11_Show.f k a0 0 (⟨#[]⟩ : ByteArray) 0 0 0 ([] : List (S94)) ([] : List (S90))).bind fun t181 => ((minstrelref11_Show.f k a0 0 (⟨#[]⟩ : ByteArray) 0 0 0 ([] : List (S94)) ([] : List (S90))).bind fun t182 => (if 1 ≤ (wrap64 ((t182.size : Int) - 1)) then (if (wrap64 ((t182.size : Int) - 1)) ≤ (t181.size : Int) then (some (t181.extract 1 ((wrap64 ((t182.size : Int) - 1)) : Int).toNat)) else (none)) else (none)))
set_option maxHeartbeats 8000000 in
set_option maxRecDepth 100000 in
theorem minstrelref13_dec.calls (k : Nat) (a0 : Int) (r : ByteArray) (w : World) (h : minstrelref13_dec.f k a0 = some r) :
  Calls Tryd.prog 33 #[.int .i64 a0] w fun e w' => e = .returned (.string r) ∧ Below w.heap.size w w' := by
 have hu90 := Tryd.underlying90
 have HB := am (Below.refl w.heap.size w)
 have H : ((minstrelref11_Show.f k a0 0 (⟨#[]⟩ : ByteArray) 0 0 0 ([] : List (S94)) ([] : List (S90))).bind fun t181 => ((minstrelref11_Show.f k a0 0 (⟨#[]⟩ : ByteArray) 0 0 0 ([] : List (S94)) ([] : List (S90))).bind fun t182 => (if 1 ≤ (wrap64 ((t182.size : Int) - 1)) then (if (wrap64 ((t182.size : Int) - 1)) ≤ (t181.size : Int) then (some (t181.extract 1 ((wrap64 ((t182.size : Int) - 1)) : Int).toNat)) else (none)) else (none)))) = some r := h
 clear h
 replace H := Option.bind_eq_some_iff.mp H
 obtain ⟨t181, A20, H⟩ := H
 try dsimp only at H
 have A2 := am A20
 clear A20
 replace H := Option.bind_eq_some_iff.mp H
 obtain ⟨t182, A30, H⟩ := H
 try dsimp only at H
 have A3 := am A30
 clear A30
 by_cases c4 : 1 ≤ (wrap64 ((t182.size : Int) - 1))
 ·rw [if_pos c4] at H
  have c4b0 := eq_true c4
  have c4b1 : decide (1 ≤ (wrap64 ((t182.size : Int) - 1))) = true := decide_eq_true c4
  clear c4
  by_cases c5 : (wrap64 ((t182.size : Int) - 1)) ≤ (t181.size : Int)
  ·rw [if_pos c5] at H
   have c5b0 := eq_true c5
   have c5b1 : decide ((wrap64 ((t182.size : Int) - 1)) ≤ (t181.size : Int)) = true := decide_eq_true c5
   clear c5
   obtain ⟨ji6, hji6⟩ : ∃ j_ : ByteArray, (t181.extract 1 ((wrap64 ((t182.size : Int) - 1)) : Int).toNat) = j_ := ⟨_, rfl⟩
   replace H : (some ji6) = some r := by first | (rw [hji6] at H; exact H) | (simp only [hji6] at H ⊢; exact H) | exact H
   (try rw [hji6] at A2)
   (try rw [hji6] at A3)
   obtain rfl := Option.some.inj H
   go_enter Tryd.func33, Tryd.ntmps33
   go_wp2_with (first | ((with_reducible refine gate_callee (f := 48) rfl ?_); refine goesL_ (some 5) rfl rfl Tryd.func48 (by kernel_rfl) rfl #[.agg #[.int .i64 a0, .int .i64 0, .string (⟨#[]⟩ : ByteArray), .int .u64 0, .int .i64 0, .int .i64 0, .slice none 0 0, .slice none 0 0]] rfl pM ?_; (refine (minstrelref11_Show.calls k a0 0 (⟨#[]⟩ : ByteArray) 0 0 0 _ _ ([] : List (S94)) _ _ ([] : List (S90)) t181 _ ?side1 ?side2 ?side3 ?side4 A2.out).mono ?_); (case side1 => exact Kd.C_nil _ _); (case side2 => exact Nat.le_refl _); (case side3 => exact Kd.C_nil _ _); (case side4 => exact Nat.le_refl _); rintro e w7 ⟨rfl, hb⟩; refine ⟨_, rfl, ?_⟩; replace HB := am (below_step pB hb); (try clear hb); (try clear hb2); (try clear hk); (try clear hi)) | ((with_reducible refine gate_callee (f := 48) rfl ?_); refine goesL_ (some 8) rfl rfl Tryd.func48 (by kernel_rfl) rfl #[.agg #[.int .i64 a0, .int .i64 0, .string (⟨#[]⟩ : ByteArray), .int .u64 0, .int .i64 0, .int .i64 0, .slice none 0 0, .slice none 0 0]] rfl pM ?_; (refine (minstrelref11_Show.calls k a0 0 (⟨#[]⟩ : ByteArray) 0 0 0 _ _ ([] : List (S94)) _ _ ([] : List (S90)) t182 _ ?side1 ?side2 ?side3 ?side4 A3.out).mono ?_); (case side1 => exact Kd.C_nil _ _); (case side2 => exact Nat.le_refl _); (case side3 => exact Kd.C_nil _ _); (case side4 => exact Nat.le_refl _); rintro e w8 ⟨rfl, hb⟩; refine ⟨_, rfl, ?_⟩; replace HB := am (below_step pB hb); (try clear hb); (try clear hb2); (try clear hk); (try clear hi)))
   go_ret
   exact ⟨by first | rfl | (simp [errW_none, errW_some] <;> rfl) | (simp only [← hji6]; first | rfl | (simp [errW_none, errW_some] <;> rfl)) | (simp [*, errW_none, errW_some] <;> rfl), pB⟩
  ·rw [if_neg c5] at H
   exact absurd H (by simp)
 ·rw [if_neg c4] at H
  exact absurd H (by simp)
end Go.Proofs.YtlhnkfheojlghaaDoor.Pr
end
section
namespace Go.Proofs.YtlhnkfheojlghaaDoor.Pr
open Go.RowKit Go.Proofs.YtlhnkfheojlghaaDoorW.PrintWords Go.Proofs.YtlhnkfheojlghaaDoorW.PrintLast Go.Proofs.YtlhnkfheojlghaaDoorW.PrintMore
attribute [local go_sem] max2_int min2_int max_two min_two max_three min_three max_four min_four
mutual
def minstrelref13_Print.l0 : Nat → ByteArray → Int → Int → Int → List (S94) → List (S36) → List (S98) → List (S27) → Option (ByteArray)
 | 0, _, _, _, _, _, _, _, _ => none
 | k + 1, x3, x4, x184000, x184001, x184002, x184003, x184004, x184005 => if x4 < (x184003.length : Int) then (if 0 ≤ x4 then ((minstrelref13_dec.f k x4).bind fun t186 => (if x3.size + t186.size ≤ 9223372036854775807 then (if (x3 ++ t186).size + 1 ≤ 9223372036854775807 then ((minstrelref13_Name.f ((rd_T36 x184003 x4).f0)).bind fun t187 => (if ((x3 ++ t186) ++ (⟨#[32]⟩ : ByteArray)).size + t187.size ≤ 9223372036854775807 then (minstrelref13_Print.l1 k (((x3 ++ t186) ++ (⟨#[32]⟩ : ByteArray)) ++ t187) x4 0 x184000 x184001 x184002 x184003 x184004 x184005 ((rd_T36 x184003 x4).f0) ((rd_T36 x184003 x4).f1) ((rd_T36 x184003 x4).f2) ((rd_T36 x184003 x4).f3)) else (none))) else (none)) else (none))) else (none)) else (minstrelref13_Print.l2 k x3 0 x184000 x184001 x184002 x184003 x184004 x184005)
def minstrelref13_Print.l1 : Nat → ByteArray → Int → Int → Int → Int → List (S94) → List (S36) → List (S98) → List (S27) → Int → Int → Int → Int → Option (ByteArray)
 | 0, _, _, _, _, _, _, _, _, _, _, _, _, _ => none
 | k + 1, x3, x4, x6, x184000, x184001, x184002, x184003, x184004, x184005, x186000, x186001, x186002, x186003 => (minstrelref13_Is.f x186000).bind fun t188 => (if t188 = true then ((minstrelref13_Uses.f k x186000).bind fun t189 => (minstrelref13_Print.j2 k x3 x4 x6 (decide (x6 < (t189.size : Int))) x184000 x184001 x184002 x184003 x184004 x184005 x186000 x186001 x186002 x186003)) else (minstrelref13_Print.j2 k x3 x4 x6 false x184000 x184001 x184002 x184003 x184004 x184005 x186000 x186001 x186002 x186003))
def minstrelref13_Print.j2 : Nat → ByteArray → Int → Int → Bool → Int → Int → List (S94) → List (S36) → List (S98) → List (S27) → Int → Int → Int → Int → Option (ByteArray)
 | 0, _, _, _, _, _, _, _, _, _, _, _, _, _, _ => none
 | k + 1, x3, x4, x6, x39, x184000, x184001, x184002, x184003, x184004, x184005, x186000, x186001, x186002, x186003 => if x39 = true then (if x3.size + 1 ≤ 9223372036854775807 then ((minstrelref13_operand.f x186000 x186001 x186002 x186003 x6).bind fun t190 => ((minstrelref13_dec.f k t190).bind fun t191 => (if (x3 ++ (⟨#[32]⟩ : ByteArray)).size + t191.size ≤ 9223372036854775807 then (minstrelref13_Print.l1 k ((x3 ++ (⟨#[32]⟩ : ByteArray)) ++ t191) x4 (wrap64 (x6 + 1)) x184000 x184001 x184002 x184003 x184004 x184005 x186000 x186001 x186002 x186003) else (none)))) else (none)) else (if x3.size + 1 ≤ 9223372036854775807 then (minstrelref13_Print.l0 k (x3 ++ (⟨#[10]⟩ : ByteArray)) (wrap64 (x4 + 1)) x184000 x184001 x184002 x184003 x184004 x184005) else (none))
def minstrelref13_Print.l2 : Nat → ByteArray → Int → Int → Int → List (S94) → List (S36) → List (S98) → List (S27) → Option (ByteArray)
 | 0, _, _, _, _, _, _, _, _ => none
 | k + 1, x3, x7, x184000, x184001, x184002, x184003, x184004, x184005 => if x7 < (x184005.length : Int) then (if x3.size + 9 ≤ 9223372036854775807 then ((minstrelref13_dec.f k x7).bind fun t192 => (if (x3 ++ (⟨#[102, 117, 110, 99, 116, 105, 111, 110, 32]⟩ : ByteArray)).size + t192.size ≤ 9223372036854775807 then (if ((x3 ++ (⟨#[102, 117, 110, 99, 116, 105, 111, 110, 32]⟩ : ByteArray)) ++ t192).size + 1 ≤ 9223372036854775807 then (if 0 ≤ x7 then ((minstrelref13_Print.f k ((rd_T27 x184005 x7).f0) ((rd_T27 x184005 x7).f1) ((rd_T27 x184005 x7).f2) ((rd_T27 x184005 x7).f3) ((rd_T27 x184005 x7).f4) ((rd_T27 x184005 x7).f5)).bind fun t194 => (if (((x3 ++ (⟨#[102, 117, 110, 99, 116, 105, 111, 110, 32]⟩ : ByteArray)) ++ t192) ++ (⟨#[10]⟩ : ByteArray)).size + t194.size ≤ 9223372036854775807 then (minstrelref13_Print.l2 k ((((x3 ++ (⟨#[102, 117, 110, 99, 116, 105, 111, 110, 32]⟩ : ByteArray)) ++ t192) ++ (⟨#[10]⟩ : ByteArray)) ++ t194) (wrap64 (x7 + 1)) x184000 x184001 x184002 x184003 x184004 x184005) else (none))) else (none)) else (none)) else (none))) else (none)) else (some x3)
def minstrelref13_Print.f : Nat → Int → Int → List (S94) → List (S36) → List (S98) → List (S27) → Option (ByteArray)
 | 0, _, _, _, _, _, _ => none
 | k + 1, a0_0, a0_1, l0_2, l0_3, l0_4, l0_5 => minstrelref13_Print.l0 k (⟨#[]⟩ : ByteArray) 0 a0_0 a0_1 l0_2 l0_3 l0_4 l0_5
end
def minstrelref13_Print.T6 : Bool × List (List Nat × List Nat) := (true, [([], []), ([], []), ([1], [1]), ([0, 2], [0, 2]), ([3], [3]), ([], []), ([5], [5]), ([6, 2], [6]), ([4, 7], [4, 7]), ([8, 7, 0, 1, 2, 3, 4, 5, 6, 7, 8], [0, 8])])
def minstrelref13_Print.B6 : List Nat := [0, 0, 2, 7, 15, 0, 32, 102, 255, 511]
theorem minstrelref13_Print.tab6 : rtab .any (opsOf Tryd.f14 6) = minstrelref13_Print.T6 := by kernel_rfl
theorem minstrelref13_Print.bits6 : waitsOk minstrelref13_Print.T6.2 minstrelref13_Print.B6 = true := by kernel_rfl
def minstrelref13_Print.T15 : Bool × List (List Nat × List Nat) := (true, [([], []), ([0], [0]), ([], []), ([2], [2]), ([1, 3], [1, 3]), ([4], [4]), ([], []), ([6], [6]), ([], []), ([7, 8], [7, 8]), ([9], [9]), ([10, 3], [10]), ([5, 11], [5, 11]), ([12, 11, 0, 1, 2, 3, 4, 5, 6, 7, 8, 9, 10, 11, 12], [0, 12])])
def minstrelref13_Print.B15 : List Nat := [0, 1, 0, 4, 15, 31, 0, 64, 0, 448, 960, 1996, 4095, 8191]
theorem minstrelref13_Print.tab15 : rtab .any (opsOf Tryd.f14 15) = minstrelref13_Print.T15 := by kernel_rfl
theorem minstrelref13_Print.bits15 : waitsOk minstrelref13_Print.T15.2 minstrelref13_Print.B15 = true := by kernel_rfl
set_option maxHeartbeats 8000000 in
set_option maxRecDepth 100000 in
theorem minstrelref13_Print.calls (k : Nat) : ∀ (a0_0 : Int) (a0_1 : Int) (A0_2 : Option Addr) (c0_2 : Nat) (l0_2 : List (S94)) (A0_3 : Option Addr) (c0_3 : Nat) (l0_3 : List (S36)) (A0_4 : Option Addr) (c0_4 : Nat) (l0_4 : List (S98)) (A0_5 : Option Addr) (c0_5 : Nat) (l0_5 : List (S27)) (r : ByteArray) (w : World) (hr0_2 : Kd.C k94 w A0_2 l0_2.length l0_2) (hc0_2 : l0_2.length ≤ c0_2) (hr0_3 : Kd.C k36 w A0_3 l0_3.length l0_3) (hc0_3 : l0_3.length ≤ c0_3) (hr0_4 : Kd.C k98 w A0_4 l0_4.length l0_4) (hc0_4 : l0_4.length ≤ c0_4) (hr0_5 : Kd.C k27 w A0_5 l0_5.length l0_5) (hc0_5 : l0_5.length ≤ c0_5) (h : minstrelref13_Print.f k a0_0 a0_1 l0_2 l0_3 l0_4 l0_5 = some r),
  Calls Tryd.prog 14 #[.agg #[.int .i64 a0_0, .int .i64 a0_1, .slice A0_2 l0_2.length c0_2, .slice A0_3 l0_3.length c0_3, .slice A0_4 l0_4.length c0_4, .slice A0_5 l0_5.length c0_5]] w fun e w' => e = .returned (.string r) ∧ Below w.heap.size w w' := by
 induction k using Nat.strongRecOn with
 | _ k ih =>
 intro a0_0 a0_1 A0_2 c0_2 l0_2 A0_3 c0_3 l0_3 A0_4 c0_4 l0_4 A0_5 c0_5 l0_5 r w hr0_2 hc0_2 hr0_3 hc0_3 hr0_4 hc0_4 hr0_5 hc0_5 h
 cases k with
 | zero => exact absurd h (by simp [minstrelref13_Print.f])
 | succ k =>
 simp only [minstrelref13_Print.f] at h
 have hu27 := Tryd.underlying27
 have hu36 := Tryd.underlying36
 have HR0_2 := am hr0_2
 have HC0_2 := am hc0_2
 clear hr0_2 hc0_2
 have HR0_3 := am hr0_3
 have HC0_3 := am hc0_3
 clear hr0_3 hc0_3
 have HR0_4 := am hr0_4
 have HC0_4 := am hc0_4
 clear hr0_4 hc0_4
 have HR0_5 := am hr0_5
 have HC0_5 := am hc0_5
 clear hr0_5 hc0_5
 have HB := am (Below.refl w.heap.size w)
 have H : (minstrelref13_Print.l0 k (⟨#[]⟩ : ByteArray) 0 a0_0 a0_1 l0_2 l0_3 l0_4 l0_5) = some r := h
 clear h
 have H' := am H
 clear H
 go_enter Tryd.func14, Tryd.ntmps14
 go_wp2_with (first | ((with_reducible refine gate_dst (N := 1) rfl ?_); (try (refine gate_guard (by rfl) ?_; dsimp only)); refine box_event ?hg (N := 1) ?hd (cs := #[.int .i64 a0_0, .int .i64 a0_1, .slice A0_2 l0_2.length c0_2, .slice A0_3 l0_3.length c0_3, .slice A0_4 l0_4.length c0_4, .slice A0_5 l0_5.length c0_5]) (t := 27) ?hr ?_; (case hd => rfl); (case hg => rfl); (case hr => first | (go_simp; done) | (go_simp; rfl)); intro gb183 hg w2 hbox hb; have BK183 := am (hbox); have GW183 := am ((by rw [hg]; exact (below_size pB) : w.heap.size ≤ gb183)); have GE183 := am ((by rw [hg]; exact (below_size pB) : w.heap.size ≤ gb183)); replace HB := am (below_step pB hb); clear hb hbox hg))
 go_loopg [3, 4] k (fun kq v3 v4 w' => ∃ (x3_1 : ByteArray) (x4_1 : Int), v3 = .string x3_1 ∧ v4 = .int .i64 x4_1 ∧ Aside0 (minstrelref13_Print.l0 kq x3_1 x4_1 a0_0 a0_1 l0_2 l0_3 l0_4 l0_5 = some r) ∧ Aside0 (kq ≤ k) ∧ Aside0 (w'.heap[gb183]? = some (.cells #[.int .i64 a0_0, .int .i64 a0_1, (.slice A0_2 l0_2.length c0_2), (.slice A0_3 l0_3.length c0_3), (.slice A0_4 l0_4.length c0_4), (.slice A0_5 l0_5.length c0_5)] 27 (0, 0))) ∧ Aside0 (Below w.heap.size w w'))
 case atStart => exact ⟨((⟨#[]⟩ : ByteArray)), (0), (by first | rfl | (simp; done) | (simp [*]; done)), (by first | rfl | (simp; done) | (simp [*]; done)), H', ⟨Nat.le_refl _⟩, ⟨by (with_reducible repeat (first | refine blk_drewN ?_ _ | refine blk_drew ?_ | refine blk_alloc ?_ _)); exact BK183.out⟩, ⟨pB⟩⟩
 case round =>
  clear H'
  try clear c1
  try clear p2
  obtain ⟨x3_1, x4_1, rfl, rfl, HA, HK1, BK183, HB⟩ := hrel
  cases gk with
  | zero => exact absurd HA.out (by simp [minstrelref13_Print.l0])
  | succ k1 =>
   have H := HA.out
   clear HA
   simp only [minstrelref13_Print.l0] at H
   by_cases c3 : x4_1 < (l0_3.length : Int)
   ·rw [if_pos c3] at H
    have c3b0 : decide (x4_1 < (l0_3.length : Int)) = true := decide_eq_true c3
    clear c3
    by_cases c4 : 0 ≤ x4_1
    ·rw [if_pos c4] at H
     have c4b0 : decide (0 ≤ x4_1) = true := decide_eq_true c4
     clear c4
     replace H := Option.bind_eq_some_iff.mp H
     obtain ⟨t186, A50, H⟩ := H
     try dsimp only at H
     have A5 := am A50
     clear A50
     by_cases c6 : x3_1.size + t186.size ≤ 9223372036854775807
     ·rw [if_pos c6] at H
      have c6b0 := eq_true c6
      have c6b1 : decide (x3_1.size + t186.size ≤ 9223372036854775807) = true := decide_eq_true c6
      try have c6b2 : (9223372036854775807 < x3_1.size + t186.size) = False := eq_false (Nat.not_lt.2 c6)
      by_cases c7 : (x3_1 ++ t186).size + 1 ≤ 9223372036854775807
      ·rw [if_pos c7] at H
       have c7b0 := eq_true c7
       have c7b1 : decide ((x3_1 ++ t186).size + 1 ≤ 9223372036854775807) = true := decide_eq_true c7
       try have c7b2 : (9223372036854775807 < (x3_1 ++ t186).size + 1) = False := eq_false (Nat.not_lt.2 c7)
       try have c7b3 : (9223372036854775807 < x3_1.size + t186.size + 1) = False := eq_false (Nat.not_lt.2 (by have q_ := c7; simp only [ByteArray.size_append] at q_; exact q_))
       replace H := Option.bind_eq_some_iff.mp H
       obtain ⟨t187, A80, H⟩ := H
       try dsimp only at H
       have A8 := am A80
       clear A80
       by_cases c9 : ((x3_1 ++ t186) ++ (⟨#[32]⟩ : ByteArray)).size + t187.size ≤ 9223372036854775807
       ·rw [if_pos c9] at H
        have c9b0 := eq_true c9
        have c9b1 : decide (((x3_1 ++ t186) ++ (⟨#[32]⟩ : ByteArray)).size + t187.size ≤ 9223372036854775807) = true := decide_eq_true c9
        try have c9b2 : (9223372036854775807 < ((x3_1 ++ t186) ++ (⟨#[32]⟩ : ByteArray)).size + t187.size) = False := eq_false (Nat.not_lt.2 c9)
        try have c9b3 : (9223372036854775807 < x3_1.size + t186.size + 1 + t187.size) = False := eq_false (Nat.not_lt.2 (by have q_ := c9; simp only [ByteArray.size_append] at q_; exact q_))
        have H' := am H
        clear H
        have q10 := cf6 BK183.out
        have p184 : 0 ≤ (x4_1 : Int) := pD
        have q184 : x4_1 < (l0_3.length : Int) := pD
        obtain ⟨ad184, e184, hx184_0, hx184_1, hx184_2, hx184_3⟩ := at_T36 HR0_3.out x4_1 p184 q184
        cases e184
        replace hx184_0 := (HB.out.cell (World.block_lt_of_cell? w _ hx184_0)).trans hx184_0
        replace hx184_1 := (HB.out.cell (World.block_lt_of_cell? w _ hx184_1)).trans hx184_1
        replace hx184_2 := (HB.out.cell (World.block_lt_of_cell? w _ hx184_2)).trans hx184_2
        replace hx184_3 := (HB.out.cell (World.block_lt_of_cell? w _ hx184_3)).trans hx184_3
        replace p184 := eq_true p184
        replace q184 := eq_true q184
        try go_wp2_with (first | ((with_reducible refine gate_dst (N := 5) rfl ?_); (try (refine gate_guard (by rfl) ?_; dsimp only)); refine box_event ?hg (N := 5) ?hd (cs := #[.int .i64 0, .int .i64 0, .int .i64 0, .int .i64 0]) (t := 36) ?hr ?_; (case hd => rfl); (case hg => rfl); (case hr => first | (go_simp; done) | (go_simp; rfl)); intro gb185 hg w11 hbox hb; have BK185 := am (hbox); have GW185 := am ((by rw [hg]; exact (below_size pB) : w.heap.size ≤ gb185)); have GE185 := am ((by rw [hg]; exact (below_size pB) : w.heap.size ≤ gb185)); have NB183_185 := am ((by rw [hg]; exact Nat.ne_of_lt (pkl BK183.out) : gb183 ≠ gb185)); have NB185_183 := am ((by rw [hg]; exact Nat.ne_of_gt (pkl BK183.out) : gb185 ≠ gb183)); replace BK183 := am (pkb BK183.out hb); replace HB := am (below_step pB hb); clear hb hbox hg; have hnb12 := NB185_183.out; have hnc12 := NB183_185.out; have q13 := cf4 BK185.out))
        have n0_ : Aside0 (((((w11.setCell ⟨gb185, 0, none⟩ (.int .i64 ((rd_T36 l0_3 x4_1).f0))).setCell ⟨gb185, 1, none⟩ (.int .i64 ((rd_T36 l0_3 x4_1).f1))).setCell ⟨gb185, 2, none⟩ (.int .i64 ((rd_T36 l0_3 x4_1).f2))).setCell ⟨gb185, 3, none⟩ (.int .i64 ((rd_T36 l0_3 x4_1).f3))).heap[gb183]? = some (.cells #[.int .i64 a0_0, .int .i64 a0_1, .slice A0_2 l0_2.length c0_2, .slice (some ad184) l0_3.length c0_3, .slice A0_4 l0_4.length c0_4, .slice A0_5 l0_5.length c0_5] 27 (0, 0))) := ⟨by (with_reducible repeat (first | refine blk_drewN ?_ _ | refine blk_drew ?_ | refine blk_alloc ?_ _)); refine blk_far ?_ NB183_185.out _; (with_reducible repeat (first | refine blk_drewN ?_ _ | refine blk_drew ?_ | refine blk_alloc ?_ _)); refine blk_far ?_ NB183_185.out _; (with_reducible repeat (first | refine blk_drewN ?_ _ | refine blk_drew ?_ | refine blk_alloc ?_ _)); refine blk_far ?_ NB183_185.out _; (with_reducible repeat (first | refine blk_drewN ?_ _ | refine blk_drew ?_ | refine blk_alloc ?_ _)); refine blk_far ?_ NB183_185.out _; (with_reducible repeat (first | refine blk_drewN ?_ _ | refine blk_drew ?_ | refine blk_alloc ?_ _)); exact BK183.out⟩
        have n1_ : Aside0 (((((w11.setCell ⟨gb185, 0, none⟩ (.int .i64 ((rd_T36 l0_3 x4_1).f0))).setCell ⟨gb185, 1, none⟩ (.int .i64 ((rd_T36 l0_3 x4_1).f1))).setCell ⟨gb185, 2, none⟩ (.int .i64 ((rd_T36 l0_3 x4_1).f2))).setCell ⟨gb185, 3, none⟩ (.int .i64 ((rd_T36 l0_3 x4_1).f3))).heap[gb185]? = some (.cells #[.int .i64 ((rd_T36 l0_3 x4_1).f0), .int .i64 ((rd_T36 l0_3 x4_1).f1), .int .i64 ((rd_T36 l0_3 x4_1).f2), .int .i64 ((rd_T36 l0_3 x4_1).f3)] 36 (0, 0))) := ⟨by (with_reducible repeat (first | refine blk_drewN ?_ _ | refine blk_drew ?_ | refine blk_alloc ?_ _)); refine blk_put (cs := #[.int .i64 ((rd_T36 l0_3 x4_1).f0), .int .i64 ((rd_T36 l0_3 x4_1).f1), .int .i64 ((rd_T36 l0_3 x4_1).f2), .int .i64 0]) ?_ 3 _ rfl; (with_reducible repeat (first | refine blk_drewN ?_ _ | refine blk_drew ?_ | refine blk_alloc ?_ _)); refine blk_put (cs := #[.int .i64 ((rd_T36 l0_3 x4_1).f0), .int .i64 ((rd_T36 l0_3 x4_1).f1), .int .i64 0, .int .i64 0]) ?_ 2 _ rfl; (with_reducible repeat (first | refine blk_drewN ?_ _ | refine blk_drew ?_ | refine blk_alloc ?_ _)); refine blk_put (cs := #[.int .i64 ((rd_T36 l0_3 x4_1).f0), .int .i64 0, .int .i64 0, .int .i64 0]) ?_ 1 _ rfl; (with_reducible repeat (first | refine blk_drewN ?_ _ | refine blk_drew ?_ | refine blk_alloc ?_ _)); refine blk_put (cs := #[.int .i64 0, .int .i64 0, .int .i64 0, .int .i64 0]) ?_ 0 _ rfl; (with_reducible repeat (first | refine blk_drewN ?_ _ | refine blk_drew ?_ | refine blk_alloc ?_ _)); exact BK185.out⟩
        have n2_ : Aside0 (Below w.heap.size w ((((w11.setCell ⟨gb185, 0, none⟩ (.int .i64 ((rd_T36 l0_3 x4_1).f0))).setCell ⟨gb185, 1, none⟩ (.int .i64 ((rd_T36 l0_3 x4_1).f1))).setCell ⟨gb185, 2, none⟩ (.int .i64 ((rd_T36 l0_3 x4_1).f2))).setCell ⟨gb185, 3, none⟩ (.int .i64 ((rd_T36 l0_3 x4_1).f3)))) := ⟨pB⟩
        (try clear BK183); (try clear BK185); (try clear HB)
        generalize ((((w11.setCell ⟨gb185, 0, none⟩ (.int .i64 ((rd_T36 l0_3 x4_1).f0))).setCell ⟨gb185, 1, none⟩ (.int .i64 ((rd_T36 l0_3 x4_1).f1))).setCell ⟨gb185, 2, none⟩ (.int .i64 ((rd_T36 l0_3 x4_1).f2))).setCell ⟨gb185, 3, none⟩ (.int .i64 ((rd_T36 l0_3 x4_1).f3))) = w14 at n0_ n1_ n2_ ⊢
        have BK183 := n0_; have BK185 := n1_; have HB := n2_; clear n0_ n1_ n2_
        replace BK183 := am (blk_drew BK183.out)
        replace BK185 := am (blk_drew BK185.out)
        replace HB := am (below_drew1 HB.out)
        refine start_ (n := 10) (S := fun w' => w'.cell? ⟨gb185, 0, none⟩ = some (.int .i64 ((rd_T36 l0_3 x4_1).f0)) ∧ w'.cell? ⟨gb185, 1, none⟩ = some (.int .i64 ((rd_T36 l0_3 x4_1).f1)) ∧ w'.cell? ⟨gb185, 2, none⟩ = some (.int .i64 ((rd_T36 l0_3 x4_1).f2)) ∧ w'.cell? ⟨gb185, 3, none⟩ = some (.int .i64 ((rd_T36 l0_3 x4_1).f3))) (ds := []) (bm 10 0) (by kernel_rfl) rfl rfl ⟨cz0 BK185.out, cz1 BK185.out, cz2 BK185.out, cz3 BK185.out⟩ (fun hHeld => ?_); refine with_tabW minstrelref13_Print.tab6 minstrelref13_Print.bits6 (fun HT_ HW_ => ?_)
        generalize w14.drew = w15 at BK183 BK185 HB hHeld ⊢
        refine pure_ (i := 0) (N := some 20) (v := ?_) (a' := ?_) (bm 10 1) rfl rfl (any_of HT_.out (by kernel_rfl)) (fun _ _ _ h => h) (Or.inl ⟨by kernel_rfl, ?_⟩) ?_ ?_
        rotate_left
        ·intro w'
         go_simp
         with_reducible rfl
        rotate_left
        ·exact pA
        refine pure_ (i := 1) (N := some 21) (v := ?_) (a' := ?_) (bm 10 3) rfl rfl (any_of HT_.out (by kernel_rfl)) (fun _ _ _ h => h) (Or.inl ⟨by kernel_rfl, ?_⟩) ?_ ?_
        rotate_left
        ·intro w'
         go_simp
         with_reducible rfl
        rotate_left
        ·exact pA
        refine pure_ (i := 5) (N := some 25) (v := ?_) (a' := ?_) (bm 10 35) rfl rfl (any_of HT_.out (by kernel_rfl)) (fun _ _ _ h => h) (Or.inl ⟨by kernel_rfl, ?_⟩) ?_ ?_
        rotate_left
        ·intro w'
         go_simp
         with_reducible rfl
        rotate_left
        ·exact pA
        refine take_ (i := 6) (N := some 26) (v := ?_) (a' := ?_) (bm 10 99) rfl rfl (take_ofW HT_.out HW_.out (by kernel_rfl)) (fun _ _ _ h => h) (Or.inl ⟨by kernel_rfl, ?_⟩) hHeld ?_ ?_
        rotate_left
        ·rintro w' ⟨s0, s1, s2, s3⟩
         go_simp
         with_reducible rfl
        rotate_left
        ·exact pA
        refine one_ (i := 2) (N := some 22) (bm 10 103) rfl rfl (one_of HT_.out (by kernel_rfl)) (by decide) (fun K hK => ?_)
        refine goes_ Tryd.func33 (by kernel_rfl) rfl #[.int .i64 x4_1] (by rfl) rfl rfl pM ?_
        with_reducible refine (minstrelref13_dec.calls k1 x4_1 t186 _ A5.out).mono ?_
        rintro e w16 ⟨rfl, hb⟩
        refine ⟨_, rfl, ?_⟩
        have n0_ := am (pkb BK183.out hb)
        have n1_ := am (pkb BK185.out hb)
        have n2_ := am (below_step pB hb)
        clear BK183 BK185 HB; have BK183 := n0_; have BK185 := n1_; have HB := n2_; clear n0_ n1_ n2_; (try clear hb); (try clear hb2); (try clear hk); (try clear hi)
        refine hK.out _ _ ⟨cz0 BK185.out, cz1 BK185.out, cz2 BK185.out, cz3 BK185.out⟩ (fun hHeld => ?_)
        clear hK K
        refine norm_ (a' := ?_) ?_ ?_
        rotate_left
        ·show Act.put _ (some 22) _ = _
         exact pA
        refine pure_ (i := 3) (N := some 23) (v := ?_) (a' := ?_) (bm 10 111) rfl rfl (any_of HT_.out (by kernel_rfl)) (fun _ _ _ h => h) (Or.inl ⟨by kernel_rfl, ?_⟩) ?_ ?_
        rotate_left
        ·intro w'
         go_simp
         with_reducible rfl
        rotate_left
        ·exact pA
        refine pure_ (i := 4) (N := some 24) (v := ?_) (a' := ?_) (bm 10 127) rfl rfl (any_of HT_.out (by kernel_rfl)) (fun _ _ _ h => h) (Or.inl ⟨by kernel_rfl, ?_⟩) ?_ ?_
        rotate_left
        ·intro w'
         go_simp
         with_reducible rfl
        rotate_left
        ·exact pA
        refine one_ (i := 7) (N := some 27) (bm 10 255) rfl rfl (one_of HT_.out (by kernel_rfl)) (by decide) (fun K hK => ?_)
        refine goes_ Tryd.func18 (by kernel_rfl) rfl #[.int .i64 ((rd_T36 l0_3 x4_1).f0)] (by rfl) rfl rfl pM ?_
        with_reducible refine (minstrelref13_Name.calls ((rd_T36 l0_3 x4_1).f0) t187 _ A8.out).mono ?_
        rintro e w17 ⟨rfl, hb⟩
        refine ⟨_, rfl, ?_⟩
        have n0_ := am (pkb BK183.out hb)
        have n1_ := am (pkb BK185.out hb)
        have n2_ := am (below_step pB hb)
        clear BK183 BK185 HB; have BK183 := n0_; have BK185 := n1_; have HB := n2_; clear n0_ n1_ n2_; (try clear hb); (try clear hb2); (try clear hk); (try clear hi)
        refine hK.out _ _ ⟨cz0 BK185.out, cz1 BK185.out, cz2 BK185.out, cz3 BK185.out⟩ (fun hHeld => ?_)
        clear hK K
        refine norm_ (a' := ?_) ?_ ?_
        rotate_left
        ·show Act.put _ (some 27) _ = _
         exact pA
        refine pure_ (i := 8) (N := some 28) (v := ?_) (a' := ?_) (bm 10 511) rfl rfl (any_of HT_.out (by kernel_rfl)) (fun _ _ _ h => h) (Or.inl ⟨by kernel_rfl, ?_⟩) ?_ ?_
        rotate_left
        ·intro w'
         go_simp
         with_reducible rfl
        rotate_left
        ·exact pA
        refine pure_ (i := 9) (N := some 3) (v := ?_) (a' := ?_) (bm 10 1023) rfl rfl (any_of HT_.out (by kernel_rfl)) (fun _ _ _ h => h) (Or.inl ⟨by kernel_rfl, ?_⟩) ?_ ?_
        rotate_left
        ·intro w'
         go_simp
         with_reducible rfl
        rotate_left
        ·exact pA
        refine done_ (done_of HT_.out (by kernel_rfl)) ?_
        try go_wp2
        go_loopg [3, 6] k1 (fun kq v3 v6 w' => ∃ (x3_2 : ByteArray) (x6_2 : Int), v3 = .string x3_2 ∧ v6 = .int .i64 x6_2 ∧ Aside0 (minstrelref13_Print.l1 kq x3_2 x4_1 x6_2 a0_0 a0_1 l0_2 l0_3 l0_4 l0_5 ((rd_T36 l0_3 x4_1).f0) ((rd_T36 l0_3 x4_1).f1) ((rd_T36 l0_3 x4_1).f2) ((rd_T36 l0_3 x4_1).f3) = some r) ∧ Aside0 (kq ≤ k1) ∧ Aside0 (w'.heap[gb183]? = some (.cells #[.int .i64 a0_0, .int .i64 a0_1, (.slice A0_2 l0_2.length c0_2), (.slice (some ad184) l0_3.length c0_3), (.slice A0_4 l0_4.length c0_4), (.slice A0_5 l0_5.length c0_5)] 27 (0, 0))) ∧ Aside0 (w'.heap[gb185]? = some (.cells #[.int .i64 ((rd_T36 l0_3 x4_1).f0), .int .i64 ((rd_T36 l0_3 x4_1).f1), .int .i64 ((rd_T36 l0_3 x4_1).f2), .int .i64 ((rd_T36 l0_3 x4_1).f3)] 36 (0, 0))) ∧ Aside0 (Below w.heap.size w w'))
        case atStart => exact ⟨(((x3_1 ++ t186) ++ (⟨#[32]⟩ : ByteArray)) ++ t187), (0), (by first | rfl | (simp; done) | (simp [*]; done)), (by first | rfl | (simp; done) | (simp [*]; done)), H', ⟨Nat.le_refl _⟩, ⟨by (with_reducible repeat (first | refine blk_drewN ?_ _ | refine blk_drew ?_ | refine blk_alloc ?_ _)); exact BK183.out⟩, ⟨by (with_reducible repeat (first | refine blk_drewN ?_ _ | refine blk_drew ?_ | refine blk_alloc ?_ _)); exact BK185.out⟩, ⟨pB⟩⟩
        case round =>
         clear H'
         try clear c1
         try clear p1
         try clear q1
         try clear hx1
         try clear p2
         try clear c3
         try clear c3b0
         try clear c4
         try clear c4b0
         try clear c6
         try clear c6b0
         try clear c6b1
         try clear c6b2
         try clear c7
         try clear c7b0
         try clear c7b1
         try clear c7b2
         try clear c9
         try clear c9b0
         try clear c9b1
         try clear c9b2
         try clear c12
         try clear c14
         try clear q10 q13
         try clear hx184_0
         try clear hx184_1
         try clear hx184_2
         try clear hx184_3
         try clear p184
         try clear p2
         try clear q184
         obtain ⟨x3_2, x6_2, rfl, rfl, HA, HK2, BK183, BK185, HB⟩ := hrel
         cases gk with
         | zero => exact absurd HA.out (by simp [minstrelref13_Print.l1])
         | succ k2 =>
          have H := HA.out
          clear HA
          simp only [minstrelref13_Print.l1] at H
          have HC18 := am H
          clear H
          go_upto_region 8 with (fail)
          go_cut [39] (fun v39 wc => ∃ (kq : Nat) (x39_17 : Bool), v39 = .bool x39_17 ∧ Aside0 (minstrelref13_Print.j2 kq x3_2 x4_1 x6_2 x39_17 a0_0 a0_1 l0_2 l0_3 l0_4 l0_5 ((rd_T36 l0_3 x4_1).f0) ((rd_T36 l0_3 x4_1).f1) ((rd_T36 l0_3 x4_1).f2) ((rd_T36 l0_3 x4_1).f3) = some r) ∧ Aside0 (kq ≤ k2) ∧ Aside0 (wc.heap[gb183]? = some (.cells #[.int .i64 a0_0, .int .i64 a0_1, (.slice A0_2 l0_2.length c0_2), (.slice (some ad184) l0_3.length c0_3), (.slice A0_4 l0_4.length c0_4), (.slice A0_5 l0_5.length c0_5)] 27 (0, 0))) ∧ Aside0 (wc.heap[gb185]? = some (.cells #[.int .i64 ((rd_T36 l0_3 x4_1).f0), .int .i64 ((rd_T36 l0_3 x4_1).f1), .int .i64 ((rd_T36 l0_3 x4_1).f2), .int .i64 ((rd_T36 l0_3 x4_1).f3)] 36 (0, 0))) ∧ Aside0 (Below w.heap.size w wc))
          case first =>
           have H := HC18.out
           clear HC18
           replace H := Option.bind_eq_some_iff.mp H
           obtain ⟨t188, A190, H⟩ := H
           try dsimp only at H
           have A19 := am A190
           clear A190
           by_cases c20 : t188 = true
           ·subst c20
            rw [if_pos rfl] at H
            replace H := Option.bind_eq_some_iff.mp H
            obtain ⟨t189, A210, H⟩ := H
            try dsimp only at H
            have A21 := am A210
            clear A210
            have H' := am H
            clear H
            have hnb22 := NB185_183.out
            have hnc22 := NB183_185.out
            have q23 := cf4 BK185.out
            go_wp2_with (first | ((with_reducible refine gate_callee (f := 34) rfl ?_); refine goesL_ (some 31) rfl rfl Tryd.func34 (by kernel_rfl) rfl #[.int .i64 ((rd_T36 l0_3 x4_1).f0)] rfl pM ?_; (with_reducible refine (minstrelref13_Is.calls ((rd_T36 l0_3 x4_1).f0) true _ A19.out).mono ?_); rintro e w' ⟨rfl, ⟨nd, rfl⟩⟩; refine ⟨_, rfl, ?_⟩) | (go_at_call 16; (with_reducible refine (minstrelref13_Uses.calls k2 ((rd_T36 l0_3 x4_1).f0) t189 _ A21.out).mono ?_); rintro e w' ⟨rfl, ⟨nd, rfl⟩⟩))
            go_meet
            case rel => exact ⟨_, (decide (x6_2 < (t189.size : Int))), (by first | rfl | (simp; done) | (simp [*]; done)), H', ⟨by have := HK1.out; have := HK2.out; first | omega | exact Nat.le_refl _⟩, ⟨by (with_reducible repeat (first | refine blk_drewN ?_ _ | refine blk_drew ?_ | refine blk_alloc ?_ _)); exact BK183.out⟩, ⟨by (with_reducible repeat (first | refine blk_drewN ?_ _ | refine blk_drew ?_ | refine blk_alloc ?_ _)); exact BK185.out⟩, ⟨pB⟩⟩
           ·replace c20 := Bool.eq_false_iff.mpr c20
            subst c20
            rw [if_neg (show ¬ (false = true) by decide)] at H
            have H' := am H
            clear H
            have hnb24 := NB185_183.out
            have hnc24 := NB183_185.out
            have q25 := cf4 BK185.out
            go_wp2_with (first | ((with_reducible refine gate_callee (f := 34) rfl ?_); refine goesL_ (some 31) rfl rfl Tryd.func34 (by kernel_rfl) rfl #[.int .i64 ((rd_T36 l0_3 x4_1).f0)] rfl pM ?_; (with_reducible refine (minstrelref13_Is.calls ((rd_T36 l0_3 x4_1).f0) false _ A19.out).mono ?_); rintro e w' ⟨rfl, ⟨nd, rfl⟩⟩; refine ⟨_, rfl, ?_⟩))
            go_meet
            case rel => exact ⟨_, (false), (by first | rfl | (simp; done) | (simp [*]; done)), H', ⟨by have := HK1.out; have := HK2.out; first | omega | exact Nat.le_refl _⟩, ⟨by (with_reducible repeat (first | refine blk_drewN ?_ _ | refine blk_drew ?_ | refine blk_alloc ?_ _)); exact BK183.out⟩, ⟨by (with_reducible repeat (first | refine blk_drewN ?_ _ | refine blk_drew ?_ | refine blk_alloc ?_ _)); exact BK185.out⟩, ⟨pB⟩⟩
          case rest =>
           clear HC18
           try clear c1
           try clear p1
           try clear q1
           try clear hx1
           try clear c2
           try clear p2
           try clear c3
           try clear c3b0
           try clear c4
           try clear c4b0
           try clear c6
           try clear c6b0
           try clear c6b1
           try clear c6b2
           try clear c7
           try clear c7b0
           try clear c7b1
           try clear c7b2
           try clear c9
           try clear c9b0
           try clear c9b1
           try clear c9b2
           try clear c12
           try clear c14
           try clear c18
           try clear p18
           try clear q18
           try clear hx18
           try clear c20
           try clear c22
           try clear c24
           try clear q10 q13 q23 q25
           try clear hx184_0
           try clear hx184_1
           try clear hx184_2
           try clear hx184_3
           try clear p1
           try clear p184
           try clear p2
           try clear q1
           try clear q184
           obtain ⟨kq, x39_17, rfl, HA, HJ17, BK183, BK185, HB⟩ := hcut
           cases kq with
           | zero => exact absurd HA.out (by simp [minstrelref13_Print.j2])
           | succ kj17 =>
            have H := HA.out
            clear HA
            simp only [minstrelref13_Print.j2] at H
            by_cases c26 : x39_17 = true
            ·subst c26
             rw [if_pos rfl] at H
             by_cases c27 : x3_2.size + 1 ≤ 9223372036854775807
             ·rw [if_pos c27] at H
              have c27b0 := eq_true c27
              have c27b1 : decide (x3_2.size + 1 ≤ 9223372036854775807) = true := decide_eq_true c27
              try have c27b2 : (9223372036854775807 < x3_2.size + 1) = False := eq_false (Nat.not_lt.2 c27)
              replace H := Option.bind_eq_some_iff.mp H
              obtain ⟨t190, A280, H⟩ := H
              try dsimp only at H
              have A28 := am A280
              clear A280
              replace H := Option.bind_eq_some_iff.mp H
              obtain ⟨t191, A290, H⟩ := H
              try dsimp only at H
              have A29 := am A290
              clear A290
              by_cases c30 : (x3_2 ++ (⟨#[32]⟩ : ByteArray)).size + t191.size ≤ 9223372036854775807
              ·rw [if_pos c30] at H
               have c30b0 := eq_true c30
               have c30b1 : decide ((x3_2 ++ (⟨#[32]⟩ : ByteArray)).size + t191.size ≤ 9223372036854775807) = true := decide_eq_true c30
               try have c30b2 : (9223372036854775807 < (x3_2 ++ (⟨#[32]⟩ : ByteArray)).size + t191.size) = False := eq_false (Nat.not_lt.2 c30)
               try have c30b3 : (9223372036854775807 < x3_2.size + 1 + t191.size) = False := eq_false (Nat.not_lt.2 (by have q_ := c30; simp only [ByteArray.size_append] at q_; exact q_))
               have H' := am H
               clear H
               have hnb31 := NB185_183.out
               have hnc31 := NB183_185.out
               have q32 := cf4 BK185.out
               go_wp2_with (first | ((with_reducible refine gate_callee (f := 35) rfl ?_); refine goesL_ (some 46) rfl rfl Tryd.func35 (by kernel_rfl) rfl #[.agg #[.int .i64 ((rd_T36 l0_3 x4_1).f0), .int .i64 ((rd_T36 l0_3 x4_1).f1), .int .i64 ((rd_T36 l0_3 x4_1).f2), .int .i64 ((rd_T36 l0_3 x4_1).f3)], .int .i64 x6_2] rfl pM ?_; (with_reducible refine (minstrelref13_operand.calls ((rd_T36 l0_3 x4_1).f0) ((rd_T36 l0_3 x4_1).f1) ((rd_T36 l0_3 x4_1).f2) ((rd_T36 l0_3 x4_1).f3) x6_2 t190 _ A28.out).mono ?_); rintro e w33 ⟨rfl, hb⟩; refine ⟨_, rfl, ?_⟩; replace BK183 := am (pkb BK183.out hb); replace BK185 := am (pkb BK185.out hb); replace HB := am (below_step pB hb); (try clear hb); (try clear hb2); (try clear hk); (try clear hi)) | ((with_reducible refine gate_callee (f := 33) rfl ?_); refine goesL_ (some 47) rfl rfl Tryd.func33 (by kernel_rfl) rfl #[.int .i64 t190] rfl pM ?_; (with_reducible refine (minstrelref13_dec.calls kj17 t190 t191 _ A29.out).mono ?_); rintro e w34 ⟨rfl, hb⟩; refine ⟨_, rfl, ?_⟩; replace BK183 := am (pkb BK183.out hb); replace BK185 := am (pkb BK185.out hb); replace HB := am (below_step pB hb); (try clear hb); (try clear hb2); (try clear hk); (try clear hi)))
               go_roundg kj17
               case measure => have := HK1.out; have := HK2.out; have := HJ17.out; omega
               case rel => exact ⟨((x3_2 ++ (⟨#[32]⟩ : ByteArray)) ++ t191), (wrap64 (x6_2 + 1)), (by first | rfl | (simp; done) | (simp [*]; done)), (by first | rfl | (simp; done) | (simp [*]; done)), H', ⟨by have := HK1.out; have := HK2.out; have := HJ17.out; omega⟩, ⟨by (with_reducible repeat (first | refine blk_drewN ?_ _ | refine blk_drew ?_ | refine blk_alloc ?_ _)); exact BK183.out⟩, ⟨by (with_reducible repeat (first | refine blk_drewN ?_ _ | refine blk_drew ?_ | refine blk_alloc ?_ _)); exact BK185.out⟩, ⟨pB⟩⟩
              ·rw [if_neg c30] at H
               exact absurd H (by simp)
             ·rw [if_neg c27] at H
              exact absurd H (by simp)
            ·replace c26 := Bool.eq_false_iff.mpr c26
             subst c26
             rw [if_neg (show ¬ (false = true) by decide)] at H
             by_cases c35 : x3_2.size + 1 ≤ 9223372036854775807
             ·rw [if_pos c35] at H
              have c35b0 := eq_true c35
              have c35b1 : decide (x3_2.size + 1 ≤ 9223372036854775807) = true := decide_eq_true c35
              try have c35b2 : (9223372036854775807 < x3_2.size + 1) = False := eq_false (Nat.not_lt.2 c35)
              have H' := am H
              clear H
              go_wp2
              go_roundg kj17
              case measure => have := HK1.out; have := HK2.out; have := HJ17.out; omega
              case rel => exact ⟨(x3_2 ++ (⟨#[10]⟩ : ByteArray)), (wrap64 (x4_1 + 1)), (by first | rfl | (simp; done) | (simp [*]; done)), (by first | rfl | (simp; done) | (simp [*]; done)), H', ⟨by have := HK1.out; have := HK2.out; have := HJ17.out; omega⟩, ⟨by (with_reducible repeat (first | refine blk_drewN ?_ _ | refine blk_drew ?_ | refine blk_alloc ?_ _)); exact BK183.out⟩, ⟨pB⟩⟩
             ·rw [if_neg c35] at H
              exact absurd H (by simp)
       ·rw [if_neg c9] at H
        exact absurd H (by simp)
      ·rw [if_neg c7] at H
       exact absurd H (by simp)
     ·rw [if_neg c6] at H
      exact absurd H (by simp)
    ·rw [if_neg c4] at H
     exact absurd H (by simp)
   ·rw [if_neg c3] at H
    have c3b0 : decide (x4_1 < (l0_3.length : Int)) = false := decide_eq_false c3
    clear c3
    have H' := am H
    clear H
    have q36 := cf6 BK183.out
    go_wp2
    go_loopg [3, 7] k1 (fun kq v3 v7 w' => ∃ (x3_2 : ByteArray) (x7_2 : Int), v3 = .string x3_2 ∧ v7 = .int .i64 x7_2 ∧ Aside0 (minstrelref13_Print.l2 kq x3_2 x7_2 a0_0 a0_1 l0_2 l0_3 l0_4 l0_5 = some r) ∧ Aside0 (kq ≤ k1) ∧ Aside0 (w'.heap[gb183]? = some (.cells #[.int .i64 a0_0, .int .i64 a0_1, (.slice A0_2 l0_2.length c0_2), (.slice A0_3 l0_3.length c0_3), (.slice A0_4 l0_4.length c0_4), (.slice A0_5 l0_5.length c0_5)] 27 (0, 0))) ∧ Aside0 (Below w.heap.size w w'))
    case atStart => exact ⟨(x3_1), (0), (by first | rfl | (simp; done) | (simp [*]; done)), (by first | rfl | (simp; done) | (simp [*]; done)), H', ⟨Nat.le_refl _⟩, ⟨by (with_reducible repeat (first | refine blk_drewN ?_ _ | refine blk_drew ?_ | refine blk_alloc ?_ _)); exact BK183.out⟩, ⟨pB⟩⟩
    case round =>
     clear H'
     try clear c1
     try clear p1
     try clear q1
     try clear hx1
     try clear c2
     try clear p2
     try clear c3
     try clear c3b0
     try clear c4
     try clear c4b0
     try clear c6
     try clear c6b0
     try clear c6b1
     try clear c6b2
     try clear p6
     try clear c7
     try clear c7b0
     try clear c7b1
     try clear c7b2
     try clear c9
     try clear c9b0
     try clear c9b1
     try clear c9b2
     try clear c12
     try clear c14
     try clear c18
     try clear p18
     try clear q18
     try clear hx18
     try clear c20
     try clear c22
     try clear c24
     try clear c26
     try clear c27
     try clear c27b0
     try clear c27b1
     try clear c27b2
     try clear c30
     try clear c30b0
     try clear c30b1
     try clear c30b2
     try clear c31
     try clear c33
     try clear c34
     try clear c35
     try clear c35b0
     try clear c35b1
     try clear c35b2
     try clear q10 q13 q23 q25 q32 q36
     try clear hx184_0
     try clear hx184_1
     try clear hx184_2
     try clear hx184_3
     try clear p1
     try clear p18
     try clear p184
     try clear p2
     try clear q1
     try clear q18
     try clear q184
     obtain ⟨x3_2, x7_2, rfl, rfl, HA, HK2, BK183, HB⟩ := hrel
     cases gk with
     | zero => exact absurd HA.out (by simp [minstrelref13_Print.l2])
     | succ k2 =>
      have H := HA.out
      clear HA
      simp only [minstrelref13_Print.l2] at H
      by_cases c37 : x7_2 < (l0_5.length : Int)
      ·rw [if_pos c37] at H
       have c37b0 : decide (x7_2 < (l0_5.length : Int)) = true := decide_eq_true c37
       clear c37
       by_cases c38 : x3_2.size + 9 ≤ 9223372036854775807
       ·rw [if_pos c38] at H
        have c38b0 := eq_true c38
        have c38b1 : decide (x3_2.size + 9 ≤ 9223372036854775807) = true := decide_eq_true c38
        try have c38b2 : (9223372036854775807 < x3_2.size + 9) = False := eq_false (Nat.not_lt.2 c38)
        replace H := Option.bind_eq_some_iff.mp H
        obtain ⟨t192, A390, H⟩ := H
        try dsimp only at H
        have A39 := am A390
        clear A390
        by_cases c40 : (x3_2 ++ (⟨#[102, 117, 110, 99, 116, 105, 111, 110, 32]⟩ : ByteArray)).size + t192.size ≤ 9223372036854775807
        ·rw [if_pos c40] at H
         have c40b0 := eq_true c40
         have c40b1 : decide ((x3_2 ++ (⟨#[102, 117, 110, 99, 116, 105, 111, 110, 32]⟩ : ByteArray)).size + t192.size ≤ 9223372036854775807) = true := decide_eq_true c40
         try have c40b2 : (9223372036854775807 < (x3_2 ++ (⟨#[102, 117, 110, 99, 116, 105, 111, 110, 32]⟩ : ByteArray)).size + t192.size) = False := eq_false (Nat.not_lt.2 c40)
         try have c40b3 : (9223372036854775807 < x3_2.size + 9 + t192.size) = False := eq_false (Nat.not_lt.2 (by have q_ := c40; simp only [ByteArray.size_append] at q_; exact q_))
         by_cases c41 : ((x3_2 ++ (⟨#[102, 117, 110, 99, 116, 105, 111, 110, 32]⟩ : ByteArray)) ++ t192).size + 1 ≤ 9223372036854775807
         ·rw [if_pos c41] at H
          have c41b0 := eq_true c41
          have c41b1 : decide (((x3_2 ++ (⟨#[102, 117, 110, 99, 116, 105, 111, 110, 32]⟩ : ByteArray)) ++ t192).size + 1 ≤ 9223372036854775807) = true := decide_eq_true c41
          try have c41b2 : (9223372036854775807 < ((x3_2 ++ (⟨#[102, 117, 110, 99, 116, 105, 111, 110, 32]⟩ : ByteArray)) ++ t192).size + 1) = False := eq_false (Nat.not_lt.2 c41)
          try have c41b3 : (9223372036854775807 < x3_2.size + 9 + t192.size + 1) = False := eq_false (Nat.not_lt.2 (by have q_ := c41; simp only [ByteArray.size_append] at q_; exact q_))
          by_cases c42 : 0 ≤ x7_2
          ·rw [if_pos c42] at H
           have c42b0 : decide (0 ≤ x7_2) = true := decide_eq_true c42
           clear c42
           replace H := Option.bind_eq_some_iff.mp H
           obtain ⟨t194, A430, H⟩ := H
           try dsimp only at H
           have A43 := am A430
           clear A430
           by_cases c44 : (((x3_2 ++ (⟨#[102, 117, 110, 99, 116, 105, 111, 110, 32]⟩ : ByteArray)) ++ t192) ++ (⟨#[10]⟩ : ByteArray)).size + t194.size ≤ 9223372036854775807
           ·rw [if_pos c44] at H
            have c44b0 := eq_true c44
            have c44b1 : decide ((((x3_2 ++ (⟨#[102, 117, 110, 99, 116, 105, 111, 110, 32]⟩ : ByteArray)) ++ t192) ++ (⟨#[10]⟩ : ByteArray)).size + t194.size ≤ 9223372036854775807) = true := decide_eq_true c44
            try have c44b2 : (9223372036854775807 < (((x3_2 ++ (⟨#[102, 117, 110, 99, 116, 105, 111, 110, 32]⟩ : ByteArray)) ++ t192) ++ (⟨#[10]⟩ : ByteArray)).size + t194.size) = False := eq_false (Nat.not_lt.2 c44)
            try have c44b3 : (9223372036854775807 < x3_2.size + 9 + t192.size + 1 + t194.size) = False := eq_false (Nat.not_lt.2 (by have q_ := c44; simp only [ByteArray.size_append] at q_; exact q_))
            have H' := am H
            clear H
            have q45 := cf6 BK183.out
            try go_wp2
            replace BK183 := am (blk_drew BK183.out)
            replace HB := am (below_drew1 HB.out)
            have p193 : 0 ≤ (x7_2 : Int) := pD
            have q193 : x7_2 < (l0_5.length : Int) := pD
            obtain ⟨ad193, A193_2, c193_2, A193_3, c193_3, A193_4, c193_4, A193_5, c193_5, e193, hx193_0, hx193_1, hx193_2, hx193_3, hx193_4, hx193_5, hl193_2, hi193_2, hl193_3, hi193_3, hl193_4, hi193_4, hl193_5, hi193_5⟩ := at_T27 HR0_5.out x7_2 p193 q193
            have hw193_5 := hx193_5
            have hw193_4 := hx193_4
            have hw193_3 := hx193_3
            have hw193_2 := hx193_2
            have hw193_1 := hx193_1
            have hw193_0 := hx193_0
            cases e193
            replace hx193_0 := (HB.out.cell (World.block_lt_of_cell? w _ hx193_0)).trans hx193_0
            replace hx193_1 := (HB.out.cell (World.block_lt_of_cell? w _ hx193_1)).trans hx193_1
            replace hx193_2 := (HB.out.cell (World.block_lt_of_cell? w _ hx193_2)).trans hx193_2
            replace hx193_3 := (HB.out.cell (World.block_lt_of_cell? w _ hx193_3)).trans hx193_3
            replace hx193_4 := (HB.out.cell (World.block_lt_of_cell? w _ hx193_4)).trans hx193_4
            replace hx193_5 := (HB.out.cell (World.block_lt_of_cell? w _ hx193_5)).trans hx193_5
            have HR193_2 := am hi193_2
            have HC193_2 := am hl193_2
            clear hi193_2 hl193_2
            have HR193_3 := am hi193_3
            have HC193_3 := am hl193_3
            clear hi193_3 hl193_3
            have HR193_4 := am hi193_4
            have HC193_4 := am hl193_4
            clear hi193_4 hl193_4
            have HR193_5 := am hi193_5
            have HC193_5 := am hl193_5
            clear hi193_5 hl193_5
            replace p193 := eq_true p193
            replace q193 := eq_true q193
            refine start_ (n := 14) (S := fun w' => w'.cell? ⟨gb183, 0, none⟩ = some (.int .i64 a0_0) ∧ w'.cell? ⟨gb183, 1, none⟩ = some (.int .i64 a0_1) ∧ w'.cell? ⟨gb183, 2, none⟩ = some (.slice A0_2 l0_2.length c0_2) ∧ w'.cell? ⟨gb183, 3, none⟩ = some (.slice A0_3 l0_3.length c0_3) ∧ w'.cell? ⟨gb183, 4, none⟩ = some (.slice A0_4 l0_4.length c0_4) ∧ w'.cell? ⟨gb183, 5, none⟩ = some (.slice (some ad193) l0_5.length c0_5) ∧ w'.cell? (ad193.add ((x7_2).toNat * 6)) = some (.int .i64 ((rd_T27 l0_5 x7_2).f0)) ∧ w'.cell? ⟨(ad193.add ((x7_2).toNat * 6)).block, (ad193.add ((x7_2).toNat * 6)).off + 1, none⟩ = some (.int .i64 ((rd_T27 l0_5 x7_2).f1)) ∧ w'.cell? ⟨(ad193.add ((x7_2).toNat * 6)).block, (ad193.add ((x7_2).toNat * 6)).off + 2, none⟩ = some (.slice A193_2 ((rd_T27 l0_5 x7_2).f2).length c193_2) ∧ w'.cell? ⟨(ad193.add ((x7_2).toNat * 6)).block, (ad193.add ((x7_2).toNat * 6)).off + 3, none⟩ = some (.slice A193_3 ((rd_T27 l0_5 x7_2).f3).length c193_3) ∧ w'.cell? ⟨(ad193.add ((x7_2).toNat * 6)).block, (ad193.add ((x7_2).toNat * 6)).off + 4, none⟩ = some (.slice A193_4 ((rd_T27 l0_5 x7_2).f4).length c193_4) ∧ w'.cell? ⟨(ad193.add ((x7_2).toNat * 6)).block, (ad193.add ((x7_2).toNat * 6)).off + 5, none⟩ = some (.slice A193_5 ((rd_T27 l0_5 x7_2).f5).length c193_5)) (ds := []) (bm 14 0) (by kernel_rfl) rfl rfl ⟨cz0 BK183.out, cz1 BK183.out, cz2 BK183.out, cz3 BK183.out, cz4 BK183.out, cz5 BK183.out, ((HB.out.cell (World.block_lt_of_cell? w _ hw193_0)).trans hw193_0), ((HB.out.cell (World.block_lt_of_cell? w _ hw193_1)).trans hw193_1), ((HB.out.cell (World.block_lt_of_cell? w _ hw193_2)).trans hw193_2), ((HB.out.cell (World.block_lt_of_cell? w _ hw193_3)).trans hw193_3), ((HB.out.cell (World.block_lt_of_cell? w _ hw193_4)).trans hw193_4), ((HB.out.cell (World.block_lt_of_cell? w _ hw193_5)).trans hw193_5)⟩ (fun hHeld => ?_); refine with_tabW minstrelref13_Print.tab15 minstrelref13_Print.bits15 (fun HT_ HW_ => ?_)
            generalize wr.drew = w46 at BK183 HB HR193_2 HR193_3 HR193_4 HR193_5 hx193_0 hx193_1 hx193_2 hx193_3 hx193_4 hx193_5 hHeld ⊢
            refine pure_ (i := 0) (N := some 58) (v := ?_) (a' := ?_) (bm 14 1) rfl rfl (any_of HT_.out (by kernel_rfl)) (fun _ _ _ h => h) (Or.inl ⟨by kernel_rfl, ?_⟩) ?_ ?_
            rotate_left
            ·intro w'
             go_simp
             with_reducible rfl
            rotate_left
            ·exact pA
            refine pure_ (i := 1) (N := some 59) (v := ?_) (a' := ?_) (bm 14 3) rfl rfl (any_of HT_.out (by kernel_rfl)) (fun _ _ _ h => h) (Or.inl ⟨by kernel_rfl, ?_⟩) ?_ ?_
            rotate_left
            ·intro w'
             go_simp
             with_reducible rfl
            rotate_left
            ·exact pA
            refine pure_ (i := 2) (N := some 60) (v := ?_) (a' := ?_) (bm 14 7) rfl rfl (any_of HT_.out (by kernel_rfl)) (fun _ _ _ h => h) (Or.inl ⟨by kernel_rfl, ?_⟩) ?_ ?_
            rotate_left
            ·intro w'
             go_simp
             with_reducible rfl
            rotate_left
            ·exact pA
            refine pure_ (i := 6) (N := some 64) (v := ?_) (a' := ?_) (bm 14 71) rfl rfl (any_of HT_.out (by kernel_rfl)) (fun _ _ _ h => h) (Or.inl ⟨by kernel_rfl, ?_⟩) ?_ ?_
            rotate_left
            ·intro w'
             go_simp
             with_reducible rfl
            rotate_left
            ·exact pA
            refine pure_ (i := 8) (N := some 66) (v := ?_) (a' := ?_) (bm 14 327) rfl rfl (any_of HT_.out (by kernel_rfl)) (fun _ _ _ h => h) (Or.inl ⟨by kernel_rfl, ?_⟩) ?_ ?_
            rotate_left
            ·intro w'
             go_simp
             with_reducible rfl
            rotate_left
            ·exact pA
            refine take_ (i := 7) (N := some 65) (v := ?_) (a' := ?_) (bm 14 455) rfl rfl (take_ofW HT_.out HW_.out (by kernel_rfl)) (fun _ _ _ h => h) (Or.inl ⟨by kernel_rfl, ?_⟩) hHeld ?_ ?_
            rotate_left
            ·rintro w' ⟨s0, s1, s2, s3, s4, s5, s6, s7, s8, s9, s10, s11⟩
             go_simp
             with_reducible rfl
            rotate_left
            ·exact pA
            refine pure_ (i := 9) (N := some 67) (v := ?_) (a' := ?_) (bm 14 967) rfl rfl (any_of HT_.out (by kernel_rfl)) (fun _ _ _ h => h) (Or.inl ⟨by kernel_rfl, ?_⟩) ?_ ?_
            rotate_left
            ·intro w'
             go_simp
             with_reducible rfl
            rotate_left
            ·exact pA
            refine take_ (i := 10) (N := some 68) (v := ?_) (a' := ?_) (bm 14 1991) rfl rfl (take_ofW HT_.out HW_.out (by kernel_rfl)) (fun _ _ _ h => h) (Or.inl ⟨by kernel_rfl, ?_⟩) hHeld ?_ ?_
            rotate_left
            ·rintro w' ⟨s0, s1, s2, s3, s4, s5, s6, s7, s8, s9, s10, s11⟩
             go_simp
             with_reducible rfl
            rotate_left
            ·exact pA
            refine one_ (i := 3) (N := some 61) (bm 14 1999) rfl rfl (one_of HT_.out (by kernel_rfl)) (by decide) (fun K hK => ?_)
            refine goes_ Tryd.func33 (by kernel_rfl) rfl #[.int .i64 x7_2] (by rfl) rfl rfl pM ?_
            with_reducible refine (minstrelref13_dec.calls k2 x7_2 t192 _ A39.out).mono ?_
            rintro e w47 ⟨rfl, hb⟩
            refine ⟨_, rfl, ?_⟩
            have n0_ := am (pkb BK183.out hb)
            have n1_ := am (below_step pB hb)
            clear BK183 HB; have BK183 := n0_; have HB := n1_; clear n0_ n1_; (try clear hb); (try clear hb2); (try clear hk); (try clear hi)
            refine hK.out _ _ ⟨cz0 BK183.out, cz1 BK183.out, cz2 BK183.out, cz3 BK183.out, cz4 BK183.out, cz5 BK183.out, ((HB.out.cell (World.block_lt_of_cell? w _ hw193_0)).trans hw193_0), ((HB.out.cell (World.block_lt_of_cell? w _ hw193_1)).trans hw193_1), ((HB.out.cell (World.block_lt_of_cell? w _ hw193_2)).trans hw193_2), ((HB.out.cell (World.block_lt_of_cell? w _ hw193_3)).trans hw193_3), ((HB.out.cell (World.block_lt_of_cell? w _ hw193_4)).trans hw193_4), ((HB.out.cell (World.block_lt_of_cell? w _ hw193_5)).trans hw193_5)⟩ (fun hHeld => ?_)
            clear hK K
            refine norm_ (a' := ?_) ?_ ?_
            rotate_left
            ·show Act.put _ (some 61) _ = _
             exact pA
            refine pure_ (i := 4) (N := some 62) (v := ?_) (a' := ?_) (bm 14 2015) rfl rfl (any_of HT_.out (by kernel_rfl)) (fun _ _ _ h => h) (Or.inl ⟨by kernel_rfl, ?_⟩) ?_ ?_
            rotate_left
            ·intro w'
             go_simp
             with_reducible rfl
            rotate_left
            ·exact pA
            refine pure_ (i := 5) (N := some 63) (v := ?_) (a' := ?_) (bm 14 2047) rfl rfl (any_of HT_.out (by kernel_rfl)) (fun _ _ _ h => h) (Or.inl ⟨by kernel_rfl, ?_⟩) ?_ ?_
            rotate_left
            ·intro w'
             go_simp
             with_reducible rfl
            rotate_left
            ·exact pA
            refine one_ (i := 11) (N := some 69) (bm 14 4095) rfl rfl (one_of HT_.out (by kernel_rfl)) (by decide) (fun K hK => ?_)
            refine goes_ Tryd.func14 (by kernel_rfl) rfl #[.agg #[.int .i64 ((rd_T27 l0_5 x7_2).f0), .int .i64 ((rd_T27 l0_5 x7_2).f1), .slice A193_2 ((rd_T27 l0_5 x7_2).f2).length c193_2, .slice A193_3 ((rd_T27 l0_5 x7_2).f3).length c193_3, .slice A193_4 ((rd_T27 l0_5 x7_2).f4).length c193_4, .slice A193_5 ((rd_T27 l0_5 x7_2).f5).length c193_5]] (by rfl) rfl rfl pM ?_
            with_reducible refine (ih k2 (by have := HK1.out; have := HK2.out; omega) ((rd_T27 l0_5 x7_2).f0) ((rd_T27 l0_5 x7_2).f1) _ _ ((rd_T27 l0_5 x7_2).f2) _ _ ((rd_T27 l0_5 x7_2).f3) _ _ ((rd_T27 l0_5 x7_2).f4) _ _ ((rd_T27 l0_5 x7_2).f5) t194 _ ?side1 ?side2 ?side3 ?side4 ?side5 ?side6 ?side7 ?side8 A43.out).mono ?_
            (case side1 => exact pC (Kd.C_below HR193_2.out HB.out))
            (case side2 => exact HC193_2.out)
            (case side3 => exact pC (Kd.C_below HR193_3.out HB.out))
            (case side4 => exact HC193_3.out)
            (case side5 => exact pC (Kd.C_below HR193_4.out HB.out))
            (case side6 => exact HC193_4.out)
            (case side7 => exact pC (Kd.C_below HR193_5.out HB.out))
            (case side8 => exact HC193_5.out)
            rintro e w48 ⟨rfl, hb⟩
            refine ⟨_, rfl, ?_⟩
            have n0_ := am (pkb BK183.out hb)
            have n1_ := am (below_step pB hb)
            clear BK183 HB; have BK183 := n0_; have HB := n1_; clear n0_ n1_; (try clear hb); (try clear hb2); (try clear hk); (try clear hi)
            refine hK.out _ _ ⟨cz0 BK183.out, cz1 BK183.out, cz2 BK183.out, cz3 BK183.out, cz4 BK183.out, cz5 BK183.out, ((HB.out.cell (World.block_lt_of_cell? w _ hw193_0)).trans hw193_0), ((HB.out.cell (World.block_lt_of_cell? w _ hw193_1)).trans hw193_1), ((HB.out.cell (World.block_lt_of_cell? w _ hw193_2)).trans hw193_2), ((HB.out.cell (World.block_lt_of_cell? w _ hw193_3)).trans hw193_3), ((HB.out.cell (World.block_lt_of_cell? w _ hw193_4)).trans hw193_4), ((HB.out.cell (World.block_lt_of_cell? w _ hw193_5)).trans hw193_5)⟩ (fun hHeld => ?_)
            clear hK K
            refine norm_ (a' := ?_) ?_ ?_
            rotate_left
            ·show Act.put _ (some 69) _ = _
             exact pA
            refine pure_ (i := 12) (N := some 70) (v := ?_) (a' := ?_) (bm 14 8191) rfl rfl (any_of HT_.out (by kernel_rfl)) (fun _ _ _ h => h) (Or.inl ⟨by kernel_rfl, ?_⟩) ?_ ?_
            rotate_left
            ·intro w'
             go_simp
             with_reducible rfl
            rotate_left
            ·exact pA
            refine pure_ (i := 13) (N := some 3) (v := ?_) (a' := ?_) (bm 14 16383) rfl rfl (any_of HT_.out (by kernel_rfl)) (fun _ _ _ h => h) (Or.inl ⟨by kernel_rfl, ?_⟩) ?_ ?_
            rotate_left
            ·intro w'
             go_simp
             with_reducible rfl
            rotate_left
            ·exact pA
            refine done_ (done_of HT_.out (by kernel_rfl)) ?_
            try go_wp2
            go_roundg k2
            case measure => have := HK1.out; have := HK2.out; omega
            case rel => exact ⟨((((x3_2 ++ (⟨#[102, 117, 110, 99, 116, 105, 111, 110, 32]⟩ : ByteArray)) ++ t192) ++ (⟨#[10]⟩ : ByteArray)) ++ t194), (wrap64 (x7_2 + 1)), (by first | rfl | (simp; done) | (simp [*]; done)), (by first | rfl | (simp; done) | (simp [*]; done)), H', ⟨by have := HK1.out; have := HK2.out; omega⟩, ⟨by (with_reducible repeat (first | refine blk_drewN ?_ _ | refine blk_drew ?_ | refine blk_alloc ?_ _)); exact BK183.out⟩, ⟨pB⟩⟩
           ·rw [if_neg c44] at H
            exact absurd H (by simp)
          ·rw [if_neg c42] at H
           exact absurd H (by simp)
         ·rw [if_neg c41] at H
          exact absurd H (by simp)
        ·rw [if_neg c40] at H
         exact absurd H (by simp)
       ·rw [if_neg c38] at H
        exact absurd H (by simp)
      ·rw [if_neg c37] at H
       have c37b0 : decide (x7_2 < (l0_5.length : Int)) = false := decide_eq_false c37
       clear c37
       obtain rfl := Option.some.inj H
       have q49 := cf6 BK183.out
       go_wp2
       go_ret
       exact ⟨pE, pB⟩
end Go.Proofs.YtlhnkfheojlghaaDoor.Pr
end
section
namespace Go.Proofs.YtlhnkfheojlghaaDoor.Pr
open Go.RowKit Go.Proofs.YtlhnkfheojlghaaDoorW.PrintWords Go.Proofs.YtlhnkfheojlghaaDoorW.PrintLast Go.Proofs.YtlhnkfheojlghaaDoorW.PrintMore
attribute [local go_sem] max2_int min2_int max_two min_two max_three min_three max_four min_four
mutual
def minstrelref13_Own.l0 : Nat → List (S27) → Int → Int → Int → List (S94) → List (S36) → List (S98) → List (S27) → Option (Int × Int × (List (S94)) × (List (S36)) × (List (S98)) × (List (S27)))
 | 0, _, _, _, _, _, _, _, _ => none
 | k + 1, x3, x4, x196000, x196001, x196002, x196003, x196004, x196005 => if x4 < (x196005.length : Int) then (if 0 ≤ x4 then ((minstrelref13_Own.f k ((rd_T27 x196005 x4).f0) ((rd_T27 x196005 x4).f1) ((rd_T27 x196005 x4).f2) ((rd_T27 x196005 x4).f3) ((rd_T27 x196005 x4).f4) ((rd_T27 x196005 x4).f5)).bind fun bt219 => (if x3.length < 1256584717458 then (minstrelref13_Own.l0 k (x3 ++ [(⟨bt219.1, bt219.2.1, bt219.2.2.1, bt219.2.2.2.1, bt219.2.2.2.2.1, bt219.2.2.2.2.2⟩ : S27)]) (wrap64 (x4 + 1)) x196000 x196001 x196002 x196003 x196004 x196005) else (none))) else (none)) else (some (x196000, x196001, x196002, x196003, x196004, x3))
def minstrelref13_Own.f : Nat → Int → Int → List (S94) → List (S36) → List (S98) → List (S27) → Option (Int × Int × (List (S94)) × (List (S36)) × (List (S98)) × (List (S27)))
 | 0, _, _, _, _, _, _ => none
 | k + 1, a0_0, a0_1, l0_2, l0_3, l0_4, l0_5 => (some (([] : List (S94)) : List (S94))).bind fun y197 => (if y197.length + l0_2.length < 8796093022208 then ((some (([] : List (S36)) : List (S36))).bind fun y203 => (if y203.length + l0_3.length < 4398046511104 then ((some (([] : List (S98)) : List (S98))).bind fun y209 => (if y209.length + l0_4.length < 3518437208883 then (minstrelref13_Own.l0 k (([] : List (S27))) 0 a0_0 a0_1 (y197 ++ l0_2) (y203 ++ l0_3) (y209 ++ l0_4) l0_5) else (none))) else (none))) else (none))
end
def minstrelref13_Own.T1 : Bool × List (List Nat × List Nat) := (true, [([], []), ([], []), ([1], [1]), ([0, 2], [0, 2]), ([], []), ([], []), ([5], [5]), ([4, 6, 3], [4, 6]), ([], []), ([], []), ([9], [9]), ([8, 10, 7], [8, 10]), ([0, 1, 2, 3, 5, 6, 9, 10], []), ([12, 3, 11, 0, 1, 2, 3, 5, 6, 9, 10], [3, 12]), ([0, 1, 2, 3, 4, 5, 6, 7, 9, 10, 12, 13], []), ([14, 7, 13, 0, 1, 2, 3, 4, 5, 6, 7, 9, 10, 12, 13], [7, 14]), ([0, 1, 2, 3, 4, 5, 6, 7, 8, 9, 10, 11, 12, 13, 14, 15], []), ([16, 11, 15, 0, 1, 2, 3, 4, 5, 6, 7, 8, 9, 10, 11, 12, 13, 14, 15], [11, 16])])
def minstrelref13_Own.B1 : List Nat := [0, 0, 2, 7, 0, 0, 32, 127, 0, 0, 512, 2047, 1647, 8191, 16383, 32767, 65535, 131071]
theorem minstrelref13_Own.tab1 : rtab .any (opsOf Tryd.f11 1) = minstrelref13_Own.T1 := by kernel_rfl
theorem minstrelref13_Own.bits1 : waitsOk minstrelref13_Own.T1.2 minstrelref13_Own.B1 = true := by kernel_rfl
set_option maxHeartbeats 8000000 in
set_option maxRecDepth 100000 in
theorem minstrelref13_Own.calls (k : Nat) : ∀ (a0_0 : Int) (a0_1 : Int) (A0_2 : Option Addr) (c0_2 : Nat) (l0_2 : List (S94)) (A0_3 : Option Addr) (c0_3 : Nat) (l0_3 : List (S36)) (A0_4 : Option Addr) (c0_4 : Nat) (l0_4 : List (S98)) (A0_5 : Option Addr) (c0_5 : Nat) (l0_5 : List (S27)) (r1 : Int) (r2 : Int) (r3 : List (S94)) (r4 : List (S36)) (r5 : List (S98)) (r6 : List (S27)) (w : World) (hr0_2 : Kd.C k94 w A0_2 l0_2.length l0_2) (hc0_2 : l0_2.length ≤ c0_2) (hr0_3 : Kd.C k36 w A0_3 l0_3.length l0_3) (hc0_3 : l0_3.length ≤ c0_3) (hr0_4 : Kd.C k98 w A0_4 l0_4.length l0_4) (hc0_4 : l0_4.length ≤ c0_4) (hr0_5 : Kd.C k27 w A0_5 l0_5.length l0_5) (hc0_5 : l0_5.length ≤ c0_5) (h : minstrelref13_Own.f k a0_0 a0_1 l0_2 l0_3 l0_4 l0_5 = some (r1, r2, r3, r4, r5, r6)),
  Calls Tryd.prog 11 #[.agg #[.int .i64 a0_0, .int .i64 a0_1, .slice A0_2 l0_2.length c0_2, .slice A0_3 l0_3.length c0_3, .slice A0_4 l0_4.length c0_4, .slice A0_5 l0_5.length c0_5]] w fun e w' => ∃ v2_ v3_ v4_ v5_ : Value, e = .returned (.agg #[.int .i64 r1, .int .i64 r2, v2_, v3_, v4_, v5_]) ∧ Kd.R k94 94 w' w.heap.size (fun _ => True) v2_ r3 ∧ Kd.R k36 36 w' w.heap.size (fun _ => True) v3_ r4 ∧ Kd.R k98 98 w' w.heap.size (fun _ => True) v4_ r5 ∧ Kd.R k27 27 w' w.heap.size (fun k_ => some k_ ≠ (v2_ : Value).ownBlock ∧ some k_ ≠ (v3_ : Value).ownBlock ∧ some k_ ≠ (v4_ : Value).ownBlock) v5_ r6 ∧ Below w.heap.size w w' := by
 induction k using Nat.strongRecOn with
 | _ k ih =>
 intro a0_0 a0_1 A0_2 c0_2 l0_2 A0_3 c0_3 l0_3 A0_4 c0_4 l0_4 A0_5 c0_5 l0_5 r1 r2 r3 r4 r5 r6 w hr0_2 hc0_2 hr0_3 hc0_3 hr0_4 hc0_4 hr0_5 hc0_5 h
 cases k with
 | zero => exact absurd h (by simp [minstrelref13_Own.f])
 | succ k =>
 simp only [minstrelref13_Own.f] at h
 have hu27 := Tryd.underlying27
 have HR0_2 := am hr0_2
 have HC0_2 := am hc0_2
 clear hr0_2 hc0_2
 have HR0_3 := am hr0_3
 have HC0_3 := am hc0_3
 clear hr0_3 hc0_3
 have HR0_4 := am hr0_4
 have HC0_4 := am hc0_4
 clear hr0_4 hc0_4
 have HR0_5 := am hr0_5
 have HC0_5 := am hc0_5
 clear hr0_5 hc0_5
 have HB := am (Below.refl w.heap.size w)
 have H : ((some (([] : List (S94)) : List (S94))).bind fun y197 => (if y197.length + l0_2.length < 8796093022208 then ((some (([] : List (S36)) : List (S36))).bind fun y203 => (if y203.length + l0_3.length < 4398046511104 then ((some (([] : List (S98)) : List (S98))).bind fun y209 => (if y209.length + l0_4.length < 3518437208883 then (minstrelref13_Own.l0 k (([] : List (S27))) 0 a0_0 a0_1 (y197 ++ l0_2) (y203 ++ l0_3) (y209 ++ l0_4) l0_5) else (none))) else (none))) else (none))) = some (r1, r2, r3, r4, r5, r6) := h
 clear h
 obtain ⟨y197, hy197⟩ : ∃ y_ : List (S94), y_ = (([] : List (S94))) := ⟨_, rfl⟩
 replace H : (if y197.length + l0_2.length < 8796093022208 then ((some (([] : List (S36)) : List (S36))).bind fun y203 => (if y203.length + l0_3.length < 4398046511104 then ((some (([] : List (S98)) : List (S98))).bind fun y209 => (if y209.length + l0_4.length < 3518437208883 then (minstrelref13_Own.l0 k (([] : List (S27))) 0 a0_0 a0_1 (y197 ++ l0_2) (y203 ++ l0_3) (y209 ++ l0_4) l0_5) else (none))) else (none))) else (none)) = some (r1, r2, r3, r4, r5, r6) := by first | (rw [hy197]; with_reducible exact H) | (have H2_ := (Option.bind_some _ _).symm.trans H; rw [hy197]; with_reducible exact H2_) | (have H2_ := (Option.bind_some _ _).symm.trans H; with_reducible exact H2_) | with_reducible exact H | (rw [hy197]; exact H) | exact H
 have Ny197 := am hy197
 clear hy197
 by_cases c2 : y197.length + l0_2.length < 8796093022208
 ·rw [if_pos c2] at H
  have LMc2 := am c2
  clear c2
  obtain ⟨y200, hy200⟩ : ∃ y_ : List (S94), y_ = (y197 ++ l0_2) := ⟨_, rfl⟩
  replace H : ((some (([] : List (S36)) : List (S36))).bind fun y203 => (if y203.length + l0_3.length < 4398046511104 then ((some (([] : List (S98)) : List (S98))).bind fun y209 => (if y209.length + l0_4.length < 3518437208883 then (minstrelref13_Own.l0 k (([] : List (S27))) 0 a0_0 a0_1 y200 (y203 ++ l0_3) (y209 ++ l0_4) l0_5) else (none))) else (none))) = some (r1, r2, r3, r4, r5, r6) := by first | (rw [hy200]; with_reducible exact H) | (have H2_ := (Option.bind_some _ _).symm.trans H; rw [hy200]; with_reducible exact H2_) | (have H2_ := (Option.bind_some _ _).symm.trans H; with_reducible exact H2_) | with_reducible exact H | (rw [hy200]; exact H) | exact H
  have Ny200 := am hy200
  clear hy200
  obtain ⟨y203, hy203⟩ : ∃ y_ : List (S36), y_ = (([] : List (S36))) := ⟨_, rfl⟩
  replace H : (if y203.length + l0_3.length < 4398046511104 then ((some (([] : List (S98)) : List (S98))).bind fun y209 => (if y209.length + l0_4.length < 3518437208883 then (minstrelref13_Own.l0 k (([] : List (S27))) 0 a0_0 a0_1 y200 (y203 ++ l0_3) (y209 ++ l0_4) l0_5) else (none))) else (none)) = some (r1, r2, r3, r4, r5, r6) := by first | (rw [hy203]; with_reducible exact H) | (have H2_ := (Option.bind_some _ _).symm.trans H; rw [hy203]; with_reducible exact H2_) | (have H2_ := (Option.bind_some _ _).symm.trans H; with_reducible exact H2_) | with_reducible exact H | (rw [hy203]; exact H) | exact H
  have Ny203 := am hy203
  clear hy203
  by_cases c3 : y203.length + l0_3.length < 4398046511104
  ·rw [if_pos c3] at H
   have LMc3 := am c3
   clear c3
   obtain ⟨y206, hy206⟩ : ∃ y_ : List (S36), y_ = (y203 ++ l0_3) := ⟨_, rfl⟩
   replace H : ((some (([] : List (S98)) : List (S98))).bind fun y209 => (if y209.length + l0_4.length < 3518437208883 then (minstrelref13_Own.l0 k (([] : List (S27))) 0 a0_0 a0_1 y200 y206 (y209 ++ l0_4) l0_5) else (none))) = some (r1, r2, r3, r4, r5, r6) := by first | (rw [hy206]; with_reducible exact H) | (have H2_ := (Option.bind_some _ _).symm.trans H; rw [hy206]; with_reducible exact H2_) | (have H2_ := (Option.bind_some _ _).symm.trans H; with_reducible exact H2_) | with_reducible exact H | (rw [hy206]; exact H) | exact H
   have Ny206 := am hy206
   clear hy206
   obtain ⟨y209, hy209⟩ : ∃ y_ : List (S98), y_ = (([] : List (S98))) := ⟨_, rfl⟩
   replace H : (if y209.length + l0_4.length < 3518437208883 then (minstrelref13_Own.l0 k (([] : List (S27))) 0 a0_0 a0_1 y200 y206 (y209 ++ l0_4) l0_5) else (none)) = some (r1, r2, r3, r4, r5, r6) := by first | (rw [hy209]; with_reducible exact H) | (have H2_ := (Option.bind_some _ _).symm.trans H; rw [hy209]; with_reducible exact H2_) | (have H2_ := (Option.bind_some _ _).symm.trans H; with_reducible exact H2_) | with_reducible exact H | (rw [hy209]; exact H) | exact H
   have Ny209 := am hy209
   clear hy209
   by_cases c4 : y209.length + l0_4.length < 3518437208883
   ·rw [if_pos c4] at H
    have LMc4 := am c4
    clear c4
    obtain ⟨y212, hy212⟩ : ∃ y_ : List (S98), y_ = (y209 ++ l0_4) := ⟨_, rfl⟩
    replace H : (minstrelref13_Own.l0 k (([] : List (S27))) 0 a0_0 a0_1 y200 y206 y212 l0_5) = some (r1, r2, r3, r4, r5, r6) := by first | (rw [hy212]; with_reducible exact H) | (have H2_ := (Option.bind_some _ _).symm.trans H; rw [hy212]; with_reducible exact H2_) | (have H2_ := (Option.bind_some _ _).symm.trans H; with_reducible exact H2_) | with_reducible exact H | (rw [hy212]; exact H) | exact H
    have Ny212 := am hy212
    clear hy212
    obtain ⟨y215, hy215⟩ : ∃ y_ : List (S27), y_ = (([] : List (S27))) := ⟨_, rfl⟩
    replace H : (minstrelref13_Own.l0 k y215 0 a0_0 a0_1 y200 y206 y212 l0_5) = some (r1, r2, r3, r4, r5, r6) := by first | (rw [hy215]; with_reducible exact H) | (have H2_ := (Option.bind_some _ _).symm.trans H; rw [hy215]; with_reducible exact H2_) | (have H2_ := (Option.bind_some _ _).symm.trans H; with_reducible exact H2_) | with_reducible exact H | (rw [hy215]; exact H) | exact H
    have Ny215 := am hy215
    clear hy215
    have H' := am H
    clear H
    go_enter Tryd.func11, Tryd.ntmps11
    try go_wp2_with (first | ((with_reducible refine gate_dst (N := 1) rfl ?_); refine box_event ?hg (N := 1) ?hd (cs := #[.int .i64 a0_0, .int .i64 a0_1, .slice A0_2 l0_2.length c0_2, .slice A0_3 l0_3.length c0_3, .slice A0_4 l0_4.length c0_4, .slice A0_5 l0_5.length c0_5]) (t := 27) ?hr ?_; (case hd => rfl); (case hg => rfl); (case hr => first | (go_simp; done) | (go_simp; rfl)); intro gb195 hg w5 hbox hb; have BK195 := am (hbox); have GW195 := am ((by rw [hg]; exact (below_size pB) : w.heap.size ≤ gb195)); have GE195 := am ((by rw [hg]; exact (below_size pB) : w.heap.size ≤ gb195)); replace HB := am (below_step pB hb); clear hb hbox hg) | ((with_reducible refine gate_dst (N := 2) rfl ?_); refine box_event ?hg (N := 2) ?hd (cs := #[.int .i64 0, .int .i64 0, .slice none 0 0, .slice none 0 0, .slice none 0 0, .slice none 0 0]) (t := 27) ?hr ?_; (case hd => rfl); (case hg => rfl); (case hr => first | (go_simp; done) | (go_simp; rfl)); intro gb196 hg w6 hbox hb; have BK196 := am (hbox); have GW196 := am ((by rw [hg]; exact (below_size pB) : w.heap.size ≤ gb196)); have GE196 := am ((by rw [hg]; exact (below_size pB) : w.heap.size ≤ gb196)); have NB195_196 := am ((by rw [hg]; exact Nat.ne_of_lt (pkl BK195.out) : gb195 ≠ gb196)); have NB196_195 := am ((by rw [hg]; exact Nat.ne_of_gt (pkl BK195.out) : gb196 ≠ gb195)); replace BK195 := am (pkb BK195.out hb); replace HB := am (below_step pB hb); clear hb hbox hg))
    replace BK195 := am (blk_drew BK195.out)
    replace BK196 := am (blk_drew BK196.out)
    replace HB := am (below_drew1 HB.out)
    refine start_ (n := 18) (S := fun w' => w'.cell? ⟨gb195, 0, none⟩ = some (.int .i64 a0_0) ∧ w'.cell? ⟨gb195, 1, none⟩ = some (.int .i64 a0_1) ∧ w'.cell? ⟨gb195, 2, none⟩ = some (.slice A0_2 l0_2.length c0_2) ∧ w'.cell? ⟨gb195, 3, none⟩ = some (.slice A0_3 l0_3.length c0_3) ∧ w'.cell? ⟨gb195, 4, none⟩ = some (.slice A0_4 l0_4.length c0_4) ∧ w'.cell? ⟨gb195, 5, none⟩ = some (.slice A0_5 l0_5.length c0_5)) (ds := [13, 15, 17]) (bm 18 0) (by kernel_rfl) rfl rfl ⟨cz0 BK195.out, cz1 BK195.out, cz2 BK195.out, cz3 BK195.out, cz4 BK195.out, cz5 BK195.out⟩ (fun hHeld => ?_); refine with_tabW minstrelref13_Own.tab1 minstrelref13_Own.bits1 (fun HT_ HW_ => ?_)
    generalize w6.drew = w7 at BK195 BK196 HB hHeld ⊢
    refine pure_ (i := 1) (N := some 6) (v := ?_) (a' := ?_) (bm 18 2) rfl rfl (any_of HT_.out (by kernel_rfl)) (fun _ _ _ h => h) (Or.inl ⟨by kernel_rfl, ?_⟩) ?_ ?_
    rotate_left
    ·intro w'
     go_simp
     with_reducible rfl
    rotate_left
    ·exact pA
    refine pure_ (i := 5) (N := some 10) (v := ?_) (a' := ?_) (bm 18 34) rfl rfl (any_of HT_.out (by kernel_rfl)) (fun _ _ _ h => h) (Or.inl ⟨by kernel_rfl, ?_⟩) ?_ ?_
    rotate_left
    ·intro w'
     go_simp
     with_reducible rfl
    rotate_left
    ·exact pA
    refine pure_ (i := 9) (N := some 14) (v := ?_) (a' := ?_) (bm 18 546) rfl rfl (any_of HT_.out (by kernel_rfl)) (fun _ _ _ h => h) (Or.inl ⟨by kernel_rfl, ?_⟩) ?_ ?_
    rotate_left
    ·intro w'
     go_simp
     with_reducible rfl
    rotate_left
    ·exact pA
    refine take_ (i := 2) (N := some 7) (v := ?_) (a' := ?_) (bm 18 550) rfl rfl (take_ofW HT_.out HW_.out (by kernel_rfl)) (fun _ _ _ h => h) (Or.inl ⟨by kernel_rfl, ?_⟩) hHeld ?_ ?_
    rotate_left
    ·rintro w' ⟨s0, s1, s2, s3, s4, s5⟩
     go_simp
     with_reducible rfl
    rotate_left
    ·exact pA
    refine take_ (i := 6) (N := some 11) (v := ?_) (a' := ?_) (bm 18 614) rfl rfl (take_ofW HT_.out HW_.out (by kernel_rfl)) (fun _ _ _ h => h) (Or.inl ⟨by kernel_rfl, ?_⟩) hHeld ?_ ?_
    rotate_left
    ·rintro w' ⟨s0, s1, s2, s3, s4, s5⟩
     go_simp
     with_reducible rfl
    rotate_left
    ·exact pA
    refine take_ (i := 10) (N := some 15) (v := ?_) (a' := ?_) (bm 18 1638) rfl rfl (take_ofW HT_.out HW_.out (by kernel_rfl)) (fun _ _ _ h => h) (Or.inl ⟨by kernel_rfl, ?_⟩) hHeld ?_ ?_
    rotate_left
    ·rintro w' ⟨s0, s1, s2, s3, s4, s5⟩
     go_simp
     with_reducible rfl
    rotate_left
    ·exact pA
    refine join_ (σ := Value × Value × Value × Value × Value) 6 (bm 18 6143) (fun s_ => [(5, s_.1), (8, s_.2.1), (9, s_.2.2.1), (12, s_.2.2.2.1), (13, s_.2.2.2.2), (17, .pointer (some ⟨gb195, 2, none⟩))]) (fun s_ w' => (w'.cell? ⟨gb195, 0, none⟩ = some (.int .i64 a0_0) ∧ w'.cell? ⟨gb195, 1, none⟩ = some (.int .i64 a0_1) ∧ w'.cell? ⟨gb195, 2, none⟩ = some (.slice A0_2 l0_2.length c0_2) ∧ w'.cell? ⟨gb195, 3, none⟩ = some (.slice A0_3 l0_3.length c0_3) ∧ w'.cell? ⟨gb195, 4, none⟩ = some (.slice A0_4 l0_4.length c0_4) ∧ w'.cell? ⟨gb195, 5, none⟩ = some (.slice A0_5 l0_5.length c0_5)) ∧ (Kd.R k94 94 w' w.heap.size (fun _ => True) s_.2.1 y200) ∧ (Kd.R k36 36 w' w.heap.size (fun _ => True) s_.2.2.2.1 y206) ∧ (Kd.R k98 98 w' w.heap.size (fun _ => True) s_.2.2.2.2 y209) ∧ (w'.heap[gb195]? = some (.cells #[.int .i64 a0_0, .int .i64 a0_1, .slice A0_2 l0_2.length c0_2, .slice A0_3 l0_3.length c0_3, .slice A0_4 l0_4.length c0_4, .slice A0_5 l0_5.length c0_5] 27 (0, 0))) ∧ (w'.heap[gb196]? = some (.cells #[.int .i64 0, .int .i64 0, .slice none 0 0, .slice none 0 0, .slice none 0 0, .slice none 0 0] 27 (0, 0))) ∧ (Below w.heap.size w w')) ?_ ?_
    rotate_left
    ·intro hJ0_3_4_7_8
     refine join_ (σ := Value × Value × Value × Value) 7 (bm 18 5887) (fun s_ => [(5, s_.1), (8, s_.2.1), (9, s_.2.2.1), (12, s_.2.2.2), (17, .pointer (some ⟨gb195, 2, none⟩))]) (fun s_ w' => (w'.cell? ⟨gb195, 0, none⟩ = some (.int .i64 a0_0) ∧ w'.cell? ⟨gb195, 1, none⟩ = some (.int .i64 a0_1) ∧ w'.cell? ⟨gb195, 2, none⟩ = some (.slice A0_2 l0_2.length c0_2) ∧ w'.cell? ⟨gb195, 3, none⟩ = some (.slice A0_3 l0_3.length c0_3) ∧ w'.cell? ⟨gb195, 4, none⟩ = some (.slice A0_4 l0_4.length c0_4) ∧ w'.cell? ⟨gb195, 5, none⟩ = some (.slice A0_5 l0_5.length c0_5)) ∧ (Kd.R k94 94 w' w.heap.size (fun _ => True) s_.2.1 y200) ∧ (Kd.R k36 36 w' w.heap.size (fun _ => True) s_.2.2.2 y206) ∧ (w'.heap[gb195]? = some (.cells #[.int .i64 a0_0, .int .i64 a0_1, .slice A0_2 l0_2.length c0_2, .slice A0_3 l0_3.length c0_3, .slice A0_4 l0_4.length c0_4, .slice A0_5 l0_5.length c0_5] 27 (0, 0))) ∧ (w'.heap[gb196]? = some (.cells #[.int .i64 0, .int .i64 0, .slice none 0 0, .slice none 0 0, .slice none 0 0, .slice none 0 0] 27 (0, 0))) ∧ (Below w.heap.size w w')) ?_ ?_
     rotate_left
     ·intro hJ0_3_4_7
      refine join_ (σ := Value × Value × Value × Value) 7 (bm 18 6015) (fun s_ => [(5, s_.1), (8, s_.2.1), (9, s_.2.2.1), (13, s_.2.2.2), (17, .pointer (some ⟨gb195, 2, none⟩))]) (fun s_ w' => (w'.cell? ⟨gb195, 0, none⟩ = some (.int .i64 a0_0) ∧ w'.cell? ⟨gb195, 1, none⟩ = some (.int .i64 a0_1) ∧ w'.cell? ⟨gb195, 2, none⟩ = some (.slice A0_2 l0_2.length c0_2) ∧ w'.cell? ⟨gb195, 3, none⟩ = some (.slice A0_3 l0_3.length c0_3) ∧ w'.cell? ⟨gb195, 4, none⟩ = some (.slice A0_4 l0_4.length c0_4) ∧ w'.cell? ⟨gb195, 5, none⟩ = some (.slice A0_5 l0_5.length c0_5)) ∧ (Kd.R k94 94 w' w.heap.size (fun _ => True) s_.2.1 y200) ∧ (Kd.R k36 36 w' w.heap.size (fun _ => True) s_.2.2.1 y203) ∧ (Kd.R k98 98 w' w.heap.size (fun _ => True) s_.2.2.2 y209) ∧ (w'.heap[gb195]? = some (.cells #[.int .i64 a0_0, .int .i64 a0_1, .slice A0_2 l0_2.length c0_2, .slice A0_3 l0_3.length c0_3, .slice A0_4 l0_4.length c0_4, .slice A0_5 l0_5.length c0_5] 27 (0, 0))) ∧ (w'.heap[gb196]? = some (.cells #[.int .i64 0, .int .i64 0, .slice none 0 0, .slice none 0 0, .slice none 0 0, .slice none 0 0] 27 (0, 0))) ∧ (Below w.heap.size w w')) ?_ ?_
      rotate_left
      ·intro hJ0_3_4_8
       refine join_ (σ := Value × Value × Value) 8 (bm 18 5759) (fun s_ => [(5, s_.1), (8, s_.2.1), (9, s_.2.2), (17, .pointer (some ⟨gb195, 2, none⟩))]) (fun s_ w' => (w'.cell? ⟨gb195, 0, none⟩ = some (.int .i64 a0_0) ∧ w'.cell? ⟨gb195, 1, none⟩ = some (.int .i64 a0_1) ∧ w'.cell? ⟨gb195, 2, none⟩ = some (.slice A0_2 l0_2.length c0_2) ∧ w'.cell? ⟨gb195, 3, none⟩ = some (.slice A0_3 l0_3.length c0_3) ∧ w'.cell? ⟨gb195, 4, none⟩ = some (.slice A0_4 l0_4.length c0_4) ∧ w'.cell? ⟨gb195, 5, none⟩ = some (.slice A0_5 l0_5.length c0_5)) ∧ (Kd.R k94 94 w' w.heap.size (fun _ => True) s_.2.1 y200) ∧ (Kd.R k36 36 w' w.heap.size (fun _ => True) s_.2.2 y203) ∧ (w'.heap[gb195]? = some (.cells #[.int .i64 a0_0, .int .i64 a0_1, .slice A0_2 l0_2.length c0_2, .slice A0_3 l0_3.length c0_3, .slice A0_4 l0_4.length c0_4, .slice A0_5 l0_5.length c0_5] 27 (0, 0))) ∧ (w'.heap[gb196]? = some (.cells #[.int .i64 0, .int .i64 0, .slice none 0 0, .slice none 0 0, .slice none 0 0, .slice none 0 0] 27 (0, 0))) ∧ (Below w.heap.size w w')) ?_ ?_
       rotate_left
       ·intro hJ0_3_4
        refine join_ (σ := Value × Value × Value) 8 (bm 18 5999) (fun s_ => [(5, s_.1), (8, s_.2.1), (13, s_.2.2), (17, .pointer (some ⟨gb195, 2, none⟩))]) (fun s_ w' => (w'.cell? ⟨gb195, 0, none⟩ = some (.int .i64 a0_0) ∧ w'.cell? ⟨gb195, 1, none⟩ = some (.int .i64 a0_1) ∧ w'.cell? ⟨gb195, 2, none⟩ = some (.slice A0_2 l0_2.length c0_2) ∧ w'.cell? ⟨gb195, 3, none⟩ = some (.slice A0_3 l0_3.length c0_3) ∧ w'.cell? ⟨gb195, 4, none⟩ = some (.slice A0_4 l0_4.length c0_4) ∧ w'.cell? ⟨gb195, 5, none⟩ = some (.slice A0_5 l0_5.length c0_5)) ∧ (Kd.R k94 94 w' w.heap.size (fun _ => True) s_.2.1 y200) ∧ (Kd.R k98 98 w' w.heap.size (fun _ => True) s_.2.2 y209) ∧ (w'.heap[gb195]? = some (.cells #[.int .i64 a0_0, .int .i64 a0_1, .slice A0_2 l0_2.length c0_2, .slice A0_3 l0_3.length c0_3, .slice A0_4 l0_4.length c0_4, .slice A0_5 l0_5.length c0_5] 27 (0, 0))) ∧ (w'.heap[gb196]? = some (.cells #[.int .i64 0, .int .i64 0, .slice none 0 0, .slice none 0 0, .slice none 0 0, .slice none 0 0] 27 (0, 0))) ∧ (Below w.heap.size w w')) ?_ ?_
        rotate_left
        ·intro hJ0_3_8
         refine join_ (σ := Value × Value × Value) 9 (bm 18 1911) (fun s_ => [(5, s_.1), (9, s_.2.1), (13, s_.2.2)]) (fun s_ w' => (w'.cell? ⟨gb195, 0, none⟩ = some (.int .i64 a0_0) ∧ w'.cell? ⟨gb195, 1, none⟩ = some (.int .i64 a0_1) ∧ w'.cell? ⟨gb195, 2, none⟩ = some (.slice A0_2 l0_2.length c0_2) ∧ w'.cell? ⟨gb195, 3, none⟩ = some (.slice A0_3 l0_3.length c0_3) ∧ w'.cell? ⟨gb195, 4, none⟩ = some (.slice A0_4 l0_4.length c0_4) ∧ w'.cell? ⟨gb195, 5, none⟩ = some (.slice A0_5 l0_5.length c0_5)) ∧ (Kd.R k94 94 w' w.heap.size (fun _ => True) s_.1 y197) ∧ (Kd.R k36 36 w' w.heap.size (fun _ => True) s_.2.1 y203) ∧ (Kd.R k98 98 w' w.heap.size (fun _ => True) s_.2.2 y209) ∧ (w'.heap[gb195]? = some (.cells #[.int .i64 a0_0, .int .i64 a0_1, .slice A0_2 l0_2.length c0_2, .slice A0_3 l0_3.length c0_3, .slice A0_4 l0_4.length c0_4, .slice A0_5 l0_5.length c0_5] 27 (0, 0))) ∧ (w'.heap[gb196]? = some (.cells #[.int .i64 0, .int .i64 0, .slice none 0 0, .slice none 0 0, .slice none 0 0, .slice none 0 0] 27 (0, 0))) ∧ (Below w.heap.size w w')) ?_ ?_
         rotate_left
         ·intro hJ0_4_8
          refine join_ (σ := Value × Value) 9 (bm 18 5743) (fun s_ => [(5, s_.1), (8, s_.2), (17, .pointer (some ⟨gb195, 2, none⟩))]) (fun s_ w' => (w'.cell? ⟨gb195, 0, none⟩ = some (.int .i64 a0_0) ∧ w'.cell? ⟨gb195, 1, none⟩ = some (.int .i64 a0_1) ∧ w'.cell? ⟨gb195, 2, none⟩ = some (.slice A0_2 l0_2.length c0_2) ∧ w'.cell? ⟨gb195, 3, none⟩ = some (.slice A0_3 l0_3.length c0_3) ∧ w'.cell? ⟨gb195, 4, none⟩ = some (.slice A0_4 l0_4.length c0_4) ∧ w'.cell? ⟨gb195, 5, none⟩ = some (.slice A0_5 l0_5.length c0_5)) ∧ (Kd.R k94 94 w' w.heap.size (fun _ => True) s_.2 y200) ∧ (w'.heap[gb195]? = some (.cells #[.int .i64 a0_0, .int .i64 a0_1, .slice A0_2 l0_2.length c0_2, .slice A0_3 l0_3.length c0_3, .slice A0_4 l0_4.length c0_4, .slice A0_5 l0_5.length c0_5] 27 (0, 0))) ∧ (w'.heap[gb196]? = some (.cells #[.int .i64 0, .int .i64 0, .slice none 0 0, .slice none 0 0, .slice none 0 0, .slice none 0 0] 27 (0, 0))) ∧ (Below w.heap.size w w')) ?_ ?_
          rotate_left
          ·intro hJ0_3
           refine join_ (σ := Value × Value) 10 (bm 18 1655) (fun s_ => [(5, s_.1), (9, s_.2)]) (fun s_ w' => (w'.cell? ⟨gb195, 0, none⟩ = some (.int .i64 a0_0) ∧ w'.cell? ⟨gb195, 1, none⟩ = some (.int .i64 a0_1) ∧ w'.cell? ⟨gb195, 2, none⟩ = some (.slice A0_2 l0_2.length c0_2) ∧ w'.cell? ⟨gb195, 3, none⟩ = some (.slice A0_3 l0_3.length c0_3) ∧ w'.cell? ⟨gb195, 4, none⟩ = some (.slice A0_4 l0_4.length c0_4) ∧ w'.cell? ⟨gb195, 5, none⟩ = some (.slice A0_5 l0_5.length c0_5)) ∧ (Kd.R k94 94 w' w.heap.size (fun _ => True) s_.1 y197) ∧ (Kd.R k36 36 w' w.heap.size (fun _ => True) s_.2 y203) ∧ (w'.heap[gb195]? = some (.cells #[.int .i64 a0_0, .int .i64 a0_1, .slice A0_2 l0_2.length c0_2, .slice A0_3 l0_3.length c0_3, .slice A0_4 l0_4.length c0_4, .slice A0_5 l0_5.length c0_5] 27 (0, 0))) ∧ (w'.heap[gb196]? = some (.cells #[.int .i64 0, .int .i64 0, .slice none 0 0, .slice none 0 0, .slice none 0 0, .slice none 0 0] 27 (0, 0))) ∧ (Below w.heap.size w w')) ?_ ?_
           rotate_left
           ·intro hJ0_4
            refine join_ (σ := Value × Value) 10 (bm 18 1895) (fun s_ => [(5, s_.1), (13, s_.2)]) (fun s_ w' => (w'.cell? ⟨gb195, 0, none⟩ = some (.int .i64 a0_0) ∧ w'.cell? ⟨gb195, 1, none⟩ = some (.int .i64 a0_1) ∧ w'.cell? ⟨gb195, 2, none⟩ = some (.slice A0_2 l0_2.length c0_2) ∧ w'.cell? ⟨gb195, 3, none⟩ = some (.slice A0_3 l0_3.length c0_3) ∧ w'.cell? ⟨gb195, 4, none⟩ = some (.slice A0_4 l0_4.length c0_4) ∧ w'.cell? ⟨gb195, 5, none⟩ = some (.slice A0_5 l0_5.length c0_5)) ∧ (Kd.R k94 94 w' w.heap.size (fun _ => True) s_.1 y197) ∧ (Kd.R k98 98 w' w.heap.size (fun _ => True) s_.2 y209) ∧ (w'.heap[gb195]? = some (.cells #[.int .i64 a0_0, .int .i64 a0_1, .slice A0_2 l0_2.length c0_2, .slice A0_3 l0_3.length c0_3, .slice A0_4 l0_4.length c0_4, .slice A0_5 l0_5.length c0_5] 27 (0, 0))) ∧ (w'.heap[gb196]? = some (.cells #[.int .i64 0, .int .i64 0, .slice none 0 0, .slice none 0 0, .slice none 0 0, .slice none 0 0] 27 (0, 0))) ∧ (Below w.heap.size w w')) ?_ ?_
            rotate_left
            ·intro hJ0_8
             refine join_ (σ := Value × Value) 10 (bm 18 1910) (fun s_ => [(9, s_.1), (13, s_.2)]) (fun s_ w' => (w'.cell? ⟨gb195, 0, none⟩ = some (.int .i64 a0_0) ∧ w'.cell? ⟨gb195, 1, none⟩ = some (.int .i64 a0_1) ∧ w'.cell? ⟨gb195, 2, none⟩ = some (.slice A0_2 l0_2.length c0_2) ∧ w'.cell? ⟨gb195, 3, none⟩ = some (.slice A0_3 l0_3.length c0_3) ∧ w'.cell? ⟨gb195, 4, none⟩ = some (.slice A0_4 l0_4.length c0_4) ∧ w'.cell? ⟨gb195, 5, none⟩ = some (.slice A0_5 l0_5.length c0_5)) ∧ (Kd.R k36 36 w' w.heap.size (fun _ => True) s_.1 y203) ∧ (Kd.R k98 98 w' w.heap.size (fun _ => True) s_.2 y209) ∧ (w'.heap[gb195]? = some (.cells #[.int .i64 a0_0, .int .i64 a0_1, .slice A0_2 l0_2.length c0_2, .slice A0_3 l0_3.length c0_3, .slice A0_4 l0_4.length c0_4, .slice A0_5 l0_5.length c0_5] 27 (0, 0))) ∧ (w'.heap[gb196]? = some (.cells #[.int .i64 0, .int .i64 0, .slice none 0 0, .slice none 0 0, .slice none 0 0, .slice none 0 0] 27 (0, 0))) ∧ (Below w.heap.size w w')) ?_ ?_
             rotate_left
             ·intro hJ4_8
              refine join_ (σ := Value) 11 (bm 18 1639) (fun s_ => [(5, s_)]) (fun s_ w' => (w'.cell? ⟨gb195, 0, none⟩ = some (.int .i64 a0_0) ∧ w'.cell? ⟨gb195, 1, none⟩ = some (.int .i64 a0_1) ∧ w'.cell? ⟨gb195, 2, none⟩ = some (.slice A0_2 l0_2.length c0_2) ∧ w'.cell? ⟨gb195, 3, none⟩ = some (.slice A0_3 l0_3.length c0_3) ∧ w'.cell? ⟨gb195, 4, none⟩ = some (.slice A0_4 l0_4.length c0_4) ∧ w'.cell? ⟨gb195, 5, none⟩ = some (.slice A0_5 l0_5.length c0_5)) ∧ (Kd.R k94 94 w' w.heap.size (fun _ => True) s_ y197) ∧ (w'.heap[gb195]? = some (.cells #[.int .i64 a0_0, .int .i64 a0_1, .slice A0_2 l0_2.length c0_2, .slice A0_3 l0_3.length c0_3, .slice A0_4 l0_4.length c0_4, .slice A0_5 l0_5.length c0_5] 27 (0, 0))) ∧ (w'.heap[gb196]? = some (.cells #[.int .i64 0, .int .i64 0, .slice none 0 0, .slice none 0 0, .slice none 0 0, .slice none 0 0] 27 (0, 0))) ∧ (Below w.heap.size w w')) ?_ ?_
              rotate_left
              ·intro hJ0
               refine join_ (σ := Value) 11 (bm 18 1654) (fun s_ => [(9, s_)]) (fun s_ w' => (w'.cell? ⟨gb195, 0, none⟩ = some (.int .i64 a0_0) ∧ w'.cell? ⟨gb195, 1, none⟩ = some (.int .i64 a0_1) ∧ w'.cell? ⟨gb195, 2, none⟩ = some (.slice A0_2 l0_2.length c0_2) ∧ w'.cell? ⟨gb195, 3, none⟩ = some (.slice A0_3 l0_3.length c0_3) ∧ w'.cell? ⟨gb195, 4, none⟩ = some (.slice A0_4 l0_4.length c0_4) ∧ w'.cell? ⟨gb195, 5, none⟩ = some (.slice A0_5 l0_5.length c0_5)) ∧ (Kd.R k36 36 w' w.heap.size (fun _ => True) s_ y203) ∧ (w'.heap[gb195]? = some (.cells #[.int .i64 a0_0, .int .i64 a0_1, .slice A0_2 l0_2.length c0_2, .slice A0_3 l0_3.length c0_3, .slice A0_4 l0_4.length c0_4, .slice A0_5 l0_5.length c0_5] 27 (0, 0))) ∧ (w'.heap[gb196]? = some (.cells #[.int .i64 0, .int .i64 0, .slice none 0 0, .slice none 0 0, .slice none 0 0, .slice none 0 0] 27 (0, 0))) ∧ (Below w.heap.size w w')) ?_ ?_
               rotate_left
               ·intro hJ4
                refine join_ (σ := Value) 11 (bm 18 1894) (fun s_ => [(13, s_)]) (fun s_ w' => (w'.cell? ⟨gb195, 0, none⟩ = some (.int .i64 a0_0) ∧ w'.cell? ⟨gb195, 1, none⟩ = some (.int .i64 a0_1) ∧ w'.cell? ⟨gb195, 2, none⟩ = some (.slice A0_2 l0_2.length c0_2) ∧ w'.cell? ⟨gb195, 3, none⟩ = some (.slice A0_3 l0_3.length c0_3) ∧ w'.cell? ⟨gb195, 4, none⟩ = some (.slice A0_4 l0_4.length c0_4) ∧ w'.cell? ⟨gb195, 5, none⟩ = some (.slice A0_5 l0_5.length c0_5)) ∧ (Kd.R k98 98 w' w.heap.size (fun _ => True) s_ y209) ∧ (w'.heap[gb195]? = some (.cells #[.int .i64 a0_0, .int .i64 a0_1, .slice A0_2 l0_2.length c0_2, .slice A0_3 l0_3.length c0_3, .slice A0_4 l0_4.length c0_4, .slice A0_5 l0_5.length c0_5] 27 (0, 0))) ∧ (w'.heap[gb196]? = some (.cells #[.int .i64 0, .int .i64 0, .slice none 0 0, .slice none 0 0, .slice none 0 0, .slice none 0 0] 27 (0, 0))) ∧ (Below w.heap.size w w')) ?_ ?_
                rotate_left
                ·intro hJ8
                 refine three_ (i := 0) (j := 4) (k := 8) (Ni := some 5) (Nj := some 9) (Nk := some 13) (bm 18 1639) (bm 18 1654) (bm 18 1894) rfl rfl rfl rfl rfl rfl (three_of HT_.out (by kernel_rfl)) (by decide) (by decide) (by decide) (fun K hK => ?_) (fun K hK => ?_) (fun K hK => ?_)
                 ·skip
                  refine Kd.R_lit_step k94 _ 94 ?hg (N := 5) ?hd (xs := ([] : List (S94))) (inner := []) (ok := fun _ => True) (okp := fun _ => True) ?hr ?hp (fun _ hk => hk) trivial (Below.refl _ _) (Nat.le_refl _) (by simp) ?_; (case hd => rfl); (case hg => rfl); (case hr => first | (go_simp; done) | (go_simp; rfl)); (case hp => exact (Reps.none _ _))
                  intro v198 w8 ho9 hb hg_ hnew_
                  clear hg_ hnew_
                  (first | rw [← Ny197.out] at ho9 | (simp only [Int.reduceToNat] at ho9; rw [← Ny197.out] at ho9))
                  have n0_ := am (Kd.R_lower ho9 (below_size pB))
                  have n1_ := am (pkb BK195.out hb)
                  have n2_ := am (pkb BK196.out hb)
                  have n3_ := am (below_step pB hb)
                  clear BK195 BK196 HB; have HO199 := n0_; have BK195 := n1_; have BK196 := n2_; have HB := n3_; clear n0_ n1_ n2_ n3_ hb ho9
                  refine hK.out _ _ ⟨cz0 BK195.out, cz1 BK195.out, cz2 BK195.out, cz3 BK195.out, cz4 BK195.out, cz5 BK195.out⟩ (fun hHeld => ?_)
                  clear hK K
                  refine norm_ (a' := ?_) ?_ ?_
                  rotate_left
                  ·show Act.put _ (some 5) _ = _
                   exact pA
                  exact norm_ (by first | (simp only [putAll, Act.put, List.setIfInBounds_toArray, List.set_cons_zero, List.set_cons_succ]; done) | (simp only [putAll, Act.put, List.setIfInBounds_toArray, List.set_cons_zero, List.set_cons_succ]; rfl)) (hJ0 (v198) _ ⟨hHeld, (pR HO199.out), (pK BK195.out), (pK BK196.out), pB⟩)
                 ·skip
                  refine Kd.R_lit_step k36 _ 36 ?hg (N := 9) ?hd (xs := ([] : List (S36))) (inner := []) (ok := fun _ => True) (okp := fun _ => True) ?hr ?hp (fun _ hk => hk) trivial (Below.refl _ _) (Nat.le_refl _) (by simp) ?_; (case hd => rfl); (case hg => rfl); (case hr => first | (go_simp; done) | (go_simp; rfl)); (case hp => exact (Reps.none _ _))
                  intro v204 w8 ho9 hb hg_ hnew_
                  clear hg_ hnew_
                  (first | rw [← Ny203.out] at ho9 | (simp only [Int.reduceToNat] at ho9; rw [← Ny203.out] at ho9))
                  have n0_ := am (Kd.R_lower ho9 (below_size pB))
                  have n1_ := am (pkb BK195.out hb)
                  have n2_ := am (pkb BK196.out hb)
                  have n3_ := am (below_step pB hb)
                  clear BK195 BK196 HB; have HO205 := n0_; have BK195 := n1_; have BK196 := n2_; have HB := n3_; clear n0_ n1_ n2_ n3_ hb ho9
                  refine hK.out _ _ ⟨cz0 BK195.out, cz1 BK195.out, cz2 BK195.out, cz3 BK195.out, cz4 BK195.out, cz5 BK195.out⟩ (fun hHeld => ?_)
                  clear hK K
                  refine norm_ (a' := ?_) ?_ ?_
                  rotate_left
                  ·show Act.put _ (some 9) _ = _
                   exact pA
                  exact norm_ (by first | (simp only [putAll, Act.put, List.setIfInBounds_toArray, List.set_cons_zero, List.set_cons_succ]; done) | (simp only [putAll, Act.put, List.setIfInBounds_toArray, List.set_cons_zero, List.set_cons_succ]; rfl)) (hJ4 (v204) _ ⟨hHeld, (pR HO205.out), (pK BK195.out), (pK BK196.out), pB⟩)
                 ·skip
                  refine Kd.R_lit_step k98 _ 98 ?hg (N := 13) ?hd (xs := ([] : List (S98))) (inner := []) (ok := fun _ => True) (okp := fun _ => True) ?hr ?hp (fun _ hk => hk) trivial (Below.refl _ _) (Nat.le_refl _) (by simp) ?_; (case hd => rfl); (case hg => rfl); (case hr => first | (go_simp; done) | (go_simp; rfl)); (case hp => exact (Reps.none _ _))
                  intro v210 w8 ho9 hb hg_ hnew_
                  clear hg_ hnew_
                  (first | rw [← Ny209.out] at ho9 | (simp only [Int.reduceToNat] at ho9; rw [← Ny209.out] at ho9))
                  have n0_ := am (Kd.R_lower ho9 (below_size pB))
                  have n1_ := am (pkb BK195.out hb)
                  have n2_ := am (pkb BK196.out hb)
                  have n3_ := am (below_step pB hb)
                  clear BK195 BK196 HB; have HO211 := n0_; have BK195 := n1_; have BK196 := n2_; have HB := n3_; clear n0_ n1_ n2_ n3_ hb ho9
                  refine hK.out _ _ ⟨cz0 BK195.out, cz1 BK195.out, cz2 BK195.out, cz3 BK195.out, cz4 BK195.out, cz5 BK195.out⟩ (fun hHeld => ?_)
                  clear hK K
                  refine norm_ (a' := ?_) ?_ ?_
                  rotate_left
                  ·show Act.put _ (some 13) _ = _
                   exact pA
                  exact norm_ (by first | (simp only [putAll, Act.put, List.setIfInBounds_toArray, List.set_cons_zero, List.set_cons_succ]; done) | (simp only [putAll, Act.put, List.setIfInBounds_toArray, List.set_cons_zero, List.set_cons_succ]; rfl)) (hJ8 (v210) _ ⟨hHeld, (pR HO211.out), (pK BK195.out), (pK BK196.out), pB⟩)
                ·skip
                 rintro v210 w10 ⟨hS_, h0_, h1_, h2_, h3_⟩
                 have n0_ : Aside0 (Kd.R k98 98 w10 w.heap.size (fun _ => True) v210 y209) := ⟨h0_⟩
                 have n1_ : Aside0 (w10.heap[gb195]? = some (.cells #[.int .i64 a0_0, .int .i64 a0_1, .slice A0_2 l0_2.length c0_2, .slice A0_3 l0_3.length c0_3, .slice A0_4 l0_4.length c0_4, .slice A0_5 l0_5.length c0_5] 27 (0, 0))) := ⟨h1_⟩
                 have n2_ : Aside0 (w10.heap[gb196]? = some (.cells #[.int .i64 0, .int .i64 0, .slice none 0 0, .slice none 0 0, .slice none 0 0, .slice none 0 0] 27 (0, 0))) := ⟨h2_⟩
                 have n3_ : Aside0 (Below w.heap.size w w10) := ⟨h3_⟩
                 clear BK195 BK196 HB h0_ h1_ h2_ h3_; have HO211 := n0_; have BK195 := n1_; have BK196 := n2_; have HB := n3_; clear n0_ n1_ n2_ n3_
                 have hHeld : w10.cell? ⟨gb195, 0, none⟩ = some (.int .i64 a0_0) ∧ w10.cell? ⟨gb195, 1, none⟩ = some (.int .i64 a0_1) ∧ w10.cell? ⟨gb195, 2, none⟩ = some (.slice A0_2 l0_2.length c0_2) ∧ w10.cell? ⟨gb195, 3, none⟩ = some (.slice A0_3 l0_3.length c0_3) ∧ w10.cell? ⟨gb195, 4, none⟩ = some (.slice A0_4 l0_4.length c0_4) ∧ w10.cell? ⟨gb195, 5, none⟩ = some (.slice A0_5 l0_5.length c0_5) := hS_
                 refine norm_ (a' := ?_) ?_ ?_
                 rotate_left
                 ·exact pA2
                 refine two_ (i := 0) (j := 4) (Ni := some 5) (Nj := some 9) (bm 18 1895) (bm 18 1910) rfl rfl rfl rfl (two_of HT_.out (by kernel_rfl)) (by decide) (by decide) (fun K hK => ?_) (fun K hK => ?_)
                 ·skip
                  refine Kd.R_lit_step k94 _ 94 ?hg (N := 5) ?hd (xs := ([] : List (S94))) (inner := []) (ok := fun _ => True) (okp := fun _ => True) ?hr ?hp (fun _ hk => hk) trivial (Below.refl _ _) (Nat.le_refl _) (by simp) ?_; (case hd => rfl); (case hg => rfl); (case hr => first | (go_simp; done) | (go_simp; rfl)); (case hp => exact (Reps.none _ _))
                  intro v198 w11 ho12 hb hg_ hnew_
                  clear hg_ hnew_
                  (first | rw [← Ny197.out] at ho12 | (simp only [Int.reduceToNat] at ho12; rw [← Ny197.out] at ho12))
                  have n0_ := am (Kd.R_below (pR HO211.out) hb)
                  have n1_ := am (Kd.R_lower ho12 (below_size pB))
                  have n2_ := am (pkb BK195.out hb)
                  have n3_ := am (pkb BK196.out hb)
                  have n4_ := am (below_step pB hb)
                  clear HO211 BK195 BK196 HB; have HO211 := n0_; have HO199 := n1_; have BK195 := n2_; have BK196 := n3_; have HB := n4_; clear n0_ n1_ n2_ n3_ n4_ hb ho12
                  refine hK.out _ _ ⟨cz0 BK195.out, cz1 BK195.out, cz2 BK195.out, cz3 BK195.out, cz4 BK195.out, cz5 BK195.out⟩ (fun hHeld => ?_)
                  clear hK K
                  refine norm_ (a' := ?_) ?_ ?_
                  rotate_left
                  ·show Act.put _ (some 5) _ = _
                   exact pA
                  exact norm_ (by first | (simp only [putAll, Act.put, List.setIfInBounds_toArray, List.set_cons_zero, List.set_cons_succ]; done) | (simp only [putAll, Act.put, List.setIfInBounds_toArray, List.set_cons_zero, List.set_cons_succ]; rfl)) (hJ0_8 (v198, v210) _ ⟨hHeld, (pR HO199.out), (pR HO211.out), (pK BK195.out), (pK BK196.out), pB⟩)
                 ·skip
                  refine Kd.R_lit_step k36 _ 36 ?hg (N := 9) ?hd (xs := ([] : List (S36))) (inner := []) (ok := fun _ => True) (okp := fun _ => True) ?hr ?hp (fun _ hk => hk) trivial (Below.refl _ _) (Nat.le_refl _) (by simp) ?_; (case hd => rfl); (case hg => rfl); (case hr => first | (go_simp; done) | (go_simp; rfl)); (case hp => exact (Reps.none _ _))
                  intro v204 w11 ho12 hb hg_ hnew_
                  clear hg_ hnew_
                  (first | rw [← Ny203.out] at ho12 | (simp only [Int.reduceToNat] at ho12; rw [← Ny203.out] at ho12))
                  have n0_ := am (Kd.R_below (pR HO211.out) hb)
                  have n1_ := am (Kd.R_lower ho12 (below_size pB))
                  have n2_ := am (pkb BK195.out hb)
                  have n3_ := am (pkb BK196.out hb)
                  have n4_ := am (below_step pB hb)
                  clear HO211 BK195 BK196 HB; have HO211 := n0_; have HO205 := n1_; have BK195 := n2_; have BK196 := n3_; have HB := n4_; clear n0_ n1_ n2_ n3_ n4_ hb ho12
                  refine hK.out _ _ ⟨cz0 BK195.out, cz1 BK195.out, cz2 BK195.out, cz3 BK195.out, cz4 BK195.out, cz5 BK195.out⟩ (fun hHeld => ?_)
                  clear hK K
                  refine norm_ (a' := ?_) ?_ ?_
                  rotate_left
                  ·show Act.put _ (some 9) _ = _
                   exact pA
                  exact norm_ (by first | (simp only [putAll, Act.put, List.setIfInBounds_toArray, List.set_cons_zero, List.set_cons_succ]; done) | (simp only [putAll, Act.put, List.setIfInBounds_toArray, List.set_cons_zero, List.set_cons_succ]; rfl)) (hJ4_8 (v204, v210) _ ⟨hHeld, (pR HO205.out), (pR HO211.out), (pK BK195.out), (pK BK196.out), pB⟩)
               ·skip
                rintro v204 w10 ⟨hS_, h0_, h1_, h2_, h3_⟩
                have n0_ : Aside0 (Kd.R k36 36 w10 w.heap.size (fun _ => True) v204 y203) := ⟨h0_⟩
                have n1_ : Aside0 (w10.heap[gb195]? = some (.cells #[.int .i64 a0_0, .int .i64 a0_1, .slice A0_2 l0_2.length c0_2, .slice A0_3 l0_3.length c0_3, .slice A0_4 l0_4.length c0_4, .slice A0_5 l0_5.length c0_5] 27 (0, 0))) := ⟨h1_⟩
                have n2_ : Aside0 (w10.heap[gb196]? = some (.cells #[.int .i64 0, .int .i64 0, .slice none 0 0, .slice none 0 0, .slice none 0 0, .slice none 0 0] 27 (0, 0))) := ⟨h2_⟩
                have n3_ : Aside0 (Below w.heap.size w w10) := ⟨h3_⟩
                clear BK195 BK196 HB h0_ h1_ h2_ h3_; have HO205 := n0_; have BK195 := n1_; have BK196 := n2_; have HB := n3_; clear n0_ n1_ n2_ n3_
                have hHeld : w10.cell? ⟨gb195, 0, none⟩ = some (.int .i64 a0_0) ∧ w10.cell? ⟨gb195, 1, none⟩ = some (.int .i64 a0_1) ∧ w10.cell? ⟨gb195, 2, none⟩ = some (.slice A0_2 l0_2.length c0_2) ∧ w10.cell? ⟨gb195, 3, none⟩ = some (.slice A0_3 l0_3.length c0_3) ∧ w10.cell? ⟨gb195, 4, none⟩ = some (.slice A0_4 l0_4.length c0_4) ∧ w10.cell? ⟨gb195, 5, none⟩ = some (.slice A0_5 l0_5.length c0_5) := hS_
                refine norm_ (a' := ?_) ?_ ?_
                rotate_left
                ·exact pA2
                refine two_ (i := 0) (j := 8) (Ni := some 5) (Nj := some 13) (bm 18 1655) (bm 18 1910) rfl rfl rfl rfl (two_of HT_.out (by kernel_rfl)) (by decide) (by decide) (fun K hK => ?_) (fun K hK => ?_)
                ·skip
                 refine Kd.R_lit_step k94 _ 94 ?hg (N := 5) ?hd (xs := ([] : List (S94))) (inner := []) (ok := fun _ => True) (okp := fun _ => True) ?hr ?hp (fun _ hk => hk) trivial (Below.refl _ _) (Nat.le_refl _) (by simp) ?_; (case hd => rfl); (case hg => rfl); (case hr => first | (go_simp; done) | (go_simp; rfl)); (case hp => exact (Reps.none _ _))
                 intro v198 w11 ho12 hb hg_ hnew_
                 clear hg_ hnew_
                 (first | rw [← Ny197.out] at ho12 | (simp only [Int.reduceToNat] at ho12; rw [← Ny197.out] at ho12))
                 have n0_ := am (Kd.R_below (pR HO205.out) hb)
                 have n1_ := am (Kd.R_lower ho12 (below_size pB))
                 have n2_ := am (pkb BK195.out hb)
                 have n3_ := am (pkb BK196.out hb)
                 have n4_ := am (below_step pB hb)
                 clear HO205 BK195 BK196 HB; have HO205 := n0_; have HO199 := n1_; have BK195 := n2_; have BK196 := n3_; have HB := n4_; clear n0_ n1_ n2_ n3_ n4_ hb ho12
                 refine hK.out _ _ ⟨cz0 BK195.out, cz1 BK195.out, cz2 BK195.out, cz3 BK195.out, cz4 BK195.out, cz5 BK195.out⟩ (fun hHeld => ?_)
                 clear hK K
                 refine norm_ (a' := ?_) ?_ ?_
                 rotate_left
                 ·show Act.put _ (some 5) _ = _
                  exact pA
                 exact norm_ (by first | (simp only [putAll, Act.put, List.setIfInBounds_toArray, List.set_cons_zero, List.set_cons_succ]; done) | (simp only [putAll, Act.put, List.setIfInBounds_toArray, List.set_cons_zero, List.set_cons_succ]; rfl)) (hJ0_4 (v198, v204) _ ⟨hHeld, (pR HO199.out), (pR HO205.out), (pK BK195.out), (pK BK196.out), pB⟩)
                ·skip
                 refine Kd.R_lit_step k98 _ 98 ?hg (N := 13) ?hd (xs := ([] : List (S98))) (inner := []) (ok := fun _ => True) (okp := fun _ => True) ?hr ?hp (fun _ hk => hk) trivial (Below.refl _ _) (Nat.le_refl _) (by simp) ?_; (case hd => rfl); (case hg => rfl); (case hr => first | (go_simp; done) | (go_simp; rfl)); (case hp => exact (Reps.none _ _))
                 intro v210 w11 ho12 hb hg_ hnew_
                 clear hg_ hnew_
                 (first | rw [← Ny209.out] at ho12 | (simp only [Int.reduceToNat] at ho12; rw [← Ny209.out] at ho12))
                 have n0_ := am (Kd.R_below (pR HO205.out) hb)
                 have n1_ := am (Kd.R_lower ho12 (below_size pB))
                 have n2_ := am (pkb BK195.out hb)
                 have n3_ := am (pkb BK196.out hb)
                 have n4_ := am (below_step pB hb)
                 clear HO205 BK195 BK196 HB; have HO205 := n0_; have HO211 := n1_; have BK195 := n2_; have BK196 := n3_; have HB := n4_; clear n0_ n1_ n2_ n3_ n4_ hb ho12
                 refine hK.out _ _ ⟨cz0 BK195.out, cz1 BK195.out, cz2 BK195.out, cz3 BK195.out, cz4 BK195.out, cz5 BK195.out⟩ (fun hHeld => ?_)
                 clear hK K
                 refine norm_ (a' := ?_) ?_ ?_
                 rotate_left
                 ·show Act.put _ (some 13) _ = _
                  exact pA
                 exact norm_ (by first | (simp only [putAll, Act.put, List.setIfInBounds_toArray, List.set_cons_zero, List.set_cons_succ]; done) | (simp only [putAll, Act.put, List.setIfInBounds_toArray, List.set_cons_zero, List.set_cons_succ]; rfl)) (hJ4_8 (v204, v210) _ ⟨hHeld, (pR HO205.out), (pR HO211.out), (pK BK195.out), (pK BK196.out), pB⟩)
              ·skip
               rintro v198 w10 ⟨hS_, h0_, h1_, h2_, h3_⟩
               have n0_ : Aside0 (Kd.R k94 94 w10 w.heap.size (fun _ => True) v198 y197) := ⟨h0_⟩
               have n1_ : Aside0 (w10.heap[gb195]? = some (.cells #[.int .i64 a0_0, .int .i64 a0_1, .slice A0_2 l0_2.length c0_2, .slice A0_3 l0_3.length c0_3, .slice A0_4 l0_4.length c0_4, .slice A0_5 l0_5.length c0_5] 27 (0, 0))) := ⟨h1_⟩
               have n2_ : Aside0 (w10.heap[gb196]? = some (.cells #[.int .i64 0, .int .i64 0, .slice none 0 0, .slice none 0 0, .slice none 0 0, .slice none 0 0] 27 (0, 0))) := ⟨h2_⟩
               have n3_ : Aside0 (Below w.heap.size w w10) := ⟨h3_⟩
               clear BK195 BK196 HB h0_ h1_ h2_ h3_; have HO199 := n0_; have BK195 := n1_; have BK196 := n2_; have HB := n3_; clear n0_ n1_ n2_ n3_
               have hHeld : w10.cell? ⟨gb195, 0, none⟩ = some (.int .i64 a0_0) ∧ w10.cell? ⟨gb195, 1, none⟩ = some (.int .i64 a0_1) ∧ w10.cell? ⟨gb195, 2, none⟩ = some (.slice A0_2 l0_2.length c0_2) ∧ w10.cell? ⟨gb195, 3, none⟩ = some (.slice A0_3 l0_3.length c0_3) ∧ w10.cell? ⟨gb195, 4, none⟩ = some (.slice A0_4 l0_4.length c0_4) ∧ w10.cell? ⟨gb195, 5, none⟩ = some (.slice A0_5 l0_5.length c0_5) := hS_
               refine norm_ (a' := ?_) ?_ ?_
               rotate_left
               ·exact pA2
               refine three_ (i := 3) (j := 4) (k := 8) (Ni := some 8) (Nj := some 9) (Nk := some 13) (bm 18 1647) (bm 18 1655) (bm 18 1895) rfl rfl rfl rfl rfl rfl (three_of HT_.out (by kernel_rfl)) (by decide) (by decide) (by decide) (fun K hK => ?_) (fun K hK => ?_) (fun K hK => ?_)
               ·skip
                refine Kd.R_append_rows_step k94 (w0 := w) w.heap.size (by rfl) (.tmp 5) (.tmp 7) 22 94 (.agg #[(.bool false), (.int .i64 0)]) 16 rfl Tryd.underlying22 info94 rfl (by decide) (by omega) v198 y197 l0_2 _ _ _ (fun _ => True) (fun _ => False) rfl rfl ?aO ?aR (fun _ _ h => h) (fun _ h => h.elim) ?aF ?aB ?aS ?aL ?_
                (case aR => exact pC (Kd.C_below HR0_2.out HB.out))
                (case aB => exact pB)
                (case aF => exact (fun _ _ => trivial))
                (case aO => exact (pR HO199.out))
                (case aS => exact (below_size pB))
                (case aL => have := LMc2.out; omega)
                intro v201 w11 ho hb hg hat
                rw [← Ny200.out] at ho
                have n0_ := am (blk_grown (g := gb195) (o := .cells #[.int .i64 a0_0, .int .i64 a0_1, .slice A0_2 l0_2.length c0_2, .slice A0_3 l0_3.length c0_3, .slice A0_4 l0_4.length c0_4, .slice A0_5 l0_5.length c0_5] 27 (0, 0)) (pK BK195.out) hg (pX HO199.out BK195.out))
                have n1_ := am (blk_grown (g := gb196) (o := .cells #[.int .i64 0, .int .i64 0, .slice none 0 0, .slice none 0 0, .slice none 0 0, .slice none 0 0] 27 (0, 0)) (pK BK196.out) hg (pX HO199.out BK196.out))
                have n2_ := am (hb)
                have n3_ := am (ho)
                clear BK195 BK196 HB HO199; have BK195 := n0_; have BK196 := n1_; have HB := n2_; have HO202 := n3_; clear n0_ n1_ n2_ n3_ ho hb hg hat
                refine hK.out _ _ ⟨cz0 BK195.out, cz1 BK195.out, cz2 BK195.out, cz3 BK195.out, cz4 BK195.out, cz5 BK195.out⟩ (fun hHeld => ?_)
                clear hK K
                refine norm_ (a' := ?_) ?_ ?_
                rotate_left
                ·show Act.put _ (some 8) _ = _
                 exact pA
                refine pure_ (i := 12) (N := some 17) (v := ?_) (a' := ?_) (bm 18 5743) rfl rfl (any_of HT_.out (by kernel_rfl)) (fun _ _ _ h => h) (Or.inl ⟨by kernel_rfl, ?_⟩) ?_ ?_
                rotate_left
                ·intro w'
                 go_simp
                 with_reducible rfl
                rotate_left
                ·exact pA
                exact norm_ (by first | (simp only [putAll, Act.put, List.setIfInBounds_toArray, List.set_cons_zero, List.set_cons_succ]; done) | (simp only [putAll, Act.put, List.setIfInBounds_toArray, List.set_cons_zero, List.set_cons_succ]; rfl)) (hJ0_3 (v198, v201) _ ⟨hHeld, (pR HO202.out), (pK BK195.out), (pK BK196.out), pB⟩)
               ·skip
                refine Kd.R_lit_step k36 _ 36 ?hg (N := 9) ?hd (xs := ([] : List (S36))) (inner := []) (ok := fun _ => True) (okp := fun _ => True) ?hr ?hp (fun _ hk => hk) trivial (Below.refl _ _) (Nat.le_refl _) (by simp) ?_; (case hd => rfl); (case hg => rfl); (case hr => first | (go_simp; done) | (go_simp; rfl)); (case hp => exact (Reps.none _ _))
                intro v204 w11 ho12 hb hg_ hnew_
                clear hg_ hnew_
                (first | rw [← Ny203.out] at ho12 | (simp only [Int.reduceToNat] at ho12; rw [← Ny203.out] at ho12))
                have n0_ := am (Kd.R_below (pR HO199.out) hb)
                have n1_ := am (Kd.R_lower ho12 (below_size pB))
                have n2_ := am (pkb BK195.out hb)
                have n3_ := am (pkb BK196.out hb)
                have n4_ := am (below_step pB hb)
                clear HO199 BK195 BK196 HB; have HO199 := n0_; have HO205 := n1_; have BK195 := n2_; have BK196 := n3_; have HB := n4_; clear n0_ n1_ n2_ n3_ n4_ hb ho12
                refine hK.out _ _ ⟨cz0 BK195.out, cz1 BK195.out, cz2 BK195.out, cz3 BK195.out, cz4 BK195.out, cz5 BK195.out⟩ (fun hHeld => ?_)
                clear hK K
                refine norm_ (a' := ?_) ?_ ?_
                rotate_left
                ·show Act.put _ (some 9) _ = _
                 exact pA
                exact norm_ (by first | (simp only [putAll, Act.put, List.setIfInBounds_toArray, List.set_cons_zero, List.set_cons_succ]; done) | (simp only [putAll, Act.put, List.setIfInBounds_toArray, List.set_cons_zero, List.set_cons_succ]; rfl)) (hJ0_4 (v198, v204) _ ⟨hHeld, (pR HO199.out), (pR HO205.out), (pK BK195.out), (pK BK196.out), pB⟩)
               ·skip
                refine Kd.R_lit_step k98 _ 98 ?hg (N := 13) ?hd (xs := ([] : List (S98))) (inner := []) (ok := fun _ => True) (okp := fun _ => True) ?hr ?hp (fun _ hk => hk) trivial (Below.refl _ _) (Nat.le_refl _) (by simp) ?_; (case hd => rfl); (case hg => rfl); (case hr => first | (go_simp; done) | (go_simp; rfl)); (case hp => exact (Reps.none _ _))
                intro v210 w11 ho12 hb hg_ hnew_
                clear hg_ hnew_
                (first | rw [← Ny209.out] at ho12 | (simp only [Int.reduceToNat] at ho12; rw [← Ny209.out] at ho12))
                have n0_ := am (Kd.R_below (pR HO199.out) hb)
                have n1_ := am (Kd.R_lower ho12 (below_size pB))
                have n2_ := am (pkb BK195.out hb)
                have n3_ := am (pkb BK196.out hb)
                have n4_ := am (below_step pB hb)
                clear HO199 BK195 BK196 HB; have HO199 := n0_; have HO211 := n1_; have BK195 := n2_; have BK196 := n3_; have HB := n4_; clear n0_ n1_ n2_ n3_ n4_ hb ho12
                refine hK.out _ _ ⟨cz0 BK195.out, cz1 BK195.out, cz2 BK195.out, cz3 BK195.out, cz4 BK195.out, cz5 BK195.out⟩ (fun hHeld => ?_)
                clear hK K
                refine norm_ (a' := ?_) ?_ ?_
                rotate_left
                ·show Act.put _ (some 13) _ = _
                 exact pA
                exact norm_ (by first | (simp only [putAll, Act.put, List.setIfInBounds_toArray, List.set_cons_zero, List.set_cons_succ]; done) | (simp only [putAll, Act.put, List.setIfInBounds_toArray, List.set_cons_zero, List.set_cons_succ]; rfl)) (hJ0_8 (v198, v210) _ ⟨hHeld, (pR HO199.out), (pR HO211.out), (pK BK195.out), (pK BK196.out), pB⟩)
             ·skip
              rintro ⟨v204, v210⟩ w12 ⟨hS_, h0_, h1_, h2_, h3_, h4_⟩
              have n0_ : Aside0 (Kd.R k36 36 w12 w.heap.size (fun _ => True) v204 y203) := ⟨h0_⟩
              have n1_ : Aside0 (Kd.R k98 98 w12 w.heap.size (fun _ => True) v210 y209) := ⟨h1_⟩
              have n2_ : Aside0 (w12.heap[gb195]? = some (.cells #[.int .i64 a0_0, .int .i64 a0_1, .slice A0_2 l0_2.length c0_2, .slice A0_3 l0_3.length c0_3, .slice A0_4 l0_4.length c0_4, .slice A0_5 l0_5.length c0_5] 27 (0, 0))) := ⟨h2_⟩
              have n3_ : Aside0 (w12.heap[gb196]? = some (.cells #[.int .i64 0, .int .i64 0, .slice none 0 0, .slice none 0 0, .slice none 0 0, .slice none 0 0] 27 (0, 0))) := ⟨h3_⟩
              have n4_ : Aside0 (Below w.heap.size w w12) := ⟨h4_⟩
              clear BK195 BK196 HB h0_ h1_ h2_ h3_ h4_; have HO205 := n0_; have HO211 := n1_; have BK195 := n2_; have BK196 := n3_; have HB := n4_; clear n0_ n1_ n2_ n3_ n4_
              have hHeld : w12.cell? ⟨gb195, 0, none⟩ = some (.int .i64 a0_0) ∧ w12.cell? ⟨gb195, 1, none⟩ = some (.int .i64 a0_1) ∧ w12.cell? ⟨gb195, 2, none⟩ = some (.slice A0_2 l0_2.length c0_2) ∧ w12.cell? ⟨gb195, 3, none⟩ = some (.slice A0_3 l0_3.length c0_3) ∧ w12.cell? ⟨gb195, 4, none⟩ = some (.slice A0_4 l0_4.length c0_4) ∧ w12.cell? ⟨gb195, 5, none⟩ = some (.slice A0_5 l0_5.length c0_5) := hS_
              refine norm_ (a' := ?_) ?_ ?_
              rotate_left
              ·exact pA2
              refine one_ (i := 0) (N := some 5) (bm 18 1911) rfl rfl (one_of HT_.out (by kernel_rfl)) (by decide) (fun K hK => ?_)
              refine Kd.R_lit_step k94 _ 94 ?hg (N := 5) ?hd (xs := ([] : List (S94))) (inner := []) (ok := fun _ => True) (okp := fun _ => True) ?hr ?hp (fun _ hk => hk) trivial (Below.refl _ _) (Nat.le_refl _) (by simp) ?_; (case hd => rfl); (case hg => rfl); (case hr => first | (go_simp; done) | (go_simp; rfl)); (case hp => exact (Reps.none _ _))
              intro v198 w13 ho14 hb hg_ hnew_
              clear hg_ hnew_
              (first | rw [← Ny197.out] at ho14 | (simp only [Int.reduceToNat] at ho14; rw [← Ny197.out] at ho14))
              have n0_ := am (Kd.R_below (pR HO205.out) hb)
              have n1_ := am (Kd.R_below (pR HO211.out) hb)
              have n2_ := am (Kd.R_lower ho14 (below_size pB))
              have n3_ := am (pkb BK195.out hb)
              have n4_ := am (pkb BK196.out hb)
              have n5_ := am (below_step pB hb)
              clear HO205 HO211 BK195 BK196 HB; have HO205 := n0_; have HO211 := n1_; have HO199 := n2_; have BK195 := n3_; have BK196 := n4_; have HB := n5_; clear n0_ n1_ n2_ n3_ n4_ n5_ hb ho14
              refine hK.out _ _ ⟨cz0 BK195.out, cz1 BK195.out, cz2 BK195.out, cz3 BK195.out, cz4 BK195.out, cz5 BK195.out⟩ (fun hHeld => ?_)
              clear hK K
              refine norm_ (a' := ?_) ?_ ?_
              rotate_left
              ·show Act.put _ (some 5) _ = _
               exact pA
              exact norm_ (by first | (simp only [putAll, Act.put, List.setIfInBounds_toArray, List.set_cons_zero, List.set_cons_succ]; done) | (simp only [putAll, Act.put, List.setIfInBounds_toArray, List.set_cons_zero, List.set_cons_succ]; rfl)) (hJ0_4_8 (v198, v204, v210) _ ⟨hHeld, (pR HO199.out), (pR HO205.out), (pR HO211.out), (pK BK195.out), (pK BK196.out), pB⟩)
            ·skip
             rintro ⟨v198, v210⟩ w12 ⟨hS_, h0_, h1_, h2_, h3_, h4_⟩
             have n0_ : Aside0 (Kd.R k94 94 w12 w.heap.size (fun _ => True) v198 y197) := ⟨h0_⟩
             have n1_ : Aside0 (Kd.R k98 98 w12 w.heap.size (fun _ => True) v210 y209) := ⟨h1_⟩
             have n2_ : Aside0 (w12.heap[gb195]? = some (.cells #[.int .i64 a0_0, .int .i64 a0_1, .slice A0_2 l0_2.length c0_2, .slice A0_3 l0_3.length c0_3, .slice A0_4 l0_4.length c0_4, .slice A0_5 l0_5.length c0_5] 27 (0, 0))) := ⟨h2_⟩
             have n3_ : Aside0 (w12.heap[gb196]? = some (.cells #[.int .i64 0, .int .i64 0, .slice none 0 0, .slice none 0 0, .slice none 0 0, .slice none 0 0] 27 (0, 0))) := ⟨h3_⟩
             have n4_ : Aside0 (Below w.heap.size w w12) := ⟨h4_⟩
             clear BK195 BK196 HB h0_ h1_ h2_ h3_ h4_; have HO199 := n0_; have HO211 := n1_; have BK195 := n2_; have BK196 := n3_; have HB := n4_; clear n0_ n1_ n2_ n3_ n4_
             have hHeld : w12.cell? ⟨gb195, 0, none⟩ = some (.int .i64 a0_0) ∧ w12.cell? ⟨gb195, 1, none⟩ = some (.int .i64 a0_1) ∧ w12.cell? ⟨gb195, 2, none⟩ = some (.slice A0_2 l0_2.length c0_2) ∧ w12.cell? ⟨gb195, 3, none⟩ = some (.slice A0_3 l0_3.length c0_3) ∧ w12.cell? ⟨gb195, 4, none⟩ = some (.slice A0_4 l0_4.length c0_4) ∧ w12.cell? ⟨gb195, 5, none⟩ = some (.slice A0_5 l0_5.length c0_5) := hS_
             refine norm_ (a' := ?_) ?_ ?_
             rotate_left
             ·exact pA2
             refine two_ (i := 3) (j := 4) (Ni := some 8) (Nj := some 9) (bm 18 1903) (bm 18 1911) rfl rfl rfl rfl (two_of HT_.out (by kernel_rfl)) (by decide) (by decide) (fun K hK => ?_) (fun K hK => ?_)
             ·skip
              refine Kd.R_append_rows_step k94 (w0 := w) w.heap.size (by rfl) (.tmp 5) (.tmp 7) 22 94 (.agg #[(.bool false), (.int .i64 0)]) 16 rfl Tryd.underlying22 info94 rfl (by decide) (by omega) v198 y197 l0_2 _ _ _ (fun _ => True) (fun _ => False) rfl rfl ?aO ?aR (fun _ _ h => h) (fun _ h => h.elim) ?aF ?aB ?aS ?aL ?_
              (case aR => exact pC (Kd.C_below HR0_2.out HB.out))
              (case aB => exact pB)
              (case aF => exact (fun _ _ => trivial))
              (case aO => exact (pR HO199.out))
              (case aS => exact (below_size pB))
              (case aL => have := LMc2.out; omega)
              intro v201 w13 ho hb hg hat
              rw [← Ny200.out] at ho
              have n0_ := am (blk_grown (g := gb195) (o := .cells #[.int .i64 a0_0, .int .i64 a0_1, .slice A0_2 l0_2.length c0_2, .slice A0_3 l0_3.length c0_3, .slice A0_4 l0_4.length c0_4, .slice A0_5 l0_5.length c0_5] 27 (0, 0)) (pK BK195.out) hg (pX HO199.out BK195.out))
              have n1_ := am (blk_grown (g := gb196) (o := .cells #[.int .i64 0, .int .i64 0, .slice none 0 0, .slice none 0 0, .slice none 0 0, .slice none 0 0] 27 (0, 0)) (pK BK196.out) hg (pX HO199.out BK196.out))
              have n2_ := am (Kd.R_over' (pR HO211.out) (Kd.R_typed (pR HO199.out)) (by decide) hg)
              have n3_ := am (hb)
              have n4_ := am (ho)
              clear BK195 BK196 HO211 HB HO199; have BK195 := n0_; have BK196 := n1_; have HO211 := n2_; have HB := n3_; have HO202 := n4_; clear n0_ n1_ n2_ n3_ n4_ ho hb hg hat
              refine hK.out _ _ ⟨cz0 BK195.out, cz1 BK195.out, cz2 BK195.out, cz3 BK195.out, cz4 BK195.out, cz5 BK195.out⟩ (fun hHeld => ?_)
              clear hK K
              refine norm_ (a' := ?_) ?_ ?_
              rotate_left
              ·show Act.put _ (some 8) _ = _
               exact pA
              refine pure_ (i := 12) (N := some 17) (v := ?_) (a' := ?_) (bm 18 5999) rfl rfl (any_of HT_.out (by kernel_rfl)) (fun _ _ _ h => h) (Or.inl ⟨by kernel_rfl, ?_⟩) ?_ ?_
              rotate_left
              ·intro w'
               go_simp
               with_reducible rfl
              rotate_left
              ·exact pA
              exact norm_ (by first | (simp only [putAll, Act.put, List.setIfInBounds_toArray, List.set_cons_zero, List.set_cons_succ]; done) | (simp only [putAll, Act.put, List.setIfInBounds_toArray, List.set_cons_zero, List.set_cons_succ]; rfl)) (hJ0_3_8 (v198, v201, v210) _ ⟨hHeld, (pR HO202.out), (pR HO211.out), (pK BK195.out), (pK BK196.out), pB⟩)
             ·skip
              refine Kd.R_lit_step k36 _ 36 ?hg (N := 9) ?hd (xs := ([] : List (S36))) (inner := []) (ok := fun _ => True) (okp := fun _ => True) ?hr ?hp (fun _ hk => hk) trivial (Below.refl _ _) (Nat.le_refl _) (by simp) ?_; (case hd => rfl); (case hg => rfl); (case hr => first | (go_simp; done) | (go_simp; rfl)); (case hp => exact (Reps.none _ _))
              intro v204 w13 ho14 hb hg_ hnew_
              clear hg_ hnew_
              (first | rw [← Ny203.out] at ho14 | (simp only [Int.reduceToNat] at ho14; rw [← Ny203.out] at ho14))
              have n0_ := am (Kd.R_below (pR HO199.out) hb)
              have n1_ := am (Kd.R_below (pR HO211.out) hb)
              have n2_ := am (Kd.R_lower ho14 (below_size pB))
              have n3_ := am (pkb BK195.out hb)
              have n4_ := am (pkb BK196.out hb)
              have n5_ := am (below_step pB hb)
              clear HO199 HO211 BK195 BK196 HB; have HO199 := n0_; have HO211 := n1_; have HO205 := n2_; have BK195 := n3_; have BK196 := n4_; have HB := n5_; clear n0_ n1_ n2_ n3_ n4_ n5_ hb ho14
              refine hK.out _ _ ⟨cz0 BK195.out, cz1 BK195.out, cz2 BK195.out, cz3 BK195.out, cz4 BK195.out, cz5 BK195.out⟩ (fun hHeld => ?_)
              clear hK K
              refine norm_ (a' := ?_) ?_ ?_
              rotate_left
              ·show Act.put _ (some 9) _ = _
               exact pA
              exact norm_ (by first | (simp only [putAll, Act.put, List.setIfInBounds_toArray, List.set_cons_zero, List.set_cons_succ]; done) | (simp only [putAll, Act.put, List.setIfInBounds_toArray, List.set_cons_zero, List.set_cons_succ]; rfl)) (hJ0_4_8 (v198, v204, v210) _ ⟨hHeld, (pR HO199.out), (pR HO205.out), (pR HO211.out), (pK BK195.out), (pK BK196.out), pB⟩)
           ·skip
            rintro ⟨v198, v204⟩ w12 ⟨hS_, h0_, h1_, h2_, h3_, h4_⟩
            have n0_ : Aside0 (Kd.R k94 94 w12 w.heap.size (fun _ => True) v198 y197) := ⟨h0_⟩
            have n1_ : Aside0 (Kd.R k36 36 w12 w.heap.size (fun _ => True) v204 y203) := ⟨h1_⟩
            have n2_ : Aside0 (w12.heap[gb195]? = some (.cells #[.int .i64 a0_0, .int .i64 a0_1, .slice A0_2 l0_2.length c0_2, .slice A0_3 l0_3.length c0_3, .slice A0_4 l0_4.length c0_4, .slice A0_5 l0_5.length c0_5] 27 (0, 0))) := ⟨h2_⟩
            have n3_ : Aside0 (w12.heap[gb196]? = some (.cells #[.int .i64 0, .int .i64 0, .slice none 0 0, .slice none 0 0, .slice none 0 0, .slice none 0 0] 27 (0, 0))) := ⟨h3_⟩
            have n4_ : Aside0 (Below w.heap.size w w12) := ⟨h4_⟩
            clear BK195 BK196 HB h0_ h1_ h2_ h3_ h4_; have HO199 := n0_; have HO205 := n1_; have BK195 := n2_; have BK196 := n3_; have HB := n4_; clear n0_ n1_ n2_ n3_ n4_
            have hHeld : w12.cell? ⟨gb195, 0, none⟩ = some (.int .i64 a0_0) ∧ w12.cell? ⟨gb195, 1, none⟩ = some (.int .i64 a0_1) ∧ w12.cell? ⟨gb195, 2, none⟩ = some (.slice A0_2 l0_2.length c0_2) ∧ w12.cell? ⟨gb195, 3, none⟩ = some (.slice A0_3 l0_3.length c0_3) ∧ w12.cell? ⟨gb195, 4, none⟩ = some (.slice A0_4 l0_4.length c0_4) ∧ w12.cell? ⟨gb195, 5, none⟩ = some (.slice A0_5 l0_5.length c0_5) := hS_
            refine norm_ (a' := ?_) ?_ ?_
            rotate_left
            ·exact pA2
            refine two_ (i := 3) (j := 8) (Ni := some 8) (Nj := some 13) (bm 18 1663) (bm 18 1911) rfl rfl rfl rfl (two_of HT_.out (by kernel_rfl)) (by decide) (by decide) (fun K hK => ?_) (fun K hK => ?_)
            ·skip
             refine Kd.R_append_rows_step k94 (w0 := w) w.heap.size (by rfl) (.tmp 5) (.tmp 7) 22 94 (.agg #[(.bool false), (.int .i64 0)]) 16 rfl Tryd.underlying22 info94 rfl (by decide) (by omega) v198 y197 l0_2 _ _ _ (fun _ => True) (fun _ => False) rfl rfl ?aO ?aR (fun _ _ h => h) (fun _ h => h.elim) ?aF ?aB ?aS ?aL ?_
             (case aR => exact pC (Kd.C_below HR0_2.out HB.out))
             (case aB => exact pB)
             (case aF => exact (fun _ _ => trivial))
             (case aO => exact (pR HO199.out))
             (case aS => exact (below_size pB))
             (case aL => have := LMc2.out; omega)
             intro v201 w13 ho hb hg hat
             rw [← Ny200.out] at ho
             have n0_ := am (blk_grown (g := gb195) (o := .cells #[.int .i64 a0_0, .int .i64 a0_1, .slice A0_2 l0_2.length c0_2, .slice A0_3 l0_3.length c0_3, .slice A0_4 l0_4.length c0_4, .slice A0_5 l0_5.length c0_5] 27 (0, 0)) (pK BK195.out) hg (pX HO199.out BK195.out))
             have n1_ := am (blk_grown (g := gb196) (o := .cells #[.int .i64 0, .int .i64 0, .slice none 0 0, .slice none 0 0, .slice none 0 0, .slice none 0 0] 27 (0, 0)) (pK BK196.out) hg (pX HO199.out BK196.out))
             have n2_ := am (Kd.R_over' (pR HO205.out) (Kd.R_typed (pR HO199.out)) (by decide) hg)
             have n3_ := am (hb)
             have n4_ := am (ho)
             clear BK195 BK196 HO205 HB HO199; have BK195 := n0_; have BK196 := n1_; have HO205 := n2_; have HB := n3_; have HO202 := n4_; clear n0_ n1_ n2_ n3_ n4_ ho hb hg hat
             refine hK.out _ _ ⟨cz0 BK195.out, cz1 BK195.out, cz2 BK195.out, cz3 BK195.out, cz4 BK195.out, cz5 BK195.out⟩ (fun hHeld => ?_)
             clear hK K
             refine norm_ (a' := ?_) ?_ ?_
             rotate_left
             ·show Act.put _ (some 8) _ = _
              exact pA
             refine pure_ (i := 12) (N := some 17) (v := ?_) (a' := ?_) (bm 18 5759) rfl rfl (any_of HT_.out (by kernel_rfl)) (fun _ _ _ h => h) (Or.inl ⟨by kernel_rfl, ?_⟩) ?_ ?_
             rotate_left
             ·intro w'
              go_simp
              with_reducible rfl
             rotate_left
             ·exact pA
             exact norm_ (by first | (simp only [putAll, Act.put, List.setIfInBounds_toArray, List.set_cons_zero, List.set_cons_succ]; done) | (simp only [putAll, Act.put, List.setIfInBounds_toArray, List.set_cons_zero, List.set_cons_succ]; rfl)) (hJ0_3_4 (v198, v201, v204) _ ⟨hHeld, (pR HO202.out), (pR HO205.out), (pK BK195.out), (pK BK196.out), pB⟩)
            ·skip
             refine Kd.R_lit_step k98 _ 98 ?hg (N := 13) ?hd (xs := ([] : List (S98))) (inner := []) (ok := fun _ => True) (okp := fun _ => True) ?hr ?hp (fun _ hk => hk) trivial (Below.refl _ _) (Nat.le_refl _) (by simp) ?_; (case hd => rfl); (case hg => rfl); (case hr => first | (go_simp; done) | (go_simp; rfl)); (case hp => exact (Reps.none _ _))
             intro v210 w13 ho14 hb hg_ hnew_
             clear hg_ hnew_
             (first | rw [← Ny209.out] at ho14 | (simp only [Int.reduceToNat] at ho14; rw [← Ny209.out] at ho14))
             have n0_ := am (Kd.R_below (pR HO199.out) hb)
             have n1_ := am (Kd.R_below (pR HO205.out) hb)
             have n2_ := am (Kd.R_lower ho14 (below_size pB))
             have n3_ := am (pkb BK195.out hb)
             have n4_ := am (pkb BK196.out hb)
             have n5_ := am (below_step pB hb)
             clear HO199 HO205 BK195 BK196 HB; have HO199 := n0_; have HO205 := n1_; have HO211 := n2_; have BK195 := n3_; have BK196 := n4_; have HB := n5_; clear n0_ n1_ n2_ n3_ n4_ n5_ hb ho14
             refine hK.out _ _ ⟨cz0 BK195.out, cz1 BK195.out, cz2 BK195.out, cz3 BK195.out, cz4 BK195.out, cz5 BK195.out⟩ (fun hHeld => ?_)
             clear hK K
             refine norm_ (a' := ?_) ?_ ?_
             rotate_left
             ·show Act.put _ (some 13) _ = _
              exact pA
             exact norm_ (by first | (simp only [putAll, Act.put, List.setIfInBounds_toArray, List.set_cons_zero, List.set_cons_succ]; done) | (simp only [putAll, Act.put, List.setIfInBounds_toArray, List.set_cons_zero, List.set_cons_succ]; rfl)) (hJ0_4_8 (v198, v204, v210) _ ⟨hHeld, (pR HO199.out), (pR HO205.out), (pR HO211.out), (pK BK195.out), (pK BK196.out), pB⟩)
          ·skip
           rintro ⟨v198, v201⟩ w11 ⟨hS_, h0_, h1_, h2_, h3_⟩
           have n0_ : Aside0 (Kd.R k94 94 w11 w.heap.size (fun _ => True) v201 y200) := ⟨h0_⟩
           have n1_ : Aside0 (w11.heap[gb195]? = some (.cells #[.int .i64 a0_0, .int .i64 a0_1, .slice A0_2 l0_2.length c0_2, .slice A0_3 l0_3.length c0_3, .slice A0_4 l0_4.length c0_4, .slice A0_5 l0_5.length c0_5] 27 (0, 0))) := ⟨h1_⟩
           have n2_ : Aside0 (w11.heap[gb196]? = some (.cells #[.int .i64 0, .int .i64 0, .slice none 0 0, .slice none 0 0, .slice none 0 0, .slice none 0 0] 27 (0, 0))) := ⟨h2_⟩
           have n3_ : Aside0 (Below w.heap.size w w11) := ⟨h3_⟩
           clear BK195 BK196 HB h0_ h1_ h2_ h3_; have HO202 := n0_; have BK195 := n1_; have BK196 := n2_; have HB := n3_; clear n0_ n1_ n2_ n3_
           have hHeld : w11.cell? ⟨gb195, 0, none⟩ = some (.int .i64 a0_0) ∧ w11.cell? ⟨gb195, 1, none⟩ = some (.int .i64 a0_1) ∧ w11.cell? ⟨gb195, 2, none⟩ = some (.slice A0_2 l0_2.length c0_2) ∧ w11.cell? ⟨gb195, 3, none⟩ = some (.slice A0_3 l0_3.length c0_3) ∧ w11.cell? ⟨gb195, 4, none⟩ = some (.slice A0_4 l0_4.length c0_4) ∧ w11.cell? ⟨gb195, 5, none⟩ = some (.slice A0_5 l0_5.length c0_5) := hS_
           refine norm_ (a' := ?_) ?_ ?_
           rotate_left
           ·exact pA2
           refine two_ (i := 4) (j := 8) (Ni := some 9) (Nj := some 13) (bm 18 5759) (bm 18 5999) rfl rfl rfl rfl (two_of HT_.out (by kernel_rfl)) (by decide) (by decide) (fun K hK => ?_) (fun K hK => ?_)
           ·skip
            refine Kd.R_lit_step k36 _ 36 ?hg (N := 9) ?hd (xs := ([] : List (S36))) (inner := []) (ok := fun _ => True) (okp := fun _ => True) ?hr ?hp (fun _ hk => hk) trivial (Below.refl _ _) (Nat.le_refl _) (by simp) ?_; (case hd => rfl); (case hg => rfl); (case hr => first | (go_simp; done) | (go_simp; rfl)); (case hp => exact (Reps.none _ _))
            intro v204 w12 ho13 hb hg_ hnew_
            clear hg_ hnew_
            (first | rw [← Ny203.out] at ho13 | (simp only [Int.reduceToNat] at ho13; rw [← Ny203.out] at ho13))
            have n0_ := am (Kd.R_below (pR HO202.out) hb)
            have n1_ := am (Kd.R_lower ho13 (below_size pB))
            have n2_ := am (pkb BK195.out hb)
            have n3_ := am (pkb BK196.out hb)
            have n4_ := am (below_step pB hb)
            clear HO202 BK195 BK196 HB; have HO202 := n0_; have HO205 := n1_; have BK195 := n2_; have BK196 := n3_; have HB := n4_; clear n0_ n1_ n2_ n3_ n4_ hb ho13
            refine hK.out _ _ ⟨cz0 BK195.out, cz1 BK195.out, cz2 BK195.out, cz3 BK195.out, cz4 BK195.out, cz5 BK195.out⟩ (fun hHeld => ?_)
            clear hK K
            refine norm_ (a' := ?_) ?_ ?_
            rotate_left
            ·show Act.put _ (some 9) _ = _
             exact pA
            exact norm_ (by first | (simp only [putAll, Act.put, List.setIfInBounds_toArray, List.set_cons_zero, List.set_cons_succ]; done) | (simp only [putAll, Act.put, List.setIfInBounds_toArray, List.set_cons_zero, List.set_cons_succ]; rfl)) (hJ0_3_4 (v198, v201, v204) _ ⟨hHeld, (pR HO202.out), (pR HO205.out), (pK BK195.out), (pK BK196.out), pB⟩)
           ·skip
            refine Kd.R_lit_step k98 _ 98 ?hg (N := 13) ?hd (xs := ([] : List (S98))) (inner := []) (ok := fun _ => True) (okp := fun _ => True) ?hr ?hp (fun _ hk => hk) trivial (Below.refl _ _) (Nat.le_refl _) (by simp) ?_; (case hd => rfl); (case hg => rfl); (case hr => first | (go_simp; done) | (go_simp; rfl)); (case hp => exact (Reps.none _ _))
            intro v210 w12 ho13 hb hg_ hnew_
            clear hg_ hnew_
            (first | rw [← Ny209.out] at ho13 | (simp only [Int.reduceToNat] at ho13; rw [← Ny209.out] at ho13))
            have n0_ := am (Kd.R_below (pR HO202.out) hb)
            have n1_ := am (Kd.R_lower ho13 (below_size pB))
            have n2_ := am (pkb BK195.out hb)
            have n3_ := am (pkb BK196.out hb)
            have n4_ := am (below_step pB hb)
            clear HO202 BK195 BK196 HB; have HO202 := n0_; have HO211 := n1_; have BK195 := n2_; have BK196 := n3_; have HB := n4_; clear n0_ n1_ n2_ n3_ n4_ hb ho13
            refine hK.out _ _ ⟨cz0 BK195.out, cz1 BK195.out, cz2 BK195.out, cz3 BK195.out, cz4 BK195.out, cz5 BK195.out⟩ (fun hHeld => ?_)
            clear hK K
            refine norm_ (a' := ?_) ?_ ?_
            rotate_left
            ·show Act.put _ (some 13) _ = _
             exact pA
            exact norm_ (by first | (simp only [putAll, Act.put, List.setIfInBounds_toArray, List.set_cons_zero, List.set_cons_succ]; done) | (simp only [putAll, Act.put, List.setIfInBounds_toArray, List.set_cons_zero, List.set_cons_succ]; rfl)) (hJ0_3_8 (v198, v201, v210) _ ⟨hHeld, (pR HO202.out), (pR HO211.out), (pK BK195.out), (pK BK196.out), pB⟩)
         ·skip
          rintro ⟨v198, v204, v210⟩ w14 ⟨hS_, h0_, h1_, h2_, h3_, h4_, h5_⟩
          have n0_ : Aside0 (Kd.R k94 94 w14 w.heap.size (fun _ => True) v198 y197) := ⟨h0_⟩
          have n1_ : Aside0 (Kd.R k36 36 w14 w.heap.size (fun _ => True) v204 y203) := ⟨h1_⟩
          have n2_ : Aside0 (Kd.R k98 98 w14 w.heap.size (fun _ => True) v210 y209) := ⟨h2_⟩
          have n3_ : Aside0 (w14.heap[gb195]? = some (.cells #[.int .i64 a0_0, .int .i64 a0_1, .slice A0_2 l0_2.length c0_2, .slice A0_3 l0_3.length c0_3, .slice A0_4 l0_4.length c0_4, .slice A0_5 l0_5.length c0_5] 27 (0, 0))) := ⟨h3_⟩
          have n4_ : Aside0 (w14.heap[gb196]? = some (.cells #[.int .i64 0, .int .i64 0, .slice none 0 0, .slice none 0 0, .slice none 0 0, .slice none 0 0] 27 (0, 0))) := ⟨h4_⟩
          have n5_ : Aside0 (Below w.heap.size w w14) := ⟨h5_⟩
          clear BK195 BK196 HB h0_ h1_ h2_ h3_ h4_ h5_; have HO199 := n0_; have HO205 := n1_; have HO211 := n2_; have BK195 := n3_; have BK196 := n4_; have HB := n5_; clear n0_ n1_ n2_ n3_ n4_ n5_
          have hHeld : w14.cell? ⟨gb195, 0, none⟩ = some (.int .i64 a0_0) ∧ w14.cell? ⟨gb195, 1, none⟩ = some (.int .i64 a0_1) ∧ w14.cell? ⟨gb195, 2, none⟩ = some (.slice A0_2 l0_2.length c0_2) ∧ w14.cell? ⟨gb195, 3, none⟩ = some (.slice A0_3 l0_3.length c0_3) ∧ w14.cell? ⟨gb195, 4, none⟩ = some (.slice A0_4 l0_4.length c0_4) ∧ w14.cell? ⟨gb195, 5, none⟩ = some (.slice A0_5 l0_5.length c0_5) := hS_
          refine norm_ (a' := ?_) ?_ ?_
          rotate_left
          ·exact pA2
          refine one_ (i := 3) (N := some 8) (bm 18 1919) rfl rfl (one_of HT_.out (by kernel_rfl)) (by decide) (fun K hK => ?_)
          refine Kd.R_append_rows_step k94 (w0 := w) w.heap.size (by rfl) (.tmp 5) (.tmp 7) 22 94 (.agg #[(.bool false), (.int .i64 0)]) 16 rfl Tryd.underlying22 info94 rfl (by decide) (by omega) v198 y197 l0_2 _ _ _ (fun _ => True) (fun _ => False) rfl rfl ?aO ?aR (fun _ _ h => h) (fun _ h => h.elim) ?aF ?aB ?aS ?aL ?_
          (case aR => exact pC (Kd.C_below HR0_2.out HB.out))
          (case aB => exact pB)
          (case aF => exact (fun _ _ => trivial))
          (case aO => exact (pR HO199.out))
          (case aS => exact (below_size pB))
          (case aL => have := LMc2.out; omega)
          intro v201 w15 ho hb hg hat
          rw [← Ny200.out] at ho
          have n0_ := am (blk_grown (g := gb195) (o := .cells #[.int .i64 a0_0, .int .i64 a0_1, .slice A0_2 l0_2.length c0_2, .slice A0_3 l0_3.length c0_3, .slice A0_4 l0_4.length c0_4, .slice A0_5 l0_5.length c0_5] 27 (0, 0)) (pK BK195.out) hg (pX HO199.out BK195.out))
          have n1_ := am (blk_grown (g := gb196) (o := .cells #[.int .i64 0, .int .i64 0, .slice none 0 0, .slice none 0 0, .slice none 0 0, .slice none 0 0] 27 (0, 0)) (pK BK196.out) hg (pX HO199.out BK196.out))
          have n2_ := am (Kd.R_over' (pR HO205.out) (Kd.R_typed (pR HO199.out)) (by decide) hg)
          have n3_ := am (Kd.R_over' (pR HO211.out) (Kd.R_typed (pR HO199.out)) (by decide) hg)
          have n4_ := am (hb)
          have n5_ := am (ho)
          clear BK195 BK196 HO205 HO211 HB HO199; have BK195 := n0_; have BK196 := n1_; have HO205 := n2_; have HO211 := n3_; have HB := n4_; have HO202 := n5_; clear n0_ n1_ n2_ n3_ n4_ n5_ ho hb hg hat
          refine hK.out _ _ ⟨cz0 BK195.out, cz1 BK195.out, cz2 BK195.out, cz3 BK195.out, cz4 BK195.out, cz5 BK195.out⟩ (fun hHeld => ?_)
          clear hK K
          refine norm_ (a' := ?_) ?_ ?_
          rotate_left
          ·show Act.put _ (some 8) _ = _
           exact pA
          refine pure_ (i := 12) (N := some 17) (v := ?_) (a' := ?_) (bm 18 6015) rfl rfl (any_of HT_.out (by kernel_rfl)) (fun _ _ _ h => h) (Or.inl ⟨by kernel_rfl, ?_⟩) ?_ ?_
          rotate_left
          ·intro w'
           go_simp
           with_reducible rfl
          rotate_left
          ·exact pA
          exact norm_ (by first | (simp only [putAll, Act.put, List.setIfInBounds_toArray, List.set_cons_zero, List.set_cons_succ]; done) | (simp only [putAll, Act.put, List.setIfInBounds_toArray, List.set_cons_zero, List.set_cons_succ]; rfl)) (hJ0_3_4_8 (v198, v201, v204, v210) _ ⟨hHeld, (pR HO202.out), (pR HO205.out), (pR HO211.out), (pK BK195.out), (pK BK196.out), pB⟩)
        ·skip
         rintro ⟨v198, v201, v210⟩ w13 ⟨hS_, h0_, h1_, h2_, h3_, h4_⟩
         have n0_ : Aside0 (Kd.R k94 94 w13 w.heap.size (fun _ => True) v201 y200) := ⟨h0_⟩
         have n1_ : Aside0 (Kd.R k98 98 w13 w.heap.size (fun _ => True) v210 y209) := ⟨h1_⟩
         have n2_ : Aside0 (w13.heap[gb195]? = some (.cells #[.int .i64 a0_0, .int .i64 a0_1, .slice A0_2 l0_2.length c0_2, .slice A0_3 l0_3.length c0_3, .slice A0_4 l0_4.length c0_4, .slice A0_5 l0_5.length c0_5] 27 (0, 0))) := ⟨h2_⟩
         have n3_ : Aside0 (w13.heap[gb196]? = some (.cells #[.int .i64 0, .int .i64 0, .slice none 0 0, .slice none 0 0, .slice none 0 0, .slice none 0 0] 27 (0, 0))) := ⟨h3_⟩
         have n4_ : Aside0 (Below w.heap.size w w13) := ⟨h4_⟩
         clear BK195 BK196 HB h0_ h1_ h2_ h3_ h4_; have HO202 := n0_; have HO211 := n1_; have BK195 := n2_; have BK196 := n3_; have HB := n4_; clear n0_ n1_ n2_ n3_ n4_
         have hHeld : w13.cell? ⟨gb195, 0, none⟩ = some (.int .i64 a0_0) ∧ w13.cell? ⟨gb195, 1, none⟩ = some (.int .i64 a0_1) ∧ w13.cell? ⟨gb195, 2, none⟩ = some (.slice A0_2 l0_2.length c0_2) ∧ w13.cell? ⟨gb195, 3, none⟩ = some (.slice A0_3 l0_3.length c0_3) ∧ w13.cell? ⟨gb195, 4, none⟩ = some (.slice A0_4 l0_4.length c0_4) ∧ w13.cell? ⟨gb195, 5, none⟩ = some (.slice A0_5 l0_5.length c0_5) := hS_
         refine norm_ (a' := ?_) ?_ ?_
         rotate_left
         ·exact pA2
         refine one_ (i := 4) (N := some 9) (bm 18 6015) rfl rfl (one_of HT_.out (by kernel_rfl)) (by decide) (fun K hK => ?_)
         refine Kd.R_lit_step k36 _ 36 ?hg (N := 9) ?hd (xs := ([] : List (S36))) (inner := []) (ok := fun _ => True) (okp := fun _ => True) ?hr ?hp (fun _ hk => hk) trivial (Below.refl _ _) (Nat.le_refl _) (by simp) ?_; (case hd => rfl); (case hg => rfl); (case hr => first | (go_simp; done) | (go_simp; rfl)); (case hp => exact (Reps.none _ _))
         intro v204 w14 ho15 hb hg_ hnew_
         clear hg_ hnew_
         (first | rw [← Ny203.out] at ho15 | (simp only [Int.reduceToNat] at ho15; rw [← Ny203.out] at ho15))
         have n0_ := am (Kd.R_below (pR HO202.out) hb)
         have n1_ := am (Kd.R_below (pR HO211.out) hb)
         have n2_ := am (Kd.R_lower ho15 (below_size pB))
         have n3_ := am (pkb BK195.out hb)
         have n4_ := am (pkb BK196.out hb)
         have n5_ := am (below_step pB hb)
         clear HO202 HO211 BK195 BK196 HB; have HO202 := n0_; have HO211 := n1_; have HO205 := n2_; have BK195 := n3_; have BK196 := n4_; have HB := n5_; clear n0_ n1_ n2_ n3_ n4_ n5_ hb ho15
         refine hK.out _ _ ⟨cz0 BK195.out, cz1 BK195.out, cz2 BK195.out, cz3 BK195.out, cz4 BK195.out, cz5 BK195.out⟩ (fun hHeld => ?_)
         clear hK K
         refine norm_ (a' := ?_) ?_ ?_
         rotate_left
         ·show Act.put _ (some 9) _ = _
          exact pA
         exact norm_ (by first | (simp only [putAll, Act.put, List.setIfInBounds_toArray, List.set_cons_zero, List.set_cons_succ]; done) | (simp only [putAll, Act.put, List.setIfInBounds_toArray, List.set_cons_zero, List.set_cons_succ]; rfl)) (hJ0_3_4_8 (v198, v201, v204, v210) _ ⟨hHeld, (pR HO202.out), (pR HO205.out), (pR HO211.out), (pK BK195.out), (pK BK196.out), pB⟩)
       ·skip
        rintro ⟨v198, v201, v204⟩ w13 ⟨hS_, h0_, h1_, h2_, h3_, h4_⟩
        have n0_ : Aside0 (Kd.R k94 94 w13 w.heap.size (fun _ => True) v201 y200) := ⟨h0_⟩
        have n1_ : Aside0 (Kd.R k36 36 w13 w.heap.size (fun _ => True) v204 y203) := ⟨h1_⟩
        have n2_ : Aside0 (w13.heap[gb195]? = some (.cells #[.int .i64 a0_0, .int .i64 a0_1, .slice A0_2 l0_2.length c0_2, .slice A0_3 l0_3.length c0_3, .slice A0_4 l0_4.length c0_4, .slice A0_5 l0_5.length c0_5] 27 (0, 0))) := ⟨h2_⟩
        have n3_ : Aside0 (w13.heap[gb196]? = some (.cells #[.int .i64 0, .int .i64 0, .slice none 0 0, .slice none 0 0, .slice none 0 0, .slice none 0 0] 27 (0, 0))) := ⟨h3_⟩
        have n4_ : Aside0 (Below w.heap.size w w13) := ⟨h4_⟩
        clear BK195 BK196 HB h0_ h1_ h2_ h3_ h4_; have HO202 := n0_; have HO205 := n1_; have BK195 := n2_; have BK196 := n3_; have HB := n4_; clear n0_ n1_ n2_ n3_ n4_
        have hHeld : w13.cell? ⟨gb195, 0, none⟩ = some (.int .i64 a0_0) ∧ w13.cell? ⟨gb195, 1, none⟩ = some (.int .i64 a0_1) ∧ w13.cell? ⟨gb195, 2, none⟩ = some (.slice A0_2 l0_2.length c0_2) ∧ w13.cell? ⟨gb195, 3, none⟩ = some (.slice A0_3 l0_3.length c0_3) ∧ w13.cell? ⟨gb195, 4, none⟩ = some (.slice A0_4 l0_4.length c0_4) ∧ w13.cell? ⟨gb195, 5, none⟩ = some (.slice A0_5 l0_5.length c0_5) := hS_
        refine norm_ (a' := ?_) ?_ ?_
        rotate_left
        ·exact pA2
        refine two_ (i := 7) (j := 8) (Ni := some 12) (Nj := some 13) (bm 18 5887) (bm 18 6015) rfl rfl rfl rfl (two_of HT_.out (by kernel_rfl)) (by decide) (by decide) (fun K hK => ?_) (fun K hK => ?_)
        ·skip
         refine Kd.R_append_rows_step k36 (w0 := w) w.heap.size (by rfl) (.tmp 9) (.tmp 11) 23 36 (.agg #[(.int .i64 0), (.int .i64 0), (.int .i64 0), (.int .i64 0)]) 32 rfl Tryd.underlying23 info36 rfl (by decide) (by omega) v204 y203 l0_3 _ _ _ (fun _ => True) (fun _ => False) rfl rfl ?aO ?aR (fun _ _ h => h) (fun _ h => h.elim) ?aF ?aB ?aS ?aL ?_
         (case aR => exact pC (Kd.C_below HR0_3.out HB.out))
         (case aB => exact pB)
         (case aF => exact (fun _ _ => trivial))
         (case aO => exact (pR HO205.out))
         (case aS => exact (below_size pB))
         (case aL => have := LMc3.out; omega)
         intro v207 w14 ho hb hg hat
         rw [← Ny206.out] at ho
         have n0_ := am (blk_grown (g := gb195) (o := .cells #[.int .i64 a0_0, .int .i64 a0_1, .slice A0_2 l0_2.length c0_2, .slice A0_3 l0_3.length c0_3, .slice A0_4 l0_4.length c0_4, .slice A0_5 l0_5.length c0_5] 27 (0, 0)) (pK BK195.out) hg (pX HO205.out BK195.out))
         have n1_ := am (blk_grown (g := gb196) (o := .cells #[.int .i64 0, .int .i64 0, .slice none 0 0, .slice none 0 0, .slice none 0 0, .slice none 0 0] 27 (0, 0)) (pK BK196.out) hg (pX HO205.out BK196.out))
         have n2_ := am (Kd.R_over' (pR HO202.out) (Kd.R_typed (pR HO205.out)) (by decide) hg)
         have n3_ := am (hb)
         have n4_ := am (ho)
         clear BK195 BK196 HO202 HB HO205; have BK195 := n0_; have BK196 := n1_; have HO202 := n2_; have HB := n3_; have HO208 := n4_; clear n0_ n1_ n2_ n3_ n4_ ho hb hg hat
         refine hK.out _ _ ⟨cz0 BK195.out, cz1 BK195.out, cz2 BK195.out, cz3 BK195.out, cz4 BK195.out, cz5 BK195.out⟩ (fun hHeld => ?_)
         clear hK K
         refine norm_ (a' := ?_) ?_ ?_
         rotate_left
         ·show Act.put _ (some 12) _ = _
          exact pA
         exact norm_ (by first | (simp only [putAll, Act.put, List.setIfInBounds_toArray, List.set_cons_zero, List.set_cons_succ]; done) | (simp only [putAll, Act.put, List.setIfInBounds_toArray, List.set_cons_zero, List.set_cons_succ]; rfl)) (hJ0_3_4_7 (v198, v201, v204, v207) _ ⟨hHeld, (pR HO202.out), (pR HO208.out), (pK BK195.out), (pK BK196.out), pB⟩)
        ·skip
         refine Kd.R_lit_step k98 _ 98 ?hg (N := 13) ?hd (xs := ([] : List (S98))) (inner := []) (ok := fun _ => True) (okp := fun _ => True) ?hr ?hp (fun _ hk => hk) trivial (Below.refl _ _) (Nat.le_refl _) (by simp) ?_; (case hd => rfl); (case hg => rfl); (case hr => first | (go_simp; done) | (go_simp; rfl)); (case hp => exact (Reps.none _ _))
         intro v210 w14 ho15 hb hg_ hnew_
         clear hg_ hnew_
         (first | rw [← Ny209.out] at ho15 | (simp only [Int.reduceToNat] at ho15; rw [← Ny209.out] at ho15))
         have n0_ := am (Kd.R_below (pR HO202.out) hb)
         have n1_ := am (Kd.R_below (pR HO205.out) hb)
         have n2_ := am (Kd.R_lower ho15 (below_size pB))
         have n3_ := am (pkb BK195.out hb)
         have n4_ := am (pkb BK196.out hb)
         have n5_ := am (below_step pB hb)
         clear HO202 HO205 BK195 BK196 HB; have HO202 := n0_; have HO205 := n1_; have HO211 := n2_; have BK195 := n3_; have BK196 := n4_; have HB := n5_; clear n0_ n1_ n2_ n3_ n4_ n5_ hb ho15
         refine hK.out _ _ ⟨cz0 BK195.out, cz1 BK195.out, cz2 BK195.out, cz3 BK195.out, cz4 BK195.out, cz5 BK195.out⟩ (fun hHeld => ?_)
         clear hK K
         refine norm_ (a' := ?_) ?_ ?_
         rotate_left
         ·show Act.put _ (some 13) _ = _
          exact pA
         exact norm_ (by first | (simp only [putAll, Act.put, List.setIfInBounds_toArray, List.set_cons_zero, List.set_cons_succ]; done) | (simp only [putAll, Act.put, List.setIfInBounds_toArray, List.set_cons_zero, List.set_cons_succ]; rfl)) (hJ0_3_4_8 (v198, v201, v204, v210) _ ⟨hHeld, (pR HO202.out), (pR HO205.out), (pR HO211.out), (pK BK195.out), (pK BK196.out), pB⟩)
      ·skip
       rintro ⟨v198, v201, v204, v210⟩ w15 ⟨hS_, h0_, h1_, h2_, h3_, h4_, h5_⟩
       have n0_ : Aside0 (Kd.R k94 94 w15 w.heap.size (fun _ => True) v201 y200) := ⟨h0_⟩
       have n1_ : Aside0 (Kd.R k36 36 w15 w.heap.size (fun _ => True) v204 y203) := ⟨h1_⟩
       have n2_ : Aside0 (Kd.R k98 98 w15 w.heap.size (fun _ => True) v210 y209) := ⟨h2_⟩
       have n3_ : Aside0 (w15.heap[gb195]? = some (.cells #[.int .i64 a0_0, .int .i64 a0_1, .slice A0_2 l0_2.length c0_2, .slice A0_3 l0_3.length c0_3, .slice A0_4 l0_4.length c0_4, .slice A0_5 l0_5.length c0_5] 27 (0, 0))) := ⟨h3_⟩
       have n4_ : Aside0 (w15.heap[gb196]? = some (.cells #[.int .i64 0, .int .i64 0, .slice none 0 0, .slice none 0 0, .slice none 0 0, .slice none 0 0] 27 (0, 0))) := ⟨h4_⟩
       have n5_ : Aside0 (Below w.heap.size w w15) := ⟨h5_⟩
       clear BK195 BK196 HB h0_ h1_ h2_ h3_ h4_ h5_; have HO202 := n0_; have HO205 := n1_; have HO211 := n2_; have BK195 := n3_; have BK196 := n4_; have HB := n5_; clear n0_ n1_ n2_ n3_ n4_ n5_
       have hHeld : w15.cell? ⟨gb195, 0, none⟩ = some (.int .i64 a0_0) ∧ w15.cell? ⟨gb195, 1, none⟩ = some (.int .i64 a0_1) ∧ w15.cell? ⟨gb195, 2, none⟩ = some (.slice A0_2 l0_2.length c0_2) ∧ w15.cell? ⟨gb195, 3, none⟩ = some (.slice A0_3 l0_3.length c0_3) ∧ w15.cell? ⟨gb195, 4, none⟩ = some (.slice A0_4 l0_4.length c0_4) ∧ w15.cell? ⟨gb195, 5, none⟩ = some (.slice A0_5 l0_5.length c0_5) := hS_
       refine norm_ (a' := ?_) ?_ ?_
       rotate_left
       ·exact pA2
       refine one_ (i := 7) (N := some 12) (bm 18 6143) rfl rfl (one_of HT_.out (by kernel_rfl)) (by decide) (fun K hK => ?_)
       refine Kd.R_append_rows_step k36 (w0 := w) w.heap.size (by rfl) (.tmp 9) (.tmp 11) 23 36 (.agg #[(.int .i64 0), (.int .i64 0), (.int .i64 0), (.int .i64 0)]) 32 rfl Tryd.underlying23 info36 rfl (by decide) (by omega) v204 y203 l0_3 _ _ _ (fun _ => True) (fun _ => False) rfl rfl ?aO ?aR (fun _ _ h => h) (fun _ h => h.elim) ?aF ?aB ?aS ?aL ?_
       (case aR => exact pC (Kd.C_below HR0_3.out HB.out))
       (case aB => exact pB)
       (case aF => exact (fun _ _ => trivial))
       (case aO => exact (pR HO205.out))
       (case aS => exact (below_size pB))
       (case aL => have := LMc3.out; omega)
       intro v207 w16 ho hb hg hat
       rw [← Ny206.out] at ho
       have n0_ := am (blk_grown (g := gb195) (o := .cells #[.int .i64 a0_0, .int .i64 a0_1, .slice A0_2 l0_2.length c0_2, .slice A0_3 l0_3.length c0_3, .slice A0_4 l0_4.length c0_4, .slice A0_5 l0_5.length c0_5] 27 (0, 0)) (pK BK195.out) hg (pX HO205.out BK195.out))
       have n1_ := am (blk_grown (g := gb196) (o := .cells #[.int .i64 0, .int .i64 0, .slice none 0 0, .slice none 0 0, .slice none 0 0, .slice none 0 0] 27 (0, 0)) (pK BK196.out) hg (pX HO205.out BK196.out))
       have n2_ := am (Kd.R_over' (pR HO202.out) (Kd.R_typed (pR HO205.out)) (by decide) hg)
       have n3_ := am (Kd.R_over' (pR HO211.out) (Kd.R_typed (pR HO205.out)) (by decide) hg)
       have n4_ := am (hb)
       have n5_ := am (ho)
       clear BK195 BK196 HO202 HO211 HB HO205; have BK195 := n0_; have BK196 := n1_; have HO202 := n2_; have HO211 := n3_; have HB := n4_; have HO208 := n5_; clear n0_ n1_ n2_ n3_ n4_ n5_ ho hb hg hat
       refine hK.out _ _ ⟨cz0 BK195.out, cz1 BK195.out, cz2 BK195.out, cz3 BK195.out, cz4 BK195.out, cz5 BK195.out⟩ (fun hHeld => ?_)
       clear hK K
       refine norm_ (a' := ?_) ?_ ?_
       rotate_left
       ·show Act.put _ (some 12) _ = _
        exact pA
       exact norm_ (by first | (simp only [putAll, Act.put, List.setIfInBounds_toArray, List.set_cons_zero, List.set_cons_succ]; done) | (simp only [putAll, Act.put, List.setIfInBounds_toArray, List.set_cons_zero, List.set_cons_succ]; rfl)) (hJ0_3_4_7_8 (v198, v201, v204, v207, v210) _ ⟨hHeld, (pR HO202.out), (pR HO208.out), (pR HO211.out), (pK BK195.out), (pK BK196.out), pB⟩)
     ·skip
      rintro ⟨v198, v201, v204, v207⟩ w14 ⟨hS_, h0_, h1_, h2_, h3_, h4_⟩
      have n0_ : Aside0 (Kd.R k94 94 w14 w.heap.size (fun _ => True) v201 y200) := ⟨h0_⟩
      have n1_ : Aside0 (Kd.R k36 36 w14 w.heap.size (fun _ => True) v207 y206) := ⟨h1_⟩
      have n2_ : Aside0 (w14.heap[gb195]? = some (.cells #[.int .i64 a0_0, .int .i64 a0_1, .slice A0_2 l0_2.length c0_2, .slice A0_3 l0_3.length c0_3, .slice A0_4 l0_4.length c0_4, .slice A0_5 l0_5.length c0_5] 27 (0, 0))) := ⟨h2_⟩
      have n3_ : Aside0 (w14.heap[gb196]? = some (.cells #[.int .i64 0, .int .i64 0, .slice none 0 0, .slice none 0 0, .slice none 0 0, .slice none 0 0] 27 (0, 0))) := ⟨h3_⟩
      have n4_ : Aside0 (Below w.heap.size w w14) := ⟨h4_⟩
      clear BK195 BK196 HB h0_ h1_ h2_ h3_ h4_; have HO202 := n0_; have HO208 := n1_; have BK195 := n2_; have BK196 := n3_; have HB := n4_; clear n0_ n1_ n2_ n3_ n4_
      have hHeld : w14.cell? ⟨gb195, 0, none⟩ = some (.int .i64 a0_0) ∧ w14.cell? ⟨gb195, 1, none⟩ = some (.int .i64 a0_1) ∧ w14.cell? ⟨gb195, 2, none⟩ = some (.slice A0_2 l0_2.length c0_2) ∧ w14.cell? ⟨gb195, 3, none⟩ = some (.slice A0_3 l0_3.length c0_3) ∧ w14.cell? ⟨gb195, 4, none⟩ = some (.slice A0_4 l0_4.length c0_4) ∧ w14.cell? ⟨gb195, 5, none⟩ = some (.slice A0_5 l0_5.length c0_5) := hS_
      refine norm_ (a' := ?_) ?_ ?_
      rotate_left
      ·exact pA2
      refine one_ (i := 8) (N := some 13) (bm 18 6143) rfl rfl (one_of HT_.out (by kernel_rfl)) (by decide) (fun K hK => ?_)
      refine Kd.R_lit_step k98 _ 98 ?hg (N := 13) ?hd (xs := ([] : List (S98))) (inner := []) (ok := fun _ => True) (okp := fun _ => True) ?hr ?hp (fun _ hk => hk) trivial (Below.refl _ _) (Nat.le_refl _) (by simp) ?_; (case hd => rfl); (case hg => rfl); (case hr => first | (go_simp; done) | (go_simp; rfl)); (case hp => exact (Reps.none _ _))
      intro v210 w15 ho16 hb hg_ hnew_
      clear hg_ hnew_
      (first | rw [← Ny209.out] at ho16 | (simp only [Int.reduceToNat] at ho16; rw [← Ny209.out] at ho16))
      have n0_ := am (Kd.R_below (pR HO202.out) hb)
      have n1_ := am (Kd.R_below (pR HO208.out) hb)
      have n2_ := am (Kd.R_lower ho16 (below_size pB))
      have n3_ := am (pkb BK195.out hb)
      have n4_ := am (pkb BK196.out hb)
      have n5_ := am (below_step pB hb)
      clear HO202 HO208 BK195 BK196 HB; have HO202 := n0_; have HO208 := n1_; have HO211 := n2_; have BK195 := n3_; have BK196 := n4_; have HB := n5_; clear n0_ n1_ n2_ n3_ n4_ n5_ hb ho16
      refine hK.out _ _ ⟨cz0 BK195.out, cz1 BK195.out, cz2 BK195.out, cz3 BK195.out, cz4 BK195.out, cz5 BK195.out⟩ (fun hHeld => ?_)
      clear hK K
      refine norm_ (a' := ?_) ?_ ?_
      rotate_left
      ·show Act.put _ (some 13) _ = _
       exact pA
      exact norm_ (by first | (simp only [putAll, Act.put, List.setIfInBounds_toArray, List.set_cons_zero, List.set_cons_succ]; done) | (simp only [putAll, Act.put, List.setIfInBounds_toArray, List.set_cons_zero, List.set_cons_succ]; rfl)) (hJ0_3_4_7_8 (v198, v201, v204, v207, v210) _ ⟨hHeld, (pR HO202.out), (pR HO208.out), (pR HO211.out), (pK BK195.out), (pK BK196.out), pB⟩)
    rintro ⟨v198, v201, v204, v207, v210⟩ w16 ⟨hS_, h0_, h1_, h2_, h3_, h4_, h5_⟩
    have n0_ : Aside0 (Kd.R k94 94 w16 w.heap.size (fun _ => True) v201 y200) := ⟨h0_⟩
    have n1_ : Aside0 (Kd.R k36 36 w16 w.heap.size (fun _ => True) v207 y206) := ⟨h1_⟩
    have n2_ : Aside0 (Kd.R k98 98 w16 w.heap.size (fun _ => True) v210 y209) := ⟨h2_⟩
    have n3_ : Aside0 (w16.heap[gb195]? = some (.cells #[.int .i64 a0_0, .int .i64 a0_1, .slice A0_2 l0_2.length c0_2, .slice A0_3 l0_3.length c0_3, .slice A0_4 l0_4.length c0_4, .slice A0_5 l0_5.length c0_5] 27 (0, 0))) := ⟨h3_⟩
    have n4_ : Aside0 (w16.heap[gb196]? = some (.cells #[.int .i64 0, .int .i64 0, .slice none 0 0, .slice none 0 0, .slice none 0 0, .slice none 0 0] 27 (0, 0))) := ⟨h4_⟩
    have n5_ : Aside0 (Below w.heap.size w w16) := ⟨h5_⟩
    clear BK195 BK196 HB h0_ h1_ h2_ h3_ h4_ h5_; have HO202 := n0_; have HO208 := n1_; have HO211 := n2_; have BK195 := n3_; have BK196 := n4_; have HB := n5_; clear n0_ n1_ n2_ n3_ n4_ n5_
    have hHeld : w16.cell? ⟨gb195, 0, none⟩ = some (.int .i64 a0_0) ∧ w16.cell? ⟨gb195, 1, none⟩ = some (.int .i64 a0_1) ∧ w16.cell? ⟨gb195, 2, none⟩ = some (.slice A0_2 l0_2.length c0_2) ∧ w16.cell? ⟨gb195, 3, none⟩ = some (.slice A0_3 l0_3.length c0_3) ∧ w16.cell? ⟨gb195, 4, none⟩ = some (.slice A0_4 l0_4.length c0_4) ∧ w16.cell? ⟨gb195, 5, none⟩ = some (.slice A0_5 l0_5.length c0_5) := hS_
    refine norm_ (a' := ?_) ?_ ?_
    rotate_left
    ·exact pA2
    refine one_ (i := 11) (N := some 16) (bm 18 8191) rfl rfl (one_of HT_.out (by kernel_rfl)) (by decide) (fun K hK => ?_)
    refine Kd.R_append_rows_step k98 (w0 := w) w.heap.size (by rfl) (.tmp 13) (.tmp 15) 24 98 (.agg #[(.int .i64 0), (.int .u64 0), (.string ⟨#[]⟩), (.int .i64 0)]) 40 rfl Tryd.underlying24 info98 rfl (by decide) (by omega) v210 y209 l0_4 _ _ _ (fun _ => True) (fun _ => False) rfl rfl ?aO ?aR (fun _ _ h => h) (fun _ h => h.elim) ?aF ?aB ?aS ?aL ?_
    (case aR => exact pC (Kd.C_below HR0_4.out HB.out))
    (case aB => exact pB)
    (case aF => exact (fun _ _ => trivial))
    (case aO => exact (pR HO211.out))
    (case aS => exact (below_size pB))
    (case aL => have := LMc4.out; omega)
    intro v213 w17 ho hb hg hat
    rw [← Ny212.out] at ho
    have n0_ := am (blk_grown (g := gb195) (o := .cells #[.int .i64 a0_0, .int .i64 a0_1, .slice A0_2 l0_2.length c0_2, .slice A0_3 l0_3.length c0_3, .slice A0_4 l0_4.length c0_4, .slice A0_5 l0_5.length c0_5] 27 (0, 0)) (pK BK195.out) hg (pX HO211.out BK195.out))
    have n1_ := am (blk_grown (g := gb196) (o := .cells #[.int .i64 0, .int .i64 0, .slice none 0 0, .slice none 0 0, .slice none 0 0, .slice none 0 0] 27 (0, 0)) (pK BK196.out) hg (pX HO211.out BK196.out))
    have n2_ := am (Kd.R_over' (pR HO202.out) (Kd.R_typed (pR HO211.out)) (by decide) hg)
    have n3_ := am (Kd.R_over' (pR HO208.out) (Kd.R_typed (pR HO211.out)) (by decide) hg)
    have n4_ := am (hb)
    have n5_ := am (ho)
    clear BK195 BK196 HO202 HO208 HB HO211; have BK195 := n0_; have BK196 := n1_; have HO202 := n2_; have HO208 := n3_; have HB := n4_; have HO214 := n5_; clear n0_ n1_ n2_ n3_ n4_ n5_ ho hb hg hat
    obtain ⟨Ao18, co18, eo18⟩ := Kd.R_slice HO202.out
    (first | subst eo18 | (injection eo18 with f1_ f2_ f3_; have f4_ := f1_.symm; have f5_ := f3_.symm; clear f1_ f2_ f3_; subst f4_; subst f5_))
    obtain ⟨Ao20, co20, eo20⟩ := Kd.R_slice HO208.out
    (first | subst eo20 | (injection eo20 with f1_ f2_ f3_; have f4_ := f1_.symm; have f5_ := f3_.symm; clear f1_ f2_ f3_; subst f4_; subst f5_))
    obtain ⟨Ao22, co22, eo22⟩ := Kd.R_slice HO214.out
    (first | subst eo22 | (injection eo22 with f1_ f2_ f3_; have f4_ := f1_.symm; have f5_ := f3_.symm; clear f1_ f2_ f3_; subst f4_; subst f5_))
    refine hK.out _ _ ⟨cz0 BK195.out, cz1 BK195.out, cz2 BK195.out, cz3 BK195.out, cz4 BK195.out, cz5 BK195.out⟩ (fun hHeld => ?_)
    clear hK K
    refine norm_ (a' := ?_) ?_ ?_
    rotate_left
    ·show Act.put _ (some 16) _ = _
     exact pA
    refine last_ (i := 13) (N := none) (bm 18 16383) rfl rfl (one_of HT_.out (by kernel_rfl)) (by decide) (fun K hK => ?_)
    have hs19 : w17.cell? ⟨gb195, 2, none⟩ = some (.slice A0_2 l0_2.length c0_2) := cz2 BK195.out
    have hfs19 := blk_frozen BK195.out 2
    have hns19_1 := NB196_195.out
    have hms19_1 := NB195_196.out
    refine skip_ (w1 := ?_) ?hw rfl ?_ ?_; (case hw => kernel_rfl)
    rotate_left
    ·go_simp
     rfl
    refine hK.out _ _ ?_
    clear hK K
    refine pure_ (i := 14) (N := some 18) (v := ?_) (a' := ?_) (bm 18 32767) rfl rfl (any_of HT_.out (by kernel_rfl)) (fun _ _ _ h => h) (Or.inl ⟨by kernel_rfl, ?_⟩) ?_ ?_
    rotate_left
    ·intro w'
     go_simp
     with_reducible rfl
    rotate_left
    ·exact pA
    refine last_ (i := 15) (N := none) (bm 18 65535) rfl rfl (one_of HT_.out (by kernel_rfl)) (by decide) (fun K hK => ?_)
    have hs21 : w17.cell? ⟨gb195, 3, none⟩ = some (.slice A0_3 l0_3.length c0_3) := cz3 BK195.out
    have hfs21 := blk_frozen BK195.out 3
    have hns21_1 := NB196_195.out
    have hms21_1 := NB195_196.out
    refine skip_ (w1 := ?_) ?hw rfl ?_ ?_; (case hw => kernel_rfl)
    rotate_left
    ·go_simp
     rfl
    refine hK.out _ _ ?_
    clear hK K
    refine pure_ (i := 16) (N := some 19) (v := ?_) (a' := ?_) (bm 18 131071) rfl rfl (any_of HT_.out (by kernel_rfl)) (fun _ _ _ h => h) (Or.inl ⟨by kernel_rfl, ?_⟩) ?_ ?_
    rotate_left
    ·intro w'
     go_simp
     with_reducible rfl
    rotate_left
    ·exact pA
    refine last_ (i := 17) (N := none) (bm 18 262143) rfl rfl (one_of HT_.out (by kernel_rfl)) (by decide) (fun K hK => ?_)
    have hs23 : w17.cell? ⟨gb195, 4, none⟩ = some (.slice A0_4 l0_4.length c0_4) := cz4 BK195.out
    have hfs23 := blk_frozen BK195.out 4
    have hns23_1 := NB196_195.out
    have hms23_1 := NB195_196.out
    refine skip_ (w1 := ?_) ?hw rfl ?_ ?_; (case hw => kernel_rfl)
    rotate_left
    ·go_simp
     rfl
    refine hK.out _ _ ?_
    clear hK K
    refine done_ (done_of HT_.out (by kernel_rfl)) ?_
    try go_wp2_with (first | ((with_reducible refine gate_dst (N := 20) rfl ?_); refine Kd.R_lit k27 _ 27 ?hg (N := 20) ?hd (xs := ([] : List (S27))) (inner := []) (ok := fun _ => True) (okp := fun _ => True) ?hr ?hp (fun _ hk => hk) trivial (Below.refl _ _) (Nat.le_refl _) (by simp) ?_; (case hd => rfl); (case hg => rfl); (case hr => first | (go_simp; done) | (go_simp; rfl)); (case hp => exact (Reps.none _ _)); intro v216 w24 ho25 hb hg_ hnew_; clear hg_ hnew_; (first | rw [← Ny215.out] at ho25 | (simp only [Int.reduceToNat] at ho25; rw [← Ny215.out] at ho25)); have HO217 := am (Kd.R_lower (Kd.R_newB (Kd.R_newB (Kd.R_new' (Kd.R_new' (Kd.R_new' ho25 (Kd.R_lt (by (with_reducible repeat (first | apply Kd.R_alloc | apply Kd.R_drewN | apply Kd.R_drew)); exact (Kd.R_mono (Kd.R_far (p := ⟨gb195, 4, none⟩) (Kd.R_far (p := ⟨gb195, 3, none⟩) (Kd.R_far (p := ⟨gb195, 2, none⟩) (Kd.R_types HO202.out BK195.out (by decide)) (fun _ hk => hk.2) (.slice Ao18 y200.length co18)) (fun _ hk => hk.2) (.slice Ao20 y206.length co20)) (fun _ hk => hk.2) (.slice Ao22 y212.length co22)) (fun _ h_ => h_.1))))) (Kd.R_lt (by (with_reducible repeat (first | apply Kd.R_alloc | apply Kd.R_drewN | apply Kd.R_drew)); exact (Kd.R_mono (Kd.R_far (p := ⟨gb195, 4, none⟩) (Kd.R_far (p := ⟨gb195, 3, none⟩) (Kd.R_far (p := ⟨gb195, 2, none⟩) (Kd.R_types HO208.out BK195.out (by decide)) (fun _ hk => hk.2) (.slice Ao18 y200.length co18)) (fun _ hk => hk.2) (.slice Ao20 y206.length co20)) (fun _ hk => hk.2) (.slice Ao22 y212.length co22)) (fun _ h_ => h_.1))))) (Kd.R_lt (by (with_reducible repeat (first | apply Kd.R_alloc | apply Kd.R_drewN | apply Kd.R_drew)); exact (Kd.R_mono (Kd.R_far (p := ⟨gb195, 4, none⟩) (Kd.R_far (p := ⟨gb195, 3, none⟩) (Kd.R_far (p := ⟨gb195, 2, none⟩) (Kd.R_types HO214.out BK195.out (by decide)) (fun _ hk => hk.2) (.slice Ao18 y200.length co18)) (fun _ hk => hk.2) (.slice Ao20 y206.length co20)) (fun _ hk => hk.2) (.slice Ao22 y212.length co22)) (fun _ h_ => h_.1))))) (g := gb195) (o := .cells #[.int .i64 a0_0, .int .i64 a0_1, .slice Ao18 y200.length co18, .slice Ao20 y206.length co20, .slice Ao22 y212.length co22, .slice A0_5 l0_5.length c0_5] 27 (0, 0)) (by (with_reducible repeat (first | refine blk_drewN ?_ _ | refine blk_drew ?_ | refine blk_alloc ?_ _)); refine blk_put (cs := #[.int .i64 a0_0, .int .i64 a0_1, .slice Ao18 y200.length co18, .slice Ao20 y206.length co20, .slice A0_4 l0_4.length c0_4, .slice A0_5 l0_5.length c0_5]) ?_ 4 _ rfl; (with_reducible repeat (first | refine blk_drewN ?_ _ | refine blk_drew ?_ | refine blk_alloc ?_ _)); refine blk_put (cs := #[.int .i64 a0_0, .int .i64 a0_1, .slice Ao18 y200.length co18, .slice A0_3 l0_3.length c0_3, .slice A0_4 l0_4.length c0_4, .slice A0_5 l0_5.length c0_5]) ?_ 3 _ rfl; (with_reducible repeat (first | refine blk_drewN ?_ _ | refine blk_drew ?_ | refine blk_alloc ?_ _)); refine blk_put (cs := #[.int .i64 a0_0, .int .i64 a0_1, .slice A0_2 l0_2.length c0_2, .slice A0_3 l0_3.length c0_3, .slice A0_4 l0_4.length c0_4, .slice A0_5 l0_5.length c0_5]) ?_ 2 _ rfl; (with_reducible repeat (first | refine blk_drewN ?_ _ | refine blk_drew ?_ | refine blk_alloc ?_ _)); exact BK195.out)) (g := gb196) (o := .cells #[.int .i64 0, .int .i64 0, .slice none 0 0, .slice none 0 0, .slice none 0 0, .slice none 0 0] 27 (0, 0)) (by (with_reducible repeat (first | refine blk_drewN ?_ _ | refine blk_drew ?_ | refine blk_alloc ?_ _)); refine blk_far ?_ NB196_195.out _; (with_reducible repeat (first | refine blk_drewN ?_ _ | refine blk_drew ?_ | refine blk_alloc ?_ _)); refine blk_far ?_ NB196_195.out _; (with_reducible repeat (first | refine blk_drewN ?_ _ | refine blk_drew ?_ | refine blk_alloc ?_ _)); refine blk_far ?_ NB196_195.out _; (with_reducible repeat (first | refine blk_drewN ?_ _ | refine blk_drew ?_ | refine blk_alloc ?_ _)); exact BK196.out)) (below_size pB)); replace HO202 := am (Kd.R_below (by (with_reducible repeat (first | apply Kd.R_alloc | apply Kd.R_drewN | apply Kd.R_drew)); exact (Kd.R_mono (Kd.R_far (p := ⟨gb195, 4, none⟩) (Kd.R_far (p := ⟨gb195, 3, none⟩) (Kd.R_far (p := ⟨gb195, 2, none⟩) (Kd.R_types HO202.out BK195.out (by decide)) (fun _ hk => hk.2) (.slice Ao18 y200.length co18)) (fun _ hk => hk.2) (.slice Ao20 y206.length co20)) (fun _ hk => hk.2) (.slice Ao22 y212.length co22)) (fun _ h_ => h_.1))) hb); replace HO208 := am (Kd.R_below (by (with_reducible repeat (first | apply Kd.R_alloc | apply Kd.R_drewN | apply Kd.R_drew)); exact (Kd.R_mono (Kd.R_far (p := ⟨gb195, 4, none⟩) (Kd.R_far (p := ⟨gb195, 3, none⟩) (Kd.R_far (p := ⟨gb195, 2, none⟩) (Kd.R_types HO208.out BK195.out (by decide)) (fun _ hk => hk.2) (.slice Ao18 y200.length co18)) (fun _ hk => hk.2) (.slice Ao20 y206.length co20)) (fun _ hk => hk.2) (.slice Ao22 y212.length co22)) (fun _ h_ => h_.1))) hb); replace HO214 := am (Kd.R_below (by (with_reducible repeat (first | apply Kd.R_alloc | apply Kd.R_drewN | apply Kd.R_drew)); exact (Kd.R_mono (Kd.R_far (p := ⟨gb195, 4, none⟩) (Kd.R_far (p := ⟨gb195, 3, none⟩) (Kd.R_far (p := ⟨gb195, 2, none⟩) (Kd.R_types HO214.out BK195.out (by decide)) (fun _ hk => hk.2) (.slice Ao18 y200.length co18)) (fun _ hk => hk.2) (.slice Ao20 y206.length co20)) (fun _ hk => hk.2) (.slice Ao22 y212.length co22)) (fun _ h_ => h_.1))) hb); replace BK195 := am (blk_below (g := gb195) (o := .cells #[.int .i64 a0_0, .int .i64 a0_1, .slice Ao18 y200.length co18, .slice Ao20 y206.length co20, .slice Ao22 y212.length co22, .slice A0_5 l0_5.length c0_5] 27 (0, 0)) (by (with_reducible repeat (first | refine blk_drewN ?_ _ | refine blk_drew ?_ | refine blk_alloc ?_ _)); refine blk_put (cs := #[.int .i64 a0_0, .int .i64 a0_1, .slice Ao18 y200.length co18, .slice Ao20 y206.length co20, .slice A0_4 l0_4.length c0_4, .slice A0_5 l0_5.length c0_5]) ?_ 4 _ rfl; (with_reducible repeat (first | refine blk_drewN ?_ _ | refine blk_drew ?_ | refine blk_alloc ?_ _)); refine blk_put (cs := #[.int .i64 a0_0, .int .i64 a0_1, .slice Ao18 y200.length co18, .slice A0_3 l0_3.length c0_3, .slice A0_4 l0_4.length c0_4, .slice A0_5 l0_5.length c0_5]) ?_ 3 _ rfl; (with_reducible repeat (first | refine blk_drewN ?_ _ | refine blk_drew ?_ | refine blk_alloc ?_ _)); refine blk_put (cs := #[.int .i64 a0_0, .int .i64 a0_1, .slice A0_2 l0_2.length c0_2, .slice A0_3 l0_3.length c0_3, .slice A0_4 l0_4.length c0_4, .slice A0_5 l0_5.length c0_5]) ?_ 2 _ rfl; (with_reducible repeat (first | refine blk_drewN ?_ _ | refine blk_drew ?_ | refine blk_alloc ?_ _)); exact BK195.out) hb); replace BK196 := am (blk_below (g := gb196) (o := .cells #[.int .i64 0, .int .i64 0, .slice none 0 0, .slice none 0 0, .slice none 0 0, .slice none 0 0] 27 (0, 0)) (by (with_reducible repeat (first | refine blk_drewN ?_ _ | refine blk_drew ?_ | refine blk_alloc ?_ _)); refine blk_far ?_ NB196_195.out _; (with_reducible repeat (first | refine blk_drewN ?_ _ | refine blk_drew ?_ | refine blk_alloc ?_ _)); refine blk_far ?_ NB196_195.out _; (with_reducible repeat (first | refine blk_drewN ?_ _ | refine blk_drew ?_ | refine blk_alloc ?_ _)); refine blk_far ?_ NB196_195.out _; (with_reducible repeat (first | refine blk_drewN ?_ _ | refine blk_drew ?_ | refine blk_alloc ?_ _)); exact BK196.out) hb); replace HB := am (below_step pB hb); clear hb ho25))
    go_loopg [3, 4] k (fun kq v3 v4 w' => ∃ (x3_1 : List (S27)) (x4_1 : Int), v4 = .int .i64 x4_1 ∧ Aside0 (minstrelref13_Own.l0 kq x3_1 x4_1 a0_0 a0_1 y200 y206 y212 l0_5 = some (r1, r2, r3, r4, r5, r6)) ∧ Aside0 (kq ≤ k) ∧ Aside0 (Kd.R k27 27 w' w.heap.size (fun k_ => some k_ ≠ ((.slice Ao18 y200.length co18) : Value).ownBlock ∧ some k_ ≠ ((.slice Ao20 y206.length co20) : Value).ownBlock ∧ some k_ ≠ ((.slice Ao22 y212.length co22) : Value).ownBlock ∧ k_ ≠ gb195 ∧ k_ ≠ gb196) v3 x3_1) ∧ Aside0 (Kd.R k94 94 w' w.heap.size (fun _ => True) (.slice Ao18 y200.length co18) y200) ∧ Aside0 (Kd.R k36 36 w' w.heap.size (fun _ => True) (.slice Ao20 y206.length co20) y206) ∧ Aside0 (Kd.R k98 98 w' w.heap.size (fun _ => True) (.slice Ao22 y212.length co22) y212) ∧ Aside0 (w'.heap[gb195]? = some (.cells #[.int .i64 a0_0, .int .i64 a0_1, (.slice Ao18 y200.length co18), (.slice Ao20 y206.length co20), (.slice Ao22 y212.length co22), (.slice A0_5 l0_5.length c0_5)] 27 (0, 0))) ∧ Aside0 (w'.heap[gb196]? = some (.cells #[.int .i64 0, .int .i64 0, (.slice none 0 0), (.slice none 0 0), (.slice none 0 0), (.slice none 0 0)] 27 (0, 0))) ∧ Aside0 (Below w.heap.size w w'))
    case atStart => exact ⟨(y215), (0), (by first | rfl | (simp; done) | (simp [*]; done)), H', ⟨Nat.le_refl _⟩, ⟨by (with_reducible repeat (first | apply Kd.R_alloc | apply Kd.R_drewN | apply Kd.R_drew)); exact Kd.R_mono HO217.out (fun _ hk => ⟨hk.1.1.1.1.2, ⟨hk.1.1.1.2, ⟨hk.1.1.2, ⟨hk.1.2, hk.2⟩⟩⟩⟩)⟩, ⟨by (with_reducible repeat (first | apply Kd.R_alloc | apply Kd.R_drewN | apply Kd.R_drew)); exact HO202.out⟩, ⟨by (with_reducible repeat (first | apply Kd.R_alloc | apply Kd.R_drewN | apply Kd.R_drew)); exact HO208.out⟩, ⟨by (with_reducible repeat (first | apply Kd.R_alloc | apply Kd.R_drewN | apply Kd.R_drew)); exact HO214.out⟩, ⟨by (with_reducible repeat (first | refine blk_drewN ?_ _ | refine blk_drew ?_ | refine blk_alloc ?_ _)); exact BK195.out⟩, ⟨by (with_reducible repeat (first | refine blk_drewN ?_ _ | refine blk_drew ?_ | refine blk_alloc ?_ _)); exact BK196.out⟩, ⟨pB⟩⟩
    case round =>
     clear H'
     try clear c2
     try clear p2
     try clear c3
     try clear c4
     obtain ⟨x3_1, x4_1, rfl, HA, HK1, HO_3, HO_196002, HO_196003, HO_196004, BK195, BK196, HB⟩ := hrel
     cases gk with
     | zero => exact absurd HA.out (by simp [minstrelref13_Own.l0])
     | succ k1 =>
      have H := HA.out
      clear HA
      simp only [minstrelref13_Own.l0] at H
      by_cases c26 : x4_1 < (l0_5.length : Int)
      ·rw [if_pos c26] at H
       have c26b0 : decide (x4_1 < (l0_5.length : Int)) = true := decide_eq_true c26
       clear c26
       by_cases c27 : 0 ≤ x4_1
       ·rw [if_pos c27] at H
        have c27b0 : decide (0 ≤ x4_1) = true := decide_eq_true c27
        clear c27
        replace H := Option.bind_eq_some_iff.mp H
        obtain ⟨⟨t219, t220, t221, t224, t227, t230⟩, A280, H⟩ := H
        try dsimp only at H
        have A28 := am A280
        clear A280
        by_cases c29 : x3_1.length < 1256584717458
        ·rw [if_pos c29] at H
         have LMc29 := am c29
         clear c29
         obtain ⟨y233, hy233⟩ : ∃ y_ : List (S27), y_ = (x3_1 ++ [(⟨t219, t220, t221, t224, t227, t230⟩ : S27)]) := ⟨_, rfl⟩
         replace H : (minstrelref13_Own.l0 k1 y233 (wrap64 (x4_1 + 1)) a0_0 a0_1 y200 y206 y212 l0_5) = some (r1, r2, r3, r4, r5, r6) := by first | (rw [hy233]; with_reducible exact H) | (have H2_ := (Option.bind_some _ _).symm.trans H; rw [hy233]; with_reducible exact H2_) | (have H2_ := (Option.bind_some _ _).symm.trans H; with_reducible exact H2_) | with_reducible exact H | (rw [hy233]; exact H) | exact H
         have Ny233 := am hy233
         clear hy233
         have H' := am H
         clear H
         have hnb30 := NB195_196.out
         have hnc30 := NB196_195.out
         have q31 := cf6 BK195.out
         have p218 : 0 ≤ (x4_1 : Int) := pD
         have q218 : x4_1 < (l0_5.length : Int) := pD
         obtain ⟨ad218, A218_2, c218_2, A218_3, c218_3, A218_4, c218_4, A218_5, c218_5, e218, hx218_0, hx218_1, hx218_2, hx218_3, hx218_4, hx218_5, hl218_2, hi218_2, hl218_3, hi218_3, hl218_4, hi218_4, hl218_5, hi218_5⟩ := at_T27 HR0_5.out x4_1 p218 q218
         cases e218
         replace hx218_0 := (HB.out.cell (World.block_lt_of_cell? w _ hx218_0)).trans hx218_0
         replace hx218_1 := (HB.out.cell (World.block_lt_of_cell? w _ hx218_1)).trans hx218_1
         replace hx218_2 := (HB.out.cell (World.block_lt_of_cell? w _ hx218_2)).trans hx218_2
         replace hx218_3 := (HB.out.cell (World.block_lt_of_cell? w _ hx218_3)).trans hx218_3
         replace hx218_4 := (HB.out.cell (World.block_lt_of_cell? w _ hx218_4)).trans hx218_4
         replace hx218_5 := (HB.out.cell (World.block_lt_of_cell? w _ hx218_5)).trans hx218_5
         have HR218_2 := am hi218_2
         have HC218_2 := am hl218_2
         clear hi218_2 hl218_2
         have HR218_3 := am hi218_3
         have HC218_3 := am hl218_3
         clear hi218_3 hl218_3
         have HR218_4 := am hi218_4
         have HC218_4 := am hl218_4
         clear hi218_4 hl218_4
         have HR218_5 := am hi218_5
         have HC218_5 := am hl218_5
         clear hi218_5 hl218_5
         replace p218 := eq_true p218
         replace q218 := eq_true q218
         go_wp2_with (first | ((with_reducible refine gate_callee (f := 11) rfl ?_); refine goesL_ (some 34) rfl rfl Tryd.func11 (by kernel_rfl) rfl #[.agg #[.int .i64 ((rd_T27 l0_5 x4_1).f0), .int .i64 ((rd_T27 l0_5 x4_1).f1), .slice A218_2 ((rd_T27 l0_5 x4_1).f2).length c218_2, .slice A218_3 ((rd_T27 l0_5 x4_1).f3).length c218_3, .slice A218_4 ((rd_T27 l0_5 x4_1).f4).length c218_4, .slice A218_5 ((rd_T27 l0_5 x4_1).f5).length c218_5]] rfl pM ?_; (with_reducible refine (ih k1 (by have := HK1.out; omega) ((rd_T27 l0_5 x4_1).f0) ((rd_T27 l0_5 x4_1).f1) _ _ ((rd_T27 l0_5 x4_1).f2) _ _ ((rd_T27 l0_5 x4_1).f3) _ _ ((rd_T27 l0_5 x4_1).f4) _ _ ((rd_T27 l0_5 x4_1).f5) t219 t220 t221 t224 t227 t230 _ ?side1 ?side2 ?side3 ?side4 ?side5 ?side6 ?side7 ?side8 A28.out).mono ?_); (case side1 => exact pC (Kd.C_below HR218_2.out HB.out)); (case side2 => exact HC218_2.out); (case side3 => exact pC (Kd.C_below HR218_3.out HB.out)); (case side4 => exact HC218_3.out); (case side5 => exact pC (Kd.C_below HR218_4.out HB.out)); (case side6 => exact HC218_4.out); (case side7 => exact pC (Kd.C_below HR218_5.out HB.out)); (case side8 => exact HC218_5.out); rintro e w32 ⟨v222, v225, v228, v231, rfl, ho0, ho1, ho2, ho3, hb⟩; refine ⟨_, rfl, ?_⟩; have HO223 := am (Kd.R_lower (Kd.R_new' ho0 (Kd.R_lt (pR HO_196002.out))) (below_size pB)); have HO226 := am (Kd.R_lower (Kd.R_new' ho1 (Kd.R_lt (pR HO_196003.out))) (below_size pB)); have HO229 := am (Kd.R_lower (Kd.R_new' ho2 (Kd.R_lt (pR HO_196004.out))) (below_size pB)); have HO232 := am (Kd.R_lower (Kd.R_newB (Kd.R_newB (Kd.R_new' (Kd.R_new' (Kd.R_new' (Kd.R_new' ho3 (Kd.R_lt (pR HO_3.out))) (Kd.R_lt (pR HO_196002.out))) (Kd.R_lt (pR HO_196003.out))) (Kd.R_lt (pR HO_196004.out))) (g := gb195) (o := .cells #[.int .i64 a0_0, .int .i64 a0_1, .slice Ao18 y200.length co18, .slice Ao20 y206.length co20, .slice Ao22 y212.length co22, .slice (some ad218) l0_5.length c0_5] 27 (0, 0)) (pK BK195.out)) (g := gb196) (o := .cells #[.int .i64 0, .int .i64 0, .slice none 0 0, .slice none 0 0, .slice none 0 0, .slice none 0 0] 27 (0, 0)) (pK BK196.out)) (below_size pB)); replace HO_3 := am (Kd.R_mono (Kd.R_told (Kd.R_told (Kd.R_told (Kd.R_told (Kd.R_old (pR HO_3.out) hb) (Kd.R_base ho0)) (Kd.R_base ho1)) (Kd.R_base ho2)) (Kd.R_base ho3)) (fun _ h_ => h_.1)); replace HO_196002 := am (Kd.R_elder' (pR HO_196002.out) (Kd.R_base ho0) hb); replace HO_196003 := am (Kd.R_elder' (pR HO_196003.out) (Kd.R_base ho1) hb); replace HO_196004 := am (Kd.R_elder' (pR HO_196004.out) (Kd.R_base ho2) hb); replace BK195 := am (pkb BK195.out hb); replace BK196 := am (pkb BK196.out hb); replace HB := am (below_step pB hb); (try clear hb); (try clear hb2); (try clear hk); (try clear hi); (try clear ho0); (try clear ho1); (try clear ho2); (try clear ho3); obtain ⟨Ao34, co34, eo34⟩ := Kd.R_slice HO223.out; subst eo34; obtain ⟨Ao35, co35, eo35⟩ := Kd.R_slice HO226.out; subst eo35; obtain ⟨Ao36, co36, eo36⟩ := Kd.R_slice HO229.out; subst eo36; obtain ⟨Ao37, co37, eo37⟩ := Kd.R_slice HO232.out; subst eo37) | ((with_reducible refine gate_builtin (b := .append) (xs := #[.tmp 28, .tmp 35]) rfl ?_); at_builtin; refine Kd.R_append k27 (w0 := w) w.heap.size rfl (.tmp 28) (.tmp 35) 25 27 (.agg #[(.int .i64 0), (.int .i64 0), (.slice none 0 0), (.slice none 0 0), (.slice none 0 0), (.slice none 0 0)]) 112 rfl Tryd.underlying25 info27 rfl (by decide) (by omega) u3 x3_1 (⟨t219, t220, t221, t224, t227, t230⟩ : S27) [.int .i64 t219, .int .i64 t220, .slice Ao34 t221.length co34, .slice Ao35 t224.length co35, .slice Ao36 t227.length co36, .slice Ao37 t230.length co37] (fun k_ => some k_ ≠ (.slice Ao18 y200.length co18 : Value).ownBlock ∧ some k_ ≠ (.slice Ao20 y206.length co20 : Value).ownBlock ∧ some k_ ≠ (.slice Ao22 y212.length co22 : Value).ownBlock ∧ k_ ≠ gb195 ∧ k_ ≠ gb196) (fun k_ => ((fun k_ => some k_ ≠ (.slice Ao18 y200.length co18 : Value).ownBlock ∧ some k_ ≠ (.slice Ao20 y206.length co20 : Value).ownBlock ∧ some k_ ≠ (.slice Ao22 y212.length co22 : Value).ownBlock ∧ k_ ≠ gb195 ∧ k_ ≠ gb196)) k_ ∧ some k_ ≠ (u3 : Value).ownBlock) rfl rfl ?aP (fun _ hk => hk) ?aF ?aO ?aB ?aS ?aL ?_; (case aP => exact k27_mkM _ _ _ (⟨t219, t220, t221, t224, t227, t230⟩ : S27) (Kd.R_mono (Kd.R_types (Kd.R_types (Kd.R_apart' (Kd.R_apart' (Kd.R_apart' (HO223.out) (Kd.R_typed HO_196003.out) (by decide)) (Kd.R_typed HO_196004.out) (by decide)) (Kd.R_typed HO_3.out) (by decide)) BK195.out (by decide)) BK196.out (by decide)) (fun k_ hk => ⟨⟨hk.1.1.1.1.1.2, ⟨hk.1.1.1.1.2, ⟨hk.1.1.1.2, ⟨hk.1.2, hk.2⟩⟩⟩⟩, hk.1.1.2⟩)) (Kd.R_mono (Kd.R_types (Kd.R_types (Kd.R_apart' (Kd.R_apart' (Kd.R_apart' (HO226.out) (Kd.R_typed HO_196002.out) (by decide)) (Kd.R_typed HO_196004.out) (by decide)) (Kd.R_typed HO_3.out) (by decide)) BK195.out (by decide)) BK196.out (by decide)) (fun k_ hk => ⟨⟨hk.1.1.1.1.2, ⟨hk.1.1.1.1.1.2, ⟨hk.1.1.1.2, ⟨hk.1.2, hk.2⟩⟩⟩⟩, hk.1.1.2⟩)) (Kd.R_mono (Kd.R_types (Kd.R_types (Kd.R_apart' (Kd.R_apart' (Kd.R_apart' (HO229.out) (Kd.R_typed HO_196002.out) (by decide)) (Kd.R_typed HO_196003.out) (by decide)) (Kd.R_typed HO_3.out) (by decide)) BK195.out (by decide)) BK196.out (by decide)) (fun k_ hk => ⟨⟨hk.1.1.1.1.2, ⟨hk.1.1.1.2, ⟨hk.1.1.1.1.1.2, ⟨hk.1.2, hk.2⟩⟩⟩⟩, hk.1.1.2⟩)) (Kd.R_mono (HO232.out) (fun k_ hk => ⟨⟨hk.1.1.1.1.2, ⟨hk.1.1.1.2, ⟨hk.1.1.2, ⟨hk.1.2, hk.2⟩⟩⟩⟩, hk.1.1.1.1.1.2⟩))); (case aB => exact pB); (case aF => exact (fun k_ hk => ⟨Kd.fresh' (Kd.R_lt (pR HO_196002.out)) k_ hk, Kd.fresh' (Kd.R_lt (pR HO_196003.out)) k_ hk, Kd.fresh' (Kd.R_lt (pR HO_196004.out)) k_ hk, Kd.freshB (g := gb195) (o := .cells #[.int .i64 a0_0, .int .i64 a0_1, .slice Ao18 y200.length co18, .slice Ao20 y206.length co20, .slice Ao22 y212.length co22, .slice (some ad218) l0_5.length c0_5] 27 (0, 0)) (pK BK195.out) k_ hk, Kd.freshB (g := gb196) (o := .cells #[.int .i64 0, .int .i64 0, .slice none 0 0, .slice none 0 0, .slice none 0 0, .slice none 0 0] 27 (0, 0)) (pK BK196.out) k_ hk⟩)); (case aO => exact (by (with_reducible repeat (first | apply Kd.R_alloc | apply Kd.R_drewN | apply Kd.R_drew)); exact Kd.R_mono HO_3.out (fun _ hk => ⟨hk.1.1.1.1.1, ⟨hk.1.1.1.1.2.1, ⟨hk.1.1.1.1.2.2.1, ⟨hk.1.1.1.1.2.2.2.1, hk.1.1.1.1.2.2.2.2⟩⟩⟩⟩))); (case aS => exact (below_size pB)); (case aL => have := LMc29.out; omega); intro v234 w33 ho hb hg hat; rw [← Ny233.out] at ho; replace HO_196002 := am (Kd.R_over' (pR HO_196002.out) (Kd.R_typed (pR HO_3.out)) (by decide) hg); replace HO_196003 := am (Kd.R_over' (pR HO_196003.out) (Kd.R_typed (pR HO_3.out)) (by decide) hg); replace HO_196004 := am (Kd.R_over' (pR HO_196004.out) (Kd.R_typed (pR HO_3.out)) (by decide) hg); replace BK195 := am (blk_grown (g := gb195) (o := .cells #[.int .i64 a0_0, .int .i64 a0_1, .slice Ao18 y200.length co18, .slice Ao20 y206.length co20, .slice Ao22 y212.length co22, .slice (some ad218) l0_5.length c0_5] 27 (0, 0)) (pK BK195.out) hg (Kd.R_away HO_3.out (fun _ hk => hk.1.1.1.1.2.2.2.1))); replace BK196 := am (blk_grown (g := gb196) (o := .cells #[.int .i64 0, .int .i64 0, .slice none 0 0, .slice none 0 0, .slice none 0 0, .slice none 0 0] 27 (0, 0)) (pK BK196.out) hg (Kd.R_away HO_3.out (fun _ hk => hk.1.1.1.1.2.2.2.2))); replace HB := am (hb); have HO235 := am (ho); clear HO_3 HO223 HO226 HO229 HO232; clear ho hb hg hat))
         go_roundg k1
         case measure => have := HK1.out; omega
         case rel => exact ⟨(y233), (wrap64 (x4_1 + 1)), (by first | rfl | (simp; done) | (simp [*]; done)), H', ⟨by have := HK1.out; omega⟩, ⟨by (with_reducible repeat (first | apply Kd.R_alloc | apply Kd.R_drewN | apply Kd.R_drew)); exact HO235.out⟩, ⟨by (with_reducible repeat (first | apply Kd.R_alloc | apply Kd.R_drewN | apply Kd.R_drew)); exact Kd.R_mono HO_196002.out (fun _ hk => trivial)⟩, ⟨by (with_reducible repeat (first | apply Kd.R_alloc | apply Kd.R_drewN | apply Kd.R_drew)); exact Kd.R_mono HO_196003.out (fun _ hk => trivial)⟩, ⟨by (with_reducible repeat (first | apply Kd.R_alloc | apply Kd.R_drewN | apply Kd.R_drew)); exact Kd.R_mono HO_196004.out (fun _ hk => trivial)⟩, ⟨by (with_reducible repeat (first | refine blk_drewN ?_ _ | refine blk_drew ?_ | refine blk_alloc ?_ _)); exact BK195.out⟩, ⟨by (with_reducible repeat (first | refine blk_drewN ?_ _ | refine blk_drew ?_ | refine blk_alloc ?_ _)); exact BK196.out⟩, ⟨pB⟩⟩
        ·rw [if_neg c29] at H
         exact absurd H (by simp)
       ·rw [if_neg c27] at H
        exact absurd H (by simp)
      ·rw [if_neg c26] at H
       have c26b0 : decide (x4_1 < (l0_5.length : Int)) = false := decide_eq_false c26
       clear c26
       simp only [Option.some.injEq, Prod.mk.injEq] at H
       obtain ⟨rfl, rfl, rfl, rfl, rfl, rfl⟩ := H
       have hnb38 := NB195_196.out
       have hnc38 := NB196_195.out
       have q39 := cf6 BK195.out
       obtain ⟨Ao40, co40, eo40⟩ := Kd.R_slice HO_3.out
       subst eo40
       have q41 := cf6 BK196.out
       go_wp2
       refine bodyPost_ret (results_cell_row rfl _ _ gb196 27 #[.int .i64 a0_0, .int .i64 a0_1, .slice Ao18 y200.length co18, .slice Ao20 y206.length co20, .slice Ao22 y212.length co22, .slice Ao40 x3_1.length co40] (0, 0) _ rfl (by (with_reducible repeat (first | refine blk_drewN ?_ _ | refine blk_drew ?_ | refine blk_alloc ?_ _)); refine blk_put (cs := #[.int .i64 a0_0, .int .i64 a0_1, .slice Ao18 y200.length co18, .slice Ao20 y206.length co20, .slice Ao22 y212.length co22, .slice none 0 0]) ?_ 5 _ rfl; (with_reducible repeat (first | refine blk_drewN ?_ _ | refine blk_drew ?_ | refine blk_alloc ?_ _)); refine blk_put (cs := #[.int .i64 a0_0, .int .i64 a0_1, .slice Ao18 y200.length co18, .slice Ao20 y206.length co20, .slice none 0 0, .slice none 0 0]) ?_ 4 _ rfl; (with_reducible repeat (first | refine blk_drewN ?_ _ | refine blk_drew ?_ | refine blk_alloc ?_ _)); refine blk_put (cs := #[.int .i64 a0_0, .int .i64 a0_1, .slice Ao18 y200.length co18, .slice none 0 0, .slice none 0 0, .slice none 0 0]) ?_ 3 _ rfl; (with_reducible repeat (first | refine blk_drewN ?_ _ | refine blk_drew ?_ | refine blk_alloc ?_ _)); refine blk_put (cs := #[.int .i64 a0_0, .int .i64 a0_1, .slice none 0 0, .slice none 0 0, .slice none 0 0, .slice none 0 0]) ?_ 2 _ rfl; (with_reducible repeat (first | refine blk_drewN ?_ _ | refine blk_drew ?_ | refine blk_alloc ?_ _)); refine blk_put (cs := #[.int .i64 a0_0, .int .i64 0, .slice none 0 0, .slice none 0 0, .slice none 0 0, .slice none 0 0]) ?_ 1 _ rfl; (with_reducible repeat (first | refine blk_drewN ?_ _ | refine blk_drew ?_ | refine blk_alloc ?_ _)); refine blk_put (cs := #[.int .i64 0, .int .i64 0, .slice none 0 0, .slice none 0 0, .slice none 0 0, .slice none 0 0]) ?_ 0 _ rfl; (with_reducible repeat (first | refine blk_drewN ?_ _ | refine blk_drew ?_ | refine blk_alloc ?_ _)); refine blk_far ?_ NB196_195.out _; (with_reducible repeat (first | refine blk_drewN ?_ _ | refine blk_drew ?_ | refine blk_alloc ?_ _)); exact BK196.out) Tryd.underlying27 rfl (by kernel_rfl)) rfl ?_
       exact ⟨_, _, _, _, pE, by (with_reducible repeat (first | apply Kd.R_alloc | apply Kd.R_drewN | apply Kd.R_drew)); exact Kd.R_mono (Kd.R_far (p := ⟨gb196, 5, none⟩) (Kd.R_far (p := ⟨gb196, 4, none⟩) (Kd.R_far (p := ⟨gb196, 3, none⟩) (Kd.R_far (p := ⟨gb196, 2, none⟩) (Kd.R_far (p := ⟨gb196, 1, none⟩) (Kd.R_far (p := ⟨gb196, 0, none⟩) (Kd.R_far (p := ⟨gb195, 5, none⟩) (Kd.R_types (Kd.R_types HO_196002.out BK195.out (by decide)) BK196.out (by decide)) (fun _ hk => hk.1.2) (.slice Ao40 x3_1.length co40)) (fun _ hk => hk.2) (.int .i64 a0_0)) (fun _ hk => hk.2) (.int .i64 a0_1)) (fun _ hk => hk.2) (.slice Ao18 y200.length co18)) (fun _ hk => hk.2) (.slice Ao20 y206.length co20)) (fun _ hk => hk.2) (.slice Ao22 y212.length co22)) (fun _ hk => hk.2) (.slice Ao40 x3_1.length co40)) (fun _ hk => trivial), by (with_reducible repeat (first | apply Kd.R_alloc | apply Kd.R_drewN | apply Kd.R_drew)); exact Kd.R_mono (Kd.R_far (p := ⟨gb196, 5, none⟩) (Kd.R_far (p := ⟨gb196, 4, none⟩) (Kd.R_far (p := ⟨gb196, 3, none⟩) (Kd.R_far (p := ⟨gb196, 2, none⟩) (Kd.R_far (p := ⟨gb196, 1, none⟩) (Kd.R_far (p := ⟨gb196, 0, none⟩) (Kd.R_far (p := ⟨gb195, 5, none⟩) (Kd.R_types (Kd.R_types HO_196003.out BK195.out (by decide)) BK196.out (by decide)) (fun _ hk => hk.1.2) (.slice Ao40 x3_1.length co40)) (fun _ hk => hk.2) (.int .i64 a0_0)) (fun _ hk => hk.2) (.int .i64 a0_1)) (fun _ hk => hk.2) (.slice Ao18 y200.length co18)) (fun _ hk => hk.2) (.slice Ao20 y206.length co20)) (fun _ hk => hk.2) (.slice Ao22 y212.length co22)) (fun _ hk => hk.2) (.slice Ao40 x3_1.length co40)) (fun _ hk => trivial), by (with_reducible repeat (first | apply Kd.R_alloc | apply Kd.R_drewN | apply Kd.R_drew)); exact Kd.R_mono (Kd.R_far (p := ⟨gb196, 5, none⟩) (Kd.R_far (p := ⟨gb196, 4, none⟩) (Kd.R_far (p := ⟨gb196, 3, none⟩) (Kd.R_far (p := ⟨gb196, 2, none⟩) (Kd.R_far (p := ⟨gb196, 1, none⟩) (Kd.R_far (p := ⟨gb196, 0, none⟩) (Kd.R_far (p := ⟨gb195, 5, none⟩) (Kd.R_types (Kd.R_types HO_196004.out BK195.out (by decide)) BK196.out (by decide)) (fun _ hk => hk.1.2) (.slice Ao40 x3_1.length co40)) (fun _ hk => hk.2) (.int .i64 a0_0)) (fun _ hk => hk.2) (.int .i64 a0_1)) (fun _ hk => hk.2) (.slice Ao18 y200.length co18)) (fun _ hk => hk.2) (.slice Ao20 y206.length co20)) (fun _ hk => hk.2) (.slice Ao22 y212.length co22)) (fun _ hk => hk.2) (.slice Ao40 x3_1.length co40)) (fun _ hk => trivial), by (with_reducible repeat (first | apply Kd.R_alloc | apply Kd.R_drewN | apply Kd.R_drew)); exact Kd.R_mono (Kd.R_far (p := ⟨gb196, 5, none⟩) (Kd.R_far (p := ⟨gb196, 4, none⟩) (Kd.R_far (p := ⟨gb196, 3, none⟩) (Kd.R_far (p := ⟨gb196, 2, none⟩) (Kd.R_far (p := ⟨gb196, 1, none⟩) (Kd.R_far (p := ⟨gb196, 0, none⟩) (Kd.R_far (p := ⟨gb195, 5, none⟩) (Kd.R_mono (Kd.R_mono HO_3.out (fun k_ hk => (⟨hk, hk.2.2.2.1⟩ : _ ∧ k_ ≠ gb195))) (fun k_ hk => (⟨hk, hk.1.2.2.2.2⟩ : _ ∧ k_ ≠ gb196))) (fun _ hk => hk.1.2) (.slice Ao40 x3_1.length co40)) (fun _ hk => hk.2) (.int .i64 a0_0)) (fun _ hk => hk.2) (.int .i64 a0_1)) (fun _ hk => hk.2) (.slice Ao18 y200.length co18)) (fun _ hk => hk.2) (.slice Ao20 y206.length co20)) (fun _ hk => hk.2) (.slice Ao22 y212.length co22)) (fun _ hk => hk.2) (.slice Ao40 x3_1.length co40)) (fun _ hk => ⟨hk.1.1.1, ⟨hk.1.1.2.1, hk.1.1.2.2.1⟩⟩), pB⟩
   ·rw [if_neg c4] at H
    exact absurd H (by simp)
  ·rw [if_neg c3] at H
   exact absurd H (by simp)
 ·rw [if_neg c2] at H
  exact absurd H (by simp)
end Go.Proofs.YtlhnkfheojlghaaDoor.Pr
end
section
namespace Go.Proofs.YtlhnkfheojlghaaDoor.Pr
open Go.RowKit Go.Proofs.YtlhnkfheojlghaaDoorW.PrintWords Go.Proofs.YtlhnkfheojlghaaDoorW.PrintLast Go.Proofs.YtlhnkfheojlghaaDoorW.PrintMore
def canonM (a : Int) : Int := if Flo.nanB a.toNat = true then 9221120237041090560 else a
def normM (v : S98) : S98 :=
  if v.f0 = 1 ∨ v.f0 = 2 then ⟨v.f0, 0, ⟨#[]⟩, 0⟩ else if v.f0 = 3 then ⟨v.f0, canonM v.f1, ⟨#[]⟩, 0⟩ else if v.f0 = 4 then ⟨v.f0, 0, v.f2, 0⟩
  else if 5 ≤ v.f0 ∧ v.f0 ≤ 8 then ⟨v.f0, 0, ⟨#[]⟩, v.f3⟩ else ⟨0, 0, ⟨#[]⟩, 0⟩
def wordV (v : S98) : Prop := 0 ≤ v.f1 ∧ v.f1 < 18446744073709551616
theorem normal_f (v : S98) (h : wordV v) : value_Normal.f 1 v.f0 v.f1 v.f2 v.f3 = some ((normM v).f0, (normM v).f1, (normM v).f2, (normM v).f3) := by
  unfold value_Normal.f value_normal.f normM
  have hc : flo_Canon.f v.f1 = some (canonM v.f1) := by
    unfold flo_Canon.f flo_canon.f canonM
    rw [if_pos (show 0 ≤ v.f1 ∧ v.f1 < 18446744073709551616 from h)]
    rfl
  by_cases h1 : v.f0 = 1
  · simp [value_normal.j0, h1]
  by_cases h2 : v.f0 = 2
  · simp [value_normal.j0, h2]
  rw [if_neg h1, if_neg (by omega)]
  by_cases h3 : v.f0 = 3
  · simp [value_normal.j0, h3, hc]
  rw [if_neg h3]
  by_cases h4 : v.f0 = 4
  · simp [value_normal.j0, h4]
  rw [if_neg h4]
  by_cases h5 : v.f0 = 5
  · simp [value_normal.j0, h5]
  by_cases h6 : v.f0 = 6
  · simp [value_normal.j0, h6]
  by_cases h7 : v.f0 = 7
  · simp [value_normal.j0, h7]
  by_cases h8 : v.f0 = 8
  · simp [value_normal.j0, h8]
  rw [if_neg (by omega)]
  simp [value_normal.j0, h2, h3, h4, h5, h6, h7, h8]
def sameV (a b : S98) : Bool := (a.f0 == b.f0) && ((a.f1 == b.f1) && ((a.f2.toList == b.f2.toList) && (a.f3 == b.f3)))
def badC (v : S98) : Bool := decide (4 < v.f0) || !sameV (normM v) v
def badU (regs ups : Int) (u : S94) : Bool := decide (u.f1 < 0) || ((u.f0 && decide (regs ≤ u.f1)) || (!u.f0 && decide (ups ≤ u.f1)))
def upsM (l : List S94) (ab : Option (Int × Int)) : Bool := match ab with
  | none => decide (l.length = 0)
  | some (r, u) => !l.any (badU r u)
def endsM (l : List S36) : Bool := match l.getLast? with
  | none => false
  | some i => decide (i.f0 = 29) || (decide (i.f0 = 33) || decide (i.f0 = 34))
def isM (op : Int) : Bool := decide (0 ≤ op) && decide (op < 38)
def usesM (op : Int) : ByteArray := (ordersL.getD op.toNat z63).f1
def operM (i : S36) (k : Nat) : Int := if k = 0 then i.f1 else if k = 1 then i.f2 else i.f3
def mostM (p : S27) (i : S36) (c : Int) : Int :=
  if c = 82 then p.f1 else if c = 75 then (p.f4.length : Int) else if c = 85 then (p.f2.length : Int) else if c = 80 then (p.f5.length : Int) else if c = 79 then (p.f3.length : Int)
  else if c = 78 then min 31 (wrap64 (p.f1 - i.f1)) else 0
def operOk (p : S27) (i : S36) (u : ByteArray) (k : Nat) : Bool := decide (0 ≤ operM i k) && decide (operM i k < mostM p i (bt u (k : Int)))
def canM (p : S27) (i : S36) : Bool := isM i.f0 && ((List.range (usesM i.f0).size).all (operOk p i (usesM i.f0)) && ((i.f0 != 36 && i.f0 != 37) || decide (i.f1 < wrap64 (p.f1 - 2))))
def longM (p : S27) (deep n : Int) : Bool := decide (131072 < (p.f3.length : Int)) || (decide (131072 < (p.f4.length : Int)) || (decide (4096 < p.f1) || (decide (60 < (p.f2.length : Int)) || (decide (100 < deep) || decide (4096 < n)))))
def selfBad (p : S27) (ab : Option (Int × Int)) : Bool := decide (p.f0 < 0) || (decide (30 < p.f0) || (decide (p.f1 < p.f0) || (p.f4.any badC || (!endsM p.f3 || !upsM p.f2 ab))))
mutual
def chk : S27 → Option (Int × Int) → Int → Int → Int × Int
  | ⟨f0, f1, f2, f3, f4, f5⟩, ab, deep, many =>
    if longM ⟨f0, f1, f2, f3, f4, f5⟩ deep (many + 1) = true then (many + 1, 2)
    else if selfBad ⟨f0, f1, f2, f3, f4, f5⟩ ab = true then (many + 1, 1)
    else if f3.all (canM ⟨f0, f1, f2, f3, f4, f5⟩) = true then chkL f5 (f1, (f2.length : Int)) (deep + 1) (many + 1)
    else (many + 1, 1)
def chkL : List S27 → Int × Int → Int → Int → Int × Int
  | [], _, _, many => (many, 0)
  | p :: l, ab, deep, many => if (chk p (some ab) deep many).2 = 0 then chkL l ab deep (chk p (some ab) deep many).1 else chk p (some ab) deep many
end
mutual
def wordsM : S27 → Bool
  | ⟨_, _, _, _, f4, f5⟩ => f4.all (fun v => decide (0 ≤ v.f1) && decide (v.f1 < 18446744073709551616)) && wordsL f5
def wordsL : List S27 → Bool
  | [] => true
  | p :: l => wordsM p && wordsL l
end
theorem chk_eq (p : S27) (ab : Option (Int × Int)) (deep many : Int) : chk p ab deep many = if longM p deep (many + 1) = true then (many + 1, 2)
    else if selfBad p ab = true then (many + 1, 1)
    else if p.f3.all (canM p) = true then chkL p.f5 (p.f1, (p.f2.length : Int)) (deep + 1) (many + 1)
    else (many + 1, 1) := by cases p; rw [chk]
theorem wordsM_eq (p : S27) : wordsM p = (p.f4.all (fun v => decide (0 ≤ v.f1) && decide (v.f1 < 18446744073709551616)) && wordsL p.f5) := by cases p; rw [wordsM]
end Go.Proofs.YtlhnkfheojlghaaDoor.Pr
end
section
namespace Go.Proofs.YtlhnkfheojlghaaDoor.Pr
open Go.RowKit Go.Proofs.YtlhnkfheojlghaaDoorW.PrintWords Go.Proofs.YtlhnkfheojlghaaDoorW.PrintLast Go.Proofs.YtlhnkfheojlghaaDoorW.PrintMore
attribute [local go_sem] max2_int min2_int max_two min_two max_three min_three max_four min_four
attribute [local go_sem high] eqA98
def prog_checker_function_1.f (k : Nat) (a0_0 : Int) (a0_1 : Int) (a0_2 : ByteArray) (a0_3 : Int) : Option (Bool) := if a0_0 > 4 then (some true) else ((value_Normal.f k a0_0 a0_1 a0_2 a0_3).bind fun bt112 => (some (!(bt112.1 == a0_0) || (!(bt112.2.1 == a0_1) || (!(bt112.2.2.1.toList == a0_2.toList) || (!(bt112.2.2.2 == a0_3)))))))
def prog_checker_function_1.T1 : Bool × List (List Nat × List Nat) := (true, [([], []), ([0], [0]), ([1], [1]), ([2], [2]), ([3], [3]), ([4, 3, 3], [3, 4]), ([3], [3]), ([5, 6, 3], [3, 5, 6]), ([3, 7], [3, 7]), ([8, 5, 0, 1, 2, 3, 4, 5, 6, 7, 8], [8])])
def prog_checker_function_1.B1 : List Nat := [0, 1, 3, 7, 15, 31, 15, 127, 255, 511]
theorem prog_checker_function_1.tab1 : rtab .any (opsOf Tryd.f64 1) = prog_checker_function_1.T1 := by kernel_rfl
theorem prog_checker_function_1.bits1 : waitsOk prog_checker_function_1.T1.2 prog_checker_function_1.B1 = true := by kernel_rfl
set_option maxHeartbeats 8000000 in
set_option maxRecDepth 100000 in
theorem prog_checker_function_1.calls (k : Nat) (a0_0 : Int) (a0_1 : Int) (a0_2 : ByteArray) (a0_3 : Int) (r : Bool) (w : World) (h : prog_checker_function_1.f k a0_0 a0_1 a0_2 a0_3 = some r) :
    Calls Tryd.prog 64 #[.agg #[.int .i64 a0_0, .int .u64 a0_1, .string a0_2, .int .i64 a0_3]] w fun e w' => e = .returned (.bool r) ∧ Below w.heap.size w w' := by
  have hu98 := Tryd.underlying98
  have HB := Aside0.mk (Below.refl w.heap.size w)
  have H : (if a0_0 > 4 then (some true) else ((value_Normal.f k a0_0 a0_1 a0_2 a0_3).bind fun bt112 => (some (!(bt112.1 == a0_0) || (!(bt112.2.1 == a0_1) || (!(bt112.2.2.1.toList == a0_2.toList) || (!(bt112.2.2.2 == a0_3)))))))) = some r := h
  clear h
  by_cases c2 : a0_0 > 4
  · rw [if_pos c2] at H
    have c2b0 : decide (4 < a0_0) = true := decide_eq_true c2
    clear c2
    obtain rfl := Option.some.inj H
    go_enter Tryd.func64, Tryd.ntmps64
    try go_wp2_with (first | ((with_reducible refine gate_dst (N := 1) rfl ?_); refine box_event ?hg (N := 1) ?hd (cs := #[.int .i64 a0_0, .int .u64 a0_1, .string a0_2, .int .i64 a0_3]) (t := 98) ?hr ?_; (case hd => rfl); (case hg => rfl); (case hr => first | (go_simp; done) | (go_simp; rfl)); intro gb111 hg w3 hbox hb; have n0_ := Aside0.mk (below_step (by repeat (first | (with_reducible first | exact HB.out | apply below_alloc | apply pw_below_drewN | apply below_drew1) | exact HB.out)) hb); have n1_ := Aside0.mk (hbox); have n2_ := Aside0.mk ((by rw [hg]; exact (below_size (by repeat (first | (with_reducible first | exact HB.out | apply below_alloc | apply pw_below_drewN | apply below_drew1) | exact HB.out))) : w.heap.size ≤ gb111)); have n3_ := Aside0.mk ((by rw [hg]; exact (below_size (by repeat (first | (with_reducible first | exact HB.out | apply below_alloc | apply pw_below_drewN | apply below_drew1) | exact HB.out))) : w.heap.size ≤ gb111)); clear HB; have HB := n0_; have BK111 := n1_; have GW111 := n2_; have GE111 := n3_; clear n0_ n1_ n2_ n3_; clear hb hbox hg))
    have n0_ := Aside0.mk (blk_drew BK111.out)
    have n1_ := Aside0.mk (below_drew1 HB.out)
    clear BK111
    clear HB
    have BK111 := n0_
    have HB := n1_
    clear n0_ n1_
    refine start_ (n := 10) (S := fun w' => w'.cell? ⟨gb111, 0, none⟩ = some (.int .i64 a0_0) ∧ w'.cell? ⟨gb111, 1, none⟩ = some (.int .u64 a0_1) ∧ w'.cell? ⟨gb111, 2, none⟩ = some (.string a0_2) ∧ w'.cell? ⟨gb111, 3, none⟩ = some (.int .i64 a0_3)) (ds := []) #[false, false, false, false, false, false, false, false, false, false] (by kernel_rfl) rfl rfl ⟨(blk_cell BK111.out 0).trans rfl, (blk_cell BK111.out 1).trans rfl, (blk_cell BK111.out 2).trans rfl, (blk_cell BK111.out 3).trans rfl⟩ (fun hHeld => ?_); refine with_tabW prog_checker_function_1.tab1 prog_checker_function_1.bits1 (fun HT_ HW_ => ?_)
    generalize w3.drew = w4 at BK111 HB hHeld ⊢
    refine pure_ (i := 0) (N := some 3) (v := ?_) (a' := ?_) #[true, false, false, false, false, false, false, false, false, false] rfl rfl (any_of HT_.out (by kernel_rfl)) (fun _ _ _ h => h) (Or.inl ⟨by rfl, ?_⟩) ?_ ?_
    rotate_left
    · intro w'
      go_simp
      with_reducible rfl
    rotate_left
    · simp only [Act.put, List.setIfInBounds_toArray, List.set_cons_zero, List.set_cons_succ, i64_w, i32_w]
      rfl
    refine take_ (i := 1) (N := some 4) (v := ?_) (a' := ?_) #[true, true, false, false, false, false, false, false, false, false] rfl rfl (take_ofW HT_.out HW_.out (by kernel_rfl)) (fun _ _ _ h => h) (Or.inl ⟨by rfl, ?_⟩) hHeld ?_ ?_
    rotate_left
    · rintro w' ⟨s0, s1, s2, s3⟩
      go_simp
      with_reducible rfl
    rotate_left
    · simp only [Act.put, List.setIfInBounds_toArray, List.set_cons_zero, List.set_cons_succ, i64_w, i32_w]
      rfl
    refine pure_ (i := 2) (N := some 5) (v := ?_) (a' := ?_) #[true, true, true, false, false, false, false, false, false, false] rfl rfl (any_of HT_.out (by kernel_rfl)) (fun _ _ _ h => h) (Or.inl ⟨by rfl, ?_⟩) ?_ ?_
    rotate_left
    · intro w'
      go_simp
      with_reducible rfl
    rotate_left
    · simp only [Act.put, List.setIfInBounds_toArray, List.set_cons_zero, List.set_cons_succ, i64_w, i32_w]
      rfl
    refine pure_ (i := 3) (N := some 6) (v := ?_) (a' := ?_) #[true, true, true, true, false, false, false, false, false, false] rfl rfl (any_of HT_.out (by kernel_rfl)) (fun _ _ _ h => h) (Or.inl ⟨by rfl, ?_⟩) ?_ ?_
    rotate_left
    · intro w'
      go_simp
      with_reducible rfl
    rotate_left
    · simp only [Act.put, List.setIfInBounds_toArray, List.set_cons_zero, List.set_cons_succ, i64_w, i32_w]
      rfl
    refine pure_ (i := 4) (N := some 7) (v := undef) (a' := ?_) #[true, true, true, true, true, false, false, false, false, false] rfl rfl (any_of HT_.out (by kernel_rfl)) (fun _ _ _ h => h) (Or.inr ⟨by rfl, rfl⟩) ?_ ?_
    rotate_left
    · simp only [Act.put, List.setIfInBounds_toArray, List.set_cons_zero, List.set_cons_succ, i64_w, i32_w]
      rfl
    refine pure_ (i := 5) (N := some 8) (v := undef) (a' := ?_) #[true, true, true, true, true, true, false, false, false, false] rfl rfl (any_of HT_.out (by kernel_rfl)) (fun _ _ _ h => h) (Or.inr ⟨by rfl, rfl⟩) ?_ ?_
    rotate_left
    · simp only [Act.put, List.setIfInBounds_toArray, List.set_cons_zero, List.set_cons_succ, i64_w, i32_w]
      rfl
    refine pure_ (i := 6) (N := some 9) (v := undef) (a' := ?_) #[true, true, true, true, true, true, true, false, false, false] rfl rfl (any_of HT_.out (by kernel_rfl)) (fun _ _ _ h => h) (Or.inr ⟨by rfl, rfl⟩) ?_ ?_
    rotate_left
    · simp only [Act.put, List.setIfInBounds_toArray, List.set_cons_zero, List.set_cons_succ, i64_w, i32_w]
      rfl
    refine pure_ (i := 7) (N := some 10) (v := undef) (a' := ?_) #[true, true, true, true, true, true, true, true, false, false] rfl rfl (any_of HT_.out (by kernel_rfl)) (fun _ _ _ h => h) (Or.inr ⟨by rfl, rfl⟩) ?_ ?_
    rotate_left
    · simp only [Act.put, List.setIfInBounds_toArray, List.set_cons_zero, List.set_cons_succ, i64_w, i32_w]
      rfl
    refine pure_ (i := 8) (N := some 11) (v := ?_) (a' := ?_) #[true, true, true, true, true, true, true, true, true, false] rfl rfl (any_of HT_.out (by kernel_rfl)) (fun _ _ _ h => h) (Or.inl ⟨by rfl, ?_⟩) ?_ ?_
    rotate_left
    · intro w'
      go_simp
      with_reducible rfl
    rotate_left
    · simp only [Act.put, List.setIfInBounds_toArray, List.set_cons_zero, List.set_cons_succ, i64_w, i32_w]
      rfl
    refine pure_ (i := 9) (N := some 2) (v := ?_) (a' := ?_) #[true, true, true, true, true, true, true, true, true, true] rfl rfl (any_of HT_.out (by kernel_rfl)) (fun _ _ _ h => h) (Or.inl ⟨by rfl, ?_⟩) ?_ ?_
    rotate_left
    · intro w'
      go_simp
      with_reducible rfl
    rotate_left
    · simp only [Act.put, List.setIfInBounds_toArray, List.set_cons_zero, List.set_cons_succ, i64_w, i32_w]
      rfl
    refine done_ (done_of HT_.out (by kernel_rfl)) ?_
    try go_wp2
    go_ret
    exact ⟨by first | rfl | (simp [errW_none, errW_some] <;> rfl) | (simp [*, errW_none, errW_some] <;> rfl), by repeat (first | (with_reducible first | exact HB.out | apply below_alloc | apply pw_below_drewN | apply below_drew1 | refine below_set ?_ GE111.out) | exact HB.out)⟩
  · rw [if_neg c2] at H
    have c2b0 : decide (4 < a0_0) = false := decide_eq_false c2
    clear c2
    replace H := Option.bind_eq_some_iff.mp H
    obtain ⟨⟨t112, t113, t114, t115⟩, A50, H⟩ := H
    replace H : (some (!(t112 == a0_0) || (!(t113 == a0_1) || (!(t114.toList == a0_2.toList) || (!(t115 == a0_3)))))) = some r := H
    have A5 := Aside0.mk A50
    clear A50
    obtain rfl := Option.some.inj H
    go_enter Tryd.func64, Tryd.ntmps64
    try go_wp2_with (first | ((with_reducible refine gate_dst (N := 1) rfl ?_); refine box_event ?hg (N := 1) ?hd (cs := #[.int .i64 a0_0, .int .u64 a0_1, .string a0_2, .int .i64 a0_3]) (t := 98) ?hr ?_; (case hd => rfl); (case hg => rfl); (case hr => first | (go_simp; done) | (go_simp; rfl)); intro gb111 hg w6 hbox hb; have n0_ := Aside0.mk (below_step (by repeat (first | (with_reducible first | exact HB.out | apply below_alloc | apply pw_below_drewN | apply below_drew1) | exact HB.out)) hb); have n1_ := Aside0.mk (hbox); have n2_ := Aside0.mk ((by rw [hg]; exact (below_size (by repeat (first | (with_reducible first | exact HB.out | apply below_alloc | apply pw_below_drewN | apply below_drew1) | exact HB.out))) : w.heap.size ≤ gb111)); have n3_ := Aside0.mk ((by rw [hg]; exact (below_size (by repeat (first | (with_reducible first | exact HB.out | apply below_alloc | apply pw_below_drewN | apply below_drew1) | exact HB.out))) : w.heap.size ≤ gb111)); clear HB; have HB := n0_; have BK111 := n1_; have GW111 := n2_; have GE111 := n3_; clear n0_ n1_ n2_ n3_; clear hb hbox hg))
    have n0_ := Aside0.mk (blk_drew BK111.out)
    have n1_ := Aside0.mk (below_drew1 HB.out)
    clear BK111
    clear HB
    have BK111 := n0_
    have HB := n1_
    clear n0_ n1_
    refine start_ (n := 10) (S := fun w' => w'.cell? ⟨gb111, 0, none⟩ = some (.int .i64 a0_0) ∧ w'.cell? ⟨gb111, 1, none⟩ = some (.int .u64 a0_1) ∧ w'.cell? ⟨gb111, 2, none⟩ = some (.string a0_2) ∧ w'.cell? ⟨gb111, 3, none⟩ = some (.int .i64 a0_3)) (ds := []) #[false, false, false, false, false, false, false, false, false, false] (by kernel_rfl) rfl rfl ⟨(blk_cell BK111.out 0).trans rfl, (blk_cell BK111.out 1).trans rfl, (blk_cell BK111.out 2).trans rfl, (blk_cell BK111.out 3).trans rfl⟩ (fun hHeld => ?_); refine with_tabW prog_checker_function_1.tab1 prog_checker_function_1.bits1 (fun HT_ HW_ => ?_)
    generalize w6.drew = w7 at BK111 HB hHeld ⊢
    refine pure_ (i := 0) (N := some 3) (v := ?_) (a' := ?_) #[true, false, false, false, false, false, false, false, false, false] rfl rfl (any_of HT_.out (by kernel_rfl)) (fun _ _ _ h => h) (Or.inl ⟨by rfl, ?_⟩) ?_ ?_
    rotate_left
    · intro w'
      go_simp
      with_reducible rfl
    rotate_left
    · simp only [Act.put, List.setIfInBounds_toArray, List.set_cons_zero, List.set_cons_succ, i64_w, i32_w]
      rfl
    refine take_ (i := 1) (N := some 4) (v := ?_) (a' := ?_) #[true, true, false, false, false, false, false, false, false, false] rfl rfl (take_ofW HT_.out HW_.out (by kernel_rfl)) (fun _ _ _ h => h) (Or.inl ⟨by rfl, ?_⟩) hHeld ?_ ?_
    rotate_left
    · rintro w' ⟨s0, s1, s2, s3⟩
      go_simp
      with_reducible rfl
    rotate_left
    · simp only [Act.put, List.setIfInBounds_toArray, List.set_cons_zero, List.set_cons_succ, i64_w, i32_w]
      rfl
    refine pure_ (i := 2) (N := some 5) (v := ?_) (a' := ?_) #[true, true, true, false, false, false, false, false, false, false] rfl rfl (any_of HT_.out (by kernel_rfl)) (fun _ _ _ h => h) (Or.inl ⟨by rfl, ?_⟩) ?_ ?_
    rotate_left
    · intro w'
      go_simp
      with_reducible rfl
    rotate_left
    · simp only [Act.put, List.setIfInBounds_toArray, List.set_cons_zero, List.set_cons_succ, i64_w, i32_w]
      rfl
    refine pure_ (i := 3) (N := some 6) (v := ?_) (a' := ?_) #[true, true, true, true, false, false, false, false, false, false] rfl rfl (any_of HT_.out (by kernel_rfl)) (fun _ _ _ h => h) (Or.inl ⟨by rfl, ?_⟩) ?_ ?_
    rotate_left
    · intro w'
      go_simp
      with_reducible rfl
    rotate_left
    · simp only [Act.put, List.setIfInBounds_toArray, List.set_cons_zero, List.set_cons_succ, i64_w, i32_w]
      rfl
    refine take_ (i := 4) (N := some 7) (v := ?_) (a' := ?_) #[true, true, true, true, true, false, false, false, false, false] rfl rfl (take_ofW HT_.out HW_.out (by kernel_rfl)) (fun _ _ _ h => h) (Or.inl ⟨by rfl, ?_⟩) hHeld ?_ ?_
    rotate_left
    · rintro w' ⟨s0, s1, s2, s3⟩
      go_simp
      with_reducible rfl
    rotate_left
    · simp only [Act.put, List.setIfInBounds_toArray, List.set_cons_zero, List.set_cons_succ, i64_w, i32_w]
      rfl
    refine take_ (i := 6) (N := some 9) (v := ?_) (a' := ?_) #[true, true, true, true, true, false, true, false, false, false] rfl rfl (take_ofW HT_.out HW_.out (by kernel_rfl)) (fun _ _ _ h => h) (Or.inl ⟨by rfl, ?_⟩) hHeld ?_ ?_
    rotate_left
    · rintro w' ⟨s0, s1, s2, s3⟩
      go_simp
      with_reducible rfl
    rotate_left
    · simp only [Act.put, List.setIfInBounds_toArray, List.set_cons_zero, List.set_cons_succ, i64_w, i32_w]
      rfl
    refine one_ (i := 5) (N := some 8) #[true, true, true, true, true, true, true, false, false, false] rfl rfl (one_of HT_.out (by kernel_rfl)) (by decide) (fun K hK => ?_)
    refine goes_ Tryd.func65 (by kernel_rfl) rfl #[.agg #[.int .i64 a0_0, .int .u64 a0_1, .string a0_2, .int .i64 a0_3]] (by rfl) rfl rfl (by (try simp only [List.map_toArray, List.map_cons, List.map_nil]); first | done | rfl | (simp only [List.length_drop, List.length_take]; rfl)) ?_
    with_reducible refine (value_Normal.calls k a0_0 a0_1 a0_2 a0_3 t112 t113 t114 t115 _ A5.out).mono ?_
    rintro e w8 ⟨rfl, hb⟩
    refine ⟨_, rfl, ?_⟩
    have n0_ := Aside0.mk (blk_below (g := gb111) (o := .cells #[.int .i64 a0_0, .int .u64 a0_1, .string a0_2, .int .i64 a0_3] 98 (0, 0)) (by (with_reducible repeat (first | refine blk_drewN ?_ _ | refine blk_drew ?_ | refine blk_alloc ?_ _)); exact BK111.out) hb)
    have n1_ := Aside0.mk (below_step (by repeat (first | (with_reducible first | exact HB.out | apply below_alloc | apply pw_below_drewN | apply below_drew1 | refine below_set ?_ GE111.out) | exact HB.out)) hb)
    clear BK111
    clear HB
    have BK111 := n0_
    have HB := n1_
    clear n0_ n1_
    (try clear hb)
    (try clear hb2)
    (try clear hk)
    (try clear hi)
    refine hK.out _ _ ⟨(blk_cell BK111.out 0).trans rfl, (blk_cell BK111.out 1).trans rfl, (blk_cell BK111.out 2).trans rfl, (blk_cell BK111.out 3).trans rfl⟩ (fun hHeld => ?_)
    clear hK K
    refine norm_ (a' := ?_) ?_ ?_
    rotate_left
    · show Act.put _ (some 8) _ = _
      simp only [Act.put, List.setIfInBounds_toArray, List.set_cons_zero, List.set_cons_succ, i64_w, i32_w]
      rfl
    refine pure_ (i := 7) (N := some 10) (v := ?_) (a' := ?_) #[true, true, true, true, true, true, true, true, false, false] rfl rfl (any_of HT_.out (by kernel_rfl)) (fun _ _ _ h => h) (Or.inl ⟨by rfl, ?_⟩) ?_ ?_
    rotate_left
    · intro w'
      go_simp
      with_reducible rfl
    rotate_left
    · simp only [Act.put, List.setIfInBounds_toArray, List.set_cons_zero, List.set_cons_succ, i64_w, i32_w]
      rfl
    refine pure_ (i := 8) (N := some 11) (v := ?_) (a' := ?_) #[true, true, true, true, true, true, true, true, true, false] rfl rfl (any_of HT_.out (by kernel_rfl)) (fun _ _ _ h => h) (Or.inl ⟨by rfl, ?_⟩) ?_ ?_
    rotate_left
    · intro w'
      go_simp
      with_reducible rfl
    rotate_left
    · simp only [Act.put, List.setIfInBounds_toArray, List.set_cons_zero, List.set_cons_succ, i64_w, i32_w]
      rfl
    refine pure_ (i := 9) (N := some 2) (v := ?_) (a' := ?_) #[true, true, true, true, true, true, true, true, true, true] rfl rfl (any_of HT_.out (by kernel_rfl)) (fun _ _ _ h => h) (Or.inl ⟨by rfl, ?_⟩) ?_ ?_
    rotate_left
    · intro w'
      go_simp
      with_reducible rfl
    rotate_left
    · simp only [Act.put, List.setIfInBounds_toArray, List.set_cons_zero, List.set_cons_succ, i64_w, i32_w]
      rfl
    refine done_ (done_of HT_.out (by kernel_rfl)) ?_
    try go_wp2
    go_ret
    exact ⟨by first | rfl | (simp [errW_none, errW_some] <;> rfl) | (simp [*, errW_none, errW_some] <;> rfl), by repeat (first | (with_reducible first | exact HB.out | apply below_alloc | apply pw_below_drewN | apply below_drew1 | refine below_set ?_ GE111.out) | exact HB.out)⟩
end Go.Proofs.YtlhnkfheojlghaaDoor.Pr
end
section
namespace Go.Proofs.YtlhnkfheojlghaaDoor.Pr
open Go.RowKit Go.Proofs.YtlhnkfheojlghaaDoorW.PrintWords Go.Proofs.YtlhnkfheojlghaaDoorW.PrintLast Go.Proofs.YtlhnkfheojlghaaDoorW.PrintMore
theorem bad_f (v : S98) (h : wordV v) : prog_checker_function_1.f 1 v.f0 v.f1 v.f2 v.f3 = some (badC v) := by
  unfold prog_checker_function_1.f badC sameV
  rw [normal_f v h]
  by_cases h4 : 4 < v.f0
  · rw [if_pos (show v.f0 > 4 from h4), decide_eq_true h4]
    rfl
  · rw [if_neg (show ¬ v.f0 > 4 from h4), decide_eq_false h4]
    simp only [Option.bind_some, Bool.false_or, Bool.not_and]
theorem bad_calls (v : S98) (h : wordV v) (w : World) : Calls Tryd.prog 64 #[.agg #[.int .i64 v.f0, .int .u64 v.f1, .string v.f2, .int .i64 v.f3]] w fun e w' => e = .returned (.bool (badC v)) ∧ Below w.heap.size w w' :=
  prog_checker_function_1.calls 1 _ _ _ _ _ _ (bad_f v h)
def idxM {α : Type} (p : α → Bool) : List α → Nat → Int
  | [], _ => -1
  | x :: l, k => if p x = true then (k : Int) else idxM p l (k + 1)
theorem idxM_any {α : Type} (p : α → Bool) : ∀ (l : List α) (k : Nat), decide (0 ≤ idxM p l k) = l.any p
  | [], k => by simp [idxM]
  | x :: l, k => by
    unfold idxM
    by_cases h : p x = true
    · rw [if_pos h, List.any_cons, h]; simp
    · rw [if_neg h, idxM_any p l (k + 1), List.any_cons]; simp [h]
theorem idxM_drop {α : Type} (p : α → Bool) (l : List α) (k : Nat) (hk : k < l.length) : idxM p (l.drop k) k = if p l[k] = true then (k : Int) else idxM p (l.drop (k + 1)) (k + 1) := by
  rw [List.drop_eq_getElem_cons hk]
  rfl
set_option maxRecDepth 100000 in
set_option maxHeartbeats 1000000 in
theorem indexV_calls (w0 w : World) (hb : Below w0.heap.size w0 w) (A : Option Addr) (c : Nat) (l : List S98) (hC : Kd.C k98 w0 A l.length l) (p : S98 → Bool) (g : Nat) (lb : Array Value) (eg : ∀ args W, (callFunc g args).run Tryd.prog W = .ok (.enter g args) W)
    (hp : ∀ x ∈ l, ∀ W, Below w.heap.size w W → Calls Tryd.prog g (#[.agg #[.int .i64 x.f0, .int .u64 x.f1, .string x.f2, .int .i64 x.f3]] ++ lb) W fun e w' => e = .returned (.bool (p x)) ∧ Below W.heap.size W w') :
    Calls Tryd.prog 75 #[.slice A l.length c, .func (.func g) #[] lb] w fun e w' => e = .returned (.int .i64 (idxM p l 0)) ∧ Below w.heap.size w w' := by
  have HC := Aside0.mk hC
  have HB := Aside0.mk hb
  have HP := Aside0.mk hp
  have hlen : (l.length : Int) ≤ 9223372036854775807 := by have := hC.2.1; omega
  clear hC hb hp
  go_enter Tryd.func75, Tryd.ntmps75
  go_wp2_with fail
  have B0 := Aside0.mk (Below.refl w.heap.size w)
  have N0 := Aside0.mk (Eq.refl (idxM p l 0))
  go_loopw [5, 8] (fun _ i wr => ∃ (k : Nat), i = .int .i64 k ∧ k ≤ l.length ∧ Aside0 (Below w.heap.size w wr) ∧ Aside0 (idxM p l 0 = idxM p (l.drop k) k)) (fun _ i _ => l.length - (intOf i).toNat)
  case atStart => exact ⟨0, rfl, Nat.zero_le _, B0, ⟨by rw [List.drop_zero]⟩⟩
  case round =>
    obtain ⟨k, rfl, hk, hB, hN⟩ := hrel
    by_cases hlt : k < l.length
    · have i1 : (k : Int) < (l.length : Int) := by omega
      have hrow := Kd.C_below HC.out (HB.out.trans (hB.out.mono HB.out.size))
      obtain ⟨ad, rfl, c0, c1, c2, c3⟩ := at_T98 hrow (k : Int) (by omega) (by omega)
      have hx : rd_T98 l (k : Int) = l[k] := by simp [rd_T98, hlt]
      have HX := Aside0.mk (show l[k] ∈ l from List.getElem_mem _)
      have HD := Aside0.mk (idxM_drop p l k hlt)
      rw [hx] at c0 c1 c2 c3
      rw [Int.toNat_natCast] at c0 c1 c2 c3
      generalize l[k] = x at c0 c1 c2 c3 HX HD
      have hcall := fun W (h : Below wr.heap.size wr W) => HP.out x HX.out W (hB.out.trans (h.mono hB.out.size))
      clear hrow hx
      cases hq : p x with
      | true =>
        rw [hq] at hcall HD
        go_wp2_with (go_at_fn g; refine (hcall _ (Below.refl _ _)).mono ?_; rintro e w2 ⟨rfl, hb2⟩; have B2 := Aside0.mk hb2; clear hb2)
        go_ret
        exact ⟨by rw [hN.out, HD.out]; rfl, hB.out.trans (B2.out.mono hB.out.size)⟩
      | false =>
        rw [hq] at hcall HD
        go_wp2_with (go_at_fn g; refine (hcall _ (Below.refl _ _)).mono ?_; rintro e w2 ⟨rfl, hb2⟩; have B2 := Aside0.mk hb2; clear hb2)
        go_round
        case rel => exact ⟨k + 1, by go_num, by omega, ⟨hB.out.trans (B2.out.mono hB.out.size)⟩, ⟨by rw [hN.out, HD.out]; rfl⟩⟩
        case measure => simp [intOf]; omega
    · have i1 : ¬ (k : Int) < (l.length : Int) := by omega
      go_wp2_with fail
      go_ret
      exact ⟨by rw [hN.out, List.drop_eq_nil_of_le (by omega)]; rfl, hB.out⟩
set_option maxRecDepth 100000 in
theorem containsV_calls (w0 w : World) (hb : Below w0.heap.size w0 w) (A : Option Addr) (c : Nat) (l : List S98) (hC : Kd.C k98 w0 A l.length l) (p : S98 → Bool) (g : Nat) (lb : Array Value) (eg : ∀ args W, (callFunc g args).run Tryd.prog W = .ok (.enter g args) W)
    (hp : ∀ x ∈ l, ∀ W, Below w.heap.size w W → Calls Tryd.prog g (#[.agg #[.int .i64 x.f0, .int .u64 x.f1, .string x.f2, .int .i64 x.f3]] ++ lb) W fun e w' => e = .returned (.bool (p x)) ∧ Below W.heap.size W w') :
    Calls Tryd.prog 63 #[.slice A l.length c, .func (.func g) #[] lb] w fun e w' => e = .returned (.bool (l.any p)) ∧ Below w.heap.size w w' := by
  have HI := Aside0.mk (indexV_calls w0 w hb A c l hC p g lb eg hp)
  rw [← idxM_any p l 0]
  clear hC hb hp
  go_enter Tryd.func63, Tryd.ntmps63
  go_wp2_with (go_at_call 75; refine HI.out.mono ?_; rintro e w1 ⟨rfl, hb1⟩; have B1 := Aside0.mk hb1; clear hb1)
  go_ret
  exact ⟨rfl, B1.out⟩
set_option maxRecDepth 100000 in
set_option maxHeartbeats 1000000 in
theorem indexU_calls (w0 w : World) (hb : Below w0.heap.size w0 w) (A : Option Addr) (c : Nat) (l : List S94) (hC : Kd.C k94 w0 A l.length l) (p : S94 → Bool) (g : Nat) (lb : Array Value) (eg : ∀ args W, (callFunc g args).run Tryd.prog W = .ok (.enter g args) W)
    (hp : ∀ x ∈ l, ∀ W, Below w.heap.size w W → Calls Tryd.prog g (#[.agg #[.bool x.f0, .int .i64 x.f1]] ++ lb) W fun e w' => e = .returned (.bool (p x)) ∧ Below W.heap.size W w') :
    Calls Tryd.prog 83 #[.slice A l.length c, .func (.func g) #[] lb] w fun e w' => e = .returned (.int .i64 (idxM p l 0)) ∧ Below w.heap.size w w' := by
  have HC := Aside0.mk hC
  have HB := Aside0.mk hb
  have HP := Aside0.mk hp
  have hlen : (l.length : Int) ≤ 9223372036854775807 := by have := hC.2.1; omega
  clear hC hb hp
  go_enter Tryd.func83, Tryd.ntmps83
  go_wp2_with fail
  have B0 := Aside0.mk (Below.refl w.heap.size w)
  have N0 := Aside0.mk (Eq.refl (idxM p l 0))
  go_loopw [5, 8] (fun _ i wr => ∃ (k : Nat), i = .int .i64 k ∧ k ≤ l.length ∧ Aside0 (Below w.heap.size w wr) ∧ Aside0 (idxM p l 0 = idxM p (l.drop k) k)) (fun _ i _ => l.length - (intOf i).toNat)
  case atStart => exact ⟨0, rfl, Nat.zero_le _, B0, ⟨by rw [List.drop_zero]⟩⟩
  case round =>
    obtain ⟨k, rfl, hk, hB, hN⟩ := hrel
    by_cases hlt : k < l.length
    · have i1 : (k : Int) < (l.length : Int) := by omega
      have hrow := Kd.C_below HC.out (HB.out.trans (hB.out.mono HB.out.size))
      obtain ⟨ad, rfl, c0, c1⟩ := at_T94 hrow (k : Int) (by omega) (by omega)
      have hx : rd_T94 l (k : Int) = l[k] := by simp [rd_T94, hlt]
      have HX := Aside0.mk (show l[k] ∈ l from List.getElem_mem _)
      have HD := Aside0.mk (idxM_drop p l k hlt)
      rw [hx] at c0 c1
      rw [Int.toNat_natCast] at c0 c1
      generalize l[k] = x at c0 c1 HX HD
      have hcall := fun W (h : Below wr.heap.size wr W) => HP.out x HX.out W (hB.out.trans (h.mono hB.out.size))
      clear hrow hx
      cases hq : p x with
      | true =>
        rw [hq] at hcall HD
        go_wp2_with (go_at_fn g; refine (hcall _ (Below.refl _ _)).mono ?_; rintro e w2 ⟨rfl, hb2⟩; have B2 := Aside0.mk hb2; clear hb2)
        go_ret
        exact ⟨by rw [hN.out, HD.out]; rfl, hB.out.trans (B2.out.mono hB.out.size)⟩
      | false =>
        rw [hq] at hcall HD
        go_wp2_with (go_at_fn g; refine (hcall _ (Below.refl _ _)).mono ?_; rintro e w2 ⟨rfl, hb2⟩; have B2 := Aside0.mk hb2; clear hb2)
        go_round
        case rel => exact ⟨k + 1, by go_num, by omega, ⟨hB.out.trans (B2.out.mono hB.out.size)⟩, ⟨by rw [hN.out, HD.out]; rfl⟩⟩
        case measure => simp [intOf]; omega
    · have i1 : ¬ (k : Int) < (l.length : Int) := by omega
      go_wp2_with fail
      go_ret
      exact ⟨by rw [hN.out, List.drop_eq_nil_of_le (by omega)]; rfl, hB.out⟩
set_option maxRecDepth 100000 in
theorem containsU_calls (w0 w : World) (hb : Below w0.heap.size w0 w) (A : Option Addr) (c : Nat) (l : List S94) (hC : Kd.C k94 w0 A l.length l) (p : S94 → Bool) (g : Nat) (lb : Array Value) (eg : ∀ args W, (callFunc g args).run Tryd.prog W = .ok (.enter g args) W)
    (hp : ∀ x ∈ l, ∀ W, Below w.heap.size w W → Calls Tryd.prog g (#[.agg #[.bool x.f0, .int .i64 x.f1]] ++ lb) W fun e w' => e = .returned (.bool (p x)) ∧ Below W.heap.size W w') :
    Calls Tryd.prog 77 #[.slice A l.length c, .func (.func g) #[] lb] w fun e w' => e = .returned (.bool (l.any p)) ∧ Below w.heap.size w w' := by
  have HI := Aside0.mk (indexU_calls w0 w hb A c l hC p g lb eg hp)
  rw [← idxM_any p l 0]
  clear hC hb hp
  go_enter Tryd.func77, Tryd.ntmps77
  go_wp2_with (go_at_call 83; refine HI.out.mono ?_; rintro e w1 ⟨rfl, hb1⟩; have B1 := Aside0.mk hb1; clear hb1)
  go_ret
  exact ⟨rfl, B1.out⟩
end Go.Proofs.YtlhnkfheojlghaaDoor.Pr
end
section
namespace Go.Proofs.YtlhnkfheojlghaaDoor.Pr
open Go.RowKit Go.Proofs.YtlhnkfheojlghaaDoorW.PrintWords Go.Proofs.YtlhnkfheojlghaaDoorW.PrintLast Go.Proofs.YtlhnkfheojlghaaDoorW.PrintMore
theorem wrap_id {n : Int} (h0 : -9223372036854775808 ≤ n) (h1 : n ≤ 9223372036854775807) : wrap64 n = n := by
  unfold wrap64
  omega
theorem ends_f (a b : Int) (l2 : List S94) (l3 : List S36) (l4 : List S98) (l5 : List S27) (hl : (l3.length : Int) ≤ 9223372036854775807) : prog_ends.f a b l2 l3 l4 l5 = some (endsM l3) := by
  unfold prog_ends.f endsM
  rcases l3.eq_nil_or_concat with rfl | ⟨l, x, rfl⟩
  · rfl
  · rw [List.concat_eq_append] at hl ⊢
    have e1 : ((l ++ [x]).length : Int) = (l.length : Int) + 1 := by simp
    rw [e1] at hl ⊢
    have e2 : wrap64 ((l.length : Int) + 1 - 1) = (l.length : Int) := by rw [wrap_id (by omega) (by omega)]; omega
    have e3 : rd_T36 (l ++ [x]) (l.length : Int) = x := by simp [rd_T36]
    rw [if_neg (by omega), e2, if_pos (by omega), if_pos (by omega), e3, List.getLast?_append]
    simp only [List.getLast?_singleton, Option.or_some, Option.some_or]
    by_cases h1 : x.f0 = 29
    · simp [h1]
    by_cases h2 : x.f0 = 33
    · simp [h2]
    by_cases h3 : x.f0 = 34
    · simp [h3]
    · simp [h1, h2, h3]
structure AbBox (w : World) (bx ab : Nat) (r : Int) (A : Option Addr) (n c : Nat) : Prop where
  box : w.cell? ⟨bx, 0, none⟩ = some (.pointer (some ⟨ab, 0, none⟩))
  regs : w.cell? ⟨ab, 1, none⟩ = some (.int .i64 r)
  ups : w.cell? ⟨ab, 2, none⟩ = some (.slice A n c)
set_option maxRecDepth 100000 in
set_option maxHeartbeats 1000000 in
theorem badU_calls (w : World) (bx ab : Nat) (r : Int) (A : Option Addr) (n c : Nat) (h : AbBox w bx ab r A n c) (u : S94) :
    Calls Tryd.prog 78 #[.agg #[.bool u.f0, .int .i64 u.f1], .pointer (some ⟨bx, 0, none⟩)] w fun e w' => e = .returned (.bool (badU r (n : Int) u)) ∧ Below w.heap.size w w' := by
  obtain ⟨o, at_⟩ := u
  obtain ⟨W1, hW1⟩ : ∃ W1, W1 = w.alloc (.cells #[.bool o, .int .i64 at_] 94) := ⟨_, rfl⟩
  have hb : Below w.heap.size w W1 := by rw [hW1]; exact (Below.refl _ w).alloc (Nat.le_refl _) _
  have hblk := heap_alloc_new w (.cells #[.bool o, .int .i64 at_] 94)
  rw [← hW1] at hblk
  have k0 : W1.cell? ⟨w.heap.size, 0, none⟩ = some (.bool o) := by rw [cell_of_row W1 _ 0 _ _ _ hblk]; rfl
  have k1 : W1.cell? ⟨w.heap.size, 1, none⟩ = some (.int .i64 at_) := by rw [cell_of_row W1 _ 1 _ _ _ hblk]; rfl
  have b0 := pw_cell_below hb h.box
  have b1 := pw_cell_below hb h.regs
  have b2 := pw_cell_below hb h.ups
  have HB := Aside0.mk hb
  clear h hblk hb
  have fin : ∀ bb : Bool, bb = badU r (n : Int) ⟨o, at_⟩ → ∀ m, (Ending.returned (.bool bb) = Ending.returned (.bool (badU r (n : Int) ⟨o, at_⟩)) ∧ Below w.heap.size w (W1.drewN m)) := fun bb hbb m => ⟨by rw [hbb], pw_below_drewN HB.out m⟩
  have FIN := Aside0.mk fin
  clear fin
  by_cases h0 : at_ < 0
  · have d0 : decide (at_ < 0) = true := decide_eq_true h0
    go_enter Tryd.func78, Tryd.ntmps78
    go_wp2_with fail
    rw [← hW1]
    clear hW1
    go_quiet (fail)
    go_wp2_with fail
    go_ret
    exact FIN.out _ (by simp [badU, h0]) _
  · have d0 : decide (at_ < 0) = false := decide_eq_false h0
    cases o with
    | true =>
      by_cases h1 : r ≤ at_
      · have d1 : decide (r ≤ at_) = true := decide_eq_true h1
        go_enter Tryd.func78, Tryd.ntmps78
        go_wp2_with fail
        rw [← hW1]
        clear hW1
        go_quiet (fail)
        go_wp2_with fail
        go_ret
        exact FIN.out _ (by simp [badU, h0, h1]) _
      · have d1 : decide (r ≤ at_) = false := decide_eq_false h1
        go_enter Tryd.func78, Tryd.ntmps78
        go_wp2_with fail
        rw [← hW1]
        clear hW1
        go_quiet (fail)
        go_wp2_with fail
        go_ret
        exact FIN.out _ (by simp [badU, h0, h1]) _
    | false =>
      by_cases h1 : (n : Int) ≤ at_
      · have d1 : decide ((n : Int) ≤ at_) = true := decide_eq_true h1
        go_enter Tryd.func78, Tryd.ntmps78
        go_wp2_with fail
        rw [← hW1]
        clear hW1
        go_quiet (fail)
        go_wp2_with fail
        go_ret
        exact FIN.out _ (by simp [badU, h0, h1]) _
      · have d1 : decide ((n : Int) ≤ at_) = false := decide_eq_false h1
        go_enter Tryd.func78, Tryd.ntmps78
        go_wp2_with fail
        rw [← hW1]
        clear hW1
        go_quiet (fail)
        go_wp2_with fail
        go_ret
        exact FIN.out _ (by simp [badU, h0, h1]) _
end Go.Proofs.YtlhnkfheojlghaaDoor.Pr
end
section
namespace Go.Proofs.YtlhnkfheojlghaaDoor.Pr
open Go.RowKit Go.Proofs.YtlhnkfheojlghaaDoorW.PrintWords Go.Proofs.YtlhnkfheojlghaaDoorW.PrintLast Go.Proofs.YtlhnkfheojlghaaDoorW.PrintMore
def AboutIs (w : World) : Option (Int × Int) → Value → Prop
  | none, v => v = .pointer none
  | some (r, u), v => ∃ b A n c, v = .pointer (some ⟨b, 0, none⟩) ∧ w.cell? ⟨b, 1, none⟩ = some (.int .i64 r) ∧ w.cell? ⟨b, 2, none⟩ = some (.slice A n c) ∧ u = (n : Int)
theorem AboutIs.below {w w' : World} {ab : Option (Int × Int)} {v : Value} (h : AboutIs w ab v) (hb : Below w.heap.size w w') : AboutIs w' ab v := by
  cases ab with
  | none => exact h
  | some x =>
    obtain ⟨r, u⟩ := x
    obtain ⟨b, A, n, c, h1, h2, h3, h4⟩ := h
    exact ⟨b, A, n, c, h1, pw_cell_below hb h2, pw_cell_below hb h3, h4⟩
theorem len0 {α : Type} (l : List α) : ((l.length : Int) == 0) = decide (l.length = 0) := by
  by_cases h : l.length = 0
  · rw [h]; rfl
  · rw [decide_eq_false h]; exact beq_eq_false_iff_ne.mpr (by omega)
def cellsP (f0 f1 : Int) (A2 : Option Addr) (n2 c2 : Nat) (A3 : Option Addr) (n3 c3 : Nat) (A4 : Option Addr) (n4 c4 : Nat) (A5 : Option Addr) (n5 c5 : Nat) : Array Value := #[.int .i64 f0, .int .i64 f1, .slice A2 n2 c2, .slice A3 n3 c3, .slice A4 n4 c4, .slice A5 n5 c5]
set_option maxRecDepth 100000 in
set_option maxHeartbeats 1000000 in
theorem ups_calls (w0 w : World) (hb : Below w0.heap.size w0 w) (f0 f1 : Int) (A2 : Option Addr) (c2 : Nat) (l2 : List S94) (hC : Kd.C k94 w0 A2 l2.length l2) (A3 : Option Addr) (n3 c3 : Nat) (A4 : Option Addr) (n4 c4 : Nat) (A5 : Option Addr) (n5 c5 : Nat) (ab : Option (Int × Int)) (v : Value) (ha : AboutIs w ab v) :
    Calls Tryd.prog 67 #[.agg #[.int .i64 f0, .int .i64 f1, .slice A2 l2.length c2, .slice A3 n3 c3, .slice A4 n4 c4, .slice A5 n5 c5], v] w fun e w' => e = .returned (.bool (upsM l2 ab)) ∧ Below w.heap.size w w' := by
  have HB := Aside0.mk hb
  have HC := Aside0.mk hC
  have hlen : (l2.length : Int) ≤ 9223372036854775807 := by have := hC.2.1; omega
  cases ab with
  | none =>
    obtain rfl : v = .pointer none := ha
    clear hb hC
    have B1 := Aside0.mk (((Below.refl w.heap.size w).alloc (Nat.le_refl _) (.cells #[.int .i64 f0, .int .i64 f1, .slice A2 l2.length c2, .slice A3 n3 c3, .slice A4 n4 c4, .slice A5 n5 c5] 27)).alloc (by simp) (.cells #[.pointer none] 108))
    go_enter Tryd.func67, Tryd.ntmps67
    go_wp2_with fail
    go_ret
    exact ⟨congrArg (fun bb => Ending.returned (.bool bb)) (len0 l2), B1.out⟩
  | some x =>
    obtain ⟨r, u⟩ := x
    obtain ⟨b, A, n, c, rfl, h2, h3, rfl⟩ := ha
    obtain ⟨W1, hW1⟩ : ∃ W1, W1 = (w.alloc (.cells #[.int .i64 f0, .int .i64 f1, .slice A2 l2.length c2, .slice A3 n3 c3, .slice A4 n4 c4, .slice A5 n5 c5] 27)).alloc (.cells #[.pointer (some ⟨b, 0, none⟩)] 108) := ⟨_, rfl⟩
    have B1 : Aside0 (Below w.heap.size w W1) := ⟨by rw [hW1]; exact ((Below.refl w.heap.size w).alloc (Nat.le_refl _) _).alloc (by simp) _⟩
    have hbox : W1.cell? ⟨w.heap.size + 1, 0, none⟩ = some (.pointer (some ⟨b, 0, none⟩)) := by
      have h := heap_alloc_new (w.alloc (.cells #[.int .i64 f0, .int .i64 f1, .slice A2 l2.length c2, .slice A3 n3 c3, .slice A4 n4 c4, .slice A5 n5 c5] 27)) (.cells #[.pointer (some ⟨b, 0, none⟩)] 108)
      rw [← hW1] at h
      rw [show (w.alloc (.cells #[.int .i64 f0, .int .i64 f1, .slice A2 l2.length c2, .slice A3 n3 c3, .slice A4 n4 c4, .slice A5 n5 c5] 27)).heap.size = w.heap.size + 1 by simp] at h
      rw [cell_of_row W1 _ 0 _ _ _ h]; rfl
    have hA : Aside0 (AbBox W1 (w.heap.size + 1) b r A n c) := ⟨⟨hbox, pw_cell_below B1.out h2, pw_cell_below B1.out h3⟩⟩
    have HCO := Aside0.mk (containsU_calls w0 W1 (HB.out.trans (B1.out.mono HB.out.size)) A2 c2 l2 hC (badU r (n : Int)) 78 #[.pointer (some ⟨w.heap.size + 1, 0, none⟩)] (by intro args W; kernel_rfl)
      (fun x hx W hW => badU_calls W (w.heap.size + 1) b r A n c ⟨pw_cell_below hW hA.out.box, pw_cell_below hW hA.out.regs, pw_cell_below hW hA.out.ups⟩ x))
    clear hb hC h2 h3 hbox hA
    go_enter Tryd.func67, Tryd.ntmps67
    go_wp2_with (go_at_call 77; rw [← hW1]; refine HCO.out.mono ?_; rintro e w2 ⟨rfl, hb2⟩; have B2 := Aside0.mk hb2; clear hb2)
    go_ret
    exact ⟨rfl, below_step B1.out B2.out⟩
set_option maxRecDepth 100000 in
set_option maxHeartbeats 1000000 in
theorem operands_calls (w : World) (i : S36) :
    Calls Tryd.prog 46 #[.agg #[.int .i64 i.f0, .int .i64 i.f1, .int .i64 i.f2, .int .i64 i.f3]] w fun e w' => e = .returned (.agg #[.int .i64 i.f1, .int .i64 i.f2, .int .i64 i.f3]) ∧ Below w.heap.size w w' := by
  obtain ⟨a, b, c, d⟩ := i
  have B1 := Aside0.mk (((Below.refl w.heap.size w).alloc (Nat.le_refl _) (.cells #[.int .i64 a, .int .i64 b, .int .i64 c, .int .i64 d] 36)).alloc (by simp) (.cells #[.int .i64 b, .int .i64 c, .int .i64 d] 82))
  go_enter Tryd.func46, Tryd.ntmps46
  go_wp2_with fail
  refine bodyPost_ret (results_cell_row rfl _ _ (w.heap.size + 1) 82 #[.int .i64 b, .int .i64 c, .int .i64 d] (0, 0) _ (by rfl) (by have h := heap_alloc_new (w.alloc (.cells #[.int .i64 a, .int .i64 b, .int .i64 c, .int .i64 d] 36)) (.cells #[.int .i64 b, .int .i64 c, .int .i64 d] 82); rw [show (w.alloc (.cells #[.int .i64 a, .int .i64 b, .int .i64 c, .int .i64 d] 36)).heap.size = w.heap.size + 1 by simp] at h; exact h) (by exact Tryd.underlying82) (by rfl) (by kernel_rfl)) rfl ?_
  exact ⟨rfl, B1.out⟩
end Go.Proofs.YtlhnkfheojlghaaDoor.Pr
end
section
namespace Go.Proofs.YtlhnkfheojlghaaDoor.Pr
open Go.RowKit Go.Proofs.YtlhnkfheojlghaaDoorW.PrintWords Go.Proofs.YtlhnkfheojlghaaDoorW.PrintLast Go.Proofs.YtlhnkfheojlghaaDoorW.PrintMore
attribute [local go_sem] max2_int min2_int max_two min_two max_three min_three max_four min_four
theorem uses_small (op : Int) : (usesM op).size ≤ 3 := by
  unfold usesM
  generalize op.toNat = n
  by_cases h : n < 38
  · have hall : ∀ m, m < 38 → (ordersL.getD m z63).f1.size ≤ 3 := by decide
    exact hall n h
  · rw [List.getD_eq_getElem?_getD, List.getElem?_eq_none (by simp [ordersL]; omega)]
    decide
structure CanIs (W : World) (pb ib ob xb : Nat) (f1 : Int) (A2 : Option Addr) (n2 c2 : Nat) (A3 : Option Addr) (n3 c3 : Nat) (A4 : Option Addr) (n4 c4 : Nat) (A5 : Option Addr) (n5 c5 : Nat) (i : S36) (u : ByteArray) : Prop where
  p1 : W.cell? ⟨pb, 1, none⟩ = some (.int .i64 f1)
  p2 : W.cell? ⟨pb, 2, none⟩ = some (.slice A2 n2 c2)
  p3 : W.cell? ⟨pb, 3, none⟩ = some (.slice A3 n3 c3)
  p4 : W.cell? ⟨pb, 4, none⟩ = some (.slice A4 n4 c4)
  p5 : W.cell? ⟨pb, 5, none⟩ = some (.slice A5 n5 c5)
  i0 : W.cell? ⟨ib, 0, none⟩ = some (.int .i64 i.f0)
  i1 : W.cell? ⟨ib, 1, none⟩ = some (.int .i64 i.f1)
  o1 : W.cell? ⟨ob, 1, none⟩ = some (.string u)
  x : ∀ k, k < 3 → W.cell? ⟨xb, k, none⟩ = some (.int .i64 (operM i k))
theorem CanIs.below {W W' : World} {pb ib ob xb : Nat} {f1 : Int} {A2 : Option Addr} {n2 c2 : Nat} {A3 : Option Addr} {n3 c3 : Nat} {A4 : Option Addr} {n4 c4 : Nat} {A5 : Option Addr} {n5 c5 : Nat} {i : S36} {u : ByteArray} (h : CanIs W pb ib ob xb f1 A2 n2 c2 A3 n3 c3 A4 n4 c4 A5 n5 c5 i u) (hb : Below W.heap.size W W') : CanIs W' pb ib ob xb f1 A2 n2 c2 A3 n3 c3 A4 n4 c4 A5 n5 c5 i u :=
  ⟨pw_cell_below hb h.p1, pw_cell_below hb h.p2, pw_cell_below hb h.p3, pw_cell_below hb h.p4, pw_cell_below hb h.p5, pw_cell_below hb h.i0, pw_cell_below hb h.i1, pw_cell_below hb h.o1, fun k hk => pw_cell_below hb (h.x k hk)⟩
theorem row_at {w : World} {b : Nat} {cs : Array Value} {t : TypeId} (h : w.heap[b]? = some (.cells cs t (0, 0))) (k : Nat) (v : Value) (hv : cs[k]? = some v) : w.cell? ⟨b, k, none⟩ = some v := by
  rw [cell_of_row w b k _ _ _ h]; exact hv
theorem all_range {n k : Nat} {p : Nat → Bool} (h : ∀ j, j < k → p j = true) (hk : k = n) : (List.range n).all p = true := by
  rw [List.all_eq_true]; intro j hj; exact h j (by rw [hk]; exact List.mem_range.1 hj)
theorem all_range_not {n k : Nat} {p : Nat → Bool} (hk : k < n) (h : p k = false) : (List.range n).all p = false := by
  rw [List.all_eq_false]; exact ⟨k, List.mem_range.2 hk, by rw [h]; simp⟩
set_option maxRecDepth 100000 in
set_option maxHeartbeats 4000000 in
theorem can_calls (w : World) (hG : OrdersLaid w) (p : S27) (A2 : Option Addr) (c2 : Nat) (A3 : Option Addr) (c3 : Nat) (A4 : Option Addr) (c4 : Nat) (A5 : Option Addr) (c5 : Nat) (i : S36)
    (h2 : p.f2.length ≤ 9223372036854775807) (h3 : p.f3.length ≤ 9223372036854775807) (h4 : p.f4.length ≤ 9223372036854775807) (h5 : p.f5.length ≤ 9223372036854775807) :
    Calls Tryd.prog 68 #[.agg #[.int .i64 p.f0, .int .i64 p.f1, .slice A2 p.f2.length c2, .slice A3 p.f3.length c3, .slice A4 p.f4.length c4, .slice A5 p.f5.length c5], .agg #[.int .i64 i.f0, .int .i64 i.f1, .int .i64 i.f2, .int .i64 i.f3]] w fun e w' => e = .returned (.bool (canM p i)) ∧ Below w.heap.size w w' := by
  obtain ⟨W1, hW1⟩ : ∃ W1, W1 = (w.alloc (.cells #[.int .i64 p.f0, .int .i64 p.f1, .slice A2 p.f2.length c2, .slice A3 p.f3.length c3, .slice A4 p.f4.length c4, .slice A5 p.f5.length c5] 27)).alloc (.cells #[.int .i64 i.f0, .int .i64 i.f1, .int .i64 i.f2, .int .i64 i.f3] 36) := ⟨_, rfl⟩
  have hs1 : W1.heap.size = w.heap.size + 2 := by rw [hW1]; simp
  have B1 : Aside0 (Below w.heap.size w W1) := ⟨by rw [hW1]; exact ((Below.refl w.heap.size w).alloc (Nat.le_refl _) _).alloc (by simp) _⟩
  have PB : W1.heap[w.heap.size]? = some (.cells #[.int .i64 p.f0, .int .i64 p.f1, .slice A2 p.f2.length c2, .slice A3 p.f3.length c3, .slice A4 p.f4.length c4, .slice A5 p.f5.length c5] 27 (0, 0)) := by
    rw [hW1, Below.heap_alloc _ _ _ (by simp)]; exact heap_alloc_new w _
  have IB : W1.heap[w.heap.size + 1]? = some (.cells #[.int .i64 i.f0, .int .i64 i.f1, .int .i64 i.f2, .int .i64 i.f3] 36 (0, 0)) := by
    have h := heap_alloc_new (w.alloc (.cells #[.int .i64 p.f0, .int .i64 p.f1, .slice A2 p.f2.length c2, .slice A3 p.f3.length c3, .slice A4 p.f4.length c4, .slice A5 p.f5.length c5] 27)) (.cells #[.int .i64 i.f0, .int .i64 i.f1, .int .i64 i.f2, .int .i64 i.f3] 36)
    rw [← hW1, show (w.alloc (.cells #[.int .i64 p.f0, .int .i64 p.f1, .slice A2 p.f2.length c2, .slice A3 p.f3.length c3, .slice A4 p.f4.length c4, .slice A5 p.f5.length c5] 27)).heap.size = w.heap.size + 1 by simp] at h
    exact h
  have i0 := row_at IB 0 (.int .i64 i.f0) rfl
  have HG := Aside0.mk (globBelow hG B1.out)
  have PBA := Aside0.mk PB
  have IBA := Aside0.mk IB
  clear hG PB IB
  by_cases hop : 0 ≤ i.f0 ∧ i.f0 < 38
  · have hof : prog_of.f i.f0 = some ((ordersL.getD i.f0.toNat z63).f0, usesM i.f0, (ordersL.getD i.f0.toNat z63).f2, true) := by
      unfold prog_of.f; rw [if_pos hop.1, if_pos hop.2]; rfl
    have HOF := Aside0.mk hof
    clear hof
    have HM : Aside0 (canM p i = ((List.range (usesM i.f0).size).all (operOk p i (usesM i.f0)) && ((i.f0 != 36 && i.f0 != 37) || decide (i.f1 < wrap64 (p.f1 - 2))))) := ⟨by unfold canM isM; rw [decide_eq_true hop.1, decide_eq_true hop.2]; rfl⟩
    obtain ⟨nm, hnm⟩ : ∃ nm, nm = (ordersL.getD i.f0.toNat z63).f0 := ⟨_, rfl⟩
    obtain ⟨ct, hct⟩ : ∃ ct, ct = (ordersL.getD i.f0.toNat z63).f2 := ⟨_, rfl⟩
    obtain ⟨u, hu⟩ : ∃ u, u = usesM i.f0 := ⟨_, rfl⟩
    have hu3 : u.size ≤ 3 := by rw [hu]; exact uses_small _
    rw [← hnm, ← hct, ← hu] at HOF
    rw [← hu] at HM
    clear hnm hct hu hop
    go_enter Tryd.func68, Tryd.ntmps68
    go_wp2_with fail
    rw [← hW1]
    clear hW1
    go_wp2_with (first
      | (go_at_call 36; refine (prog_of.calls _ _ _ _ _ _ HG.out HOF.out).mono ?_; rintro e w2 ⟨rfl, hb2⟩; have B2 := Aside0.mk hb2; have hs2 : W1.heap.size ≤ w2.heap.size := hb2.size; have PB2 := Aside0.mk ((hb2.block w.heap.size (by omega)).trans PBA.out); have IB2 := Aside0.mk ((hb2.block (w.heap.size + 1) (by omega)).trans IBA.out); clear hb2; have B3 := Aside0.mk ((Below.refl w2.heap.size w2).alloc (Nat.le_refl _) (.cells #[.string nm, .string u, .int .i64 ct] 63)); have PB3 := Aside0.mk ((B3.out.block w.heap.size (by omega)).trans PB2.out); have IB3 := Aside0.mk ((B3.out.block (w.heap.size + 1) (by omega)).trans IB2.out); have OB3 := Aside0.mk (heap_alloc_new w2 (.cells #[.string nm, .string u, .int .i64 ct] 63)); have m0 : w2.cell? ⟨w.heap.size + 1, 0, none⟩ = some (.int .i64 i.f0) := row_at (IB2.out) 0 _ rfl; have m1 : w2.cell? ⟨w.heap.size + 1, 1, none⟩ = some (.int .i64 i.f1) := row_at (IB2.out) 1 _ rfl; have m2 : w2.cell? ⟨w.heap.size + 1, 2, none⟩ = some (.int .i64 i.f2) := row_at (IB2.out) 2 _ rfl; have m3 : w2.cell? ⟨w.heap.size + 1, 3, none⟩ = some (.int .i64 i.f3) := row_at (IB2.out) 3 _ rfl; have n0 : (w2.alloc (.cells #[.string nm, .string u, .int .i64 ct] 63)).cell? ⟨w.heap.size + 1, 0, none⟩ = some (.int .i64 i.f0) := row_at (IB3.out) 0 _ rfl; have n1 : (w2.alloc (.cells #[.string nm, .string u, .int .i64 ct] 63)).cell? ⟨w.heap.size + 1, 1, none⟩ = some (.int .i64 i.f1) := row_at (IB3.out) 1 _ rfl; have n2 : (w2.alloc (.cells #[.string nm, .string u, .int .i64 ct] 63)).cell? ⟨w.heap.size + 1, 2, none⟩ = some (.int .i64 i.f2) := row_at (IB3.out) 2 _ rfl; have n3 : (w2.alloc (.cells #[.string nm, .string u, .int .i64 ct] 63)).cell? ⟨w.heap.size + 1, 3, none⟩ = some (.int .i64 i.f3) := row_at (IB3.out) 3 _ rfl)
      | (go_at_call 46; obtain ⟨W3, hW3⟩ : ∃ W3, W3 = w2.alloc (.cells #[.string nm, .string u, .int .i64 ct] 63) := ⟨_, rfl⟩; rw [← hW3] at B3 PB3 IB3 OB3 ⊢; have hs3 : W3.heap.size = w2.heap.size + 1 := (by rw [hW3]; simp); clear hW3 m0 m1 m2 m3 n0 n1 n2 n3; refine (operands_calls _ i).mono ?_; rintro e w3 ⟨rfl, hb3⟩; have B4 := Aside0.mk (hb3.alloc hb3.size (.cells #[.int .i64 i.f1, .int .i64 i.f2, .int .i64 i.f3] 82)); have PB4 := Aside0.mk ((B4.out.block w.heap.size (by omega)).trans PB3.out); have IB4 := Aside0.mk ((B4.out.block (w.heap.size + 1) (by omega)).trans IB3.out); have OB4 := Aside0.mk ((B4.out.block w2.heap.size (by omega)).trans OB3.out); have XB4 := Aside0.mk (heap_alloc_new w3 (.cells #[.int .i64 i.f1, .int .i64 i.f2, .int .i64 i.f3] 82)); clear hb3; have o4 := row_at OB4.out 1 (.string u) rfl))
    obtain ⟨W4, hW4⟩ : ∃ W4, W4 = w3.alloc (.cells #[.int .i64 i.f1, .int .i64 i.f2, .int .i64 i.f3] 82) := ⟨_, rfl⟩
    rw [← hW4] at B4 PB4 IB4 OB4 XB4 o4 ⊢
    clear hW4
    have BB := Aside0.mk (below_step B1.out (below_step B2.out (below_step B3.out B4.out)))
    have hx : Aside0 (∀ k, k < 3 → W4.cell? ⟨w3.heap.size, k, none⟩ = some (.int .i64 (operM i k))) := ⟨fun k hk => by
      match k, hk with
      | 0, _ => exact row_at XB4.out 0 _ rfl
      | 1, _ => exact row_at XB4.out 1 _ rfl
      | 2, _ => exact row_at XB4.out 2 _ rfl⟩
    have p1 := row_at PB4.out 1 (.int .i64 p.f1) rfl
    have p2 := row_at PB4.out 2 (.slice A2 p.f2.length c2) rfl
    have p3 := row_at PB4.out 3 (.slice A3 p.f3.length c3) rfl
    have p4 := row_at PB4.out 4 (.slice A4 p.f4.length c4) rfl
    have p5 := row_at PB4.out 5 (.slice A5 p.f5.length c5) rfl
    have q0 := row_at IB4.out 0 (.int .i64 i.f0) rfl
    have q1 := row_at IB4.out 1 (.int .i64 i.f1) rfl
    clear i0
    go_loopw [8, 9, 23] (fun _ _ s wr => ∃ (k : Nat), s = .int .i64 k ∧ k ≤ u.size ∧ wr = W4 ∧ Aside0 (∀ j, j < k → operOk p i u j = true)) (fun _ _ s _ => u.size - (intOf s).toNat)
    case atStart => exact ⟨0, rfl, Nat.zero_le _, rfl, ⟨fun j hj => absurd hj (Nat.not_lt_zero _)⟩⟩
    case round =>
      obtain ⟨k, rfl, hk, rfl, hN⟩ := hrel
      by_cases hlt : k < u.size
      · have i1 : (k : Int) < (u.size : Int) := by omega
        have d1 : decide ((k : Int) < (u.size : Int)) = true := decide_eq_true i1
        have hbt : ((u[k]'hlt).toNat : Int) = bt u (k : Int) := bt_at u (k : Int) (by simpa using hlt)
        have z1 : (0 ≤ (k : Int)) = True := eq_true (by omega)
        have z2 : ((k : Int) < (u.size : Int)) = True := eq_true i1
        have z3 : ((k : Int) < 3) = True := eq_true (by omega)
        have xk := hx.out k (by omega)
        have hcr := Aside0.mk (bt_range u (k : Int))
        have HO := Aside0.mk (show operOk p i u k = (decide (0 ≤ operM i k) && decide (operM i k < mostM p i (bt u (k : Int)))) from rfl)
        generalize operM i k = x at xk HO
        generalize bt u (k : Int) = c at hbt HO hcr
        clear i1
        by_cases h82 : c = 82
        · have e82 : (c == 82) = true := beq_iff_eq.mpr h82
          have HMO : Aside0 (mostM p i c = p.f1) := ⟨by unfold mostM; simp [h82]⟩
          rw [HMO.out] at HO
          clear HMO
          by_cases hx0 : x < 0
          · have dx0 : decide (x < 0) = true := decide_eq_true hx0
            go_wp2_with fail
            go_ret
            exact ⟨by rw [HM.out, all_range_not hlt (by rw [HO.out, decide_eq_false (by omega)]; rfl)]; rfl, BB.out⟩
          · have dx0 : decide (x < 0) = false := decide_eq_false hx0
            by_cases hx1 : p.f1 ≤ x
            · have dx1 : decide (p.f1 ≤ x) = true := decide_eq_true hx1
              go_wp2_with fail
              go_ret
              exact ⟨by rw [HM.out, all_range_not hlt (by rw [HO.out, decide_eq_false (show ¬ x < p.f1 by omega), Bool.and_false])]; rfl, BB.out⟩
            · have dx1 : decide (p.f1 ≤ x) = false := decide_eq_false hx1
              go_wp2_with fail
              go_round
              case rel => exact ⟨k + 1, by go_num, by omega, (by first | rfl | trivial), ⟨fun j hj => by
                by_cases e : j = k
                · subst e; rw [HO.out, decide_eq_true (by omega), decide_eq_true (show x < p.f1 by omega)]; rfl
                · exact hN.out j (by omega)⟩⟩
              case measure => simp [intOf]; omega
        · have e82 : (c == 82) = false := beq_eq_false_iff_ne.mpr h82
          by_cases h75 : c = 75
          · have e75 : (c == 75) = true := beq_iff_eq.mpr h75
            have HMO : Aside0 (mostM p i c = (p.f4.length : Int)) := ⟨by unfold mostM; simp [h82, h75]⟩
            rw [HMO.out] at HO
            clear HMO
            by_cases hx0 : x < 0
            · have dx0 : decide (x < 0) = true := decide_eq_true hx0
              go_wp2_with fail
              go_ret
              exact ⟨by rw [HM.out, all_range_not hlt (by rw [HO.out, decide_eq_false (by omega)]; rfl)]; rfl, BB.out⟩
            · have dx0 : decide (x < 0) = false := decide_eq_false hx0
              by_cases hx1 : (p.f4.length : Int) ≤ x
              · have dx1 : decide ((p.f4.length : Int) ≤ x) = true := decide_eq_true hx1
                go_wp2_with fail
                go_ret
                exact ⟨by rw [HM.out, all_range_not hlt (by rw [HO.out, decide_eq_false (show ¬ x < (p.f4.length : Int) by omega), Bool.and_false])]; rfl, BB.out⟩
              · have dx1 : decide ((p.f4.length : Int) ≤ x) = false := decide_eq_false hx1
                go_wp2_with fail
                go_round
                case rel => exact ⟨k + 1, by go_num, by omega, (by first | rfl | trivial), ⟨fun j hj => by
                  by_cases e : j = k
                  · subst e; rw [HO.out, decide_eq_true (by omega), decide_eq_true (show x < (p.f4.length : Int) by omega)]; rfl
                  · exact hN.out j (by omega)⟩⟩
                case measure => simp [intOf]; omega
          · have e75 : (c == 75) = false := beq_eq_false_iff_ne.mpr h75
            by_cases h85 : c = 85
            · have e85 : (c == 85) = true := beq_iff_eq.mpr h85
              have HMO : Aside0 (mostM p i c = (p.f2.length : Int)) := ⟨by unfold mostM; simp [h82, h75, h85]⟩
              rw [HMO.out] at HO
              clear HMO
              by_cases hx0 : x < 0
              · have dx0 : decide (x < 0) = true := decide_eq_true hx0
                go_wp2_with fail
                go_ret
                exact ⟨by rw [HM.out, all_range_not hlt (by rw [HO.out, decide_eq_false (by omega)]; rfl)]; rfl, BB.out⟩
              · have dx0 : decide (x < 0) = false := decide_eq_false hx0
                by_cases hx1 : (p.f2.length : Int) ≤ x
                · have dx1 : decide ((p.f2.length : Int) ≤ x) = true := decide_eq_true hx1
                  go_wp2_with fail
                  go_ret
                  exact ⟨by rw [HM.out, all_range_not hlt (by rw [HO.out, decide_eq_false (show ¬ x < (p.f2.length : Int) by omega), Bool.and_false])]; rfl, BB.out⟩
                · have dx1 : decide ((p.f2.length : Int) ≤ x) = false := decide_eq_false hx1
                  go_wp2_with fail
                  go_round
                  case rel => exact ⟨k + 1, by go_num, by omega, (by first | rfl | trivial), ⟨fun j hj => by
                    by_cases e : j = k
                    · subst e; rw [HO.out, decide_eq_true (by omega), decide_eq_true (show x < (p.f2.length : Int) by omega)]; rfl
                    · exact hN.out j (by omega)⟩⟩
                  case measure => simp [intOf]; omega
            · have e85 : (c == 85) = false := beq_eq_false_iff_ne.mpr h85
              by_cases h80 : c = 80
              · have e80 : (c == 80) = true := beq_iff_eq.mpr h80
                have HMO : Aside0 (mostM p i c = (p.f5.length : Int)) := ⟨by unfold mostM; simp [h82, h75, h85, h80]⟩
                rw [HMO.out] at HO
                clear HMO
                by_cases hx0 : x < 0
                · have dx0 : decide (x < 0) = true := decide_eq_true hx0
                  go_wp2_with fail
                  go_ret
                  exact ⟨by rw [HM.out, all_range_not hlt (by rw [HO.out, decide_eq_false (by omega)]; rfl)]; rfl, BB.out⟩
                · have dx0 : decide (x < 0) = false := decide_eq_false hx0
                  by_cases hx1 : (p.f5.length : Int) ≤ x
                  · have dx1 : decide ((p.f5.length : Int) ≤ x) = true := decide_eq_true hx1
                    go_wp2_with fail
                    go_ret
                    exact ⟨by rw [HM.out, all_range_not hlt (by rw [HO.out, decide_eq_false (show ¬ x < (p.f5.length : Int) by omega), Bool.and_false])]; rfl, BB.out⟩
                  · have dx1 : decide ((p.f5.length : Int) ≤ x) = false := decide_eq_false hx1
                    go_wp2_with fail
                    go_round
                    case rel => exact ⟨k + 1, by go_num, by omega, (by first | rfl | trivial), ⟨fun j hj => by
                      by_cases e : j = k
                      · subst e; rw [HO.out, decide_eq_true (by omega), decide_eq_true (show x < (p.f5.length : Int) by omega)]; rfl
                      · exact hN.out j (by omega)⟩⟩
                    case measure => simp [intOf]; omega
              · have e80 : (c == 80) = false := beq_eq_false_iff_ne.mpr h80
                by_cases h79 : c = 79
                · have e79 : (c == 79) = true := beq_iff_eq.mpr h79
                  have HMO : Aside0 (mostM p i c = (p.f3.length : Int)) := ⟨by unfold mostM; simp [h82, h75, h85, h80, h79]⟩
                  rw [HMO.out] at HO
                  clear HMO
                  by_cases hx0 : x < 0
                  · have dx0 : decide (x < 0) = true := decide_eq_true hx0
                    go_wp2_with fail
                    go_ret
                    exact ⟨by rw [HM.out, all_range_not hlt (by rw [HO.out, decide_eq_false (by omega)]; rfl)]; rfl, BB.out⟩
                  · have dx0 : decide (x < 0) = false := decide_eq_false hx0
                    by_cases hx1 : (p.f3.length : Int) ≤ x
                    · have dx1 : decide ((p.f3.length : Int) ≤ x) = true := decide_eq_true hx1
                      go_wp2_with fail
                      go_ret
                      exact ⟨by rw [HM.out, all_range_not hlt (by rw [HO.out, decide_eq_false (show ¬ x < (p.f3.length : Int) by omega), Bool.and_false])]; rfl, BB.out⟩
                    · have dx1 : decide ((p.f3.length : Int) ≤ x) = false := decide_eq_false hx1
                      go_wp2_with fail
                      go_round
                      case rel => exact ⟨k + 1, by go_num, by omega, (by first | rfl | trivial), ⟨fun j hj => by
                        by_cases e : j = k
                        · subst e; rw [HO.out, decide_eq_true (by omega), decide_eq_true (show x < (p.f3.length : Int) by omega)]; rfl
                        · exact hN.out j (by omega)⟩⟩
                      case measure => simp [intOf]; omega
                · have e79 : (c == 79) = false := beq_eq_false_iff_ne.mpr h79
                  by_cases h78 : c = 78
                  · have e78 : (c == 78) = true := beq_iff_eq.mpr h78
                    by_cases hm : 31 ≤ wrap64 (p.f1 - i.f1)
                    · have dm : ¬ wrap64 (p.f1 - i.f1) < 31 := by omega
                      have HMO : Aside0 (mostM p i c = 31) := ⟨by unfold mostM; simp [h82, h75, h85, h80, h79, h78]; omega⟩
                      rw [HMO.out] at HO
                      clear HMO
                      by_cases hx0 : x < 0
                      · have dx0 : decide (x < 0) = true := decide_eq_true hx0
                        go_wp2_with fail
                        go_ret
                        exact ⟨by rw [HM.out, all_range_not hlt (by rw [HO.out, decide_eq_false (by omega)]; rfl)]; rfl, BB.out⟩
                      · have dx0 : decide (x < 0) = false := decide_eq_false hx0
                        by_cases hx1 : 31 ≤ x
                        · have dx1 : decide (31 ≤ x) = true := decide_eq_true hx1
                          go_wp2_with fail
                          go_ret
                          exact ⟨by rw [HM.out, all_range_not hlt (by rw [HO.out, decide_eq_false (show ¬ x < 31 by omega), Bool.and_false])]; rfl, BB.out⟩
                        · have dx1 : decide (31 ≤ x) = false := decide_eq_false hx1
                          go_wp2_with fail
                          go_round
                          case rel => exact ⟨k + 1, by go_num, by omega, (by first | rfl | trivial), ⟨fun j hj => by
                            by_cases e : j = k
                            · subst e; rw [HO.out, decide_eq_true (by omega), decide_eq_true (show x < 31 by omega)]; rfl
                            · exact hN.out j (by omega)⟩⟩
                          case measure => simp [intOf]; omega
                    · have dm : wrap64 (p.f1 - i.f1) < 31 := by omega
                      have HMO : Aside0 (mostM p i c = (wrap64 (p.f1 - i.f1))) := ⟨by unfold mostM; simp [h82, h75, h85, h80, h79, h78]; omega⟩
                      rw [HMO.out] at HO
                      clear HMO
                      by_cases hx0 : x < 0
                      · have dx0 : decide (x < 0) = true := decide_eq_true hx0
                        go_wp2_with fail
                        go_ret
                        exact ⟨by rw [HM.out, all_range_not hlt (by rw [HO.out, decide_eq_false (by omega)]; rfl)]; rfl, BB.out⟩
                      · have dx0 : decide (x < 0) = false := decide_eq_false hx0
                        by_cases hx1 : (wrap64 (p.f1 - i.f1)) ≤ x
                        · have dx1 : decide ((wrap64 (p.f1 - i.f1)) ≤ x) = true := decide_eq_true hx1
                          go_wp2_with fail
                          go_ret
                          exact ⟨by rw [HM.out, all_range_not hlt (by rw [HO.out, decide_eq_false (show ¬ x < (wrap64 (p.f1 - i.f1)) by omega), Bool.and_false])]; rfl, BB.out⟩
                        · have dx1 : decide ((wrap64 (p.f1 - i.f1)) ≤ x) = false := decide_eq_false hx1
                          go_wp2_with fail
                          go_round
                          case rel => exact ⟨k + 1, by go_num, by omega, (by first | rfl | trivial), ⟨fun j hj => by
                            by_cases e : j = k
                            · subst e; rw [HO.out, decide_eq_true (by omega), decide_eq_true (show x < (wrap64 (p.f1 - i.f1)) by omega)]; rfl
                            · exact hN.out j (by omega)⟩⟩
                          case measure => simp [intOf]; omega
                  · have e78 : (c == 78) = false := beq_eq_false_iff_ne.mpr h78
                    have HMO : Aside0 (mostM p i c = 0) := ⟨by unfold mostM; simp [h82, h75, h85, h80, h79, h78]⟩
                    rw [HMO.out] at HO
                    clear HMO
                    by_cases hx0 : x < 0
                    · have dx0 : decide (x < 0) = true := decide_eq_true hx0
                      go_wp2_with fail
                      go_ret
                      exact ⟨by rw [HM.out, all_range_not hlt (by rw [HO.out, decide_eq_false (by omega)]; rfl)]; rfl, BB.out⟩
                    · have dx0 : decide (x < 0) = false := decide_eq_false hx0
                      by_cases hx1 : 0 ≤ x
                      · have dx1 : decide (0 ≤ x) = true := decide_eq_true hx1
                        go_wp2_with fail
                        go_ret
                        exact ⟨by rw [HM.out, all_range_not hlt (by rw [HO.out, decide_eq_false (show ¬ x < 0 by omega), Bool.and_false])]; rfl, BB.out⟩
                      · exact absurd hx1 (by omega)
      · obtain rfl : k = u.size := by omega
        have i1 : ¬ (u.size : Int) < (u.size : Int) := by omega
        have HA := Aside0.mk (all_range (n := u.size) hN.out rfl)
        rw [HA.out] at HM
        by_cases h6 : i.f0 = 36
        · have e6 : (i.f0 != 36) = false := bne_eq_false_iff_eq.mpr h6
          rw [e6] at HM
          go_wp2_with fail
          go_ret
          exact ⟨by rw [HM.out]; simp, BB.out⟩
        · have e6 : (i.f0 != 36) = true := bne_iff_ne.mpr h6
          rw [e6] at HM
          by_cases h7 : i.f0 = 37
          · have e7 : (i.f0 != 37) = false := bne_eq_false_iff_eq.mpr h7
            rw [e7] at HM
            go_wp2_with fail
            go_ret
            exact ⟨by rw [HM.out]; simp, BB.out⟩
          · have e7 : (i.f0 != 37) = true := bne_iff_ne.mpr h7
            rw [e7] at HM
            go_wp2_with fail
            go_ret
            exact ⟨by rw [HM.out]; simp, BB.out⟩
  · have hof : prog_of.f i.f0 = some (⟨#[110, 111, 110, 101]⟩, ⟨#[]⟩, 0, false) := by
      unfold prog_of.f
      by_cases h0 : 0 ≤ i.f0
      · rw [if_pos h0, if_neg (by omega)]
      · rw [if_neg h0]
    have HOF := Aside0.mk hof
    have HM : Aside0 (canM p i = false) := ⟨by
      unfold canM isM
      by_cases h0 : 0 ≤ i.f0
      · rw [decide_eq_false (show ¬ i.f0 < 38 by omega)]; simp
      · rw [decide_eq_false h0]; simp⟩
    clear hof hop
    go_enter Tryd.func68, Tryd.ntmps68
    go_wp2_with fail
    rw [← hW1]
    clear hW1
    go_wp2_with (go_at_call 36; refine (prog_of.calls _ _ _ _ _ _ HG.out HOF.out).mono ?_; rintro e w2 ⟨rfl, hb2⟩; have B2 := Aside0.mk hb2; clear hb2)
    go_ret
    exact ⟨by rw [HM.out]; rfl, (below_step B1.out B2.out).trans (((Below.refl w2.heap.size w2).alloc (Nat.le_refl _) _).mono (by have := B1.out.size; have := B2.out.size; omega))⟩
end Go.Proofs.YtlhnkfheojlghaaDoor.Pr
end
