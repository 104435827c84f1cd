/- A part of the proof of the law that RowDecBack shows: lemmas, and contracts of the calls that it reaches. -/
import Derived.Test.YtflcanpajgpghaaDoorProg
import Derived.Below
import Derived.Deep.Draws
import Derived.Deep.AppendLies
import Derived.Maps.AppendAt
import Derived.OwnWalk
import Derived.Laws.BytesArg
import Derived.Laws.MakeOwn
import Derived.Laws.OwnMore
import Derived.Deep.OwnRows
import Derived.Tactics
import Derived.Lib.ConvBytes
import Derived.Laws.Slices
import Derived.WalkKit
import Derived.KernelRfl
import Derived.RowKit3
import Derived.Deep.LoopGhost
import Derived.Deep.QuietTactic
import Derived.BigQuiet
import Derived.WideLaws
import Derived.Deep.DeepCutAuto
import Derived.Deep.CutBlock
import Derived.Deep.RegionHeld3
import Derived.Laws.Rows
import Derived.Lib.AppendStr
import Derived.ArgAppend
import Derived.Laws.IdiomCopy
import Derived.OrdersHeld
import Derived.Laws.BitsLemmas
import Derived.RowKit
import Derived.Test.YtflcanpajgpghaaDoorZDB0
import Derived.Test.YtflcanpajgpghaaDoorZDB1
import Derived.Test.YtflcanpajgpghaaDoorZDB2
import Derived.Test.YtflcanpajgpghaaDoorZDB3
set_option linter.unusedVariables false
set_option linter.unusedSimpArgs false
section
namespace Go.Proofs.YtflcanpajgpghaaDoor.Pr
open Go.RowKit Go.Proofs.YtflcanpajgpghaaDoorW.PrintWords Go.Proofs.YtflcanpajgpghaaDoorW.PrintLast Go.Proofs.YtflcanpajgpghaaDoorW.PrintMore
attribute [local go_sem] max2_int min2_int max_two min_two max_three min_three max_four min_four
mutual
def minstrellaw05_DecBack.j0 : Nat → ByteArray → Bool → Option (Bool)
 | 0, _, _ => none
 | k + 1, x3, x29 => if x29 = true then (none) else ((minstrelref05_Read.f k x3).bind fun bt425 => (minstrellaw05_DecBack.l0 k bt425.2.2 0 (bt425.1.size : Int) bt425.1 bt425.2.1))
def minstrellaw05_DecBack.j2 : Nat → Bool → Int → Int → ByteArray → Int → Option (Bool)
 | 0, _, _, _, _, _ => none
 | k + 1, x7, x8, x9, x429000, x429001 => minstrellaw05_DecBack.l1 k x7 x8 x9 x429000 x429001
def minstrellaw05_DecBack.l1 : Nat → Bool → Int → Int → ByteArray → Int → Option (Bool)
 | 0, _, _, _, _, _ => none
 | k + 1, x7, x8, x9, x429000, x429001 => if x9 > x8 then (if 0 ≤ (wrap64 (x9 - 1)) then (if (wrap64 (x9 - 1)) < (x429000.size : Int) then (if (bt x429000 (wrap64 (x9 - 1))) = 48 then (minstrellaw05_DecBack.l1 k x7 x8 (wrap64 (x9 - 1)) x429000 x429001) else (if x7 = true then (if (wrap64 (x9 - x8)) ≤ 17 then ((minstrellaw05_lives.f k).bind fun t429 => (some t429)) else (none)) else (none))) else (none)) else (none)) else (if x7 = true then (if (wrap64 (x9 - x8)) ≤ 17 then ((minstrellaw05_lives.f k).bind fun t430 => (some t430)) else (none)) else (none))
def minstrellaw05_DecBack.l0 : Nat → Bool → Int → Int → ByteArray → Int → Option (Bool)
 | 0, _, _, _, _, _ => none
 | k + 1, x7, x8, x9, x429000, x429001 => if x8 < x9 then (if 0 ≤ x8 then (if x8 < (x429000.size : Int) then (if (bt x429000 x8) = 48 then (minstrellaw05_DecBack.l0 k x7 (wrap64 (x8 + 1)) x9 x429000 x429001) else (minstrellaw05_DecBack.j2 k x7 x8 x9 x429000 x429001)) else (none)) else (none)) else (minstrellaw05_DecBack.j2 k x7 x8 x9 x429000 x429001)
end
def minstrellaw05_DecBack.f (k : Nat) (a0 : Int) : Option (Bool) := (minstrelref01_Kind.f k a0).bind fun t420 => (if t420 ≥ 3 then ((minstrellaw05_lives.f k).bind fun t421 => (some t421)) else ((dec_Print.f k (Go.bits .andNot .u64 a0 9223372036854775808)).bind fun t422 => ((dec_Parse.f k t422).bind fun bt423 => (if bt423.1 = (Go.bits .andNot .u64 a0 9223372036854775808) then (minstrellaw05_DecBack.j0 k t422 (bt423.2 != 0)) else (minstrellaw05_DecBack.j0 k t422 true)))))
set_option maxHeartbeats 8000000 in
set_option maxRecDepth 100000 in
theorem minstrellaw05_DecBack.calls (k : Nat) (a0 : Int) (r : Bool) (w : World) (hG : PowLaid w) (h : minstrellaw05_DecBack.f k a0 = some r) :
  Calls Tryd.prog 3 #[.int .u64 a0] w fun e w' => e = .returned (.bool r) ∧ Below w.heap.size w w' := by
 have hu31 := Tryd.underlying31
 have HG := am hG
 clear hG
 have HB := am (Below.refl w.heap.size w)
 have H : ((minstrelref01_Kind.f k a0).bind fun t420 => (if t420 ≥ 3 then ((minstrellaw05_lives.f k).bind fun t421 => (some t421)) else ((dec_Print.f k (Go.bits .andNot .u64 a0 9223372036854775808)).bind fun t422 => ((dec_Parse.f k t422).bind fun bt423 => (if bt423.1 = (Go.bits .andNot .u64 a0 9223372036854775808) then (minstrellaw05_DecBack.j0 k t422 (bt423.2 != 0)) else (minstrellaw05_DecBack.j0 k t422 true)))))) = some r := h
 clear h
 replace H := Option.bind_eq_some_iff.mp H
 obtain ⟨t420, A20, H⟩ := H
 try dsimp only at H
 have A2 := am A20
 clear A20
 by_cases c3 : t420 ≥ 3
 ·rw [if_pos c3] at H
  have c3b0 : decide (3 ≤ t420) = true := decide_eq_true c3
  clear c3
  replace H := Option.bind_eq_some_iff.mp H
  obtain ⟨t421, A40, H⟩ := H
  try dsimp only at H
  have A4 := am A40
  clear A40
  obtain rfl := Option.some.inj H
  go_enter Tryd.func3, Tryd.ntmps3
  go_wp2_with (first | (go_at_call 6; (with_reducible refine (minstrelref01_Kind.calls k a0 t420 _ A2.out).mono ?_); rintro e w' ⟨rfl, ⟨nd, rfl⟩⟩; (try first | exact ⟨rfl, _, World.drewN_drewN _ _ _⟩ | exact ⟨rfl, _, Eq.trans (World.drewN_drewN _ _ _) (congrArg (World.drewN _) (Nat.add_assoc _ _ _))⟩)) | (go_at_call 7; (with_reducible refine (minstrellaw05_lives.calls k  t421 _ ?side1 A4.out).mono ?_); (case side1 => exact pG); rintro e w5 ⟨rfl, hb⟩; replace HB := am (below_step pB hb)))
  repeat (go_quiet (first | (go_at_call 6; (with_reducible refine (minstrelref01_Kind.calls k a0 t420 _ A2.out).mono ?_); rintro e w' ⟨rfl, ⟨nd, rfl⟩⟩; (try first | exact ⟨rfl, _, World.drewN_drewN _ _ _⟩ | exact ⟨rfl, _, Eq.trans (World.drewN_drewN _ _ _) (congrArg (World.drewN _) (Nat.add_assoc _ _ _))⟩)) | (go_at_call 7; (with_reducible refine (minstrellaw05_lives.calls k  t421 _ ?side1 A4.out).mono ?_); (case side1 => exact pG); rintro e w5 ⟨rfl, hb⟩; replace HB := am (below_step pB hb))); try go_wp2_with (first | (go_at_call 6; (with_reducible refine (minstrelref01_Kind.calls k a0 t420 _ A2.out).mono ?_); rintro e w' ⟨rfl, ⟨nd, rfl⟩⟩; (try first | exact ⟨rfl, _, World.drewN_drewN _ _ _⟩ | exact ⟨rfl, _, Eq.trans (World.drewN_drewN _ _ _) (congrArg (World.drewN _) (Nat.add_assoc _ _ _))⟩)) | (go_at_call 7; (with_reducible refine (minstrellaw05_lives.calls k  t421 _ ?side1 A4.out).mono ?_); (case side1 => exact pG); rintro e w5 ⟨rfl, hb⟩; replace HB := am (below_step pB hb))))
  go_ret
  exact ⟨pE, pB⟩
 ·rw [if_neg c3] at H
  have c3b0 : decide (3 ≤ t420) = false := decide_eq_false c3
  clear c3
  replace H := Option.bind_eq_some_iff.mp H
  obtain ⟨t422, A60, H⟩ := H
  try dsimp only at H
  have A6 := am A60
  clear A60
  replace H := Option.bind_eq_some_iff.mp H
  obtain ⟨⟨t423, t424⟩, A70, H⟩ := H
  try dsimp only at H
  have A7 := am A70
  clear A70
  have HC8 := am H
  clear H
  go_enter Tryd.func3, Tryd.ntmps3
  go_upto_region 5 with (first | (go_at_call 6; (with_reducible refine (minstrelref01_Kind.calls k a0 t420 _ A2.out).mono ?_); rintro e w' ⟨rfl, ⟨nd, rfl⟩⟩; (try first | exact ⟨rfl, _, World.drewN_drewN _ _ _⟩ | exact ⟨rfl, _, Eq.trans (World.drewN_drewN _ _ _) (congrArg (World.drewN _) (Nat.add_assoc _ _ _))⟩)) | (go_at_call 8; (with_reducible refine (dec_Print.calls k (Go.bits .andNot .u64 a0 9223372036854775808) t422 _ ?side1 A6.out).mono ?_); (case side1 => exact pG); rintro e w9 ⟨rfl, hb⟩; replace HB := am (below_step pB hb); (try clear hb)) | (go_at_call 9; (with_reducible refine (dec_Parse.calls k t422 t423 t424 _ A7.out).mono ?_); rintro e w10 ⟨rfl, hb⟩; replace HB := am (below_step pB hb); (try clear hb)))
  repeat (go_quiet (first | (go_at_call 6; (with_reducible refine (minstrelref01_Kind.calls k a0 t420 _ A2.out).mono ?_); rintro e w' ⟨rfl, ⟨nd, rfl⟩⟩; (try first | exact ⟨rfl, _, World.drewN_drewN _ _ _⟩ | exact ⟨rfl, _, Eq.trans (World.drewN_drewN _ _ _) (congrArg (World.drewN _) (Nat.add_assoc _ _ _))⟩)) | (go_at_call 8; (with_reducible refine (dec_Print.calls k (Go.bits .andNot .u64 a0 9223372036854775808) t422 _ ?side1 A6.out).mono ?_); (case side1 => exact pG); rintro e w9 ⟨rfl, hb⟩; replace HB := am (below_step pB hb); (try clear hb)) | (go_at_call 9; (with_reducible refine (dec_Parse.calls k t422 t423 t424 _ A7.out).mono ?_); rintro e w10 ⟨rfl, hb⟩; replace HB := am (below_step pB hb); (try clear hb))); go_upto_region 5 with (first | (go_at_call 6; (with_reducible refine (minstrelref01_Kind.calls k a0 t420 _ A2.out).mono ?_); rintro e w' ⟨rfl, ⟨nd, rfl⟩⟩; (try first | exact ⟨rfl, _, World.drewN_drewN _ _ _⟩ | exact ⟨rfl, _, Eq.trans (World.drewN_drewN _ _ _) (congrArg (World.drewN _) (Nat.add_assoc _ _ _))⟩)) | (go_at_call 8; (with_reducible refine (dec_Print.calls k (Go.bits .andNot .u64 a0 9223372036854775808) t422 _ ?side1 A6.out).mono ?_); (case side1 => exact pG); rintro e w9 ⟨rfl, hb⟩; replace HB := am (below_step pB hb); (try clear hb)) | (go_at_call 9; (with_reducible refine (dec_Parse.calls k t422 t423 t424 _ A7.out).mono ?_); rintro e w10 ⟨rfl, hb⟩; replace HB := am (below_step pB hb); (try clear hb))))
  (try simp only [Act.put, List.setIfInBounds_toArray, List.set_cons_zero, List.set_cons_succ])
  go_cut [29] (fun v29 wc => ∃ (kq : Nat) (x29_7 : Bool), v29 = .bool x29_7 ∧ Aside0 (minstrellaw05_DecBack.j0 kq t422 x29_7 = some r) ∧ Aside0 (kq ≤ k) ∧ Aside0 (Below w.heap.size w wc))
  case first =>
   have H := HC8.out
   clear HC8
   by_cases c11 : t423 = (Go.bits .andNot .u64 a0 9223372036854775808)
   ·rw [if_pos c11] at H
    have c11b0 : (t423 == (Go.bits .andNot .u64 a0 9223372036854775808)) = true := beq_iff_eq.mpr c11
    have c11b1 : (t423 != (Go.bits .andNot .u64 a0 9223372036854775808)) = false := bne_eq_false_iff_eq.mpr c11
    clear c11
    (first | rw [c11b0] | (simp only [i64_w, i32_w]; rw [c11b0]) | rw [c11b1] | (simp only [i64_w, i32_w]; rw [c11b1]) | skip)
    have H' := am H
    clear H
    go_wp2
    repeat (go_quiet (fail); try go_wp2)
    go_meet
    case rel => exact ⟨_, ((t424 != 0)), (by first | rfl | (simp; done) | (simp [*]; done)), H', ⟨by first | omega | exact Nat.le_refl _⟩, ⟨pB⟩⟩
   ·rw [if_neg c11] at H
    have c11b0 : (t423 == (Go.bits .andNot .u64 a0 9223372036854775808)) = false := beq_eq_false_iff_ne.mpr c11
    have c11b1 : (t423 != (Go.bits .andNot .u64 a0 9223372036854775808)) = true := bne_iff_ne.mpr c11
    (first | rw [c11b0] | (simp only [i64_w, i32_w]; rw [c11b0]) | rw [c11b1] | (simp only [i64_w, i32_w]; rw [c11b1]) | skip)
    have H' := am H
    clear H
    go_wp2
    repeat (go_quiet (fail); try go_wp2)
    go_meet
    case rel => exact ⟨_, (true), (by first | rfl | (simp; done) | (simp [*]; done)), H', ⟨by first | omega | exact Nat.le_refl _⟩, ⟨pB⟩⟩
  case rest =>
   clear HC8
   try clear c1
   try clear p2
   try clear c3
   try clear c3b0
   try clear c11
   try clear c11b0
   try clear c11b1
   obtain ⟨kq, x29_7, rfl, HA, HJ7, HB⟩ := hcut
   cases kq with
   | zero => exact absurd HA.out (by simp [minstrellaw05_DecBack.j0])
   | succ kj7 =>
    have H := HA.out
    clear HA
    simp only [minstrellaw05_DecBack.j0] at H
    by_cases c12 : x29_7 = true
    ·subst c12
     rw [if_pos rfl] at H
     exact absurd H (by simp)
    ·replace c12 := Bool.eq_false_iff.mpr c12
     subst c12
     rw [if_neg (show ¬ (false = true) by decide)] at H
     replace H := Option.bind_eq_some_iff.mp H
     obtain ⟨⟨t425, t426, t427⟩, A130, H⟩ := H
     try dsimp only at H
     have A13 := am A130
     clear A130
     have HC14 := am H
     clear H
     go_upto_block 0 with (first | (go_at_call 10; (with_reducible refine (minstrelref05_Read.calls kj7 t422 t425 t426 t427 _ A13.out).mono ?_); rintro e w15 ⟨rfl, hb⟩; replace HB := am (below_step pB hb); (try clear hb)) | ((with_reducible refine gate_dst (N := 6) rfl ?_); refine box_event ?hg (N := 6) ?hd (cs := #[.string (⟨#[]⟩ : ByteArray), .int .i64 0]) (t := 31) ?hr ?_; (case hd => rfl); (case hg => rfl); (case hr => first | (go_simp; done) | (go_simp; rfl)); intro gb428 hg w16 hbox hb; have BK428 := am (hbox); have GW428 := am ((by rw [hg]; exact (below_size pB) : w.heap.size ≤ gb428)); have GE428 := am ((by rw [hg]; exact (below_size pB) : w.heap.size ≤ gb428)); replace HB := am (below_step pB hb); clear hb hbox hg; have q17 := cf2 BK428.out))
     repeat (go_quiet (first | (go_at_call 10; (with_reducible refine (minstrelref05_Read.calls kj7 t422 t425 t426 t427 _ A13.out).mono ?_); rintro e w15 ⟨rfl, hb⟩; replace HB := am (below_step pB hb); (try clear hb)) | ((with_reducible refine gate_dst (N := 6) rfl ?_); refine box_event ?hg (N := 6) ?hd (cs := #[.string (⟨#[]⟩ : ByteArray), .int .i64 0]) (t := 31) ?hr ?_; (case hd => rfl); (case hg => rfl); (case hr => first | (go_simp; done) | (go_simp; rfl)); intro gb428 hg w16 hbox hb; have BK428 := am (hbox); have GW428 := am ((by rw [hg]; exact (below_size pB) : w.heap.size ≤ gb428)); have GE428 := am ((by rw [hg]; exact (below_size pB) : w.heap.size ≤ gb428)); replace HB := am (below_step pB hb); clear hb hbox hg; have q17 := cf2 BK428.out)); go_upto_block 0 with (first | (go_at_call 10; (with_reducible refine (minstrelref05_Read.calls kj7 t422 t425 t426 t427 _ A13.out).mono ?_); rintro e w15 ⟨rfl, hb⟩; replace HB := am (below_step pB hb); (try clear hb)) | ((with_reducible refine gate_dst (N := 6) rfl ?_); refine box_event ?hg (N := 6) ?hd (cs := #[.string (⟨#[]⟩ : ByteArray), .int .i64 0]) (t := 31) ?hr ?_; (case hd => rfl); (case hg => rfl); (case hr => first | (go_simp; done) | (go_simp; rfl)); intro gb428 hg w16 hbox hb; have BK428 := am (hbox); have GW428 := am ((by rw [hg]; exact (below_size pB) : w.heap.size ≤ gb428)); have GE428 := am ((by rw [hg]; exact (below_size pB) : w.heap.size ≤ gb428)); replace HB := am (below_step pB hb); clear hb hbox hg; have q17 := cf2 BK428.out)))
     (try simp only [Act.put, List.setIfInBounds_toArray, List.set_cons_zero, List.set_cons_succ])
     go_cut [8] (fun v8 wc => ∃ (kq : Nat) (x8_13 : Int), v8 = .int .i64 x8_13 ∧ Aside0 (minstrellaw05_DecBack.j2 kq t427 x8_13 (t425.size : Int) t425 t426 = some r) ∧ Aside0 (kq ≤ kj7) ∧ Aside0 (wc.heap[gb428]? = some (.cells #[.string t425, .int .i64 t426] 31 (0, 0))) ∧ Aside0 (Below w.heap.size w wc))
     case first =>
      have H := HC14.out
      clear HC14
      have H' := am H
      clear H
      go_wp2
      repeat (go_quiet (fail); try go_wp2)
      go_loopg [8] kj7 (fun kq v8 w' => ∃ (x8_2 : Int), v8 = .int .i64 x8_2 ∧ Aside0 (minstrellaw05_DecBack.l0 kq t427 x8_2 (t425.size : Int) t425 t426 = some r) ∧ Aside0 (kq ≤ kj7) ∧ Aside0 (w'.heap[gb428]? = some (.cells #[.string t425, .int .i64 t426] 31 (0, 0))) ∧ Aside0 (Below w.heap.size w w'))
      case atStart => exact ⟨(0), (by first | rfl | (simp; done) | (simp [*]; done)), H', ⟨Nat.le_refl _⟩, ⟨by (with_reducible repeat (first | refine blk_drewN ?_ _ | refine blk_drew ?_ | refine blk_alloc ?_ _)); refine blk_put (cs := #[.string t425, .int .i64 0]) ?_ 1 _ rfl; (with_reducible repeat (first | refine blk_drewN ?_ _ | refine blk_drew ?_ | refine blk_alloc ?_ _)); refine blk_put (cs := #[.string (⟨#[]⟩ : ByteArray), .int .i64 0]) ?_ 0 _ rfl; (with_reducible repeat (first | refine blk_drewN ?_ _ | refine blk_drew ?_ | refine blk_alloc ?_ _)); exact BK428.out⟩, ⟨pB⟩⟩
      case round =>
       clear H'
       try clear c1
       try clear p2
       try clear c3
       try clear c3b0
       try clear c11
       try clear c11b0
       try clear c11b1
       try clear c12
       try clear q17
       try clear p2
       obtain ⟨x8_2, rfl, HA, HK2, BK428, HB⟩ := hrel
       cases gk with
       | zero => exact absurd HA.out (by simp [minstrellaw05_DecBack.l0])
       | succ k2 =>
        have H := HA.out
        clear HA
        simp only [minstrellaw05_DecBack.l0] at H
        by_cases c18 : x8_2 < (t425.size : Int)
        ·rw [if_pos c18] at H
         have c18b0 : decide (x8_2 < (t425.size : Int)) = true := decide_eq_true c18
         clear c18
         (first | rw [c18b0] | (simp only [i64_w, i32_w]; rw [c18b0]) | rw [c18b1] | (simp only [i64_w, i32_w]; rw [c18b1]) | skip)
         by_cases c19 : 0 ≤ x8_2
         ·rw [if_pos c19] at H
          have c19b0 : decide (0 ≤ x8_2) = true := decide_eq_true c19
          clear c19
          by_cases c20 : x8_2 < (t425.size : Int)
          ·rw [if_pos c20] at H
           have c20b0 : decide (x8_2 < (t425.size : Int)) = true := decide_eq_true c20
           clear c20
           by_cases c22 : (bt t425 x8_2) = 48
           ·rw [if_pos c22] at H
            have c22b0 : ((bt t425 x8_2) == 48) = true := beq_iff_eq.mpr c22
            have c22b1 : ((bt t425 x8_2) != 48) = false := bne_eq_false_iff_eq.mpr c22
            clear c22
            have H' := am H
            clear H
            have q23 := cf2 BK428.out
            have p21 : 0 ≤ (x8_2 : Int) := pD
            have q21 : x8_2 < (t425.size : Int) := pD
            have hx21 := bt_at t425 x8_2
            replace p21 := eq_true p21
            replace q21 := eq_true q21
            go_wp2
            repeat (go_quiet (fail); try go_wp2)
            go_roundg k2
            case measure => have := HJ7.out; have := HK2.out; omega
            case rel => exact ⟨(wrap64 (x8_2 + 1)), (by first | rfl | (simp; done) | (simp [*]; done)), H', ⟨by have := HJ7.out; have := HK2.out; omega⟩, ⟨by (with_reducible repeat (first | refine blk_drewN ?_ _ | refine blk_drew ?_ | refine blk_alloc ?_ _)); exact BK428.out⟩, ⟨pB⟩⟩
           ·rw [if_neg c22] at H
            have c22b0 : ((bt t425 x8_2) == 48) = false := beq_eq_false_iff_ne.mpr c22
            have c22b1 : ((bt t425 x8_2) != 48) = true := bne_iff_ne.mpr c22
            have H' := am H
            clear H
            have q24 := cf2 BK428.out
            have p21 : 0 ≤ (x8_2 : Int) := pD
            have q21 : x8_2 < (t425.size : Int) := pD
            have hx21 := bt_at t425 x8_2
            replace p21 := eq_true p21
            replace q21 := eq_true q21
            go_wp2
            repeat (go_quiet (fail); try go_wp2)
            go_meet
            case rel => exact ⟨_, (x8_2), (by first | rfl | (simp; done) | (simp [*]; done)), H', ⟨by have := HJ7.out; have := HK2.out; first | omega | exact Nat.le_refl _⟩, ⟨by (with_reducible repeat (first | refine blk_drewN ?_ _ | refine blk_drew ?_ | refine blk_alloc ?_ _)); exact BK428.out⟩, ⟨pB⟩⟩
          ·rw [if_neg c20] at H
           exact absurd H (by simp)
         ·rw [if_neg c19] at H
          exact absurd H (by simp)
        ·rw [if_neg c18] at H
         have c18b0 : decide (x8_2 < (t425.size : Int)) = false := decide_eq_false c18
         clear c18
         (first | rw [c18b0] | (simp only [i64_w, i32_w]; rw [c18b0]) | rw [c18b1] | (simp only [i64_w, i32_w]; rw [c18b1]) | skip)
         have H' := am H
         clear H
         go_wp2
         repeat (go_quiet (fail); try go_wp2)
         go_meet
         case rel => exact ⟨_, (x8_2), (by first | rfl | (simp; done) | (simp [*]; done)), H', ⟨by have := HJ7.out; have := HK2.out; first | omega | exact Nat.le_refl _⟩, ⟨by (with_reducible repeat (first | refine blk_drewN ?_ _ | refine blk_drew ?_ | refine blk_alloc ?_ _)); exact BK428.out⟩, ⟨pB⟩⟩
     case rest =>
      clear HC14
      try clear c1
      try clear c2
      try clear p2
      try clear q2
      try clear hx2
      try clear c3
      try clear c3b0
      try clear p6
      try clear c11
      try clear c11b0
      try clear c11b1
      try clear c12
      try clear c18
      try clear c18b0
      try clear c18b1
      try clear c19
      try clear c19b0
      try clear c20
      try clear c20b0
      try clear p21
      try clear q21
      try clear hx21
      try clear c22
      try clear c22b0
      try clear c22b1
      try clear q17 q23 q24
      try clear p2
      try clear p21
      try clear q21
      obtain ⟨kq, x8_13, rfl, HA, HJ13, BK428, HB⟩ := hcut
      cases kq with
      | zero => exact absurd HA.out (by simp [minstrellaw05_DecBack.j2])
      | succ kj13 =>
       have H := HA.out
       clear HA
       simp only [minstrellaw05_DecBack.j2] at H
       have H' := am H
       clear H
       go_wp2
       repeat (go_quiet (fail); try go_wp2)
       go_loopg [9] kj13 (fun kq v9 w' => ∃ (x9_3 : Int), v9 = .int .i64 x9_3 ∧ Aside0 (minstrellaw05_DecBack.l1 kq t427 x8_13 x9_3 t425 t426 = some r) ∧ Aside0 (kq ≤ kj13) ∧ Aside0 (w'.heap[gb428]? = some (.cells #[.string t425, .int .i64 t426] 31 (0, 0))) ∧ Aside0 (Below w.heap.size w w'))
       case atStart => exact ⟨((t425.size : Int)), (by first | rfl | (simp; done) | (simp [*]; done)), H', ⟨Nat.le_refl _⟩, ⟨by (with_reducible repeat (first | refine blk_drewN ?_ _ | refine blk_drew ?_ | refine blk_alloc ?_ _)); exact BK428.out⟩, ⟨pB⟩⟩
       case round =>
        clear H'
        try clear c1
        try clear c2
        try clear p2
        try clear q2
        try clear hx2
        try clear c3
        try clear c3b0
        try clear p6
        try clear c11
        try clear c11b0
        try clear c11b1
        try clear c12
        try clear c18
        try clear c18b0
        try clear c18b1
        try clear c19
        try clear c19b0
        try clear c20
        try clear c20b0
        try clear p21
        try clear q21
        try clear hx21
        try clear c22
        try clear c22b0
        try clear c22b1
        try clear q17 q23 q24
        try clear p2
        try clear p21
        try clear p6
        try clear q2
        try clear q21
        obtain ⟨x9_3, rfl, HA, HK3, BK428, HB⟩ := hrel
        cases gk with
        | zero => exact absurd HA.out (by simp [minstrellaw05_DecBack.l1])
        | succ k3 =>
         have H := HA.out
         clear HA
         simp only [minstrellaw05_DecBack.l1] at H
         by_cases c25 : x9_3 > x8_13
         ·rw [if_pos c25] at H
          have c25b0 : decide (x8_13 < x9_3) = true := decide_eq_true c25
          clear c25
          obtain ⟨ji26, hji26⟩ : ∃ j_ : Int, (wrap64 (x9_3 - 1)) = j_ := ⟨_, rfl⟩
          replace H : (if 0 ≤ (ji26) then (if (ji26) < (t425.size : Int) then (if (bt t425 (ji26)) = 48 then (minstrellaw05_DecBack.l1 k3 t427 x8_13 ji26 t425 t426) else (if t427 = true then (if (wrap64 (x9_3 - x8_13)) ≤ 17 then ((minstrellaw05_lives.f k3).bind fun t429 => (some t429)) else (none)) else (none))) else (none)) else (none)) = some r := by first | (rw [hji26] at H; exact H) | (simp only [hji26] at H ⊢; exact H)
          have hji26w : (IntKind.i64.wrap (x9_3 - 1)) = ji26 := (i64_w _).trans hji26
          by_cases c27 : 0 ≤ (ji26)
          ·rw [if_pos c27] at H
           have c27b0 : decide (0 ≤ (ji26)) = true := decide_eq_true c27
           clear c27
           by_cases c28 : (ji26) < (t425.size : Int)
           ·rw [if_pos c28] at H
            have c28b0 : decide ((ji26) < (t425.size : Int)) = true := decide_eq_true c28
            clear c28
            by_cases c30 : (bt t425 (ji26)) = 48
            ·rw [if_pos c30] at H
             have c30b0 : ((bt t425 (ji26)) == 48) = true := beq_iff_eq.mpr c30
             have c30b1 : ((bt t425 (ji26)) != 48) = false := bne_eq_false_iff_eq.mpr c30
             clear c30
             have H' := am H
             clear H
             have q31 := cf2 BK428.out
             have p29 : 0 ≤ ((ji26) : Int) := pD
             have q29 : (ji26) < (t425.size : Int) := pD
             have hx29 := bt_at t425 (ji26)
             replace p29 := eq_true p29
             replace q29 := eq_true q29
             go_wp2
             repeat (go_quiet (fail); try go_wp2)
             go_roundg k3
             case measure => have := HJ7.out; have := HJ13.out; have := HK3.out; omega
             case rel => exact ⟨(ji26), (by first | rfl | (simp; done) | (simp only [← hji26] <;> (first | rfl | simp)) | (simp [*]; done)), H', ⟨by have := HJ7.out; have := HJ13.out; have := HK3.out; omega⟩, ⟨by (with_reducible repeat (first | refine blk_drewN ?_ _ | refine blk_drew ?_ | refine blk_alloc ?_ _)); exact BK428.out⟩, ⟨pB⟩⟩
            ·rw [if_neg c30] at H
             have c30b0 : ((bt t425 (ji26)) == 48) = false := beq_eq_false_iff_ne.mpr c30
             have c30b1 : ((bt t425 (ji26)) != 48) = true := bne_iff_ne.mpr c30
             by_cases c32 : t427 = true
             ·subst c32
              rw [if_pos rfl] at H
              by_cases c33 : (wrap64 (x9_3 - x8_13)) ≤ 17
              ·rw [if_pos c33] at H
               have c33b0 : decide ((wrap64 (x9_3 - x8_13)) ≤ 17) = true := decide_eq_true c33
               clear c33
               replace H := Option.bind_eq_some_iff.mp H
               obtain ⟨t429, A340, H⟩ := H
               try dsimp only at H
               have A34 := am A340
               clear A340
               obtain rfl := Option.some.inj H
               have q35 := cf2 BK428.out
               have p29 : 0 ≤ ((ji26) : Int) := pD
               have q29 : (ji26) < (t425.size : Int) := pD
               have hx29 := bt_at t425 (ji26)
               replace p29 := eq_true p29
               replace q29 := eq_true q29
               go_wp2_with (first | (go_at_call 7; (with_reducible refine (minstrellaw05_lives.calls k3  t429 _ ?side1 A34.out).mono ?_); (case side1 => exact pG); rintro e w36 ⟨rfl, hb⟩; replace HB := am (below_step pB hb)))
               repeat (go_quiet (first | (go_at_call 7; (with_reducible refine (minstrellaw05_lives.calls k3  t429 _ ?side1 A34.out).mono ?_); (case side1 => exact pG); rintro e w36 ⟨rfl, hb⟩; replace HB := am (below_step pB hb))); try go_wp2_with (first | (go_at_call 7; (with_reducible refine (minstrellaw05_lives.calls k3  t429 _ ?side1 A34.out).mono ?_); (case side1 => exact pG); rintro e w36 ⟨rfl, hb⟩; replace HB := am (below_step pB hb))))
               go_ret
               exact ⟨by first | rfl | (simp [errW_none, errW_some] <;> rfl) | (simp only [← hji26]; first | rfl | (simp [errW_none, errW_some] <;> rfl)) | (simp [*, errW_none, errW_some] <;> rfl), pB⟩
              ·rw [if_neg c33] at H
               exact absurd H (by simp)
             ·replace c32 := Bool.eq_false_iff.mpr c32
              subst c32
              rw [if_neg (show ¬ (false = true) by decide)] at H
              exact absurd H (by simp)
           ·rw [if_neg c28] at H
            exact absurd H (by simp)
          ·rw [if_neg c27] at H
           exact absurd H (by simp)
         ·rw [if_neg c25] at H
          have c25b0 : decide (x8_13 < x9_3) = false := decide_eq_false c25
          clear c25
          by_cases c37 : t427 = true
          ·subst c37
           rw [if_pos rfl] at H
           by_cases c38 : (wrap64 (x9_3 - x8_13)) ≤ 17
           ·rw [if_pos c38] at H
            have c38b0 : decide ((wrap64 (x9_3 - x8_13)) ≤ 17) = true := decide_eq_true c38
            clear c38
            replace H := Option.bind_eq_some_iff.mp H
            obtain ⟨t430, A390, H⟩ := H
            try dsimp only at H
            have A39 := am A390
            clear A390
            obtain rfl := Option.some.inj H
            go_wp2_with (first | (go_at_call 7; (with_reducible refine (minstrellaw05_lives.calls k3  t430 _ ?side1 A39.out).mono ?_); (case side1 => exact pG); rintro e w40 ⟨rfl, hb⟩; replace HB := am (below_step pB hb)))
            repeat (go_quiet (first | (go_at_call 7; (with_reducible refine (minstrellaw05_lives.calls k3  t430 _ ?side1 A39.out).mono ?_); (case side1 => exact pG); rintro e w40 ⟨rfl, hb⟩; replace HB := am (below_step pB hb))); try go_wp2_with (first | (go_at_call 7; (with_reducible refine (minstrellaw05_lives.calls k3  t430 _ ?side1 A39.out).mono ?_); (case side1 => exact pG); rintro e w40 ⟨rfl, hb⟩; replace HB := am (below_step pB hb))))
            go_ret
            exact ⟨pE, pB⟩
           ·rw [if_neg c38] at H
            exact absurd H (by simp)
          ·replace c37 := Bool.eq_false_iff.mpr c37
           subst c37
           rw [if_neg (show ¬ (false = true) by decide)] at H
           exact absurd H (by simp)
def minstrellaw05_DecBack.Pure : Prop := ∀ (a0 : Int), (Lit.int .u64 a0).wf = true → ∃ k, minstrellaw05_DecBack.f k a0 = some true
end Go.Proofs.YtflcanpajgpghaaDoor.Pr
end
section

end
section
namespace Go.Proofs.YtflcanpajgpghaaDoor.Pure
open Go.RowKit Go.Proofs.YtflcanpajgpghaaDoor.Pr Go.Proofs.YtflcanpajgpghaaDoorW.PrintWords Go.Proofs.YtflcanpajgpghaaDoorW.PrintLast Go.Proofs.YtflcanpajgpghaaDoorW.PrintMore
def toB (x : Nat) : List Int := if x = 0 then [] else ((x % 4294967296 : Nat) : Int) :: toB (x / 4294967296)
termination_by x
decreasing_by omega
theorem toB_zero : toB 0 = [] := by rw [toB]; rfl
theorem toB_pos {x : Nat} (h : x ≠ 0) : toB x = ((x % 4294967296 : Nat) : Int) :: toB (x / 4294967296) := by rw [toB, if_neg h]
def valB : List Int → Nat
 | [] => 0
 | a :: l => a.toNat + 4294967296 * valB l
def Parts (l : List Int) : Prop := ∀ x ∈ l, 0 ≤ x ∧ x < 4294967296
theorem val_toB (x : Nat) : valB (toB x) = x := by
 induction x using Nat.strongRecOn with
 | _ x ih =>
  by_cases h : x = 0
  ·subst h; rw [toB_zero]; rfl
  ·rw [toB_pos h, valB, ih (x / 4294967296) (by omega), Int.toNat_natCast]
   omega
theorem parts_toB (x : Nat) : Parts (toB x) := by
 induction x using Nat.strongRecOn with
 | _ x ih =>
  by_cases h : x = 0
  ·subst h; rw [toB_zero]; intro y hy; cases hy
  ·rw [toB_pos h]
   intro y hy
   rcases List.mem_cons.1 hy with rfl | hy
   ·omega
   ·exact ih (x / 4294967296) (by omega) y hy
theorem val_append (l m : List Int) : valB (l ++ m) = valB l + 4294967296 ^ l.length * valB m := by
 induction l with
 | nil => simp [valB]
 | cons a l ih =>
  rw [List.cons_append, valB, valB, ih, List.length_cons, Nat.pow_succ, Nat.mul_add, ← Nat.mul_assoc, Nat.mul_comm 4294967296 (4294967296 ^ l.length)]
  omega
theorem val_lt {l : List Int} (h : Parts l) : valB l < 4294967296 ^ l.length := by
 induction l with
 | nil => simp [valB]
 | cons a l ih =>
  have h1 := ih (fun x hx => h x (List.mem_cons_of_mem _ hx))
  have h2 := h a (List.mem_cons_self ..)
  rw [valB, List.length_cons, Nat.pow_succ]
  omega
theorem toB_val {l : List Int} (h : Parts l) (hl : l = [] ∨ l.getLast? ≠ some 0) : toB (valB l) = l := by
 induction l with
 | nil => exact toB_zero
 | cons a l ih =>
  have h2 := h a (List.mem_cons_self ..)
  have hp : Parts l := fun x hx => h x (List.mem_cons_of_mem _ hx)
  have hlast : (a :: l).getLast? ≠ some 0 := hl.resolve_left (by simp)
  have hne : valB (a :: l) ≠ 0 := by
   intro h0
   rw [valB] at h0
   by_cases hn : l = []
   ·subst hn
    simp at hlast
    omega
   ·have := ih hp (.inr (by
     cases l with
     | nil => exact absurd rfl hn
     | cons b l => rwa [List.getLast?_cons_cons] at hlast))
    have h3 : valB l = 0 := by omega
    rw [h3, toB_zero] at this
    exact hn this.symm
  rw [toB_pos hne]
  have e1 : (valB (a :: l) % 4294967296 : Nat) = a.toNat := by rw [valB]; omega
  have e2 : valB (a :: l) / 4294967296 = valB l := by rw [valB]; omega
  rw [e1, e2, ih hp (by
   by_cases hn : l = []
   ·exact .inl hn
   ·refine .inr ?_
    cases l with
    | nil => exact absurd rfl hn
    | cons b l => rwa [List.getLast?_cons_cons] at hlast)]
  congr 1
  omega
theorem wrapB (n : Int) (h0 : -9223372036854775808 ≤ n) (h1 : n ≤ 9223372036854775807) : wrap64 n = n := by unfold wrap64; omega
theorem parts_append {l m : List Int} (h : Parts l) (g : Parts m) : Parts (l ++ m) := fun x hx => (List.mem_append.1 hx).elim (h x) (g x)
theorem rd_last (m : List Int) (a : Int) : rd (m ++ [a]) (m.length : Int) = a := by
 unfold rd
 rw [Int.toNat_natCast, List.getD_eq_getElem?_getD, List.getElem?_append_right (Nat.le_refl _), Nat.sub_self]
 rfl
theorem trim_ev : ∀ (n : Nat) (l : List Int), l.length = n → Parts l → n ≤ 4611686018427387904 → Ev (fun k => dec_big_trim.l0 k l) (toB (valB l))
 | 0, l, hn, hp, hb => by
  obtain rfl := List.eq_nil_of_length_eq_zero hn
  refine Ev.step (f := fun k => some []) (fun k => ?_) (by rw [show valB [] = 0 from rfl, toB_zero]; exact Ev.now _)
  rw [dec_big_trim.l0, if_neg (by simp)]
 | n + 1, l, hn, hp, hb => by
  obtain ⟨m, a, rfl⟩ : ∃ m a, l = m ++ [a] := ⟨l.dropLast, l.getLast (by intro h; rw [h] at hn; cases hn), (List.dropLast_concat_getLast _).symm⟩
  have hm : m.length = n := by rw [List.length_append, List.length_singleton] at hn; omega
  have hlen : (((m ++ [a]).length : Nat) : Int) = (m.length : Int) + 1 := by rw [List.length_append, List.length_singleton]; omega
  have hw : wrap64 (((m ++ [a]).length : Int) - 1) = (m.length : Int) := by rw [hlen, wrapB _ (by omega) (by omega)]; omega
  have hpm : Parts m := fun x hx => hp x (List.mem_append_left _ hx)
  have ha := hp a (List.mem_append_right _ (List.mem_singleton.2 rfl))
  by_cases h0 : a = 0
  ·have ih := trim_ev n m hm hpm (by omega)
   have hv : valB (m ++ [a]) = valB m := by rw [val_append, h0]; simp [valB]
   rw [hv]
   refine Ev.step (fun k => ?_) ih
   rw [dec_big_trim.l0, if_pos (by omega), hw, if_pos (by omega), if_pos (by omega), rd_last, if_pos h0, if_pos (by omega), Int.toNat_natCast, List.take_left']
   rfl
  ·refine Ev.step (f := fun k => some (m ++ [a])) (fun k => ?_) ?_
   ·rw [dec_big_trim.l0, if_pos (by omega), hw, if_pos (by omega), if_pos (by omega), rd_last, if_neg h0]
   ·rw [toB_val hp (.inr (by rw [List.getLast?_append]; simp; exact h0))]
    exact Ev.now _
theorem mul_small {x n c : Nat} (hx : x < 4294967296) (hn : n < 4294967296) (hc : c < 4294967296) : c + x * n < 18446744073709551616 ∧ (c + x * n) / 4294967296 < 4294967296 := by
 have h : x * n ≤ 4294967295 * 4294967295 := Nat.mul_le_mul (by omega) (by omega)
 have h2 : (4294967295 : Nat) * 4294967295 = 18446744065119617025 := rfl
 omega
theorem u64_in (n : Nat) (h : n < 18446744073709551616) : IntKind.u64.wrap (n : Int) = (n : Int) := by
 unfold IntKind.wrap
 simp [IntKind.bits, IntKind.signed]
 omega
theorem val_drop {l : List Int} {i : Nat} (h : i < l.length) : valB (l.drop i) = (l.getD i 0).toNat + 4294967296 * valB (l.drop (i + 1)) := by
 rw [List.drop_eq_getElem_cons h, valB, List.getD_eq_getElem?_getD, List.getElem?_eq_getElem h]
 rfl
theorem times_loop (l : List Int) (n : Nat) (hn : n < 4294967296) (hl : l.length ≤ 1048576) (hp : Parts l) : ∀ (d i : Nat) (acc : List Int) (c : Nat), i + d = l.length → acc.length = i → Parts acc → c < 4294967296 →
  Ev (fun k => dec_big_times.l0 k (n : Int) acc (c : Int) l (l.length : Int) (i : Int)) (toB (valB acc + 4294967296 ^ i * (valB (l.drop i) * n + c)))
 | 0, i, acc, c, hi, ha, hpa, hc => by
  have hd : l.drop i = [] := List.drop_eq_nil_of_le (by omega)
  have hv : valB acc + 4294967296 ^ i * (valB (l.drop i) * n + c) = valB (acc ++ [(c : Int) % 4294967296]) := by
   rw [hd, val_append, ha]
   simp only [valB, Nat.zero_mul, Nat.zero_add, Nat.mul_zero, Nat.add_zero]
   congr 2
   omega
  rw [hv]
  have ht := trim_ev (acc ++ [(c : Int) % 4294967296]).length (acc ++ [(c : Int) % 4294967296]) rfl (parts_append hpa (fun x hx => by rw [List.mem_singleton.1 hx]; omega)) (by rw [List.length_append, List.length_singleton]; omega)
  have hb : Ev (fun k => (dec_big_trim.f k (acc ++ [(c : Int) % 4294967296])).bind fun t => some t) (toB (valB (acc ++ [(c : Int) % 4294967296]))) := Ev.bind ht (Ev.now _)
  refine Ev.step (fun k => ?_) hb
  rw [dec_big_times.l0, if_neg (by omega), if_pos (by omega)]
 | d + 1, i, acc, c, hi, ha, hpa, hc => by
  have hlt : i < l.length := by omega
  obtain ⟨x, hx, hx2⟩ : ∃ x : Nat, l.getD i 0 = (x : Int) ∧ x < 4294967296 := by
   have := hp (l.getD i 0) (by rw [List.getD_eq_getElem?_getD, List.getElem?_eq_getElem hlt]; exact List.getElem_mem hlt)
   exact ⟨(l.getD i 0).toNat, by omega, by omega⟩
  have hrd : rd l (i : Int) = (x : Int) := by unfold rd; rw [Int.toNat_natCast]; exact hx
  obtain ⟨hs1, hs2⟩ := mul_small hx2 hn hc
  have hxn : x * n < 18446744073709551616 := by omega
  have he : IntKind.u64.wrap ((c : Int) + (IntKind.u64.wrap ((IntKind.u64.wrap (rd l (i : Int))) * (IntKind.u64.wrap ((n : Nat) : Int))))) = ((c + x * n : Nat) : Int) := by
   rw [hrd, u64_in x (by omega), u64_in n (by omega), show ((x : Int) * (n : Int)) = ((x * n : Nat) : Int) by push_cast; rfl, u64_in _ hxn, show ((c : Int) + ((x * n : Nat) : Int)) = ((c + x * n : Nat) : Int) by push_cast; rfl, u64_in _ hs1]
  have ih := times_loop l n hn hl hp d (i + 1) (acc ++ [(((c + x * n) % 4294967296 : Nat) : Int)]) ((c + x * n) / 4294967296) (by omega) (by rw [List.length_append, List.length_singleton]; omega) (parts_append hpa (fun y hy => by rw [List.mem_singleton.1 hy]; omega)) hs2
  have hv : valB acc + 4294967296 ^ i * (valB (l.drop i) * n + c) = valB (acc ++ [(((c + x * n) % 4294967296 : Nat) : Int)]) + 4294967296 ^ (i + 1) * (valB (l.drop (i + 1)) * n + (c + x * n) / 4294967296) := by
   rw [val_append, ha, val_drop hlt, hx, Int.toNat_natCast, Nat.pow_succ, Nat.mul_assoc, Nat.add_assoc, ← Nat.mul_add]
   simp only [valB, Nat.mul_zero, Nat.add_zero, Int.toNat_natCast]
   congr 2
   rw [Nat.add_mul, Nat.mul_assoc, Nat.mul_add]
   generalize valB (l.drop (i + 1)) * n = v
   have := Nat.mod_add_div (c + x * n) 4294967296
   omega
  rw [hv]
  refine Ev.step (fun k => ?_) ih
  rw [dec_big_times.l0, if_pos (by omega), if_pos (by omega), if_pos (by omega), if_pos (by omega), he, wrapB _ (by omega) (by omega)]
  simp only [Int.natCast_emod, Int.natCast_ediv, Int.natCast_add, Int.natCast_one]
  rfl
theorem times_ev (x n m : Nat) (hn : n < 4294967296) (hm : m < 4294967296) (hl : (toB x).length ≤ 1048576) : Ev (fun k => dec_big_times.f k (toB x) (n : Int) (m : Int)) (toB (x * n + m)) := by
 have h := times_loop (toB x) n hn hl (parts_toB x) (toB x).length 0 [] m (by omega) rfl (fun y hy => by cases hy) hm
 rw [List.drop_zero, val_toB, Nat.pow_zero, Nat.one_mul] at h
 have e : valB [] + (x * n + m) = x * n + m := by simp [valB]
 rw [e] at h
 refine Ev.congr (fun k => ?_) h
 unfold dec_big_times.f
 rw [wrapB _ (by omega) (by omega), if_pos (by omega), if_pos (by omega), u64_in m (by omega)]
 rfl
theorem len_toB : ∀ (L x : Nat), x < 4294967296 ^ L → (toB x).length ≤ L
 | 0, x, h => by
  have : x = 0 := by rw [Nat.pow_zero] at h; omega
  rw [this, toB_zero]; exact Nat.le_refl _
 | L + 1, x, h => by
  by_cases h0 : x = 0
  ·rw [h0, toB_zero]; exact Nat.zero_le _
  ·rw [toB_pos h0, List.length_cons]
   have : x / 4294967296 < 4294967296 ^ L := by
    rw [Nat.pow_succ] at h
    exact Nat.div_lt_of_lt_mul (by rw [Nat.mul_comm]; exact h)
   have := len_toB L _ this
   omega
theorem tens1 (n : Nat) (hn : n ≤ 1048576) (L : Nat) (hL : L ≤ 1048576) : ∀ (d j x : Nat), j + d = n → x * 10 ^ d < 4294967296 ^ L → Ev (fun k => dec_big_tens.l1 k (toB x) (n : Int) (j : Int)) (toB (x * 10 ^ d))
 | 0, j, x, hj, hx => by
  rw [Nat.pow_zero, Nat.mul_one]
  refine Ev.step (f := fun k => some (toB x)) (fun k => ?_) (Ev.now _)
  rw [dec_big_tens.l1, if_neg (by omega)]
 | d + 1, j, x, hj, hx => by
  have h1 : x * 10 * 10 ^ d = x * 10 ^ (d + 1) := by rw [Nat.pow_succ, Nat.mul_assoc, Nat.mul_comm 10]
  have hxl : x < 4294967296 ^ L := Nat.lt_of_le_of_lt (Nat.le_mul_of_pos_right _ (Nat.pow_pos (by decide))) hx
  have ih := tens1 n hn L hL d (j + 1) (x * 10) (by omega) (by rw [h1]; exact hx)
  rw [h1] at ih
  have ht := times_ev x 10 0 (by decide) (by decide) (Nat.le_trans (len_toB L x hxl) hL)
  rw [Nat.add_zero] at ht
  have hb : Ev (fun k => (dec_big_times.f k (toB x) 10 0).bind fun t => dec_big_tens.l1 k t (n : Int) ((j + 1 : Nat) : Int)) (toB (x * 10 ^ (d + 1))) := Ev.bind ht ih
  refine Ev.step (fun k => ?_) hb
  rw [dec_big_tens.l1, if_pos (by omega), wrapB _ (by omega) (by omega)]
  rfl
theorem tens0 (L : Nat) (hL : L ≤ 1048576) : ∀ (n x : Nat), n ≤ 1048576 → x * 10 ^ n < 4294967296 ^ L → Ev (fun k => dec_big_tens.l0 k (toB x) (n : Int)) (toB (x * 10 ^ n)) := by
 intro n
 induction n using Nat.strongRecOn with
 | _ n ih =>
  intro x hn hx
  by_cases h9 : 9 ≤ n
  ·obtain ⟨m, rfl⟩ := Nat.exists_eq_add_of_le h9
   have h1 : x * 1000000000 * 10 ^ m = x * 10 ^ (9 + m) := by rw [Nat.pow_add, ← Nat.mul_assoc]
   have hxl : x < 4294967296 ^ L := Nat.lt_of_le_of_lt (Nat.le_mul_of_pos_right _ (Nat.pow_pos (by decide))) hx
   have g := ih m (by omega) (x * 1000000000) (by omega) (by rw [h1]; exact hx)
   rw [h1] at g
   have ht := times_ev x 1000000000 0 (by decide) (by decide) (Nat.le_trans (len_toB L x hxl) hL)
   rw [Nat.add_zero] at ht
   have hb : Ev (fun k => (dec_big_times.f k (toB x) 1000000000 0).bind fun t => dec_big_tens.l0 k t (m : Int)) (toB (x * 10 ^ (9 + m))) := Ev.bind ht g
   refine Ev.step (fun k => ?_) hb
   rw [dec_big_tens.l0, if_pos (by omega), wrapB _ (by omega) (by omega), show (((9 + m : Nat) : Int) - 9) = (m : Int) by omega]
  ·have g := tens1 n hn L hL n 0 x (by omega) hx
   refine Ev.step (fun k => ?_) g
   rw [dec_big_tens.l0, if_neg (by omega)]
   rfl
end Go.Proofs.YtflcanpajgpghaaDoor.Pure
end
section
namespace Go.Proofs.YtflcanpajgpghaaDoor.Pure
open Go.RowKit Go.Proofs.YtflcanpajgpghaaDoor.Pr Go.Proofs.YtflcanpajgpghaaDoorW.PrintWords Go.Proofs.YtflcanpajgpghaaDoorW.PrintLast Go.Proofs.YtflcanpajgpghaaDoorW.PrintMore
theorem bitLen_spec : ∀ (x : Nat), x ≠ 0 → x < 2 ^ 64 → 1 ≤ Lib.bitLen x ∧ 2 ^ (Lib.bitLen x - 1) ≤ x ∧ x < 2 ^ (Lib.bitLen x) := by
 intro x
 induction x using Nat.strongRecOn with
 | _ x ih =>
  intro h0 h
  rw [Lib.bitLen_half x h0 h]
  by_cases h1 : x / 2 = 0
  ·obtain rfl : x = 1 := by omega
   decide
  ·obtain ⟨c, a, b⟩ := ih (x / 2) (by omega) h1 (by omega)
   obtain ⟨n, hn⟩ : ∃ n, Lib.bitLen (x / 2) = n + 1 := ⟨_, (Nat.sub_add_cancel c).symm⟩
   rw [hn] at a b ⊢
   rw [Nat.add_sub_cancel] at a
   refine ⟨by omega, ?_, ?_⟩
   ·rw [show 1 + (n + 1) - 1 = n + 1 by omega, Nat.pow_succ]; omega
   ·rw [show 1 + (n + 1) = (n + 1) + 1 by omega, Nat.pow_succ 2 (n + 1)]; omega
def LenIs (x L : Nat) : Prop := (x = 0 → L = 0) ∧ (x ≠ 0 → 1 ≤ L ∧ 2 ^ (L - 1) ≤ x ∧ x < 2 ^ L)
theorem lenIs_lt {x L : Nat} (h : LenIs x L) : x < 2 ^ L := by
 by_cases h0 : x = 0
 ·rw [h0]; exact Nat.two_pow_pos _
 ·exact (h.2 h0).2.2
theorem base_pow (n : Nat) : (4294967296 : Nat) ^ n = 2 ^ (32 * n) := by rw [Nat.pow_mul]
theorem base_pos (n : Nat) : 0 < (4294967296 : Nat) ^ n := Nat.pow_pos (by decide)
theorem toB_last {x : Nat} (h : x ≠ 0) : ∃ (m : List Int) (a : Nat), toB x = m ++ [(a : Int)] ∧ 0 < a ∧ a < 4294967296 := by
 induction x using Nat.strongRecOn with
 | _ x ih =>
  rw [toB_pos h]
  by_cases h1 : x / 4294967296 = 0
  ·rw [h1, toB_zero]
   exact ⟨[], x % 4294967296, rfl, by omega, by omega⟩
  ·obtain ⟨m, a, e, h2, h3⟩ := ih (x / 4294967296) (by omega) h1
   exact ⟨_ :: m, a, by rw [e]; rfl, h2, h3⟩
theorem toB_split {x : Nat} (h : x ≠ 0) : ∃ (m : List Int) (a : Nat), toB x = m ++ [(a : Int)] ∧ 0 < a ∧ a < 4294967296 ∧ x = valB m + 4294967296 ^ m.length * a ∧ valB m < 4294967296 ^ m.length := by
 obtain ⟨m, a, e, h1, h2⟩ := toB_last h
 refine ⟨m, a, e, h1, h2, ?_, ?_⟩
 ·have := val_toB x
  rw [e, val_append] at this
  rw [← this]
  simp [valB]
 ·have hp := parts_toB x
  rw [e] at hp
  exact val_lt fun y hy => hp y (List.mem_append_left _ hy)
theorem len_ev (x : Nat) (hl : (toB x).length ≤ 1048576) : ∃ L : Nat, dec_big_len.f (toB x) = some (L : Int) ∧ LenIs x L ∧ L ≤ 32 * (toB x).length := by
 by_cases h0 : x = 0
 ·subst h0
  refine ⟨0, ?_, ⟨fun _ => rfl, fun h => absurd rfl h⟩, by omega⟩
  rw [toB_zero]
  rfl
 ·obtain ⟨m, a, e, h1, h2, hx, hm⟩ := toB_split h0
  obtain ⟨b1, b2, b3⟩ := bitLen_spec a (by omega) (by omega)
  have b4 := Lib.bitLen_le a 32 (by omega) (by omega)
  refine ⟨32 * m.length + Lib.bitLen a, ?_, ⟨fun h => absurd h h0, fun _ => ⟨by omega, ?_, ?_⟩⟩, ?_⟩
  ·have hlen : (((toB x).length : Nat) : Int) = (m.length : Int) + 1 := by rw [e, List.length_append, List.length_singleton]; omega
   have hml : m.length < 1048576 := by rw [e, List.length_append, List.length_singleton] at hl; omega
   unfold dec_big_len.f
   rw [hlen, if_neg (by omega), wrapB _ (by omega) (by omega), if_pos (by omega), if_pos (by omega), show ((m.length : Int) + 1 - 1) = (m.length : Int) by omega, e, rd_last]
   unfold bits_Len32.f
   rw [if_pos (by omega), Option.bind_some, Int.toNat_natCast, wrapB (32 * _) (by omega) (by omega), wrapB _ (by omega) (by omega)]
   congr 1
  ·rw [show 32 * m.length + Lib.bitLen a - 1 = 32 * m.length + (Lib.bitLen a - 1) by omega, Nat.pow_add, ← base_pow]
   have := Nat.mul_le_mul_left (4294967296 ^ m.length) b2
   omega
  ·rw [Nat.pow_add, ← base_pow]
   have := Nat.mul_le_mul_left (4294967296 ^ m.length) b3
   rw [Nat.mul_succ] at this
   omega
  ·rw [e, List.length_append, List.length_singleton]; omega
theorem toB_len_lt {x y : Nat} (h : (toB x).length < (toB y).length) : x < y := by
 have h1 : x < 4294967296 ^ (toB x).length := by
  have := val_lt (parts_toB x)
  rwa [val_toB] at this
 have hy : y ≠ 0 := by intro h0; rw [h0, toB_zero] at h; exact absurd h (Nat.not_lt_zero _)
 obtain ⟨m, a, e, h2, h3, h4, h5⟩ := toB_split hy
 rw [e, List.length_append, List.length_singleton] at h
 have h6 : 4294967296 ^ (toB x).length ≤ 4294967296 ^ m.length := Nat.pow_le_pow_right (by decide) (by omega)
 have h7 : 4294967296 ^ m.length * 1 ≤ 4294967296 ^ m.length * a := Nat.mul_le_mul_left _ h2
 omega
theorem len_mono {x y : Nat} (h : x ≤ y) : (toB x).length ≤ (toB y).length := by
 apply Nat.le_of_not_lt
 intro hlt
 have := toB_len_lt hlt
 omega
theorem val_take {l : List Int} {i : Nat} (h : i < l.length) : valB (l.take (i + 1)) = valB (l.take i) + 4294967296 ^ i * (l.getD i 0).toNat := by
 rw [List.take_succ_eq_append_getElem h, val_append, List.length_take, Nat.min_eq_left (Nat.le_of_lt h), List.getD_eq_getElem?_getD, List.getElem?_eq_getElem h]
 simp [valB]
theorem val_take_lt {l : List Int} (hp : Parts l) {i : Nat} (h : i ≤ l.length) : valB (l.take i) < 4294967296 ^ i := by
 have := val_lt (l := l.take i) (fun x hx => hp x (List.mem_of_mem_take hx))
 rwa [List.length_take, Nat.min_eq_left h] at this
theorem getD_in {l : List Int} (hp : Parts l) {i : Nat} (h : i < l.length) : ∃ a : Nat, l.getD i 0 = (a : Int) ∧ a < 4294967296 := by
 have := hp (l.getD i 0) (by rw [List.getD_eq_getElem?_getD, List.getElem?_eq_getElem h]; exact List.getElem_mem h)
 exact ⟨(l.getD i 0).toNat, by omega, by omega⟩
theorem rd_nat (l : List Int) (i : Nat) : rd l (i : Int) = l.getD i 0 := by unfold rd; rw [Int.toNat_natCast]
theorem cmp_loop (l m : List Int) (hp : Parts l) (hm : Parts m) (hlen : l.length = m.length) (hb : l.length ≤ 1048576) : ∀ i, i ≤ l.length →
  ∃ c : Int, Ev (fun k => dec_big_cmp.l0 k l m ((i : Int) - 1)) c ∧ (c < 0 ↔ valB (l.take i) < valB (m.take i)) ∧ (c = 0 ↔ valB (l.take i) = valB (m.take i))
 | 0, _ => by
  refine ⟨0, Ev.step (f := fun _ => some 0) (fun k => ?_) (Ev.now _), by simp [valB], by simp [valB]⟩
  rw [dec_big_cmp.l0, if_neg (by omega)]
 | i + 1, hi => by
  obtain ⟨a, ha, ha2⟩ := getD_in hp (i := i) (by omega)
  obtain ⟨b, hb', hb2⟩ := getD_in hm (i := i) (by omega)
  have ha3 : (l.getD i 0).toNat = a := by rw [ha]; rfl
  have hb3 : (m.getD i 0).toNat = b := by rw [hb']; rfl
  have e1 := val_take (l := l) (i := i) (by omega)
  have e2 := val_take (l := m) (i := i) (by omega)
  have t1 := val_take_lt hp (i := i) (by omega)
  have t2 := val_take_lt hm (i := i) (by omega)
  rw [ha3] at e1
  rw [hb3] at e2
  have hk : ((i + 1 : Nat) : Int) - 1 = (i : Int) := by omega
  rw [hk, e1, e2]
  obtain ⟨P, hP⟩ : ∃ P, P = 4294967296 ^ i := ⟨_, rfl⟩
  rw [← hP] at t1 t2 ⊢
  by_cases hab : a = b
  ·obtain ⟨c, hc, c1, c2⟩ := cmp_loop l m hp hm hlen hb i (by omega)
   refine ⟨c, Ev.step (fun k => ?_) hc, ?_, ?_⟩
   ·rw [dec_big_cmp.l0, if_pos (by omega), if_pos (by omega), if_pos (by omega), if_pos (by omega), rd_nat, rd_nat, if_pos (by rw [ha, hb', hab]), wrapB _ (by omega) (by omega)]
   ·rw [c1, hab]; omega
   ·rw [c2, hab]; omega
  ·by_cases hlt : a < b
   ·refine ⟨-1, Ev.step (f := fun _ => some (-1)) (fun k => ?_) (Ev.now _), ?_, ?_⟩
    ·rw [dec_big_cmp.l0, if_pos (by omega), if_pos (by omega), if_pos (by omega), if_pos (by omega), rd_nat, rd_nat, if_neg (by rw [ha, hb']; omega), if_pos (by rw [ha, hb']; omega)]
    ·have : P * (a + 1) ≤ P * b := Nat.mul_le_mul_left _ hlt
     rw [Nat.mul_succ] at this
     omega
    ·have : P * (a + 1) ≤ P * b := Nat.mul_le_mul_left _ hlt
     rw [Nat.mul_succ] at this
     omega
   ·have hlt' : b < a := by omega
    refine ⟨1, Ev.step (f := fun _ => some 1) (fun k => ?_) (Ev.now _), ?_, ?_⟩
    ·rw [dec_big_cmp.l0, if_pos (by omega), if_pos (by omega), if_pos (by omega), if_pos (by omega), rd_nat, rd_nat, if_neg (by rw [ha, hb']; omega), if_neg (by rw [ha, hb']; omega)]
    ·have : P * (b + 1) ≤ P * a := Nat.mul_le_mul_left _ hlt'
     rw [Nat.mul_succ] at this
     omega
    ·have : P * (b + 1) ≤ P * a := Nat.mul_le_mul_left _ hlt'
     rw [Nat.mul_succ] at this
     omega
theorem cmp_ev (x y : Nat) (hx : (toB x).length ≤ 1048576) (hy : (toB y).length ≤ 1048576) : ∃ c : Int, Ev (fun k => dec_big_cmp.f k (toB x) (toB y)) c ∧ (c < 0 ↔ x < y) ∧ (c = 0 ↔ x = y) := by
 by_cases h : (toB x).length = (toB y).length
 ·obtain ⟨c, hc, c1, c2⟩ := cmp_loop (toB x) (toB y) (parts_toB x) (parts_toB y) h hx (toB x).length (Nat.le_refl _)
  rw [List.take_length, h, List.take_length, val_toB, val_toB] at c1 c2
  refine ⟨c, Ev.congr (fun k => ?_) hc, c1, c2⟩
  unfold dec_big_cmp.f
  rw [if_pos (by rw [h]), wrapB _ (by omega) (by omega)]
 ·refine ⟨((toB x).length : Int) - ((toB y).length : Int), Ev.congr (f := fun _ => some (((toB x).length : Int) - ((toB y).length : Int))) (fun k => ?_) (Ev.now _), ?_, ?_⟩
  ·unfold dec_big_cmp.f
   rw [if_neg (by omega), wrapB _ (by omega) (by omega)]
  ·constructor
   ·intro hc; exact toB_len_lt (by omega)
   ·intro hxy
    have := len_mono (Nat.le_of_lt hxy)
    omega
  ·constructor
   ·intro hc; omega
   ·intro hxy; rw [hxy] at h; exact absurd rfl h
theorem toB_shift {x : Nat} (h : x ≠ 0) : ∀ q, toB (x * 4294967296 ^ q) = List.replicate q 0 ++ toB x
 | 0 => by rw [Nat.pow_zero, Nat.mul_one]; rfl
 | q + 1 => by
  have h1 : x * 4294967296 ^ q ≠ 0 := Nat.mul_ne_zero h (Nat.ne_of_gt (base_pos q))
  have h2 : x * 4294967296 ^ (q + 1) = x * 4294967296 ^ q * 4294967296 := by rw [Nat.pow_succ, Nat.mul_assoc]
  rw [h2, toB_pos (Nat.mul_ne_zero h1 (by decide)), Nat.mul_mod_left, Nat.mul_div_cancel _ (by decide), toB_shift h q]
  rfl
theorem shl_u32 (n : Nat) (h : n < 32) : shl .u32 1 (n : Int) = ((2 ^ n : Nat) : Int) := by
 unfold shl
 rw [Int.toNat_natCast, show IntKind.u32.bits = 32 from rfl, Nat.min_eq_left (Nat.le_of_lt h), Int.one_mul]
 have : (2 : Nat) ^ n < 2 ^ 32 := Nat.pow_lt_pow_right (by decide) h
 have e : ((2 : Int) ^ n) = ((2 ^ n : Nat) : Int) := by push_cast; rfl
 rw [e]
 generalize (2 : Nat) ^ n = z at this
 unfold IntKind.wrap
 simp [IntKind.bits, IntKind.signed]
 omega
theorem up_ev (x n : Nat) (h : x ≠ 0 ∨ n < 32) (hl : (toB x).length + n / 32 ≤ 1048000) : Ev (fun k => dec_big_up.f k (toB x) (n : Int)) (toB (x * 2 ^ n)) := by
 have hq : Int.tdiv (n : Int) 32 = ((n / 32 : Nat) : Int) := by rw [Int.tdiv_eq_ediv_of_nonneg (by omega)]; omega
 have hr : Int.tmod (n : Int) 32 = ((n % 32 : Nat) : Int) := by rw [Int.tmod_eq_emod_of_nonneg (by omega)]; omega
 have hlt : 2 ^ (n % 32) < 4294967296 := Nat.lt_of_lt_of_le (Nat.pow_lt_pow_right (by decide) (Nat.mod_lt n (by decide : 0 < 32))) (Nat.le_refl _)
 have ht := times_ev x (2 ^ (n % 32)) 0 hlt (by decide) (by omega)
 rw [Nat.add_zero] at ht
 have hx2 : x * 2 ^ n = x * 2 ^ (n % 32) * 4294967296 ^ (n / 32) := by
  rw [base_pow, Nat.mul_assoc, ← Nat.pow_add]
  congr 2
  omega
 have hlen2 : (toB (x * 2 ^ (n % 32))).length ≤ (toB x).length + 1 := by
  refine len_toB _ _ ?_
  have h1 : x < 4294967296 ^ (toB x).length := by
   have := val_lt (parts_toB x)
   rwa [val_toB] at this
  rw [Nat.pow_succ]
  exact Nat.mul_lt_mul_of_lt_of_lt h1 hlt
 have hres : toB (x * 2 ^ n) = List.replicate (n / 32) 0 ++ toB (x * 2 ^ (n % 32)) := by
  rw [hx2]
  by_cases h0 : x = 0
  ·subst h0
   have : n / 32 = 0 := by omega
   rw [this, Nat.zero_mul, Nat.zero_mul, toB_zero]
   rfl
  ·exact toB_shift (Nat.mul_ne_zero h0 (Nat.ne_of_gt (Nat.two_pow_pos _))) _
 rw [hres]
 have hb : Ev (fun k => (dec_big_times.f k (toB x) ((2 ^ (n % 32) : Nat) : Int) 0).bind fun t => some (List.replicate (n / 32) 0 ++ t)) (List.replicate (n / 32) 0 ++ toB (x * 2 ^ (n % 32))) := Ev.bind ht (Ev.now _)
 refine Ev.congr (fun k => ?_) hb
 unfold dec_big_up.f
 rw [hq, hr, wrapB ((n / 32 : Nat) : Int) (by omega) (by omega), wrapB (((n / 32 : Nat) : Int) + ((toB x).length : Int)) (by omega) (by omega), wrapB _ (by omega) (by omega), if_pos (by omega), if_pos (by omega), if_pos (by omega), Option.bind_some, Int.toNat_natCast, if_pos (by rw [List.length_replicate]; omega), Option.bind_some, if_pos (by rw [List.length_append, List.length_replicate]; omega), if_pos (by omega), shl_u32 _ (Nat.mod_lt _ (by decide)),
  List.drop_left' (List.length_replicate ..), List.take_left' (List.length_replicate ..)]
 cases hk : dec_big_times.f k (toB x) ((2 ^ (n % 32) : Nat) : Int) 0 with
 | none => rfl
 | some t =>
  rw [Option.bind_some, Option.bind_some]
  have hk2 : t = toB (x * 2 ^ (n % 32)) := by
   obtain ⟨K, hK⟩ := ht
   have h1 := hK (max K k) (Nat.le_max_left ..)
   have h2 : dec_big_times.f (max K k) (toB x) ((2 ^ (n % 32) : Nat) : Int) 0 = some t := by
    have : ∀ d, dec_big_times.f (k + d) (toB x) ((2 ^ (n % 32) : Nat) : Int) 0 = some t := by
     intro d
     induction d with
     | zero => exact hk
     | succ d ih => exact dec_big_times.mono _ _ _ _ _ ih
    have h3 := this (max K k - k)
    rwa [show k + (max K k - k) = max K k by omega] at h3
   have h3 : dec_big_times.f (max K k) (toB x) ((2 ^ (n % 32) : Nat) : Int) 0 = some (toB (x * 2 ^ (n % 32))) := h1
   exact Option.some.inj (h2.symm.trans h3)
  unfold slices_Concat.f
  rw [if_pos (by simp [List.flatten]; rw [hk2]; omega)]
  simp [List.flatten]
end Go.Proofs.YtflcanpajgpghaaDoor.Pure
end
section
namespace Go.Proofs.YtflcanpajgpghaaDoor.Pure
open Go.RowKit Go.Proofs.YtflcanpajgpghaaDoor.Pr Go.Proofs.YtflcanpajgpghaaDoorW.PrintWords Go.Proofs.YtflcanpajgpghaaDoorW.PrintLast Go.Proofs.YtflcanpajgpghaaDoorW.PrintMore
theorem u64_neg (z : Int) (h : -9223372036854775808 ≤ z) (h1 : z < 0) : IntKind.u64.wrap z = z + 18446744073709551616 := by
 unfold IntKind.wrap
 simp [IntKind.bits, IntKind.signed]
 omega
theorem val_drop' (l : List Int) (i : Nat) (hp : Parts l) : ∃ b : Nat, b < 4294967296 ∧ valB (l.drop i) = b + 4294967296 * valB (l.drop (i + 1)) ∧ (i < l.length → rd l (i : Int) = (b : Int)) ∧ (l.length ≤ i → b = 0) := by
 by_cases h : i < l.length
 ·obtain ⟨b, hb, hb2⟩ := getD_in hp h
  refine ⟨b, hb2, ?_, fun _ => by rw [rd_nat, hb], fun h2 => by omega⟩
  rw [val_drop h, hb, Int.toNat_natCast]
 ·rw [List.drop_eq_nil_of_le (by omega), List.drop_eq_nil_of_le (by omega)]
  exact ⟨0, by decide, rfl, fun h2 => absurd h2 h, fun _ => rfl⟩
theorem minus_loop (l m : List Int) (hp : Parts l) (hm : Parts m) (hl : l.length ≤ 1048576) (hml : m.length ≤ 1048576) : ∀ (d i : Nat) (acc : List Int) (c : Nat), i + d = l.length → acc.length = i → Parts acc → c ≤ 1 → valB (m.drop i) + c ≤ valB (l.drop i) →
  Ev (fun k => dec_big_minus.l0 k m acc (c : Int) l (l.length : Int) (i : Int)) (toB (valB acc + 4294967296 ^ i * (valB (l.drop i) - valB (m.drop i) - c)))
 | 0, i, acc, c, hi, ha, hpa, hc, hle => by
  have hd : l.drop i = [] := List.drop_eq_nil_of_le (by omega)
  rw [hd] at hle ⊢
  have e : valB ([] : List Int) - valB (m.drop i) - c = 0 := by simp [valB]
  rw [e, Nat.mul_zero, Nat.add_zero]
  have ht := trim_ev acc.length acc rfl hpa (by omega)
  have hb : Ev (fun k => (dec_big_trim.f k acc).bind fun t => some t) (toB (valB acc)) := Ev.bind ht (Ev.now _)
  refine Ev.step (fun k => ?_) hb
  rw [dec_big_minus.l0, if_neg (by omega)]
 | d + 1, i, acc, c, hi, ha, hpa, hc, hle => by
  obtain ⟨a, ha2, hL, hra, _⟩ := val_drop' l i hp
  obtain ⟨b, hb2, hM, hrb, hb0⟩ := val_drop' m i hm
  have hra := hra (by omega)
  obtain ⟨L, hLe⟩ : ∃ L, L = valB (l.drop (i + 1)) := ⟨_, rfl⟩
  obtain ⟨M, hMe⟩ : ∃ M, M = valB (m.drop (i + 1)) := ⟨_, rfl⟩
  rw [hL, hM, ← hLe, ← hMe] at hle ⊢
  obtain ⟨e, c', he, hc', hwe, hwc⟩ : ∃ e c' : Nat, (e + b + c = a + 4294967296 * c' ∧ e < 4294967296) ∧ c' ≤ 1 ∧ (IntKind.u64.wrap ((a : Int) - ((c : Int) + (b : Int)))) % 4294967296 = (e : Int) ∧ (IntKind.u64.wrap ((a : Int) - ((c : Int) + (b : Int)))) / 9223372036854775808 = (c' : Int) := by
   by_cases h : b + c ≤ a
   ·refine ⟨a - b - c, 0, ⟨by omega, by omega⟩, by omega, ?_, ?_⟩
    ·rw [show ((a : Int) - ((c : Int) + (b : Int))) = ((a - b - c : Nat) : Int) by omega, u64_in _ (by omega)]; omega
    ·rw [show ((a : Int) - ((c : Int) + (b : Int))) = ((a - b - c : Nat) : Int) by omega, u64_in _ (by omega)]; omega
   ·refine ⟨a + 4294967296 - b - c, 1, ⟨by omega, by omega⟩, by omega, ?_, ?_⟩
    ·rw [u64_neg _ (by omega) (by omega)]; omega
    ·rw [u64_neg _ (by omega) (by omega)]; omega
  have hle2 : M + c' ≤ L := by omega
  have ih := minus_loop l m hp hm hl hml d (i + 1) (acc ++ [(e : Int)]) c' (by omega) (by rw [List.length_append, List.length_singleton]; omega) (parts_append hpa (fun y hy => by rw [List.mem_singleton.1 hy]; omega)) hc' (by rw [← hLe, ← hMe]; exact hle2)
  rw [← hLe, ← hMe] at ih
  have hv : valB acc + 4294967296 ^ i * (a + 4294967296 * L - (b + 4294967296 * M) - c) = valB (acc ++ [(e : Int)]) + 4294967296 ^ (i + 1) * (L - M - c') := by
   rw [val_append, ha, Nat.pow_succ, Nat.mul_assoc, Nat.add_assoc, ← Nat.mul_add]
   simp only [valB, Nat.mul_zero, Nat.add_zero, Int.toNat_natCast]
   congr 2
   omega
  rw [hv]
  refine Ev.step (fun k => ?_) ih
  by_cases hi2 : i < m.length
  ·have hrb := hrb hi2
   rw [dec_big_minus.l0, if_pos (by omega), if_pos (by omega), if_pos (by omega), if_pos (by omega), if_pos (by omega), hra, hrb, u64_in a (by omega), u64_in b (by omega), show ((c : Int) + (b : Int)) = ((c + b : Nat) : Int) by push_cast; rfl, u64_in (c + b) (by omega), show ((c + b : Nat) : Int) = ((c : Int) + (b : Int)) by push_cast; rfl, hwe, hwc, wrapB _ (by omega) (by omega)]
   rfl
  ·have hb0 := hb0 (by omega)
   subst hb0
   rw [show ((c : Int) + ((0 : Nat) : Int)) = (c : Int) by omega] at hwe hwc
   rw [dec_big_minus.l0, if_pos (by omega), if_pos (by omega), if_pos (by omega), if_neg (by omega), if_pos (by omega), hra, u64_in a (by omega), hwe, hwc, wrapB _ (by omega) (by omega)]
   rfl
theorem minus_ev (x y : Nat) (h : y ≤ x) (hl : (toB x).length ≤ 1048576) : Ev (fun k => dec_big_minus.f k (toB x) (toB y)) (toB (x - y)) := by
 have hy := len_mono h
 have g := minus_loop (toB x) (toB y) (parts_toB x) (parts_toB y) hl (by omega) (toB x).length 0 [] 0 (by omega) rfl (fun y hy => by cases hy) (by omega) (by rw [List.drop_zero, List.drop_zero, val_toB, val_toB]; omega)
 rw [List.drop_zero, List.drop_zero, val_toB, val_toB, Nat.pow_zero, Nat.one_mul] at g
 have e : valB [] + (x - y - 0) = x - y := by simp [valB]
 rw [e] at g
 refine Ev.congr (fun k => ?_) g
 unfold dec_big_minus.f
 rw [if_pos (by omega), if_pos (by omega)]
 rfl
theorem plus_loop (l m : List Int) (hp : Parts l) (hm : Parts m) (hl : l.length ≤ 1048576) (hml : m.length ≤ l.length) : ∀ (d i : Nat) (acc : List Int) (c : Nat), i + d = l.length → acc.length = i → Parts acc → c ≤ 1 →
  Ev (fun k => dec_big_plus.l0 k m acc (c : Int) l (l.length : Int) (i : Int)) (toB (valB acc + 4294967296 ^ i * (valB (l.drop i) + valB (m.drop i) + c)))
 | 0, i, acc, c, hi, ha, hpa, hc => by
  have hd : l.drop i = [] := List.drop_eq_nil_of_le (by omega)
  have hd2 : m.drop i = [] := List.drop_eq_nil_of_le (by omega)
  have hv : valB acc + 4294967296 ^ i * (valB (l.drop i) + valB (m.drop i) + c) = valB (acc ++ [(c : Int) % 4294967296]) := by
   rw [hd, hd2, val_append, ha]
   simp only [valB, Nat.zero_add, Nat.mul_zero, Nat.add_zero]
   congr 2
   omega
  rw [hv]
  have ht := trim_ev (acc ++ [(c : Int) % 4294967296]).length (acc ++ [(c : Int) % 4294967296]) rfl (parts_append hpa (fun x hx => by rw [List.mem_singleton.1 hx]; omega)) (by rw [List.length_append, List.length_singleton]; omega)
  have hb : Ev (fun k => (dec_big_trim.f k (acc ++ [(c : Int) % 4294967296])).bind fun t => some t) (toB (valB (acc ++ [(c : Int) % 4294967296]))) := Ev.bind ht (Ev.now _)
  refine Ev.step (fun k => ?_) hb
  rw [dec_big_plus.l0, if_neg (by omega), if_pos (by omega)]
 | d + 1, i, acc, c, hi, ha, hpa, hc => by
  obtain ⟨a, ha2, hL, hra, _⟩ := val_drop' l i hp
  obtain ⟨b, hb2, hM, hrb, hb0⟩ := val_drop' m i hm
  have hra := hra (by omega)
  have ih := plus_loop l m hp hm hl hml d (i + 1) (acc ++ [(((c + a + b) % 4294967296 : Nat) : Int)]) ((c + a + b) / 4294967296) (by omega) (by rw [List.length_append, List.length_singleton]; omega) (parts_append hpa (fun y hy => by rw [List.mem_singleton.1 hy]; omega)) (by omega)
  have hv : valB acc + 4294967296 ^ i * (valB (l.drop i) + valB (m.drop i) + c) = valB (acc ++ [(((c + a + b) % 4294967296 : Nat) : Int)]) + 4294967296 ^ (i + 1) * (valB (l.drop (i + 1)) + valB (m.drop (i + 1)) + (c + a + b) / 4294967296) := by
   rw [val_append, ha, hL, hM, Nat.pow_succ, Nat.mul_assoc, Nat.add_assoc (valB acc), ← Nat.mul_add]
   simp only [valB, Nat.mul_zero, Nat.add_zero, Int.toNat_natCast]
   congr 2
   omega
  rw [hv]
  refine Ev.step (fun k => ?_) ih
  by_cases hi2 : i < m.length
  ·have hrb := hrb hi2
   rw [dec_big_plus.l0, if_pos (by omega), if_pos (by omega), if_pos (by omega), if_pos (by omega), if_pos (by omega), hra, hrb, u64_in a (by omega), u64_in b (by omega), show ((c : Int) + (a : Int)) = ((c + a : Nat) : Int) by push_cast; rfl, u64_in (c + a) (by omega), show (((c + a : Nat) : Int) + (b : Int)) = ((c + a + b : Nat) : Int) by push_cast; rfl, u64_in (c + a + b) (by omega), wrapB _ (by omega) (by omega)]
   simp only [Int.natCast_emod, Int.natCast_ediv, Int.natCast_add, Int.natCast_one]
   rfl
  ·have hb0 := hb0 (by omega)
   subst hb0
   rw [Nat.add_zero]
   rw [dec_big_plus.l0, if_pos (by omega), if_pos (by omega), if_pos (by omega), if_neg (by omega), if_pos (by omega), hra, u64_in a (by omega), show ((c : Int) + (a : Int)) = ((c + a : Nat) : Int) by push_cast; rfl, u64_in (c + a) (by omega), wrapB _ (by omega) (by omega)]
   simp only [Int.natCast_emod, Int.natCast_ediv, Int.natCast_add, Int.natCast_one]
   rfl
theorem plus_g (x y : Nat) (h : (toB y).length ≤ (toB x).length) (hl : (toB x).length ≤ 1048576) : Ev (fun k => dec_big_plus.fg k (toB x) (toB y)) (toB (x + y)) := by
 have g := plus_loop (toB x) (toB y) (parts_toB x) (parts_toB y) hl h (toB x).length 0 [] 0 (by omega) rfl (fun y hy => by cases hy) (by omega)
 rw [List.drop_zero, List.drop_zero, val_toB, val_toB, Nat.pow_zero, Nat.one_mul] at g
 have e : valB [] + (x + y + 0) = x + y := by simp [valB]
 rw [e] at g
 refine Ev.congr (fun k => ?_) g
 unfold dec_big_plus.fg
 rw [wrapB _ (by omega) (by omega), if_pos (by omega), if_pos (by omega)]
 rfl
theorem plus_ev (x y : Nat) (hx : (toB x).length ≤ 1048576) (hy : (toB y).length ≤ 1048576) : Ev (fun k => dec_big_plus.f k (toB x) (toB y)) (toB (x + y)) := by
 unfold dec_big_plus.f
 by_cases h : ((toB x).length : Int) < ((toB y).length : Int)
 ·simp only [if_pos h]
  rw [Nat.add_comm]
  exact plus_g y x (by omega) hy
 ·simp only [if_neg h]
  exact plus_g x y (by omega) hx
theorem bits_or (a b : Nat) (ha : a < 18446744073709551616) (hb : b < 18446744073709551616) : Go.bits .or .u64 (a : Int) (b : Int) = ((a ||| b : Nat) : Int) := by
 have hlt : a ||| b < 2 ^ 64 := Nat.or_lt_two_pow ha hb
 unfold Go.bits
 rw [show IntKind.u64.bits = 64 from rfl]
 simp only [BitVec.toNat_or]
 have e2 : (BitVec.ofInt 64 (a : Int)).toNat = a := by rw [BitVec.ofInt_natCast, BitVec.toNat_ofNat, Nat.mod_eq_of_lt ha]
 have e3 : (BitVec.ofInt 64 (b : Int)).toNat = b := by rw [BitVec.ofInt_natCast, BitVec.toNat_ofNat, Nat.mod_eq_of_lt hb]
 rw [e2, e3]
 exact u64_in _ hlt
theorem bits_and (a b : Nat) (ha : a < 18446744073709551616) (hb : b < 18446744073709551616) : Go.bits .and .u64 (a : Int) (b : Int) = ((a &&& b : Nat) : Int) := by
 have hlt : a &&& b < 2 ^ 64 := Nat.and_lt_two_pow _ hb
 unfold Go.bits
 rw [show IntKind.u64.bits = 64 from rfl]
 simp only [BitVec.toNat_and]
 have e2 : (BitVec.ofInt 64 (a : Int)).toNat = a := by rw [BitVec.ofInt_natCast, BitVec.toNat_ofNat, Nat.mod_eq_of_lt ha]
 have e3 : (BitVec.ofInt 64 (b : Int)).toNat = b := by rw [BitVec.ofInt_natCast, BitVec.toNat_ofNat, Nat.mod_eq_of_lt hb]
 rw [e2, e3]
 exact u64_in _ hlt
theorem shl_u64 (x n : Nat) (h : n ≤ 64) : shl .u64 (x : Int) (n : Int) = ((x * 2 ^ n % 2 ^ 64 : Nat) : Int) := by
 unfold shl
 rw [Int.toNat_natCast, show IntKind.u64.bits = 64 from rfl, Nat.min_eq_left h]
 have e : ((x : Int) * (2 : Int) ^ n) = ((x * 2 ^ n : Nat) : Int) := by push_cast; rfl
 rw [e]
 generalize x * 2 ^ n = z
 unfold IntKind.wrap
 simp [IntKind.bits, IntKind.signed]
theorem shr_u64 (x n : Nat) (h : n ≤ 64) : shr .u64 (x : Int) (n : Int) = ((x / 2 ^ n : Nat) : Int) := by
 unfold shr
 rw [Int.toNat_natCast, show IntKind.u64.bits = 64 from rfl, Nat.min_eq_left h]
 push_cast
 rfl
theorem or_bit (t i : Nat) : (2 ^ (i + 1) * t ||| 2 ^ i) = 2 ^ (i + 1) * t + 2 ^ i := by
 rw [Nat.two_pow_add_eq_or_of_lt (by rw [Nat.pow_succ]; have := Nat.two_pow_pos i; omega)]
theorem toB_pos_len (r : Nat) : decide (((toB r).length : Int) > 0) = decide (r ≠ 0) := by
 by_cases h : r = 0
 ·subst h; rw [toB_zero]; rfl
 ·rw [toB_pos h, List.length_cons]
  rw [decide_eq_true (by omega), decide_eq_true h]
theorem by_loop (b : Nat) (hb : b ≠ 0) (hlb : (toB b).length ≤ 500000) : ∀ (i r t : Nat), i ≤ 64 → r < b * 2 ^ i → (toB r).length ≤ 1000000 → 2 ^ i * t < 2 ^ 64 →
  Ev (fun k => dec_big_by.l0 k (toB r) (toB b) ((2 ^ i * t : Nat) : Int) ((i : Int) - 1)) (((2 ^ i * t + r / b : Nat) : Int), decide (r % b ≠ 0))
 | 0, r, t, _, hr, _, _ => by
  rw [Nat.pow_zero, Nat.mul_one] at hr
  refine Ev.step (f := fun _ => some (((2 ^ 0 * t + r / b : Nat) : Int), decide (r % b ≠ 0))) (fun k => ?_) (Ev.now _)
  rw [dec_big_by.l0, if_neg (by omega), toB_pos_len, Nat.div_eq_of_lt hr, Nat.mod_eq_of_lt hr, Nat.add_zero]
 | i + 1, r, t, hi, hr, hlr, ht => by
  obtain ⟨lr, hlr1, hlr2, hlr3⟩ := len_ev r (by omega)
  obtain ⟨lb, hlb1, hlb2, hlb3⟩ := len_ev b (by omega)
  obtain ⟨g1, g2, g3⟩ := hlb2.2 hb
  have hk : ((i + 1 : Nat) : Int) - 1 = (i : Int) := by omega
  have hp2 : 2 ^ (i + 1) * t = 2 ^ i * (2 * t) := by rw [Nat.pow_succ, Nat.mul_assoc]
  have hpow : b * 2 ^ (i + 1) = b * 2 ^ i + b * 2 ^ i := by rw [Nat.pow_succ, ← Nat.mul_assoc, Nat.mul_two]
  by_cases hskip : lr < lb + i
  ·have hlt : r < b * 2 ^ i := by
    have h1 := lenIs_lt hlr2
    have h2 : 2 ^ lr ≤ 2 ^ (lb - 1 + i) := Nat.pow_le_pow_right (by decide) (by omega)
    rw [Nat.pow_add] at h2
    have h3 : 2 ^ (lb - 1) * 2 ^ i ≤ b * 2 ^ i := Nat.mul_le_mul_right _ g2
    omega
   have ih := by_loop b hb hlb i r (2 * t) (by omega) hlt hlr (by rw [← hp2]; exact ht)
   rw [← hp2] at ih
   refine Ev.step (fun k => ?_) ih
   rw [hk, dec_big_by.l0, if_pos (by omega), hlr1, Option.bind_some, hlb1, Option.bind_some, wrapB _ (by omega) (by omega), if_pos (by omega), wrapB _ (by omega) (by omega)]
  ·have hup := up_ev b i (.inl hb) (by omega)
   have hlu : (toB (b * 2 ^ i)).length ≤ 1000003 := by
    have h1 : b < 4294967296 ^ (toB b).length := by
     have := val_lt (parts_toB b)
     rwa [val_toB] at this
    have h2 : (toB (b * 2 ^ i)).length ≤ (toB b).length + 2 := by
     refine len_toB _ _ ?_
     rw [Nat.pow_add, base_pow 2]
     refine Nat.mul_lt_mul_of_lt_of_le h1 (Nat.pow_le_pow_right (by decide) (by omega)) (Nat.two_pow_pos _)
    omega
   obtain ⟨c, hc, c1, c2⟩ := cmp_ev r (b * 2 ^ i) (by omega) (by omega)
   by_cases hge : b * 2 ^ i ≤ r
   ·have hcge : c ≥ 0 := by omega
    have hm := minus_ev r (b * 2 ^ i) hge (by omega)
    have hr' : r - b * 2 ^ i < b * 2 ^ i := by omega
    have hor : 2 ^ (i + 1) * t + 2 ^ i = 2 ^ i * (2 * t + 1) := by rw [hp2, Nat.mul_succ]
    have hsum : 2 ^ i * (2 * t + 1) < 2 ^ 64 := by
     obtain ⟨j, hj⟩ : ∃ j, 64 = (i + 1) + j := ⟨64 - (i + 1), by omega⟩
     have e64 : (2 : Nat) ^ 64 = 2 ^ (i + 1) * 2 ^ j := by rw [← Nat.pow_add, ← hj]
     have ht2 : t < 2 ^ j := by
      rw [e64] at ht
      exact Nat.lt_of_mul_lt_mul_left ht
     have h5 : 2 ^ (i + 1) * (t + 1) ≤ 2 ^ (i + 1) * 2 ^ j := Nat.mul_le_mul_left _ ht2
     rw [Nat.mul_succ, ← e64] at h5
     have h6 : 2 ^ i < 2 ^ (i + 1) := Nat.pow_lt_pow_right (by decide) (by omega)
     rw [← hor]
     omega
    have ih := by_loop b hb hlb i (r - b * 2 ^ i) (2 * t + 1) (by omega) hr' (Nat.le_trans (len_mono (Nat.sub_le ..)) hlr) hsum
    have hdiv : r / b = 2 ^ i + (r - b * 2 ^ i) / b := by
     have : r = (r - b * 2 ^ i) + b * 2 ^ i := by omega
     have h7 := Nat.add_mul_div_left (r - b * 2 ^ i) (2 ^ i) (Nat.pos_of_ne_zero hb)
     rw [← this] at h7
     omega
    have hmod : r % b = (r - b * 2 ^ i) % b := by
     have : r = (r - b * 2 ^ i) + b * 2 ^ i := by omega
     have h7 := Nat.add_mul_mod_self_left (r - b * 2 ^ i) b (2 ^ i)
     rw [← this] at h7
     exact h7
    have hres : 2 ^ (i + 1) * t + r / b = 2 ^ i * (2 * t + 1) + (r - b * 2 ^ i) / b := by rw [hdiv, ← hor]; omega
    rw [hres, hmod]
    have hq : Go.bits .or .u64 ((2 ^ (i + 1) * t : Nat) : Int) (shl .u64 1 (i : Int)) = ((2 ^ i * (2 * t + 1) : Nat) : Int) := by
     have h8 : (2 : Nat) ^ i < 2 ^ 64 := Nat.pow_lt_pow_right (by decide) (by omega)
     have h9 := shl_u64 1 i (by omega)
     rw [Nat.one_mul, Nat.mod_eq_of_lt h8] at h9
     have h10 : shl .u64 1 (i : Int) = ((2 ^ i : Nat) : Int) := h9
     rw [h10, bits_or _ _ ht h8, or_bit, hor]
    have hb1 : Ev (fun k => (dec_big_up.f k (toB b) (i : Int)).bind fun u => (dec_big_cmp.f k (toB r) u).bind fun c => if c ≥ 0 then (dec_big_minus.f k (toB r) u).bind fun m => (if (0 : Int) ≤ (i : Int) then dec_big_by.l0 k m (toB b) ((2 ^ i * (2 * t + 1) : Nat) : Int) ((i : Int) - 1) else none) else dec_big_by.l0 k (toB r) (toB b) ((2 ^ (i + 1) * t : Nat) : Int) ((i : Int) - 1)) _ :=
     Ev.bind hup (Ev.bind hc (Ev.congr (fun k => if_pos hcge) (Ev.bind hm (Ev.congr (fun k => if_pos (by omega)) ih))))
    refine Ev.step (fun k => ?_) hb1
    rw [hk, dec_big_by.l0, if_pos (by omega), hlr1, Option.bind_some, hlb1, Option.bind_some, wrapB _ (by omega) (by omega), if_neg (by omega), wrapB _ (by omega) (by omega), hq]
   ·have hlt : r < b * 2 ^ i := by omega
    have hcl : ¬ c ≥ 0 := by omega
    have ih := by_loop b hb hlb i r (2 * t) (by omega) hlt hlr (by rw [← hp2]; exact ht)
    rw [← hp2] at ih
    have hb1 : Ev (fun k => (dec_big_up.f k (toB b) (i : Int)).bind fun u => (dec_big_cmp.f k (toB r) u).bind fun c => if c ≥ 0 then (dec_big_minus.f k (toB r) u).bind fun m => (if (0 : Int) ≤ (i : Int) then dec_big_by.l0 k m (toB b) (Go.bits .or .u64 ((2 ^ (i + 1) * t : Nat) : Int) (shl .u64 1 (i : Int))) ((i : Int) - 1) else none) else dec_big_by.l0 k (toB r) (toB b) ((2 ^ (i + 1) * t : Nat) : Int) ((i : Int) - 1)) _ :=
     Ev.bind hup (Ev.bind hc (Ev.congr (fun k => if_neg hcl) ih))
    refine Ev.step (fun k => ?_) hb1
    rw [hk, dec_big_by.l0, if_pos (by omega), hlr1, Option.bind_some, hlb1, Option.bind_some, wrapB _ (by omega) (by omega), if_neg (by omega), wrapB _ (by omega) (by omega)]
theorem by_ev (a b : Nat) (hb : b ≠ 0) (hlb : (toB b).length ≤ 500000) (hla : (toB a).length ≤ 1000000) (h : a < b * 2 ^ 64) : Ev (fun k => dec_big_by.f k (toB a) (toB b)) (((a / b : Nat) : Int), decide (a % b ≠ 0)) := by
 have g := by_loop b hb hlb 64 a 0 (Nat.le_refl _) h hla (by rw [Nat.mul_zero]; exact Nat.two_pow_pos _)
 rw [Nat.mul_zero, Nat.zero_add] at g
 refine Ev.congr (fun k => ?_) g
 rfl
end Go.Proofs.YtflcanpajgpghaaDoor.Pure
end
section
namespace Go.Proofs.YtflcanpajgpghaaDoor.Flo
open Go Ieee
def mid (w : Nat) : Nat := units w + units (w + 1)
def kE : Nat := 1075
def K : Nat := 2 ^ kE
def Above (A B w : Nat) : Prop := w = 0 ∨ mid (w - 1) * B < A * K ∨ (mid (w - 1) * B = A * K ∧ w % 2 = 0)
def Under (A B w : Nat) : Prop := A * K < mid w * B ∨ (A * K = mid w * B ∧ w % 2 = 0)
def Nearest (A B w : Nat) : Prop := Above A B w ∧ Under A B w
theorem units_succ (w : Nat) : units w < units (w + 1) := units_mono (Nat.lt_succ_self w)
theorem mid_mono {v w : Nat} (h : v < w) : mid v < mid w := by
 unfold mid
 have h1 := units_mono h
 have h2 : units (v + 1) < units (w + 1) := units_mono (by omega)
 omega
theorem nearest_le {A B A' B' v w : Nat} (hB : 0 < B) (hB' : 0 < B') (h : A * B' ≤ A' * B) (hv : Nearest A B v) (hw : Nearest A' B' w) : v ≤ w := by
 apply Nat.le_of_not_lt
 intro hlt
 have hm : mid w ≤ mid (v - 1) := by
  rcases Nat.lt_or_eq_of_le (show w ≤ v - 1 by omega) with h1 | h1
  ·exact Nat.le_of_lt (mid_mono h1)
  ·rw [h1]; exact Nat.le_refl _
 have ha : mid (v - 1) * B ≤ A * K ∧ (mid (v - 1) * B = A * K → v % 2 = 0) := by
  rcases hv.1 with h1 | h1 | h1
  ·omega
  ·exact ⟨Nat.le_of_lt h1, fun e => by omega⟩
  ·exact ⟨Nat.le_of_eq h1.1, fun _ => h1.2⟩
 have hu : A' * K ≤ mid w * B' ∧ (A' * K = mid w * B' → w % 2 = 0) := by
  rcases hw.2 with h1 | h1
  ·exact ⟨Nat.le_of_lt h1, fun e => by omega⟩
  ·exact ⟨Nat.le_of_eq h1.1, fun _ => h1.2⟩
 have c1 : mid (v - 1) * B * B' ≤ A * K * B' := Nat.mul_le_mul_right _ ha.1
 have c2 : A * K * B' ≤ A' * K * B := by
  have := Nat.mul_le_mul_right K h
  rw [Nat.mul_right_comm A K B', Nat.mul_right_comm A' K B]
  exact this
 have c3 : A' * K * B ≤ mid w * B' * B := Nat.mul_le_mul_right _ hu.1
 have c4 : mid w * B' * B ≤ mid (v - 1) * B' * B := Nat.mul_le_mul_right _ (Nat.mul_le_mul_right _ hm)
 have c5 : mid (v - 1) * B' * B = mid (v - 1) * B * B' := Nat.mul_right_comm _ _ _
 have e1 : mid (v - 1) * B * B' = A * K * B' := by omega
 have e2 : A' * K * B = mid w * B' * B := by omega
 have e3 : mid w * B' * B = mid (v - 1) * B' * B := by omega
 have f1 : mid (v - 1) * B = A * K := Nat.eq_of_mul_eq_mul_right hB' e1
 have f2 : A' * K = mid w * B' := Nat.eq_of_mul_eq_mul_right hB e2
 have f3 : mid w = mid (v - 1) := Nat.eq_of_mul_eq_mul_right hB' (Nat.eq_of_mul_eq_mul_right hB e3)
 have g1 := ha.2 f1
 have g2 := hu.2 f2
 have : w = v - 1 := by
  rcases Nat.lt_trichotomy w (v - 1) with k | k | k
  ·have := mid_mono k; omega
  ·exact k
  ·have := mid_mono k; omega
 omega
theorem nearest_one {A B A' B' v w : Nat} (hB : 0 < B) (hB' : 0 < B') (h : A * B' = A' * B) (hv : Nearest A B v) (hw : Nearest A' B' w) : v = w :=
 Nat.le_antisymm (nearest_le hB hB' (Nat.le_of_eq h) hv hw) (nearest_le hB' hB (Nat.le_of_eq h.symm) hw hv)
theorem pow_step (c j : Nat) : (c + 0) * 2 ^ (j + 1) = (c * 2) * 2 ^ j := by rw [Nat.add_zero, Nat.pow_succ, Nat.mul_comm (2 ^ j) 2, Nat.mul_assoc]
theorem units_low {r : Nat} (h : r < 4503599627370496) : units r = r := by unfold units; rw [if_pos h]
theorem units_high {r : Nat} (h : ¬ r < 4503599627370496) : units r = (4503599627370496 + r % 4503599627370496) * 2 ^ (r / 4503599627370496 - 1) := by unfold units; rw [if_neg h]
theorem units_of (j q : Nat) (h1 : q ≤ 9007199254740992) (h2 : j = 0 ∨ 4503599627370496 ≤ q) : units (j * 4503599627370496 + q) = q * 2 ^ j := by
 by_cases hq : q < 4503599627370496
 ·obtain rfl : j = 0 := by omega
  rw [units_low (by omega)]
  omega
 ·rw [units_high (by omega)]
  by_cases he : q = 9007199254740992
  ·have e1 : (j * 4503599627370496 + q) % 4503599627370496 = 0 := by omega
   have e2 : (j * 4503599627370496 + q) / 4503599627370496 - 1 = j + 1 := by omega
   have e3 : 4503599627370496 * 2 = q := by omega
   rw [e1, e2, pow_step, e3]
  ·have e1 : 4503599627370496 + (j * 4503599627370496 + q) % 4503599627370496 = q := by omega
   have e2 : (j * 4503599627370496 + q) / 4503599627370496 - 1 = j := by omega
   rw [e1, e2]
theorem nearest_of {A B j q : Nat} (hB : 0 < B) (h1 : q < 9007199254740992) (h2 : j = 0 ∨ 4503599627370496 ≤ q) (lo : 2 * q * (2 ^ j * B) ≤ A * K) (hi : A * K < 2 * (q + 1) * (2 ^ j * B)) :
  Nearest A B (j * 4503599627370496 + if (2 * q + 1) * (2 ^ j * B) < A * K ∨ ((2 * q + 1) * (2 ^ j * B) = A * K ∧ q % 2 = 1) then q + 1 else q) := by
 have u0 := units_of j q (by omega) h2
 have u1 := units_of j (q + 1) (by omega) (by omega)
 have hmid : mid (j * 4503599627370496 + q) * B = (2 * q + 1) * (2 ^ j * B) := by
  unfold mid
  rw [Nat.add_assoc, u0, u1, ← Nat.add_mul, ← Nat.mul_assoc]
  congr 2
  omega
 have hK : ∃ a, a = A * K := ⟨_, rfl⟩
 obtain ⟨a, ha⟩ := hK
 obtain ⟨c, hc⟩ : ∃ c, c = 2 ^ j * B := ⟨_, rfl⟩
 rw [← ha, ← hc] at lo hi
 rw [← hc] at hmid
 rw [← ha, ← hc]
 have q0 : units (j * 4503599627370496 + q) * B = q * c := by rw [u0, hc, Nat.mul_assoc]
 have q1 : units (j * 4503599627370496 + (q + 1)) * B = (q + 1) * c := by rw [u1, hc, Nat.mul_assoc]
 by_cases hup : (2 * q + 1) * c < a ∨ ((2 * q + 1) * c = a ∧ q % 2 = 1)
 ·rw [if_pos hup]
  have hw : j * 4503599627370496 + (q + 1) - 1 = j * 4503599627370496 + q := by omega
  refine ⟨.inr ?_, .inl ?_⟩
  ·rw [hw, hmid, ← ha]
   rcases hup with g | g
   ·exact .inl g
   ·exact .inr ⟨g.1, by omega⟩
  ·rw [← ha]
   refine Nat.lt_of_lt_of_le hi ?_
   unfold mid
   have h3 := units_succ (j * 4503599627370496 + (q + 1))
   have h4 : units (j * 4503599627370496 + (q + 1)) * B ≤ units (j * 4503599627370496 + (q + 1) + 1) * B := Nat.mul_le_mul_right _ (Nat.le_of_lt h3)
   rw [Nat.add_mul, q1]
   rw [q1] at h4
   have h5 : 2 * (q + 1) * c = (q + 1) * c + (q + 1) * c := by rw [Nat.mul_assoc, Nat.two_mul]
   omega
 ·rw [if_neg hup]
  have g1 : a ≤ (2 * q + 1) * c := Nat.le_of_not_lt fun g => hup (.inl g)
  refine ⟨?_, ?_⟩
  ·by_cases h0 : j * 4503599627370496 + q = 0
   ·exact .inl h0
   ·refine .inr (.inl ?_)
    rw [← ha]
    refine Nat.lt_of_lt_of_le ?_ lo
    unfold mid
    have h3 := units_succ (j * 4503599627370496 + q - 1)
    rw [show j * 4503599627370496 + q - 1 + 1 = j * 4503599627370496 + q by omega] at h3 ⊢
    have h4 : units (j * 4503599627370496 + q - 1) * B < units (j * 4503599627370496 + q) * B := Nat.mul_lt_mul_of_pos_right h3 hB
    rw [Nat.add_mul, q0]
    rw [q0] at h4
    have h5 : 2 * q * c = q * c + q * c := by rw [Nat.mul_assoc, Nat.two_mul]
    omega
  ·unfold Under
   rw [← ha, hmid]
   rcases Nat.lt_or_eq_of_le g1 with g | g
   ·exact .inl g
   ·refine .inr ⟨g, ?_⟩
    have : ¬ q % 2 = 1 := fun k => hup (.inr ⟨g.symm, k⟩)
    omega
end Go.Proofs.YtflcanpajgpghaaDoor.Flo
end
section
namespace Go.Proofs.YtflcanpajgpghaaDoor.Flo
open Go Ieee
theorem K_exp : ∃ E : Nat, E = 1075 ∧ K = 2 ^ E := ⟨kE, rfl, rfl⟩
theorem K_pos : 0 < K := by
 obtain ⟨E, _, h⟩ := K_exp
 rw [h]
 exact Nat.two_pow_pos E
theorem cut_nearest {A B P M Q R n j : Nat} (hB : 0 < B) (hP : 0 < P) (hM : 0 < M) (hn : 1 ≤ n) (hK : K * (M * 2 ^ n) = 2 ^ (j + 1) * P)
  (hA : A * P = Q * (B * M) + R) (hR : R < B * M) (h1 : Q / 2 ^ n < 9007199254740992) (h2 : j = 0 ∨ 4503599627370496 ≤ Q / 2 ^ n) :
  Nearest A B (j * 4503599627370496 + if 2 ^ (n - 1) < Q % 2 ^ n ∨ (Q % 2 ^ n = 2 ^ (n - 1) ∧ (0 < R ∨ Q / 2 ^ n % 2 = 1)) then Q / 2 ^ n + 1 else Q / 2 ^ n) := by
 obtain ⟨m, rfl⟩ : ∃ m, n = m + 1 := ⟨n - 1, by omega⟩
 rw [Nat.add_sub_cancel]
 have hT : 0 < 2 ^ m := Nat.two_pow_pos m
 have hS : (2 : Nat) ^ (m + 1) = 2 * 2 ^ m := by rw [Nat.pow_succ, Nat.mul_comm]
 rw [hS] at hK h1 h2 ⊢
 obtain ⟨T, hTT⟩ : ∃ T, T = 2 ^ m := ⟨_, rfl⟩
 rw [← hTT] at hK h1 h2 hT ⊢
 obtain ⟨C, hC⟩ : ∃ C, C = B * M := ⟨_, rfl⟩
 have hC0 : 0 < C := by rw [hC]; exact Nat.mul_pos hB hM
 rw [← hC] at hA hR
 have hQ := Nat.div_add_mod Q (2 * T)
 have hr : Q % (2 * T) < 2 * T := Nat.mod_lt _ (by omega)
 obtain ⟨q, hq⟩ : ∃ q, q = Q / (2 * T) := ⟨_, rfl⟩
 obtain ⟨r, hrr⟩ : ∃ r, r = Q % (2 * T) := ⟨_, rfl⟩
 rw [← hq] at h1 h2
 rw [← hq, ← hrr] at hQ ⊢
 rw [← hrr] at hr
 have key : ∀ c, c * (2 ^ j * B) * P = c * T * C * K := by
  intro c
  have e1 : 2 * (c * (2 ^ j * B) * P) = 2 * (c * T * C * K) := by
   have g1 : 2 * (c * (2 ^ j * B) * P) = c * B * (2 ^ (j + 1) * P) := by
    rw [Nat.pow_succ]
    simp only [Nat.mul_assoc, Nat.mul_comm, Nat.mul_left_comm]
   rw [g1, ← hK, hC]
   simp only [Nat.mul_assoc, Nat.mul_comm, Nat.mul_left_comm]
  omega
 have keyA : A * K * P = (Q * C + R) * K := by rw [← hA]; simp only [Nat.mul_assoc, Nat.mul_comm, Nat.mul_left_comm]
 have hlt : ∀ c, c * (2 ^ j * B) < A * K ↔ c * T * C < Q * C + R := by
  intro c
  rw [← Nat.mul_lt_mul_right hP, key, keyA, Nat.mul_lt_mul_right K_pos]
 have hgt : ∀ c, A * K < c * (2 ^ j * B) ↔ Q * C + R < c * T * C := by
  intro c
  rw [← Nat.mul_lt_mul_right hP, key, keyA, Nat.mul_lt_mul_right K_pos]
 have heq : ∀ c, c * (2 ^ j * B) = A * K ↔ c * T * C = Q * C + R := by
  intro c
  have a := hlt c
  have b := hgt c
  omega
 have hle : ∀ c, c * (2 ^ j * B) ≤ A * K ↔ c * T * C ≤ Q * C + R := by
  intro c
  have b := hgt c
  omega
 have cQ : ∀ x, x ≤ Q → x * C ≤ Q * C + R := fun x h => Nat.le_trans (Nat.mul_le_mul_right C h) (Nat.le_add_right _ _)
 have cG : ∀ x, Q < x → Q * C + R < x * C := fun x h => by
  have := Nat.mul_le_mul_right C (show Q + 1 ≤ x from h)
  rw [Nat.add_mul, Nat.one_mul] at this
  omega
 have e2 : 2 * q * T + r = Q := by rw [Nat.mul_assoc, Nat.mul_comm q T, ← Nat.mul_assoc]; exact hQ
 have e3 : 2 * (q + 1) * T = 2 * q * T + 2 * T := by rw [Nat.mul_add, Nat.add_mul]
 have e4 : (2 * q + 1) * T = 2 * q * T + T := by rw [Nat.add_mul, Nat.one_mul]
 have g2 : 2 * q * T ≤ Q := by clear hlt hgt heq hle key keyA hA hK; omega
 have g3 : Q < 2 * (q + 1) * T := by clear hlt hgt heq hle key keyA hA hK; omega
 have hmain := nearest_of (A := A) (B := B) (j := j) (q := q) hB h1 h2 ((hle _).2 (cQ _ g2)) ((hgt _).2 (cG _ g3))
 have hcond : ((2 * q + 1) * (2 ^ j * B) < A * K ∨ ((2 * q + 1) * (2 ^ j * B) = A * K ∧ q % 2 = 1)) ↔ (T < r ∨ (r = T ∧ (0 < R ∨ q % 2 = 1))) := by
  rw [hlt, heq]
  rcases Nat.lt_trichotomy T r with h | h | h
  ·have := Nat.mul_le_mul_right C (show (2 * q + 1) * T + 1 ≤ Q by omega)
   rw [Nat.add_mul _ 1, Nat.one_mul] at this
   exact ⟨fun _ => .inl h, fun _ => .inl (by omega)⟩
  ·have : (2 * q + 1) * T = Q := by omega
   rw [this]
   omega
  ·have := cG ((2 * q + 1) * T) (by omega)
   omega
 simp only [hcond] at hmain
 exact hmain
theorem zero_nearest {A B : Nat} (h : A * K < B) : Nearest A B 0 := by
 refine ⟨.inl rfl, .inl ?_⟩
 have : mid 0 = 1 := by rfl
 rw [this, Nat.one_mul]
 exact h
end Go.Proofs.YtflcanpajgpghaaDoor.Flo
end
section
namespace Go.Proofs.YtflcanpajgpghaaDoor.Flo
open Go Ieee
def INF : Nat := 9218868437227405312
def upN (D : Nat) (e : Int) : Nat := D * 10 ^ e.toNat
def loN (e : Int) : Nat := 10 ^ (-e).toNat
def ReadAs (D : Nat) (e : Int) (w : Nat) : Prop :=
 if D = 0 ∨ e < -1000 then w = 0 else if 400 < e then w = INF else ∃ v, Nearest (upN D e) (loN e) v ∧ w = min v INF
theorem loN_pos (e : Int) : 0 < loN e := Nat.pow_pos (by decide)
end Go.Proofs.YtflcanpajgpghaaDoor.Flo
end
section
namespace Go.Proofs.YtflcanpajgpghaaDoor.Pure
open Go.RowKit Go.Proofs.YtflcanpajgpghaaDoor.Pr Go.Proofs.YtflcanpajgpghaaDoorW.PrintWords Go.Proofs.YtflcanpajgpghaaDoorW.PrintLast Go.Proofs.YtflcanpajgpghaaDoorW.PrintMore Go.Proofs.YtflcanpajgpghaaDoor.Flo
def rnd (q n : Nat) : Nat := if 2 ^ (n - 1) < q % 2 ^ n ∨ (q % 2 ^ n = 2 ^ (n - 1) ∧ q / 2 ^ n % 2 = 1) then q / 2 ^ n + 1 else q / 2 ^ n
theorem mask_eq (n : Nat) (h : n ≤ 64) : IntKind.u64.wrap ((shl .u64 1 (n : Int)) - 1) = ((2 ^ n - 1 : Nat) : Int) := by
 have h9 := shl_u64 1 n h
 rw [Nat.one_mul] at h9
 have h9 : shl .u64 1 (n : Int) = ((2 ^ n % 2 ^ 64 : Nat) : Int) := h9
 rw [h9]
 by_cases he : n = 64
 ·subst he
  rw [Nat.mod_self]
  rfl
 ·have h8 : (2 : Nat) ^ n < 2 ^ 64 := Nat.pow_lt_pow_right (by decide) (by omega)
  have h7 := Nat.two_pow_pos n
  rw [Nat.mod_eq_of_lt h8, show (((2 ^ n : Nat) : Int) - 1) = ((2 ^ n - 1 : Nat) : Int) by omega, u64_in _ (by omega)]
theorem shifted_ev (q n : Nat) (hq : q < 2 ^ 64) (hn : 1 ≤ n) (hn2 : n ≤ 64) : flo_shifted.f (q : Int) false (n : Int) = some ((rnd q n : Nat) : Int) := by
 have hm : Go.bits .and .u64 (q : Int) (IntKind.u64.wrap ((shl .u64 1 (n : Int)) - 1)) = ((q % 2 ^ n : Nat) : Int) := by
  rw [mask_eq n hn2, bits_and _ _ hq (by have := Nat.pow_le_pow_right (show 0 < 2 by decide) hn2; have := Nat.two_pow_pos n; omega), Nat.and_two_pow_sub_one_eq_mod]
 have h8 : (2 : Nat) ^ (n - 1) < 2 ^ 64 := Nat.pow_lt_pow_right (by decide) (by omega)
 have hmid : shl .u64 1 (((n - 1 : Nat) : Int)) = ((2 ^ (n - 1) : Nat) : Int) := by
  have h9 := shl_u64 1 (n - 1) (by omega)
  rw [Nat.one_mul, Nat.mod_eq_of_lt h8] at h9
  exact h9
 have hsr := shr_u64 q n hn2
 have hdl : q / 2 ^ n < 2 ^ 64 := Nat.lt_of_le_of_lt (Nat.div_le_self ..) hq
 have hlow : Go.bits .and .u64 ((q / 2 ^ n : Nat) : Int) 1 = ((q / 2 ^ n % 2 : Nat) : Int) := by
  have := bits_and (q / 2 ^ n) 1 hdl (by decide)
  rw [show (1 : Nat) = 2 ^ 1 - 1 from rfl, Nat.and_two_pow_sub_one_eq_mod] at this
  exact this
 have h2 : (2 : Nat) ≤ 2 ^ n := by
  have := Nat.pow_le_pow_right (show 0 < 2 by decide) hn
  omega
 have hd2 : q / 2 ^ n + 1 < 18446744073709551616 := by
  have : q / 2 ^ n ≤ q / 2 := Nat.div_le_div_left h2 (by decide)
  omega
 have hinc : IntKind.u64.wrap (((q / 2 ^ n : Nat) : Int) + 1) = ((q / 2 ^ n + 1 : Nat) : Int) := by
  rw [show (((q / 2 ^ n : Nat) : Int) + 1) = ((q / 2 ^ n + 1 : Nat) : Int) by push_cast; rfl, u64_in _ hd2]
 unfold flo_shifted.f
 rw [if_pos (by omega), if_neg (by omega), wrapB _ (by omega) (by omega), if_pos (by omega), hm, show ((n : Int) - 1) = ((n - 1 : Nat) : Int) by omega, hmid, hsr, hlow, hinc]
 unfold rnd
 obtain ⟨x, hx⟩ : ∃ x, x = q % 2 ^ n := ⟨_, rfl⟩
 obtain ⟨y, hy⟩ : ∃ y, y = 2 ^ (n - 1) := ⟨_, rfl⟩
 obtain ⟨z, hz⟩ : ∃ z, z = q / 2 ^ n := ⟨_, rfl⟩
 rw [← hx, ← hy, ← hz]
 by_cases c1 : y < x
 ·rw [if_pos (by omega), if_pos (.inl c1)]
 ·rw [if_neg (by omega)]
  by_cases c2 : x = y
  ·rw [if_pos (by omega), if_neg (by decide)]
   by_cases c3 : z % 2 = 1
   ·rw [if_pos (by omega), if_pos (.inr ⟨c2, c3⟩)]
   ·rw [if_neg (by omega), if_neg (by omega)]
  ·rw [if_neg (by omega), if_neg (by omega)]
theorem or_frac (a b : Nat) (h : b < 4503599627370496) (ha : a < 4096) : Go.bits .or .u64 ((a * 4503599627370496 : Nat) : Int) (b : Int) = ((a * 4503599627370496 + b : Nat) : Int) := by
 rw [bits_or _ _ (by omega) (by omega)]
 have := Nat.two_pow_add_eq_or_of_lt (i := 52) h a
 rw [Nat.mul_comm a, show (4503599627370496 : Nat) = 2 ^ 52 from rfl, this]
theorem or_nought (a : Nat) (h : a < 18446744073709551616) : Go.bits .or .u64 0 (a : Int) = (a : Int) := by
 have := bits_or 0 a (by decide) h
 rw [Nat.zero_or] at this
 exact this
theorem and_frac (a : Nat) (h : a < 18446744073709551616) : Go.bits .and .u64 (a : Int) 4503599627370495 = ((a % 4503599627370496 : Nat) : Int) := by
 have := bits_and a 4503599627370495 h (by decide)
 rw [show (4503599627370495 : Nat) = 2 ^ 52 - 1 from rfl, Nat.and_two_pow_sub_one_eq_mod] at this
 exact this
theorem join_ev (e : Int) (n j R : Nat) (hj : (j : Int) = e + n + 1074) (hb : j ≤ 100000) (hn : n ≤ 100000) (hR : R ≤ 9007199254740992) (h2 : j = 0 ∨ 4503599627370496 ≤ R) :
  Ev (fun k => flo_Make.j2 k e (R : Int) 0 (n : Int)) ((min (j * 4503599627370496 + R) INF : Nat) : Int) := by
 unfold INF
 by_cases hbig : R = 9007199254740992
 ·subst hbig
  have hw : wrap64 (wrap64 (e + n) + 1) = (j : Int) - 1073 := by rw [wrapB (e + n) (by omega) (by omega), wrapB _ (by omega) (by omega)]; omega
  refine Ev.step (f := fun k => flo_Make.j3 k ((j : Int) - 1073) 4503599627370496 0) (fun k => ?_) (Ev.step (f := fun _ => some ((min (j * 4503599627370496 + 9007199254740992) 9218868437227405312 : Nat) : Int)) (fun k => ?_) (Ev.now _))
  ·rw [flo_Make.j2, if_pos (by rfl), hw]
  ·rw [flo_Make.j3, if_neg (by omega)]
   by_cases ho : (j : Int) - 1073 > 971
   ·rw [if_pos ho, Nat.min_eq_right (by omega)]
    have := or_nought 9218868437227405312 (by decide)
    exact congrArg some this
   ·rw [if_neg ho, if_neg (by omega), wrapB _ (by omega) (by omega), Nat.min_eq_left (by omega)]
    have h1 : IntKind.u64.wrap ((j : Int) - 1073 + 1075) = ((j + 2 : Nat) : Int) := by rw [show ((j : Int) - 1073 + 1075) = ((j + 2 : Nat) : Int) by omega, u64_in _ (by omega)]
    have h3 : IntKind.u64.wrap (((j + 2 : Nat) : Int) * 4503599627370496) = (((j + 2) * 4503599627370496 : Nat) : Int) := by rw [show (((j + 2 : Nat) : Int) * 4503599627370496) = (((j + 2) * 4503599627370496 : Nat) : Int) by omega, u64_in _ (by omega)]
    have h4 := and_frac 4503599627370496 (by decide)
    rw [Nat.mod_self] at h4
    have h4 : Go.bits .and .u64 4503599627370496 4503599627370495 = ((0 : Nat) : Int) := h4
    rw [h1, h3, or_nought _ (by omega), h4, or_frac _ _ (by decide) (by omega)]
    exact congrArg (fun z : Nat => some (z : Int)) (by omega)
 ·have hw : wrap64 (e + n) = (j : Int) - 1074 := by rw [wrapB (e + n) (by omega) (by omega)]; omega
  refine Ev.step (f := fun k => flo_Make.j3 k ((j : Int) - 1074) (R : Int) 0) (fun k => ?_) (Ev.step (f := fun _ => some ((min (j * 4503599627370496 + R) 9218868437227405312 : Nat) : Int)) (fun k => ?_) (Ev.now _))
  ·rw [flo_Make.j2, if_neg (by omega), hw]
  ·by_cases h0 : R = 0
   ·subst h0
    obtain rfl : j = 0 := by omega
    rw [flo_Make.j3, if_pos (by rfl)]
    rfl
   ·rw [flo_Make.j3, if_neg (by omega)]
    by_cases ho : (j : Int) - 1074 > 971
    ·rw [if_pos ho, Nat.min_eq_right (by omega)]
     have := or_nought 9218868437227405312 (by decide)
     exact congrArg some this
    ·rw [if_neg ho, Nat.min_eq_left (by omega)]
     by_cases hs : R < 4503599627370496
     ·obtain rfl : j = 0 := by omega
      rw [if_pos (by omega), or_nought _ (by omega), Nat.zero_mul, Nat.zero_add]
     ·rw [if_neg (by omega), wrapB _ (by omega) (by omega)]
      have h1 : IntKind.u64.wrap ((j : Int) - 1074 + 1075) = ((j + 1 : Nat) : Int) := by rw [show ((j : Int) - 1074 + 1075) = ((j + 1 : Nat) : Int) by omega, u64_in _ (by omega)]
      have h3 : IntKind.u64.wrap (((j + 1 : Nat) : Int) * 4503599627370496) = (((j + 1) * 4503599627370496 : Nat) : Int) := by rw [show (((j + 1 : Nat) : Int) * 4503599627370496) = (((j + 1) * 4503599627370496 : Nat) : Int) by omega, u64_in _ (by omega)]
      rw [h1, h3, or_nought _ (by omega), and_frac _ (by omega), or_frac _ _ (by omega) (by omega)]
      exact congrArg (fun z : Nat => some (z : Int)) (by omega)
theorem div_pow_lt {q L n : Nat} (h : q < 2 ^ L) (hn : L ≤ n + 53) : q / 2 ^ n < 9007199254740992 := by
 rw [Nat.div_lt_iff_lt_mul (Nat.two_pow_pos n), show (9007199254740992 : Nat) = 2 ^ 53 from rfl, ← Nat.pow_add]
 exact Nat.lt_of_lt_of_le h (Nat.pow_le_pow_right (by decide) (by omega))
theorem le_div_pow {q L n : Nat} (h : 2 ^ (L - 1) ≤ q) (hn : L = n + 53) : 4503599627370496 ≤ q / 2 ^ n := by
 rw [Nat.le_div_iff_mul_le (Nat.two_pow_pos n), show (4503599627370496 : Nat) = 2 ^ 52 from rfl, ← Nat.pow_add]
 exact Nat.le_trans (Nat.pow_le_pow_right (by decide) (by omega)) h
theorem rnd_bounds (q n : Nat) : q / 2 ^ n ≤ rnd q n ∧ rnd q n ≤ q / 2 ^ n + 1 := by
 unfold rnd
 by_cases h : 2 ^ (n - 1) < q % 2 ^ n ∨ (q % 2 ^ n = 2 ^ (n - 1) ∧ q / 2 ^ n % 2 = 1)
 ·rw [if_pos h]; omega
 ·rw [if_neg h]; omega
theorem make_ev (q : Nat) (e : Int) (n j L : Nat) (hL : L = Lib.bitLen q) (hq : 2 ^ 62 ≤ q) (hq2 : q < 2 ^ 64) (he : -8000 ≤ e) (he2 : e ≤ 8000) (hn1 : L ≤ n + 53) (hn2 : -1074 - e ≤ n) (hn3 : n + 53 = L ∨ (n : Int) = -1074 - e) (hj : (j : Int) = e + n + 1074) :
  Ev (fun k => flo_Make.f k false e (q : Int) false) ((if 64 < n then 0 else min (j * 4503599627370496 + rnd q n) INF : Nat) : Int) := by
 obtain ⟨b1, b2, b3⟩ := bitLen_spec q (by omega) hq2
 rw [← hL] at b1 b2 b3
 have hL63 : 63 ≤ L := by
  apply Nat.le_of_not_lt
  intro hlt
  have : 2 ^ L ≤ 2 ^ 62 := Nat.pow_le_pow_right (by decide) (by omega)
  omega
 have hL64 : L ≤ 64 := by
  apply Nat.le_of_not_lt
  intro hlt
  have : (2 : Nat) ^ 64 ≤ 2 ^ (L - 1) := Nat.pow_le_pow_right (by decide) (by omega)
  omega
 have hlen : bits_Len64.f (q : Int) = some (L : Int) := by
  unfold bits_Len64.f
  rw [if_pos (by omega), Int.toNat_natCast, hL]
 have hclamp : mn (mx e (-1048576)) 1048576 = e := by unfold mn mx; omega
 have hmx : mx (wrap64 ((wrap64 ((L : Int) - 52)) - 1)) (wrap64 ((-1074) - e)) = (n : Int) := by
  rw [wrapB ((L : Int) - 52) (by omega) (by omega), wrapB _ (by omega) (by omega), wrapB _ (by omega) (by omega)]
  unfold mx
  omega
 have hj1 : ∀ (t : Int) (r : Int), flo_shifted.f (q : Int) false (n : Int) = some t → Ev (fun k => flo_Make.j2 k e t 0 (n : Int)) r → Ev (fun k => flo_Make.f k false e (q : Int) false) r := by
  intro t r ht hr
  refine Ev.congr (f := fun k => flo_Make.j0 k e (q : Int) false 0) (fun k => ?_) (Ev.step (f := fun k => flo_Make.j1 k e (q : Int) false 0) (fun k => ?_) (Ev.step (fun k => ?_) hr))
  ·unfold flo_Make.f
   rw [if_neg (by decide)]
  ·rw [flo_Make.j0, if_neg (by omega), hclamp]
  ·rw [flo_Make.j1, hlen, Option.bind_some, hmx, if_pos (by omega), ht, Option.bind_some]
 by_cases h64 : 64 < n
 ·rw [if_pos h64]
  refine hj1 0 _ ?_ ?_
  ·unfold flo_shifted.f
   rw [if_pos (by omega), if_pos (by omega)]
  ·have h0 : j = 0 := by omega
   have := join_ev e n j 0 hj (by omega) (by omega) (by omega) (.inl h0)
   rw [h0] at this
   exact this
 ·rw [if_neg h64]
  refine hj1 _ _ (shifted_ev q n hq2 (by omega) (by omega)) ?_
  have h5 := div_pow_lt b3 hn1
  have h6 := rnd_bounds q n
  refine join_ev e n j (rnd q n) hj (by omega) (by omega) (by omega) ?_
  rcases hn3 with h | h
  ·have := le_div_pow b2 h.symm
   exact .inr (by omega)
  ·exact .inl (by omega)
end Go.Proofs.YtflcanpajgpghaaDoor.Pure
end
section
namespace Go.Proofs.YtflcanpajgpghaaDoor.Pure
open Go.RowKit Go.Proofs.YtflcanpajgpghaaDoor.Pr Go.Proofs.YtflcanpajgpghaaDoorW.PrintWords Go.Proofs.YtflcanpajgpghaaDoorW.PrintLast Go.Proofs.YtflcanpajgpghaaDoorW.PrintMore Go.Proofs.YtflcanpajgpghaaDoor.Flo
theorem or_one (Q : Nat) : Q ||| 1 = 2 * (Q / 2) + 1 := by
 have h := Nat.two_pow_add_eq_or_of_lt (i := 1) (b := 1) (by decide) (Q / 2)
 rw [Nat.pow_one] at h
 rcases Nat.mod_two_eq_zero_or_one Q with h2 | h2
 ·rw [h, show 2 * (Q / 2) = Q by omega]
 ·have e : Q = 2 * (Q / 2) ||| 1 := by rw [← h]; omega
  rw [h]
  have : Q ||| 1 = (2 * (Q / 2) ||| 1) ||| 1 := by rw [← e]
  rw [this, Nat.or_assoc, Nat.or_self]
def stick (Q R : Nat) : Nat := if 0 < R then Q ||| 1 else Q
theorem rnd_stick (Q R n : Nat) (hn : 2 ≤ n) : stick Q R / 2 ^ n = Q / 2 ^ n ∧ rnd (stick Q R) n = if 2 ^ (n - 1) < Q % 2 ^ n ∨ (Q % 2 ^ n = 2 ^ (n - 1) ∧ (0 < R ∨ Q / 2 ^ n % 2 = 1)) then Q / 2 ^ n + 1 else Q / 2 ^ n := by
 unfold stick
 by_cases hR : 0 < R
 ·rw [if_pos hR, or_one]
  obtain ⟨m, rfl⟩ : ∃ m, n = m + 2 := ⟨n - 2, by omega⟩
  unfold rnd
  rw [show m + 2 - 1 = m + 1 by omega]
  have e1 : (2 : Nat) ^ (m + 1) = 2 * 2 ^ m := by rw [Nat.pow_succ, Nat.mul_comm]
  have e2 : (2 : Nat) ^ (m + 2) = 4 * 2 ^ m := by rw [show m + 2 = m + 1 + 1 from rfl, Nat.pow_succ, e1]; omega
  rw [e1, e2]
  have hT := Nat.two_pow_pos m
  obtain ⟨T, hTT⟩ : ∃ T, T = 2 ^ m := ⟨_, rfl⟩
  rw [← hTT] at hT ⊢
  have hdm := Nat.div_add_mod Q (4 * T)
  have hlt := Nat.mod_lt Q (show 0 < 4 * T by omega)
  obtain ⟨z, hz⟩ : ∃ z, z = Q / (4 * T) := ⟨_, rfl⟩
  obtain ⟨r, hr⟩ : ∃ r, r = Q % (4 * T) := ⟨_, rfl⟩
  rw [← hz, ← hr] at hdm
  rw [← hr] at hlt
  have hzz : 4 * T * z = 2 * (2 * (T * z)) := by rw [show 4 * T * z = 4 * (T * z) from Nat.mul_assoc ..]; omega
  have hq : 2 * (Q / 2) + 1 = (2 * (r / 2) + 1) + 4 * T * z := by omega
  have hr2 : 2 * (r / 2) + 1 < 4 * T := by omega
  have d1 : (2 * (Q / 2) + 1) / (4 * T) = z := by rw [hq, Nat.add_mul_div_left _ _ (by omega), Nat.div_eq_of_lt hr2, Nat.zero_add]
  have d2 : (2 * (Q / 2) + 1) % (4 * T) = 2 * (r / 2) + 1 := by rw [hq, Nat.add_mul_mod_self_left, Nat.mod_eq_of_lt hr2]
  rw [d1, d2, ← hz, ← hr]
  refine ⟨rfl, ?_⟩
  by_cases c : 2 * T < 2 * (r / 2) + 1 ∨ (2 * (r / 2) + 1 = 2 * T ∧ z % 2 = 1)
  ·rw [if_pos c, if_pos (by omega)]
  ·rw [if_neg c, if_neg (by omega)]
 ·rw [if_neg hR]
  refine ⟨rfl, ?_⟩
  unfold rnd
  by_cases c : 2 ^ (n - 1) < Q % 2 ^ n ∨ (Q % 2 ^ n = 2 ^ (n - 1) ∧ Q / 2 ^ n % 2 = 1)
  ·rw [if_pos c, if_pos (by omega)]
  ·rw [if_neg c, if_neg (by omega)]
theorem stick_bounds (Q R : Nat) (h1 : 2 ^ 62 ≤ Q) (h2 : Q < 2 ^ 64) : 2 ^ 62 ≤ stick Q R ∧ stick Q R < 2 ^ 64 := by
 unfold stick
 by_cases hR : 0 < R
 ·rw [if_pos hR, or_one]; omega
 ·rw [if_neg hR]; exact ⟨h1, h2⟩
theorem word_ev {A B P M Q R : Nat} {e : Int} (hB : 0 < B) (hP : 0 < P) (hM : 0 < M) (hA : A * P = Q * (B * M) + R) (hR : R < B * M) (hQ1 : 2 ^ 62 ≤ Q) (hQ2 : Q < 2 ^ 64) (he : -8000 ≤ e) (he2 : e ≤ 8000)
  (hK : ∀ n j : Nat, (j : Int) = e + n + 1074 → K * (M * 2 ^ n) = 2 ^ (j + 1) * P) :
  ∃ v, Nearest A B v ∧ Ev (fun k => flo_Make.f k false e ((stick Q R : Nat) : Int) false) ((min v INF : Nat) : Int) := by
 obtain ⟨s1, s2⟩ := stick_bounds Q R hQ1 hQ2
 obtain ⟨L, hL⟩ : ∃ L, L = Lib.bitLen (stick Q R) := ⟨_, rfl⟩
 obtain ⟨b1, b2, b3⟩ := bitLen_spec (stick Q R) (by omega) s2
 rw [← hL] at b1 b2 b3
 have hL63 : 63 ≤ L := by
  apply Nat.le_of_not_lt
  intro hlt
  have : 2 ^ L ≤ 2 ^ 62 := Nat.pow_le_pow_right (by decide) (by omega)
  omega
 have hL64 : L ≤ 64 := by
  apply Nat.le_of_not_lt
  intro hlt
  have : (2 : Nat) ^ 64 ≤ 2 ^ (L - 1) := Nat.pow_le_pow_right (by decide) (by omega)
  omega
 obtain ⟨n, hn1, hn2, hn3⟩ : ∃ n : Nat, L ≤ n + 53 ∧ -1074 - e ≤ n ∧ (n + 53 = L ∨ (n : Int) = -1074 - e) := by
  by_cases h : -1074 - e ≤ ((L - 53 : Nat) : Int)
  ·exact ⟨L - 53, by omega, h, .inl (by omega)⟩
  ·exact ⟨(-1074 - e).toNat, by omega, by omega, .inr (by omega)⟩
 obtain ⟨j, hj⟩ : ∃ j : Nat, (j : Int) = e + n + 1074 := ⟨(e + n + 1074).toNat, by omega⟩
 have hmk := make_ev (stick Q R) e n j L hL s1 s2 he he2 hn1 hn2 hn3 hj
 have hKK := hK n j hj
 obtain ⟨t1, t2⟩ := rnd_stick Q R n (by omega)
 by_cases h64 : 64 < n
 ·rw [if_pos h64] at hmk
  refine ⟨0, zero_nearest ?_, ?_⟩
  ·have h0 : j = 0 := by omega
   rw [h0, Nat.zero_add, Nat.pow_one] at hKK
   have c1 : A * P < 2 ^ 64 * (B * M) := by
    have := Nat.mul_le_mul_right (B * M) (show Q + 1 ≤ 2 ^ 64 from hQ2)
    rw [Nat.add_mul, Nat.one_mul] at this
    omega
   have c2 : A * P * (K * 2 ^ n) < 2 ^ 64 * (B * M) * (K * 2 ^ n) := Nat.mul_lt_mul_of_pos_right c1 (Nat.mul_pos K_pos (Nat.two_pow_pos n))
   have c3 : 2 ^ 64 * (B * M) * (K * 2 ^ n) = 2 ^ 65 * B * P := by
    have : 2 ^ 64 * (B * M) * (K * 2 ^ n) = 2 ^ 64 * B * (K * (M * 2 ^ n)) := by simp only [Nat.mul_assoc, Nat.mul_comm, Nat.mul_left_comm]
    rw [this, hKK, show (2 : Nat) ^ 65 = 2 ^ 64 * 2 from rfl]
    simp only [Nat.mul_assoc, Nat.mul_comm, Nat.mul_left_comm]
   have c4 : A * P * (K * 2 ^ n) = A * K * 2 ^ n * P := by simp only [Nat.mul_assoc, Nat.mul_comm, Nat.mul_left_comm]
   rw [c3, c4] at c2
   have c5 := Nat.lt_of_mul_lt_mul_right c2
   have c6 : A * K * 2 ^ 65 ≤ A * K * 2 ^ n := Nat.mul_le_mul_left _ (Nat.pow_le_pow_right (by decide) h64)
   have c7 : A * K * 2 ^ 65 < 2 ^ 65 * B := Nat.lt_of_le_of_lt c6 c5
   rw [Nat.mul_comm _ (2 ^ 65)] at c7
   exact Nat.lt_of_mul_lt_mul_left c7
  ·exact hmk
 ·rw [if_neg h64, t2] at hmk
  have h5 := div_pow_lt b3 hn1
  rw [t1] at h5
  refine ⟨_, cut_nearest hB hP hM (by omega) hKK hA hR h5 ?_, hmk⟩
  rcases hn3 with h | h
  ·have := le_div_pow b2 h.symm
   rw [t1] at this
   exact .inr this
  ·exact .inl (by omega)
end Go.Proofs.YtflcanpajgpghaaDoor.Pure
end
section
namespace Go.Proofs.YtflcanpajgpghaaDoor.Pure
open Go.RowKit Go.Proofs.YtflcanpajgpghaaDoor.Pr Go.Proofs.YtflcanpajgpghaaDoorW.PrintWords Go.Proofs.YtflcanpajgpghaaDoorW.PrintLast Go.Proofs.YtflcanpajgpghaaDoorW.PrintMore Go.Proofs.YtflcanpajgpghaaDoor.Flo
theorem len_of_lt {x m : Nat} (h : x < 2 ^ m) : (toB x).length ≤ m / 32 + 1 := by
 refine len_toB _ _ (Nat.lt_of_lt_of_le h ?_)
 rw [base_pow]
 exact Nat.pow_le_pow_right (by decide) (by omega)
theorem ten_lt (n : Nat) : 10 ^ n < 2 ^ (4 * n + 1) := by
 have h1 : 10 ^ n ≤ 16 ^ n := Nat.pow_le_pow_left (by decide) n
 have h2 : (16 : Nat) ^ n = 2 ^ (4 * n) := by rw [Nat.pow_mul]
 have h3 : (2 : Nat) ^ (4 * n) < 2 ^ (4 * n + 1) := Nat.pow_lt_pow_right (by decide) (by omega)
 omega
theorem tens_ev (x n m : Nat) (hn : n ≤ 100000) (hm : m ≤ 1000000) (h : x * 10 ^ n < 2 ^ m) : Ev (fun k => dec_big_tens.f k (toB x) (n : Int)) (toB (x * 10 ^ n)) := by
 refine tens0 (m / 32 + 1) (by omega) n x (by omega) (Nat.lt_of_lt_of_le h ?_)
 rw [base_pow]
 exact Nat.pow_le_pow_right (by decide) (by omega)
theorem quot_bounds {A B la lb u v : Nat} (hA : A ≠ 0) (hB : B ≠ 0) (ha : LenIs A la) (hb : LenIs B lb) (h : la + u = 63 + lb + v) : 2 ^ 62 ≤ A * 2 ^ u / (B * 2 ^ v) ∧ A * 2 ^ u < B * 2 ^ v * 2 ^ 64 := by
 obtain ⟨a1, a2, a3⟩ := ha.2 hA
 obtain ⟨b1, b2, b3⟩ := hb.2 hB
 have hpos : 0 < B * 2 ^ v := Nat.mul_pos (Nat.pos_of_ne_zero hB) (Nat.two_pow_pos v)
 constructor
 ·rw [Nat.le_div_iff_mul_le hpos]
  have h1 : 2 ^ 62 * (B * 2 ^ v) ≤ 2 ^ 62 * (2 ^ lb * 2 ^ v) := Nat.mul_le_mul_left _ (Nat.mul_le_mul_right _ (Nat.le_of_lt b3))
  have h2 : 2 ^ 62 * (2 ^ lb * 2 ^ v) = 2 ^ (la - 1) * 2 ^ u := by
   rw [← Nat.pow_add, ← Nat.pow_add, ← Nat.pow_add]
   congr 1
   omega
  have h3 : 2 ^ (la - 1) * 2 ^ u ≤ A * 2 ^ u := Nat.mul_le_mul_right _ a2
  omega
 ·have h1 : A * 2 ^ u < 2 ^ la * 2 ^ u := Nat.mul_lt_mul_of_pos_right a3 (Nat.two_pow_pos u)
  have h2 : 2 ^ la * 2 ^ u = 2 ^ (lb - 1) * 2 ^ v * 2 ^ 64 := by
   rw [← Nat.pow_add, ← Nat.pow_add, ← Nat.pow_add]
   congr 1
   omega
  have h3 : 2 ^ (lb - 1) * 2 ^ v * 2 ^ 64 ≤ B * 2 ^ v * 2 ^ 64 := Nat.mul_le_mul_right _ (Nat.mul_le_mul_right _ b2)
  omega
theorem K_split (e : Int) (u v n j : Nat) (hj : (j : Int) = e + n + 1074) (he : e = (v : Int) - u) : K * (2 ^ v * 2 ^ n) = 2 ^ (j + 1) * 2 ^ u := by
 obtain ⟨E, hE, hKE⟩ := K_exp
 rw [hKE, ← Nat.pow_add, ← Nat.pow_add, ← Nat.pow_add, show E + (v + n) = j + 1 + u by omega]
theorem up_len {x m u : Nat} (h : x < 2 ^ m) : (toB (x * 2 ^ u)).length ≤ (m + u) / 32 + 1 := by
 refine len_of_lt ?_
 rw [Nat.pow_add]
 exact Nat.mul_lt_mul_of_pos_right h (Nat.two_pow_pos u)
theorem quot_ev (A B m : Nat) (hA : A ≠ 0) (hB : B ≠ 0) (hm : m ≤ 6000) (hAm : A < 2 ^ m) (hBm : B < 2 ^ m) :
  ∃ v, Nearest A B v ∧ Ev (fun k => dec_nearest.j2 k (toB A) (toB B)) ((min v INF : Nat) : Int) := by
 have lA := len_of_lt hAm
 have lB := len_of_lt hBm
 obtain ⟨la, hla, hla2, hla3⟩ := len_ev A (by omega)
 obtain ⟨lb, hlb, hlb2, hlb3⟩ := len_ev B (by omega)
 have hla' : la ≤ m := by
  apply Nat.le_of_not_lt
  intro hlt
  have h1 := (hla2.2 hA).2.1
  have : 2 ^ m ≤ 2 ^ (la - 1) := Nat.pow_le_pow_right (by decide) (by omega)
  omega
 have hlb' : lb ≤ m := by
  apply Nat.le_of_not_lt
  intro hlt
  have h1 := (hlb2.2 hB).2.1
  have : 2 ^ m ≤ 2 ^ (lb - 1) := Nat.pow_le_pow_right (by decide) (by omega)
  omega
 obtain ⟨u, v, hu0, huv, hupv⟩ : ∃ u v : Nat, (u = 0 ∨ v = 0) ∧ la + u = 63 + lb + v ∧ (63 - ((la : Int) - lb)) = (u : Int) - v := by
  by_cases h : la ≤ 63 + lb
  ·exact ⟨63 + lb - la, 0, .inr rfl, by omega, by omega⟩
  ·exact ⟨0, la - 63 - lb, .inl rfl, by omega, by omega⟩
 obtain ⟨q1, q2⟩ := quot_bounds hA hB hla2 hlb2 huv
 have hpos : 0 < B * 2 ^ v := Nat.mul_pos (Nat.pos_of_ne_zero hB) (Nat.two_pow_pos v)
 have hq3 : A * 2 ^ u / (B * 2 ^ v) < 2 ^ 64 := by
  rw [Nat.div_lt_iff_lt_mul hpos, Nat.mul_comm (2 ^ 64)]
  exact q2
 obtain ⟨w, hw, hwe⟩ := word_ev (A := A) (B := B) (P := 2 ^ u) (M := 2 ^ v) (Q := A * 2 ^ u / (B * 2 ^ v)) (R := A * 2 ^ u % (B * 2 ^ v)) (e := (v : Int) - u) (Nat.pos_of_ne_zero hB) (Nat.two_pow_pos u) (Nat.two_pow_pos v)
  (by rw [Nat.mul_comm (A * 2 ^ u / (B * 2 ^ v))]; exact (Nat.div_add_mod ..).symm) (Nat.mod_lt _ hpos) q1 hq3 (by omega) (by omega) (fun n j hj => K_split _ u v n j hj rfl)
 refine ⟨w, hw, ?_⟩
 have lA2 : (toB (A * 2 ^ u)).length ≤ 1000000 := by have := up_len (u := u) hAm; omega
 have lB2 : (toB (B * 2 ^ v)).length ≤ 500000 := by have := up_len (u := v) hBm; omega
 have hby := by_ev (A * 2 ^ u) (B * 2 ^ v) (by omega) lB2 lA2 q2
 have hj3 : Ev (fun k => dec_nearest.j3 k (toB (A * 2 ^ u)) (toB (B * 2 ^ v)) ((u : Int) - v)) ((min w INF : Nat) : Int) := by
  have hwr : wrap64 (-((u : Int) - v)) = (v : Int) - u := by rw [wrapB _ (by omega) (by omega)]; omega
  refine Ev.step (fun k => ?_) (Ev.bind hby (f := fun k bt => if bt.2 = true then ((flo_Make.f k false ((v : Int) - u) (Go.bits .or .u64 bt.1 1) false).bind fun t => some t) else ((flo_Make.f k false ((v : Int) - u) bt.1 false).bind fun t => some t)) ?_)
  ·rw [dec_nearest.j3, hwr]
  ·by_cases hR : A * 2 ^ u % (B * 2 ^ v) ≠ 0
   ·have hor : Go.bits .or .u64 ((A * 2 ^ u / (B * 2 ^ v) : Nat) : Int) 1 = ((stick (A * 2 ^ u / (B * 2 ^ v)) (A * 2 ^ u % (B * 2 ^ v)) : Nat) : Int) := by
     unfold stick
     rw [if_pos (Nat.pos_of_ne_zero hR)]
     exact bits_or _ 1 hq3 (by decide)
    refine Ev.congr (fun k => ?_) (Ev.bind hwe (Ev.now _))
    simp only [decide_eq_true hR, if_true]
    rw [hor]
   ·have hor : ((A * 2 ^ u / (B * 2 ^ v) : Nat) : Int) = ((stick (A * 2 ^ u / (B * 2 ^ v)) (A * 2 ^ u % (B * 2 ^ v)) : Nat) : Int) := by
     unfold stick
     rw [if_neg (by omega)]
    refine Ev.congr (fun k => ?_) (Ev.bind hwe (Ev.now _))
    simp only [decide_eq_false hR]
    rw [hor]
    rfl
 have hup : wrap64 (63 - wrap64 ((la : Int) - (lb : Int))) = (u : Int) - v := by rw [wrapB ((la : Int) - lb) (by omega) (by omega), wrapB _ (by omega) (by omega)]; exact hupv
 by_cases hvu : (u : Int) - v ≥ 0
 ·have hv0 : v = 0 := by omega
  subst hv0
  have huu := up_ev A u (.inl hA) (by omega)
  rw [Nat.pow_zero, Nat.mul_one] at hj3
  refine Ev.step (fun k => ?_) (Ev.bind huu (f := fun k t => dec_nearest.j3 k t (toB B) ((u : Int) - (0 : Nat))) hj3)
  rw [dec_nearest.j2, hla, Option.bind_some, hlb, Option.bind_some, hup, if_pos hvu, show ((u : Int) - (0 : Nat)) = (u : Int) by omega]
 ·have hu00 : u = 0 := by omega
  subst hu00
  have huu := up_ev B v (.inl hB) (by omega)
  rw [Nat.pow_zero, Nat.mul_one] at hj3
  refine Ev.step (fun k => ?_) (Ev.bind huu (f := fun k t => dec_nearest.j3 k (toB A) t (((0 : Nat) : Int) - v)) hj3)
  rw [dec_nearest.j2, hla, Option.bind_some, hlb, Option.bind_some, hup, if_neg hvu, wrapB _ (by omega) (by omega), show (-(((0 : Nat) : Int) - (v : Int))) = (v : Int) by omega]
theorem far_ev : Ev (fun k => flo_Make.f k false 9999 1 false) ((INF : Nat) : Int) := Ev.of (k := 8) (fun k => flo_Make.mono _ _ _ _ _) (by kernel_rfl)
theorem after_ev (D m : Nat) (e : Int) (hm : m ≤ 1700) (hD : D < 2 ^ m) (he : -100000 ≤ e) (he2 : e ≤ 100000) (s : ByteArray) : ∃ w, ReadAs D e w ∧ Ev (fun k => if ((toB D).length : Int) = 0 then dec_nearest.j1 k (toB D) true s e else dec_nearest.j1 k (toB D) (decide (e < (-1000))) s e) ((w : Nat) : Int) := by
 unfold ReadAs
 by_cases h1 : D = 0 ∨ e < -1000
 ·refine ⟨0, by rw [if_pos h1], ?_⟩
  have hz : Ev (fun k => dec_nearest.j1 k (toB D) true s e) ((0 : Nat) : Int) := Ev.step (f := fun _ => some 0) (fun k => by rw [dec_nearest.j1, if_pos rfl]) (Ev.now _)
  by_cases h0 : ((toB D).length : Int) = 0
  ·simp only [if_pos h0]; exact hz
  ·have hD0 : D ≠ 0 := by intro h; rw [h, toB_zero] at h0; exact h0 rfl
   have he3 : e < -1000 := h1.resolve_left hD0
   simp only [if_neg h0, decide_eq_true he3]
   exact hz
 ·have hD0 : D ≠ 0 := fun h => h1 (.inl h)
  have he3 : ¬ e < -1000 := fun h => h1 (.inr h)
  have hlen : ¬ ((toB D).length : Int) = 0 := by rw [toB_pos hD0, List.length_cons]; omega
  by_cases h2 : 400 < e
  ·refine ⟨INF, by rw [if_neg h1, if_pos h2], ?_⟩
   simp only [if_neg hlen, decide_eq_false he3]
   refine Ev.step (fun k => ?_) (Ev.bind far_ev (Ev.now _))
   rw [dec_nearest.j1, if_neg (by decide), if_pos h2]
  ·have hone : toB 1 = [1] := by rw [toB_pos (by decide)]; show (1 : Int) :: toB 0 = [1]; rw [toB_zero]
   by_cases h3 : e ≥ 0
   ·obtain ⟨n, rfl⟩ := Int.eq_ofNat_of_zero_le h3
    have hb : D * 10 ^ n < 2 ^ (m + (4 * n + 1)) := by
     rw [Nat.pow_add]
     exact Nat.mul_lt_mul'' hD (ten_lt n)
    have ht := tens_ev D n (m + (4 * n + 1)) (by omega) (by omega) hb
    obtain ⟨v, hv, hve⟩ := quot_ev (D * 10 ^ n) 1 (m + (4 * n + 1)) (Nat.mul_ne_zero hD0 (Nat.ne_of_gt (Nat.pow_pos (by decide)))) (by decide) (by omega) hb (Nat.one_lt_two_pow (by omega))
    refine ⟨min v INF, ?_, ?_⟩
    ·rw [if_neg h1, if_neg h2]
     refine ⟨v, ?_, rfl⟩
     unfold upN loN
     rw [show (-(n : Int)).toNat = 0 by omega, Nat.pow_zero, Int.toNat_natCast]
     exact hv
    ·simp only [if_neg hlen, decide_eq_false he3]
     rw [hone] at hve
     refine Ev.step (fun k => ?_) (Ev.bind ht (f := fun k t => dec_nearest.j2 k t [1]) hve)
     rw [dec_nearest.j1, if_neg (by decide), if_neg h2, Option.bind_some, if_pos h3]
   ·obtain ⟨n, hn⟩ := Int.eq_ofNat_of_zero_le (show 0 ≤ -e by omega)
    have hb : 1 * 10 ^ n < 2 ^ (4 * n + 1) := by rw [Nat.one_mul]; exact ten_lt n
    have ht := tens_ev 1 n (4 * n + 1) (by omega) (by omega) hb
    rw [Nat.one_mul] at ht hb
    have hDm : D < 2 ^ (m + (4 * n + 1)) := Nat.lt_of_lt_of_le hD (Nat.pow_le_pow_right (by decide) (by omega))
    have hBm : 10 ^ n < 2 ^ (m + (4 * n + 1)) := Nat.lt_of_lt_of_le hb (Nat.pow_le_pow_right (by decide) (by omega))
    obtain ⟨v, hv, hve⟩ := quot_ev D (10 ^ n) (m + (4 * n + 1)) hD0 (Nat.ne_of_gt (Nat.pow_pos (by decide))) (by omega) hDm hBm
    refine ⟨min v INF, ?_, ?_⟩
    ·rw [if_neg h1, if_neg h2]
     refine ⟨v, ?_, rfl⟩
     unfold upN loN
     rw [show e.toNat = 0 by omega, show (-e).toNat = n by omega, Nat.pow_zero, Nat.mul_one]
     exact hv
    ·simp only [if_neg hlen, decide_eq_false he3]
     rw [hone] at ht
     refine Ev.step (fun k => ?_) (Ev.bind ht (f := fun k t => dec_nearest.j2 k (toB D) t) hve)
     rw [dec_nearest.j1, if_neg (by decide), if_neg h2, Option.bind_some, if_neg h3, wrapB _ (by omega) (by omega), hn]
def dval (s : ByteArray) : Nat → Nat
 | 0 => 0
 | i + 1 => dval s i * 10 + (bt s (i : Int) - 48).toNat
def AllDigits (s : ByteArray) : Prop := ∀ i : Nat, i < s.size → 48 ≤ bt s (i : Int) ∧ bt s (i : Int) ≤ 57
theorem dval_lt (s : ByteArray) (h : AllDigits s) : ∀ i, i ≤ s.size → dval s i < 10 ^ i
 | 0, _ => by simp [dval]
 | i + 1, hi => by
  have ih := dval_lt s h i (by omega)
  have := h i (by omega)
  rw [dval, Nat.pow_succ]
  omega
theorem digits_loop (s : ByteArray) (e : Int) (hs : AllDigits s) (hsz : s.size ≤ 400) (w : Int) (hend : Ev (fun k => if ((toB (dval s s.size)).length : Int) = 0 then dec_nearest.j1 k (toB (dval s s.size)) true s e else dec_nearest.j1 k (toB (dval s s.size)) (decide (e < (-1000))) s e) w) : ∀ d i : Nat, i + d = s.size →
  Ev (fun k => dec_nearest.l0 k (toB (dval s i)) (s.size : Int) (i : Int) s e) w
 | 0, i, hi => by
  obtain rfl : i = s.size := by omega
  refine Ev.step (fun k => ?_) hend
  rw [dec_nearest.l0, if_neg (by omega)]
 | d + 1, i, hi => by
  have ih := digits_loop s e hs hsz w hend d (i + 1) (by omega)
  have hb := hs i (by omega)
  have hl : (toB (dval s i)).length ≤ 1048576 := by
   have := len_of_lt (Nat.lt_trans (dval_lt s hs i (by omega)) (ten_lt i))
   omega
  have ht := times_ev (dval s i) 10 (bt s (i : Int) - 48).toNat (by decide) (by omega) hl
  have hbt : (bt s (i : Int) - 48) % 256 = (((bt s (i : Int) - 48).toNat : Nat) : Int) := by omega
  refine Ev.step (fun k => ?_) (Ev.bind ht (f := fun k t => dec_nearest.l0 k t (s.size : Int) ((i + 1 : Nat) : Int) s e) ih)
  rw [dec_nearest.l0, if_pos (by omega), if_pos (by omega), if_pos (by omega), hbt, wrapB _ (by omega) (by omega)]
  rfl
theorem nearest_ev (s : ByteArray) (e : Int) (hs : AllDigits s) (hsz : s.size ≤ 400) (he : -100000 ≤ e) (he2 : e ≤ 100000) : ∃ w, ReadAs (dval s s.size) e w ∧ Ev (fun k => dec_nearest.f k s e) ((w : Nat) : Int) := by
 have hbig : dval s s.size < 2 ^ (4 * s.size + 1) := Nat.lt_trans (dval_lt s hs s.size (Nat.le_refl _)) (ten_lt s.size)
 obtain ⟨w, hw, hwe⟩ := after_ev (dval s s.size) (4 * s.size + 1) e (by omega) hbig he he2 s
 refine ⟨w, hw, ?_⟩
 have h := digits_loop s e hs hsz _ hwe s.size 0 (by omega)
 refine Ev.congr (fun k => ?_) h
 unfold dec_nearest.f dval
 rw [toB_zero]
 rfl
end Go.Proofs.YtflcanpajgpghaaDoor.Pure
end
section
namespace Go.Proofs.YtflcanpajgpghaaDoor.Pure
open Go.RowKit Go.Proofs.YtflcanpajgpghaaDoor.Pr Go.Proofs.YtflcanpajgpghaaDoorW.PrintWords Go.Proofs.YtflcanpajgpghaaDoorW.PrintLast Go.Proofs.YtflcanpajgpghaaDoorW.PrintMore Go.Proofs.YtflcanpajgpghaaDoor.Flo
abbrev bytes (s : ByteArray) : List UInt8 := s.data.toList
theorem bytes_length (s : ByteArray) : (bytes s).length = s.size := Array.length_toList
theorem ba_ext {a b : ByteArray} (h : bytes a = bytes b) : a = b := by
 cases a; cases b
 congr 1
 exact Array.toList_inj.1 h
theorem toList_bytes (s : ByteArray) : s.toList = bytes s := Go.ByteArray.toList_eq s
theorem bytes_extract (s : ByteArray) (a b : Nat) : bytes (s.extract a b) = ((bytes s).take b).drop a := by
 unfold bytes
 rw [ByteArray.data_extract, Array.toList_extract, List.extract_eq_take_drop, List.drop_take]
theorem bytes_append (a b : ByteArray) : bytes (a ++ b) = bytes a ++ bytes b := by
 unfold bytes
 rw [ByteArray.data_append, Array.toList_append]
theorem bt_get (s : ByteArray) (k : Nat) : bt s (k : Int) = (((bytes s)[k]?).map fun b => (b.toNat : Int)).getD 0 := by
 unfold bt
 rw [Int.toNat_natCast]
 by_cases h : k < s.size
 ·rw [dif_pos h]
  unfold bytes
  rw [List.getElem?_eq_getElem (by rw [bytes_length]; exact h)]
  rfl
 ·rw [dif_neg h, List.getElem?_eq_none (by rw [bytes_length]; omega)]
  rfl
theorem bt_app (a b : ByteArray) (k : Nat) : bt (a ++ b) (k : Int) = if k < a.size then bt a (k : Int) else bt b ((k - a.size : Nat) : Int) := by
 rw [bt_get, bytes_append]
 by_cases h : k < a.size
 ·rw [if_pos h, List.getElem?_append_left (by rw [bytes_length]; exact h), bt_get]
 ·rw [if_neg h, List.getElem?_append_right (by rw [bytes_length]; omega), bytes_length, bt_get]
def suf (s : ByteArray) (a : Nat) : ByteArray := s.extract a s.size
theorem suf_size (s : ByteArray) (a : Nat) : (suf s a).size = s.size - a := by
 have := bytes_length (suf s a)
 unfold suf at this ⊢
 rw [bytes_extract, List.length_drop, List.length_take, bytes_length, Nat.min_self] at this
 exact this.symm
theorem bytes_suf (s : ByteArray) (a : Nat) : bytes (suf s a) = (bytes s).drop a := by
 unfold suf
 rw [bytes_extract, List.take_of_length_le (by rw [bytes_length]; exact Nat.le_refl _)]
theorem suf_suf (s : ByteArray) (a b : Nat) : (suf s a).extract b (suf s a).size = suf s (a + b) := by
 refine ba_ext ?_
 rw [show (suf s a).extract b (suf s a).size = suf (suf s a) b from rfl, bytes_suf, bytes_suf, bytes_suf, List.drop_drop]
theorem suf_zero (s : ByteArray) : suf s 0 = s := ba_ext (by rw [bytes_suf, List.drop_zero])
theorem suf_mid (s : ByteArray) (a b c : Nat) : (suf s a).extract b c = s.extract (a + b) (a + c) := by
 refine ba_ext ?_
 rw [bytes_extract, bytes_suf, bytes_extract, List.take_drop, List.drop_drop]
theorem bt_suf (s : ByteArray) (a i : Nat) : bt (suf s a) (i : Int) = bt s ((a + i : Nat) : Int) := by
 rw [bt_get, bytes_suf, List.getElem?_drop, bt_get]
theorem ext_size (s : ByteArray) (a b : Nat) (h : b ≤ s.size) : (s.extract a b).size = b - a := by
 have := bytes_length (s.extract a b)
 rw [bytes_extract, List.length_drop, List.length_take, bytes_length, Nat.min_eq_left h] at this
 exact this.symm
theorem bt_ext (s : ByteArray) (a b i : Nat) (h : a + i < b) : bt (s.extract a b) (i : Int) = bt s ((a + i : Nat) : Int) := by
 rw [bt_get, bytes_extract, List.getElem?_drop, List.getElem?_take_of_lt h, bt_get]
theorem nil_iff (s : ByteArray) : s.toList = ([] : List UInt8) ↔ s.size = 0 := by
 rw [toList_bytes]
 constructor
 ·intro h; rw [← bytes_length, h]; rfl
 ·intro h; exact List.eq_nil_of_length_eq_zero (by rw [bytes_length]; exact h)
def Dg (s : ByteArray) (i : Nat) : Prop := i < s.size ∧ 48 ≤ bt s (i : Int) ∧ bt s (i : Int) ≤ 57
instance (s : ByteArray) (i : Nat) : Decidable (Dg s i) := by unfold Dg; exact inferInstance
def DE (s : ByteArray) (i j : Nat) : Prop := i ≤ j ∧ j ≤ s.size ∧ (∀ t, i ≤ t → t < j → Dg s t) ∧ ¬ Dg s j
theorem DE_some (s : ByteArray) : ∀ (n i : Nat), i + n = s.size → ∃ j, DE s i j
 | 0, i, h => ⟨i, Nat.le_refl _, by omega, fun t h1 h2 => by omega, fun g => by have := g.1; omega⟩
 | n + 1, i, h => by
  by_cases g : Dg s i
  ·obtain ⟨j, h1, h2, h3, h4⟩ := DE_some s n (i + 1) (by omega)
   refine ⟨j, by omega, h2, fun t t1 t2 => ?_, h4⟩
   by_cases e : t = i
   ·rw [e]; exact g
   ·exact h3 t (by omega) t2
  ·exact ⟨i, Nat.le_refl _, by omega, fun t h1 h2 => by omega, g⟩
theorem pdigits_loop (s : ByteArray) (a j : Nat) (hsz : s.size ≤ 1000000) (h : DE s a j) : ∀ d i : Nat, a ≤ i → i + d = j → Ev (fun k => dec_digits.l0 k (suf s a) ((suf s a).size : Int) ((i - a : Nat) : Int)) ((j - a : Nat) : Int)
 | 0, i, ha, hi => by
  obtain rfl : i = j := by omega
  have hs := suf_size s a
  have h2 := h.2.1
  by_cases he : i = s.size
  ·refine Ev.step (f := fun _ => some ((i - a : Nat) : Int)) (fun k => ?_) (Ev.now _)
   rw [dec_digits.l0, if_neg (by omega), hs, he]
  ·have hnd : ¬ (48 ≤ bt s (i : Int) ∧ bt s (i : Int) ≤ 57) := fun g => h.2.2.2 ⟨by omega, g⟩
   refine Ev.step (f := fun _ => some ((i - a : Nat) : Int)) (fun k => ?_) (Ev.now _)
   rw [dec_digits.l0, if_pos (by omega), if_pos (by omega), if_pos (by omega), bt_suf, show a + (i - a) = i by omega]
   by_cases c : bt s (i : Int) < 48
   ·rw [if_pos c]
   ·rw [if_neg c, if_pos (by omega)]
 | d + 1, i, ha, hi => by
  have ih := pdigits_loop s a j hsz h d (i + 1) (by omega) (by omega)
  have hg := h.2.2.1 i ha (by omega)
  have hs := suf_size s a
  have h2 := h.2.1
  have h3 := hg.1
  refine Ev.step (fun k => ?_) ih
  rw [dec_digits.l0, if_pos (by omega), if_pos (by omega), if_pos (by omega), bt_suf, show a + (i - a) = i by omega, if_neg (by have := hg.2.1; omega), if_neg (by have := hg.2.2; omega), wrapB _ (by omega) (by omega), show (((i - a : Nat) : Int) + 1) = ((i + 1 - a : Nat) : Int) by omega]
theorem pdigits (s : ByteArray) (a j : Nat) (hsz : s.size ≤ 1000000) (h : DE s a j) : Ev (fun k => dec_digits.f k (suf s a)) ((j - a : Nat) : Int) := by
 have g := pdigits_loop s a j hsz h (j - a) a (Nat.le_refl _) (by have := h.1; omega)
 rw [Nat.sub_self] at g
 exact g
def efold (s : ByteArray) : Nat → Nat → Nat → Nat
 | 0, a, e => e
 | n + 1, a, e => efold s n (a + 1) (min (10 * e + (bt s (a : Int) - 48).toNat) 9999)
theorem efold_le (s : ByteArray) : ∀ n a e, e ≤ 9999 → efold s n a e ≤ 9999
 | 0, a, e, h => h
 | n + 1, a, e, h => efold_le s n (a + 1) _ (Nat.min_le_right ..)
def efrom (s : ByteArray) (a : Nat) : Nat := efold s (s.size - a) a 0
theorem exp_loop (s : ByteArray) (a : Nat) (hsz : s.size ≤ 1000000) (x8 x : Int) (d : ByteArray) (h8 : x8 = 1 ∨ x8 = -1) (hx : -1000000 ≤ x ∧ x ≤ 1000000) (hd : ∀ t, a ≤ t → t < s.size → Dg s t) : ∀ n i e : Nat, a ≤ i → i + n = s.size → e ≤ 9999 →
  Ev (fun k => dec_cut.l0 k (suf s a) x8 (e : Int) ((suf s a).size : Int) ((i - a : Nat) : Int) d x) (d, x + x8 * (efold s n i e : Nat), true)
 | 0, i, e, ha, hi, he => by
  have hs := suf_size s a
  have hw : wrap64 (x + wrap64 (x8 * (e : Int))) = x + x8 * (efold s 0 i e : Nat) := by
   show _ = x + x8 * (e : Int)
   rcases h8 with h | h
   ·rw [h, wrapB (1 * (e : Int)) (by omega) (by omega), wrapB _ (by omega) (by omega)]
   ·rw [h, wrapB (-1 * (e : Int)) (by omega) (by omega), wrapB _ (by omega) (by omega)]
  refine Ev.step (f := fun _ => some (d, x + x8 * (efold s 0 i e : Nat), true)) (fun k => ?_) (Ev.now _)
  rw [dec_cut.l0, if_neg (by omega), hw]
 | n + 1, i, e, ha, hi, he => by
  have hs := suf_size s a
  have hg := hd i ha (by omega)
  have g1 := hg.2.1
  have g2 := hg.2.2
  have ih := exp_loop s a hsz x8 x d h8 hx hd n (i + 1) (min (10 * e + (bt s (i : Int) - 48).toNat) 9999) (by omega) (by omega) (Nat.min_le_right ..)
  refine Ev.step (fun k => ?_) ih
  have hb : (bt s (i : Int) - 48) % 256 = bt s (i : Int) - 48 := by omega
  have hm : mn (wrap64 ((wrap64 (10 * (e : Int))) + (bt s (i : Int) - 48))) 9999 = ((min (10 * e + (bt s (i : Int) - 48).toNat) 9999 : Nat) : Int) := by
   rw [wrapB (10 * (e : Int)) (by omega) (by omega), wrapB _ (by omega) (by omega)]
   unfold mn
   omega
  rw [dec_cut.l0, if_pos (by omega), if_pos (by omega), if_pos (by omega), bt_suf, show a + (i - a) = i by omega, hb, hm, wrapB _ (by omega) (by omega), show (((i - a : Nat) : Int) + 1) = ((i + 1 - a : Nat) : Int) by omega]
theorem exp_ev (s : ByteArray) (a j : Nat) (hsz : s.size ≤ 1000000) (ha : a ≤ s.size) (x8 x : Int) (d : ByteArray) (h8 : x8 = 1 ∨ x8 = -1) (hx : -1000000 ≤ x ∧ x ≤ 1000000) (h : DE s a j) :
  Ev (fun k => dec_cut.j3 k (suf s a) x8 d x) (if a = s.size ∨ j ≠ s.size then (d, x, false) else (d, x + x8 * (efrom s a : Nat), true)) := by
 have hs := suf_size s a
 by_cases h0 : a = s.size
 ·rw [if_pos (.inl h0)]
  refine Ev.step (fun k => ?_) (Ev.step (f := fun _ => some (d, x, false)) (g := fun k => dec_cut.j4 k (suf s a) x8 true d x) (fun k => ?_) (Ev.now _))
  ·rw [dec_cut.j3, if_pos ((nil_iff _).2 (by omega))]
  ·rw [dec_cut.j4, if_pos rfl]
 ·have hdg := pdigits s a j hsz h
  have h1 := h.1
  have h2 := h.2.1
  by_cases hj : j = s.size
  ·rw [if_neg (by omega)]
   have hl := exp_loop s a hsz x8 x d h8 hx (fun t t1 t2 => h.2.2.1 t t1 (by omega)) (s.size - a) a 0 (Nat.le_refl _) (by omega) (by omega)
   rw [Nat.sub_self] at hl
   have h4 : Ev (fun k => dec_cut.j4 k (suf s a) x8 (((j - a : Nat) : Int) != ((suf s a).size : Int)) d x) (d, x + x8 * (efrom s a : Nat), true) := by
    refine Ev.step (fun k => ?_) hl
    rw [dec_cut.j4, if_neg (by rw [hs, hj]; simp)]
    rfl
   refine Ev.step (fun k => ?_) (Ev.bind hdg (f := fun k t => dec_cut.j4 k (suf s a) x8 (t != ((suf s a).size : Int)) d x) h4)
   rw [dec_cut.j3, if_neg (fun c => by have := (nil_iff _).1 c; omega)]
  ·rw [if_pos (.inr hj)]
   have h4 : Ev (fun k => dec_cut.j4 k (suf s a) x8 (((j - a : Nat) : Int) != ((suf s a).size : Int)) d x) (d, x, false) := by
    refine Ev.step (f := fun _ => some (d, x, false)) (fun k => ?_) (Ev.now _)
    rw [dec_cut.j4, if_pos (by rw [hs]; exact bne_iff_ne.2 (by omega))]
   refine Ev.step (fun k => ?_) (Ev.bind hdg (f := fun k t => dec_cut.j4 k (suf s a) x8 (t != ((suf s a).size : Int)) d x) h4)
   rw [dec_cut.j3, if_neg (fun c => by have := (nil_iff _).1 c; omega)]
theorem suf_one (s : ByteArray) (a : Nat) : (suf s a).extract 1 (suf s a).size = suf s (a + 1) := suf_suf s a 1
theorem bt_suf0 (s : ByteArray) (a : Nat) : bt (suf s a) 0 = bt s (a : Int) := bt_suf s a 0
theorem tail_ev (s : ByteArray) (a : Nat) (hsz : s.size ≤ 1000000) (ha : a ≤ s.size) (x : Int) (d : ByteArray) (r : ByteArray × Int × Bool)
  (h0 : a = s.size → r = (d, x, true))
  (h1 : a < s.size → bt s (a : Int) ≠ 101 → bt s (a : Int) ≠ 69 → r = (d, x, false))
  (h2 : a < s.size → (bt s (a : Int) = 101 ∨ bt s (a : Int) = 69) → a + 1 < s.size → bt s ((a + 1 : Nat) : Int) = 45 → Ev (fun k => dec_cut.j3 k (suf s (a + 2)) (-1) d x) r)
  (h3 : a < s.size → (bt s (a : Int) = 101 ∨ bt s (a : Int) = 69) → a + 1 < s.size → bt s ((a + 1 : Nat) : Int) = 43 → Ev (fun k => dec_cut.j3 k (suf s (a + 2)) 1 d x) r)
  (h4 : a < s.size → (bt s (a : Int) = 101 ∨ bt s (a : Int) = 69) → (a + 1 = s.size ∨ (bt s ((a + 1 : Nat) : Int) ≠ 43 ∧ bt s ((a + 1 : Nat) : Int) ≠ 45)) → Ev (fun k => dec_cut.j3 k (suf s (a + 1)) 1 d x) r) :
  Ev (fun k => dec_cut.j0 k (suf s a) d x) r := by
 have hs := suf_size s a
 have hs1 := suf_size s (a + 1)
 by_cases c0 : a = s.size
 ·rw [h0 c0]
  refine Ev.step (f := fun _ => some (d, x, true)) (fun k => ?_) (Ev.now _)
  rw [dec_cut.j0, if_pos ((nil_iff _).2 (by omega))]
 ·have hlt : a < s.size := by omega
  by_cases ce : bt s (a : Int) = 101 ∨ bt s (a : Int) = 69
  ·
   have hj1 : Ev (fun k => dec_cut.j1 k (suf s a) false d x) r := by
    by_cases c1 : a + 1 = s.size
    ·have g := h4 hlt ce (.inl c1)
     refine Ev.step (fun k => ?_) (Ev.step (g := fun k => dec_cut.j2 k (suf s (a + 1)) 1 false d x) (fun k => ?_) g)
     ·rw [dec_cut.j1, if_neg (by decide), if_pos (by omega), suf_one, if_pos ((nil_iff _).2 (by omega))]
     ·rw [dec_cut.j2, if_neg (by decide)]
    ·have hlt1 : a + 1 < s.size := by omega
     by_cases c2 : bt s ((a + 1 : Nat) : Int) = 43
     ·have g := h3 hlt ce hlt1 c2
      refine Ev.step (fun k => ?_) (Ev.step (g := fun k => dec_cut.j2 k (suf s (a + 1)) 1 true d x) (fun k => ?_) g)
      ·rw [dec_cut.j1, if_neg (by decide), if_pos (by omega), suf_one, if_neg (fun c => by have := (nil_iff _).1 c; omega), if_pos (by omega), bt_suf0, if_pos c2]
      ·rw [dec_cut.j2, if_pos rfl, if_pos (by omega), bt_suf0, if_neg (by rw [c2]; decide), if_pos (by omega), suf_one]
     ·by_cases c3 : bt s ((a + 1 : Nat) : Int) = 45
      ·have g := h2 hlt ce hlt1 c3
       refine Ev.step (fun k => ?_) (Ev.step (g := fun k => dec_cut.j2 k (suf s (a + 1)) 1 true d x) (fun k => ?_) g)
       ·rw [dec_cut.j1, if_neg (by decide), if_pos (by omega), suf_one, if_neg (fun c => by have := (nil_iff _).1 c; omega), if_pos (by omega), bt_suf0, if_neg c2, c3]
        rfl
       ·rw [dec_cut.j2, if_pos rfl, if_pos (by omega), bt_suf0, if_pos c3, if_pos (by omega), suf_one]
      ·have g := h4 hlt ce (.inr ⟨c2, c3⟩)
       refine Ev.step (fun k => ?_) (Ev.step (g := fun k => dec_cut.j2 k (suf s (a + 1)) 1 false d x) (fun k => ?_) g)
       ·rw [dec_cut.j1, if_neg (by decide), if_pos (by omega), suf_one, if_neg (fun c => by have := (nil_iff _).1 c; omega), if_pos (by omega), bt_suf0, if_neg c2, beq_eq_false_iff_ne.2 c3]
       ·rw [dec_cut.j2, if_neg (by decide)]
   refine Ev.step (fun k => ?_) hj1
   rw [dec_cut.j0, if_neg (fun c => by have := (nil_iff _).1 c; omega), if_pos (by omega), bt_suf0]
   rcases ce with c | c
   ·rw [if_pos c]
   ·rw [if_neg (by rw [c]; decide), c]
    rfl
  ·have c1 : bt s (a : Int) ≠ 101 := fun c => ce (.inl c)
   have c2 : bt s (a : Int) ≠ 69 := fun c => ce (.inr c)
   rw [h1 hlt c1 c2]
   refine Ev.step (fun k => ?_) (Ev.step (f := fun _ => some (d, x, false)) (g := fun k => dec_cut.j1 k (suf s a) true d x) (fun k => ?_) (Ev.now _))
   ·rw [dec_cut.j0, if_neg (fun c => by have := (nil_iff _).1 c; omega), if_pos (by omega), bt_suf0, if_neg c1, bne_iff_ne.2 c2]
   ·rw [dec_cut.j1, if_pos rfl]
theorem dot_prefix (s : ByteArray) (a : Nat) : strings_HasPrefix.f (suf s a) (⟨#[46]⟩ : ByteArray) = some (decide (a < s.size ∧ bt s (a : Int) = 46)) := by
 have hs := suf_size s a
 unfold strings_HasPrefix.f stringslite_HasPrefix.f
 rw [show (((⟨#[46]⟩ : ByteArray).size : Nat) : Int) = 1 from rfl]
 by_cases h : a < s.size
 ·rw [if_pos (by omega), if_pos (by omega), if_pos (by omega), Option.bind_some, toList_bytes, toList_bytes, show ((1 : Int)).toNat = 1 from rfl, bytes_extract, List.drop_zero, bytes_suf]
  obtain ⟨b, l, hb⟩ : ∃ b l, (bytes s).drop a = b :: l := by
   cases hd : (bytes s).drop a with
   | nil => have := congrArg List.length hd; rw [List.length_drop, bytes_length] at this; simp at this; omega
   | cons b l => exact ⟨b, l, rfl⟩
  have hbt : bt s (a : Int) = (b.toNat : Int) := by
   rw [bt_get, show (bytes s)[a]? = some b by
    have := List.getElem?_drop (xs := bytes s) (i := a) (j := 0)
    rw [hb] at this
    simpa using this.symm]
   rfl
  rw [hb, hbt]
  show some (([b] : List UInt8) == [46]) = _
  congr 1
  by_cases e : b = 46
  ·subst e; simp [h]
  ·rw [decide_eq_false (by
    rintro ⟨_, c⟩
    exact e (UInt8.toNat_inj.1 (by show b.toNat = 46; omega)))]
   exact beq_eq_false_iff_ne.2 (fun c => e (by injection c))
 ·rw [if_neg (by omega), Option.bind_some, decide_eq_false (fun c => h c.1)]
theorem cut_ev (s : ByteArray) (n m : Nat) (hsz : s.size ≤ 1000000) (hn : DE s 0 n) (r : ByteArray × Int × Bool)
  (hr0 : n = 0 → r = (s.extract 0 0, 0, false))
  (h1 : n ≠ 0 → n < s.size → bt s (n : Int) = 46 → DE s (n + 1) m ∧ (m = n + 1 → r = (s.extract 0 n, 0, false)) ∧ (m ≠ n + 1 → Ev (fun k => dec_cut.j0 k (suf s m) (s.extract 0 n ++ s.extract (n + 1) m) (-((m - n - 1 : Nat) : Int))) r))
  (h2 : n ≠ 0 → ¬ (n < s.size ∧ bt s (n : Int) = 46) → Ev (fun k => dec_cut.j0 k (suf s n) (s.extract 0 n) 0) r) :
  Ev (fun k => dec_cut.f k s) r := by
 have hdg := pdigits s 0 n hsz hn
 rw [Nat.sub_zero, suf_zero] at hdg
 have hn2 := hn.2.1
 have hbody : Ev (fun k => (if (0 : Int) ≤ (n : Int) then (if (n : Int) ≤ (s.size : Int) then (if (n : Int) = 0 then (some (s.extract 0 ((n : Int) : Int).toNat, (0 : Int), false)) else ((strings_HasPrefix.f (s.extract ((n : Int) : Int).toNat s.size) (⟨#[46]⟩ : ByteArray)).bind fun t366 => (if t366 = true then (if 1 ≤ ((s.extract ((n : Int) : Int).toNat s.size).size : Int) then ((dec_digits.f k ((s.extract ((n : Int) : Int).toNat s.size).extract 1 (s.extract ((n : Int) : Int).toNat s.size).size)).bind fun t367 => (if t367 = 0 then (some (s.extract 0 ((n : Int) : Int).toNat, 0, false)) else (if 1 ≤ (wrap64 (1 + t367)) then (if (wrap64 (1 + t367)) ≤ ((s.extract ((n : Int) : Int).toNat s.size).size : Int) then (if (s.extract 0 ((n : Int) : Int).toNat).size + ((s.extract ((n : Int) : Int).toNat s.size).extract 1 ((wrap64 (1 + t367)) : Int).toNat).size ≤ 9223372036854775807 then (if 0 ≤ (wrap64 (1 + t367)) then (dec_cut.j0 k ((s.extract ((n : Int) : Int).toNat s.size).extract ((wrap64 (1 + t367)) : Int).toNat (s.extract ((n : Int) : Int).toNat s.size).size) ((s.extract 0 ((n : Int) : Int).toNat) ++ ((s.extract ((n : Int) : Int).toNat s.size).extract 1 ((wrap64 (1 + t367)) : Int).toNat)) (wrap64 (-t367))) else (none)) else (none)) else (none)) else (none)))) else (none)) else (dec_cut.j0 k (s.extract ((n : Int) : Int).toNat s.size) (s.extract 0 ((n : Int) : Int).toNat) 0)))) else (none)) else (none))) r := by
  simp only [Int.toNat_natCast]
  by_cases c0 : n = 0
  ·rw [hr0 c0]
   subst c0
   refine Ev.congr (fun k => ?_) (Ev.now _)
   rw [if_pos (by omega), if_pos (by omega), if_pos (by rfl)]
  ·have hp := dot_prefix s n
   unfold suf at hp
   by_cases cd : n < s.size ∧ bt s (n : Int) = 46
   ·obtain ⟨hm, g1, g2⟩ := h1 c0 cd.1 cd.2
    have hdg2 := pdigits s (n + 1) m hsz hm
    have hm1 := hm.1
    have hm2 := hm.2.1
    have hse := suf_size s n
    have hso := suf_one s n
    unfold suf at hse hso hdg2
    rw [decide_eq_true cd] at hp
    by_cases cm : m = n + 1
    ·rw [g1 cm]
     refine Ev.congr (fun k => ?_) (Ev.bind hdg2 (f := fun k t => if t = 0 then some (s.extract 0 n, (0 : Int), false) else none) (Ev.congr (fun k => by rw [if_pos (by omega)]) (Ev.now _)))
     rw [if_pos (by omega), if_pos (by omega), if_neg (by omega), hp, Option.bind_some, if_pos rfl, if_pos (by omega), hso]
     cases hq : dec_digits.f k (s.extract (n + 1) s.size) with
     | none => rfl
     | some t =>
      have ht : t = ((m - (n + 1) : Nat) : Int) := by
       obtain ⟨K, hK⟩ := hdg2
       have hup : ∀ z, dec_digits.f (k + z) (s.extract (n + 1) s.size) = some t := by
        intro z
        induction z with
        | zero => exact hq
        | succ z ih => exact dec_digits.mono _ _ _ ih
       have h5 := hK (k + K) (Nat.le_add_left ..)
       exact Option.some.inj ((hup K).symm.trans h5)
      rw [Option.bind_some, Option.bind_some, if_pos (by omega), if_pos (by omega)]
    ·have g := g2 cm
     have hw : wrap64 (1 + ((m - (n + 1) : Nat) : Int)) = ((m - n : Nat) : Int) := by rw [wrapB _ (by omega) (by omega)]; omega
     have hw2 : wrap64 (-((m - (n + 1) : Nat) : Int)) = -((m - n - 1 : Nat) : Int) := by rw [wrapB _ (by omega) (by omega)]; omega
     have hmid := suf_mid s n 1 (m - n)
     have hsuf := suf_suf s n (m - n)
     unfold suf at hmid hsuf g
     rw [show n + (m - n) = m by omega] at hmid hsuf
     refine Ev.congr (fun k => ?_) (Ev.bind hdg2 (f := fun k t => if t = 0 then some (s.extract 0 n, (0 : Int), false) else (if 1 ≤ (wrap64 (1 + t)) then (if (wrap64 (1 + t)) ≤ ((s.extract n s.size).size : Int) then (if (s.extract 0 n).size + ((s.extract n s.size).extract 1 ((wrap64 (1 + t)) : Int).toNat).size ≤ 9223372036854775807 then (if 0 ≤ (wrap64 (1 + t)) then (dec_cut.j0 k ((s.extract n s.size).extract ((wrap64 (1 + t)) : Int).toNat (s.extract n s.size).size) ((s.extract 0 n) ++ ((s.extract n s.size).extract 1 ((wrap64 (1 + t)) : Int).toNat)) (wrap64 (-t))) else (none)) else (none)) else (none)) else (none)))
      (Ev.congr (fun k => ?_) g))
     ·rw [if_pos (by omega), if_pos (by omega), if_neg (by omega), hp, Option.bind_some, if_pos rfl, if_pos (by omega), hso]
     ·rw [if_neg (by omega), hw, if_pos (by omega), if_pos (by omega), Int.toNat_natCast, hmid, ext_size s 0 n hn2, ext_size s (n + 1) m hm2, if_pos (by omega), if_pos (by omega), hsuf, hw2]
   ·have g := h2 c0 cd
    rw [decide_eq_false cd] at hp
    unfold suf at g
    refine Ev.congr (fun k => ?_) g
    rw [if_pos (by omega), if_pos (by omega), if_neg (by omega), hp, Option.bind_some, if_neg (by decide)]
 refine Ev.congr (fun k => ?_) (Ev.bind hdg (f := fun k t364 => (if (0 : Int) ≤ t364 then (if t364 ≤ (s.size : Int) then (if t364 = 0 then (some (s.extract 0 (t364 : Int).toNat, (0 : Int), false)) else ((strings_HasPrefix.f (s.extract (t364 : Int).toNat s.size) (⟨#[46]⟩ : ByteArray)).bind fun t366 => (if t366 = true then (if 1 ≤ ((s.extract (t364 : Int).toNat s.size).size : Int) then ((dec_digits.f k ((s.extract (t364 : Int).toNat s.size).extract 1 (s.extract (t364 : Int).toNat s.size).size)).bind fun t367 => (if t367 = 0 then (some (s.extract 0 (t364 : Int).toNat, 0, false)) else (if 1 ≤ (wrap64 (1 + t367)) then (if (wrap64 (1 + t367)) ≤ ((s.extract (t364 : Int).toNat s.size).size : Int) then (if (s.extract 0 (t364 : Int).toNat).size + ((s.extract (t364 : Int).toNat s.size).extract 1 ((wrap64 (1 + t367)) : Int).toNat).size ≤ 9223372036854775807 then (if 0 ≤ (wrap64 (1 + t367)) then (dec_cut.j0 k ((s.extract (t364 : Int).toNat s.size).extract ((wrap64 (1 + t367)) : Int).toNat (s.extract (t364 : Int).toNat s.size).size) ((s.extract 0 (t364 : Int).toNat) ++ ((s.extract (t364 : Int).toNat s.size).extract 1 ((wrap64 (1 + t367)) : Int).toNat)) (wrap64 (-t367))) else (none)) else (none)) else (none)) else (none)))) else (none)) else (dec_cut.j0 k (s.extract (t364 : Int).toNat s.size) (s.extract 0 (t364 : Int).toNat) 0)))) else (none)) else (none))) hbody)
 rfl
end Go.Proofs.YtflcanpajgpghaaDoor.Pure
end
section
namespace Go.Proofs.YtflcanpajgpghaaDoor.Pure
open Go.RowKit Go.Proofs.YtflcanpajgpghaaDoor.Pr Go.Proofs.YtflcanpajgpghaaDoorW.PrintWords Go.Proofs.YtflcanpajgpghaaDoorW.PrintLast Go.Proofs.YtflcanpajgpghaaDoorW.PrintMore
def dg (x : Nat) : Int := ((48 + x % 10 : Nat) : Int)
def ds (x : Nat) : List Int := if x = 0 then [] else ds (x / 10) ++ [dg x]
termination_by x
decreasing_by omega
def dl : Nat → Nat → List Int
 | 0, _ => []
 | m + 1, x => dl m (x / 10) ++ [dg x]
def strip (x : Nat) : Nat := if x ≠ 0 ∧ x % 10 = 0 then strip (x / 10) else x
termination_by x
decreasing_by omega
theorem ds_zero : ds 0 = [] := by rw [ds]; rfl
theorem ds_pos {x : Nat} (h : x ≠ 0) : ds x = ds (x / 10) ++ [dg x] := by rw [ds, if_neg h]
theorem strip_step {x : Nat} (h : x ≠ 0) (h1 : x % 10 = 0) : strip x = strip (x / 10) := by rw [strip, if_pos ⟨h, h1⟩]
theorem strip_end {x : Nat} (h1 : x % 10 ≠ 0) : strip x = x := by rw [strip, if_neg (fun h => h1 h.2)]
theorem dl_length : ∀ (m x : Nat), (dl m x).length = m
 | 0, _ => rfl
 | m + 1, x => by rw [dl, List.length_append, dl_length m]; rfl
theorem dl_ds : ∀ (m x : Nat), 10 ^ m ≤ x → x < 10 ^ (m + 1) → dl (m + 1) x = ds x
 | 0, x, h1, h2 => by
  rw [Nat.pow_zero] at h1
  rw [Nat.pow_succ, Nat.pow_zero] at h2
  rw [ds_pos (by omega), show x / 10 = 0 by omega, ds_zero, dl, dl]
 | m + 1, x, h1, h2 => by
  rw [Nat.pow_succ] at h1 h2
  rw [dl, ds_pos (by have : 0 < 10 ^ m := Nat.pow_pos (by decide); omega), dl_ds m (x / 10) (by omega) (by omega)]
theorem dl_zeros (n x : Nat) : ∀ j, dl (n + j) (x * 10 ^ j) = dl n x ++ List.replicate j 48
 | 0 => by rw [Nat.pow_zero, Nat.mul_one, List.replicate_zero, List.append_nil, Nat.add_zero]
 | j + 1 => by
  have e1 : x * 10 ^ (j + 1) = 10 * (x * 10 ^ j) := by rw [Nat.pow_succ, ← Nat.mul_assoc, Nat.mul_comm]
  rw [← Nat.add_assoc, dl, e1, show 10 * (x * 10 ^ j) / 10 = x * 10 ^ j by omega, dl_zeros n x j, List.replicate_succ', List.append_assoc]
  unfold dg
  rw [show 10 * (x * 10 ^ j) % 10 = 0 by omega]
  rfl
theorem dl_last (i y t : Nat) (h : t ≤ 9) : dl (i + 1) (10 * y + t) = dl i y ++ [((48 + t : Nat) : Int)] := by
 rw [dl, show (10 * y + t) / 10 = y by omega]
 unfold dg
 rw [show (10 * y + t) % 10 = t by omega]
theorem dg_in (x : Nat) : 48 ≤ dg x ∧ dg x ≤ 57 := by unfold dg; omega
theorem ds_len : ∀ (m x : Nat), x < 10 ^ m → (ds x).length ≤ m
 | 0, x, h => by rw [Nat.pow_zero] at h; rw [show x = 0 by omega, ds_zero]; exact Nat.le_refl _
 | m + 1, x, h => by
  by_cases h0 : x = 0
  ·rw [h0, ds_zero]; exact Nat.zero_le _
  ·rw [Nat.pow_succ] at h
   rw [ds_pos h0, List.length_append]
   have := ds_len m (x / 10) (by omega)
   simp only [List.length_cons, List.length_nil]
   omega
theorem ds_len_eq {m x : Nat} (h1 : 10 ^ m ≤ x) (h2 : x < 10 ^ (m + 1)) : (ds x).length = m + 1 := by rw [← dl_ds m x h1 h2, dl_length]
def nb (n : Int) : UInt8 := UInt8.ofNat n.toNat
theorem str_bytes (l : List Int) : (strOfNums l).data.toList = l.map nb := rfl
theorem str_of (l : List Int) (a : ByteArray) (h : a.data.toList = l.map nb) : a = strOfNums l := ba_ext (by unfold bytes; rw [h, str_bytes])
theorem str_app (l m : List Int) : strOfNums (l ++ m) = strOfNums l ++ strOfNums m := (str_of _ _ (by rw [show (strOfNums l ++ strOfNums m).data.toList = (strOfNums l).data.toList ++ (strOfNums m).data.toList from bytes_append _ _, str_bytes, str_bytes, List.map_append])).symm
theorem str_size (l : List Int) : (strOfNums l).size = l.length := by
 have h := bytes_length (strOfNums l)
 rw [show bytes (strOfNums l) = l.map nb from rfl, List.length_map] at h
 exact h.symm
theorem nb_dg (x : Nat) : (nb (dg x) == 48) = decide (x % 10 = 0) := by
 unfold nb dg
 rw [Int.toNat_natCast]
 have hx : x % 10 < 10 := Nat.mod_lt _ (by decide)
 generalize x % 10 = t at hx
 have ht : t = 0 ∨ t = 1 ∨ t = 2 ∨ t = 3 ∨ t = 4 ∨ t = 5 ∨ t = 6 ∨ t = 7 ∨ t = 8 ∨ t = 9 := by omega
 rcases ht with rfl | rfl | rfl | rfl | rfl | rfl | rfl | rfl | rfl | rfl <;> decide
theorem trim_last (l : List UInt8) (b c : UInt8) : Lib.trimRightB (l ++ [b]) c = if (b == c) = true then Lib.trimRightB l c else l ++ [b] := by
 unfold Lib.trimRightB
 rw [List.reverse_append, List.reverse_singleton, List.singleton_append, List.dropWhile_cons]
 by_cases h : (b == c) = true
 ·rw [if_pos h, if_pos h]
 ·rw [if_neg h, if_neg h, List.reverse_cons, List.reverse_reverse]
theorem trim_ds : ∀ (n x : Nat), x ≤ n → Lib.trimRightB ((ds x).map nb) 48 = (ds (strip x)).map nb
 | 0, x, h => by rw [show x = 0 by omega, strip_zero', ds_zero]; rfl
 | n + 1, x, h => by
  by_cases h0 : x = 0
  ·rw [h0, strip_zero', ds_zero]; rfl
  ·rw [ds_pos h0, List.map_append, List.map_cons, List.map_nil, trim_last, nb_dg]
   by_cases h1 : x % 10 = 0
   ·rw [if_pos (decide_eq_true h1), trim_ds n (x / 10) (by omega), strip_step h0 h1]
   ·rw [if_neg (by rw [decide_eq_false h1]; decide), strip_end h1, ds_pos h0, List.map_append, List.map_cons, List.map_nil]
where strip_zero' : strip 0 = 0 := by rw [strip, if_neg (fun h => h.1 rfl)]
theorem trimOf_ds (x : Nat) : trimOf (strOfNums (ds x)) 48 = strOfNums (ds (strip x)) := str_of _ _ (trim_ds x x (Nat.le_refl _))
theorem strip_pos : ∀ (n x : Nat), x ≤ n → x ≠ 0 → strip x ≠ 0 ∧ strip x % 10 ≠ 0 ∧ ∃ z, x = strip x * 10 ^ z
 | 0, x, h, h0 => absurd (by omega) h0
 | n + 1, x, h, h0 => by
  by_cases h1 : x % 10 = 0
  ·obtain ⟨g1, g2, z, g3⟩ := strip_pos n (x / 10) (by omega) (by omega)
   rw [strip_step h0 h1]
   refine ⟨g1, g2, z + 1, ?_⟩
   rw [Nat.pow_succ, ← Nat.mul_assoc, ← g3]
   omega
  ·rw [strip_end h1]
   exact ⟨h0, h1, 0, by omega⟩
end Go.Proofs.YtflcanpajgpghaaDoor.Pure
end
section
namespace Go.Proofs.YtflcanpajgpghaaDoor.Pure
open Go.RowKit Go.Proofs.YtflcanpajgpghaaDoor.Pr Go.Proofs.YtflcanpajgpghaaDoorW.PrintWords Go.Proofs.YtflcanpajgpghaaDoorW.PrintLast Go.Proofs.YtflcanpajgpghaaDoorW.PrintMore
theorem set_mid {α : Type} (b v : α) (c : List α) : ∀ a : List α, (a ++ b :: c).set a.length v = a ++ v :: c
 | [] => rfl
 | x :: a => by rw [List.cons_append, List.length_cons, List.set_cons_succ, set_mid b v c a, List.cons_append]
theorem get_mid (b : Int) (c : List Int) : ∀ a : List Int, (a ++ b :: c).getD a.length 0 = b
 | [] => rfl
 | x :: a => by rw [List.cons_append, List.length_cons, List.getD_cons_succ, get_mid b c a]
theorem rd_mid (a : List Int) (b : Int) (c : List Int) (i : Nat) (h : a.length = i) : rd (a ++ b :: c) (i : Int) = b := by rw [rd_nat, ← h, get_mid]
theorem tidy_end (L : List Int) (e x6 : Int) (h : L.length ≤ 1000000) : Ev (fun k => dec_tidy.j1 k L e x6 false) (trimOf (strOfNums L) 48, e) := by
 refine Ev.step (f := fun _ => some (trimOf (strOfNums L) 48, e)) (fun k => ?_) (Ev.now _)
 rw [dec_tidy.j1, if_neg (by decide), strings_TrimRight.f, if_pos (by rw [str_size]; omega), if_pos rfl, Option.bind_some]
theorem wrap_pred (i : Nat) (h : i ≤ 1000000) : wrap64 (((i + 1 : Nat) : Int) - 1) = (i : Int) := by rw [wrapB _ (by omega) (by omega)]; omega
theorem tidy_loop : ∀ (i y t j : Nat) (e : Int), y < 10 ^ i → t ≤ 10 → 10 ^ (i + j) ≤ (10 * y + t) * 10 ^ j → i + j ≤ 1000 → -100000 ≤ e → e ≤ 100000 →
  Ev (fun k => dec_tidy.l0 k (dl i y ++ ((48 + t : Nat) : Int) :: List.replicate j 48) e (i : Int)) (strOfNums (ds (strip ((10 * y + t) * 10 ^ j))), if (10 * y + t) * 10 ^ j = 10 ^ (i + 1 + j) then e + 1 else e) := by
 intro i
 induction i with
 | zero =>
  intro y t j e hy ht hV hij he he2
  rw [Nat.pow_zero] at hy
  obtain rfl : y = 0 := by omega
  by_cases h9 : t ≤ 9
  ·have hVlt : (10 * 0 + t) * 10 ^ j < 10 ^ (0 + 1 + j) := by
    rw [show 0 + 1 + j = j + 1 by omega, Nat.pow_succ, Nat.mul_comm (10 ^ j) 10]
    exact Nat.mul_lt_mul_of_pos_right (by omega) (Nat.pow_pos (by decide))
   rw [if_neg (Nat.ne_of_lt hVlt)]
   have hL : dl 0 0 ++ ((48 + t : Nat) : Int) :: List.replicate j 48 = ds ((10 * 0 + t) * 10 ^ j) := by
    have h1 := dl_zeros 1 (10 * 0 + t) j
    rw [dl_last 0 0 t h9, List.append_assoc] at h1
    rw [← dl_ds j _ (by rw [Nat.zero_add] at hV; exact hV) (by rw [show j + 1 = 0 + 1 + j by omega]; exact hVlt), Nat.add_comm j 1, h1]
    rfl
   have hend := tidy_end (dl 0 0 ++ ((48 + t : Nat) : Int) :: List.replicate j 48) e ((0 : Nat) : Int) (by simp only [List.length_append, List.length_cons, List.length_replicate, dl_length]; omega)
   rw [hL, trimOf_ds, ← hL] at hend
   refine Ev.step (fun k => ?_) hend
   rw [dec_tidy.l0, if_pos (by omega), if_pos (by omega), if_pos (by simp only [List.length_append, List.length_cons, List.length_replicate, dl_length]; omega), rd_mid _ _ _ 0 rfl, decide_eq_false (by omega)]
  ·obtain rfl : t = 10 := by omega
   have hVe : (10 * 0 + 10) * 10 ^ j = 10 ^ (0 + 1 + j) := by rw [show 0 + 1 + j = j + 1 by omega, Nat.pow_succ, Nat.mul_comm (10 ^ j) 10]
   rw [if_pos hVe]
   have hL : [49] ++ (48 :: List.replicate j 48) = ds ((10 * 0 + 10) * 10 ^ j) := by
    have h1 := dl_zeros 1 1 (j + 1)
    rw [show (1 : Nat) * 10 ^ (j + 1) = (10 * 0 + 10) * 10 ^ j by rw [hVe, Nat.one_mul, show 0 + 1 + j = j + 1 by omega]] at h1
    rw [← dl_ds (j + 1) _ (by rw [hVe, show 0 + 1 + j = j + 1 by omega]; exact Nat.le_refl _) (by rw [hVe]; exact Nat.pow_lt_pow_right (by decide) (by omega)), Nat.add_comm (j + 1) 1, h1, List.replicate_succ]
    rfl
   have hend := tidy_end ([49] ++ (48 :: List.replicate j 48)) (e + 1) (-1) (by simp only [List.length_append, List.length_cons, List.length_replicate, List.length_nil]; omega)
   rw [hL, trimOf_ds, ← hL] at hend
   refine Ev.step (f := fun k => dec_tidy.j1 k (dl 0 0 ++ ((48 + 10 : Nat) : Int) :: List.replicate j 48) e ((0 : Nat) : Int) true) (fun k => ?_) (Ev.step (f := fun k => dec_tidy.l0 k ([49] ++ (48 :: List.replicate j 48)) (e + 1) (-1)) (fun k => ?_) (Ev.step (f := fun k => dec_tidy.j1 k ([49] ++ (48 :: List.replicate j 48)) (e + 1) (-1) false) (fun k => ?_) hend))
   ·rw [dec_tidy.l0, if_pos (by omega), if_pos (by omega), if_pos (by simp only [List.length_append, List.length_cons, List.length_replicate, dl_length]; omega), rd_mid _ _ _ 0 rfl, decide_eq_true (by omega)]
   ·rw [dec_tidy.j1, if_pos rfl, if_pos (by omega), if_pos (by simp only [List.length_append, List.length_cons, List.length_replicate, dl_length]; omega), Option.bind_some, if_neg (by omega), Option.bind_some, if_pos (by simp only [List.length_append, List.length_cons, List.length_replicate, dl_length, List.length_set, List.length_nil]; omega), wrapB _ (by omega) (by omega), wrapB _ (by omega) (by omega)]
    rfl
   ·rw [dec_tidy.l0, if_neg (by omega)]
 | succ i ih =>
  intro y t j e hy ht hV hij he he2
  by_cases h9 : t ≤ 9
  ·have hVlt : (10 * y + t) * 10 ^ j < 10 ^ (i + 1 + 1 + j) := by
    rw [Nat.pow_add, Nat.pow_succ, Nat.mul_comm (10 ^ (i + 1)) 10]
    exact Nat.mul_lt_mul_of_pos_right (by omega) (Nat.pow_pos (by decide))
   rw [if_neg (Nat.ne_of_lt hVlt)]
   have hL : dl (i + 1) y ++ ((48 + t : Nat) : Int) :: List.replicate j 48 = ds ((10 * y + t) * 10 ^ j) := by
    have h1 := dl_zeros (i + 1 + 1) (10 * y + t) j
    rw [dl_last (i + 1) y t h9, List.append_assoc] at h1
    rw [← dl_ds (i + 1 + j) _ hV (by rw [show i + 1 + j + 1 = i + 1 + 1 + j by omega]; exact hVlt), show i + 1 + j + 1 = i + 1 + 1 + j by omega, h1]
    rfl
   have hend := tidy_end (dl (i + 1) y ++ ((48 + t : Nat) : Int) :: List.replicate j 48) e ((i + 1 : Nat) : Int) (by simp only [List.length_append, List.length_cons, List.length_replicate, dl_length]; omega)
   rw [hL, trimOf_ds, ← hL] at hend
   refine Ev.step (fun k => ?_) hend
   rw [dec_tidy.l0, if_pos (by omega), if_pos (by omega), if_pos (by simp only [List.length_append, List.length_cons, List.length_replicate, dl_length]; omega), rd_mid _ _ _ (i + 1) (dl_length _ _), decide_eq_false (by omega)]
  ·obtain rfl : t = 10 := by omega
   have hi := ih (y / 10) (y % 10 + 1) (j + 1) e (by rw [Nat.pow_succ] at hy; omega) (by omega) ?_ (by omega) he he2
   ·have eV : (10 * (y / 10) + (y % 10 + 1)) * 10 ^ (j + 1) = (10 * y + 10) * 10 ^ j := by
     rw [show 10 * (y / 10) + (y % 10 + 1) = y + 1 by omega, Nat.pow_succ, Nat.mul_comm (10 ^ j) 10, ← Nat.mul_assoc]
     congr 1
     omega
    rw [eV, show i + 1 + (j + 1) = i + 1 + 1 + j by omega] at hi
    have eL : dl i (y / 10) ++ ((48 + (y % 10 + 1) : Nat) : Int) :: List.replicate (j + 1) 48 = (dl i (y / 10) ++ dg y :: (48 :: List.replicate j 48)).set i ((dg y + 1) % 256) := by
     have h1 := set_mid (dg y) ((dg y + 1) % 256) (48 :: List.replicate j 48) (dl i (y / 10))
     rw [dl_length] at h1
     rw [h1, List.replicate_succ]
     congr 2
     unfold dg
     omega
    rw [eL] at hi
    have eM : (dl (i + 1) y ++ ((48 + 10 : Nat) : Int) :: List.replicate j 48).set (i + 1) 48 = dl i (y / 10) ++ dg y :: (48 :: List.replicate j 48) := by
     have h1 := set_mid ((48 + 10 : Nat) : Int) 48 (List.replicate j 48) (dl (i + 1) y)
     rw [dl_length] at h1
     rw [h1, dl, List.append_assoc]
     rfl
    refine Ev.step (f := fun k => dec_tidy.j1 k (dl (i + 1) y ++ ((48 + 10 : Nat) : Int) :: List.replicate j 48) e ((i + 1 : Nat) : Int) true) (fun k => ?_) (Ev.step (f := fun k => dec_tidy.l0 k ((dl i (y / 10) ++ dg y :: (48 :: List.replicate j 48)).set i ((dg y + 1) % 256)) e (i : Int)) (fun k => ?_) hi)
    ·rw [dec_tidy.l0, if_pos (by omega), if_pos (by omega), if_pos (by simp only [List.length_append, List.length_cons, List.length_replicate, dl_length]; omega), rd_mid _ _ _ (i + 1) (dl_length _ _), decide_eq_true (by omega)]
    ·rw [dec_tidy.j1, if_pos rfl, if_pos (by omega), if_pos (by simp only [List.length_append, List.length_cons, List.length_replicate, dl_length]; omega), Option.bind_some, if_pos (by omega), wrap_pred i (by omega), if_pos (by omega), if_pos (by simp only [List.length_append, List.length_cons, List.length_replicate, dl_length]; omega), Int.toNat_natCast, Int.toNat_natCast, eM, rd_mid _ _ _ i (dl_length _ _)]
   ·have eV : (10 * (y / 10) + (y % 10 + 1)) * 10 ^ (j + 1) = (10 * y + 10) * 10 ^ j := by
     rw [show 10 * (y / 10) + (y % 10 + 1) = y + 1 by omega, Nat.pow_succ, Nat.mul_comm (10 ^ j) 10, ← Nat.mul_assoc]
     congr 1
     omega
    rw [eV, show i + (j + 1) = i + 1 + j by omega]
    exact hV
theorem tidy_ev (m y t : Nat) (e : Int) (hy : y < 10 ^ m) (ht : t ≤ 10) (hX : 10 ^ m ≤ 10 * y + t) (hm : m ≤ 1000) (he : -100000 ≤ e) (he2 : e ≤ 100000) :
  Ev (fun k => dec_tidy.f k (dl m y ++ [((48 + t : Nat) : Int)]) e) (strOfNums (ds (strip (10 * y + t))), if 10 * y + t = 10 ^ (m + 1) then e + 1 else e) := by
 have h := tidy_loop m y t 0 e hy ht (by rw [Nat.add_zero, Nat.pow_zero, Nat.mul_one]; exact hX) (by omega) he he2
 rw [Nat.pow_zero, Nat.mul_one, Nat.add_zero] at h
 refine Ev.congr (fun k => ?_) h
 unfold dec_tidy.f
 rw [List.length_append, dl_length, List.length_singleton, wrap_pred m (by omega)]
 rfl
end Go.Proofs.YtflcanpajgpghaaDoor.Pure
end
section
namespace Go.Proofs.YtflcanpajgpghaaDoor.Flo
open Go Ieee
theorem cross_lt {x K m S A B : Nat} (hK : 0 < K) (hS : 0 < S) (h : x * K = m * S) : m * B < A * K ↔ x * B < A * S := by
 rw [← Nat.mul_lt_mul_left (a := S) hS, ← Nat.mul_lt_mul_left (a := K) (b := x * B) hK]
 rw [show S * (m * B) = (m * S) * B by rw [Nat.mul_comm m S, Nat.mul_assoc], ← h, show x * K * B = K * (x * B) by rw [Nat.mul_comm x K, Nat.mul_assoc], show S * (A * K) = K * (A * S) by rw [Nat.mul_comm A K, Nat.mul_left_comm, Nat.mul_comm A S]]
theorem cross_eq {x K m S A B : Nat} (hK : 0 < K) (hS : 0 < S) (h : x * K = m * S) : m * B = A * K ↔ x * B = A * S := by
 constructor
 ·intro g
  refine Nat.eq_of_mul_eq_mul_left hK ?_
  rw [show K * (x * B) = (x * K) * B by rw [Nat.mul_comm x K, Nat.mul_assoc], h, Nat.mul_right_comm, g, Nat.mul_assoc, Nat.mul_comm K S, ← Nat.mul_assoc, Nat.mul_comm]
 ·intro g
  refine Nat.eq_of_mul_eq_mul_left hS ?_
  rw [show S * (m * B) = (m * S) * B by rw [Nat.mul_comm m S, Nat.mul_assoc], ← h, Nat.mul_right_comm, g, show S * (A * K) = A * S * K by rw [Nat.mul_comm A K, Nat.mul_left_comm, Nat.mul_comm K, Nat.mul_comm S A]]
theorem cross_lt' {x K m S A B : Nat} (hK : 0 < K) (hS : 0 < S) (h : x * K = m * S) : A * K < m * B ↔ A * S < x * B := by
 rw [← Nat.mul_lt_mul_left (a := S) hS, ← Nat.mul_lt_mul_left (a := K) (b := A * S) hK]
 rw [show S * (m * B) = (m * S) * B by rw [Nat.mul_comm m S, Nat.mul_assoc], ← h, show x * K * B = K * (x * B) by rw [Nat.mul_comm x K, Nat.mul_assoc], show S * (A * K) = K * (A * S) by rw [Nat.mul_comm A K, Nat.mul_left_comm, Nat.mul_comm A S]]
structure Sp (a R S D U : Nat) : Prop where
 hS : 0 < S
 hR : R * K = (2 * units a) * S
 hD : D * K = (units a - units (a - 1)) * S
 hU : U * K = (units (a + 1) - units a) * S
theorem units_pos {a : Nat} (h : 0 < a) : 0 < units a := by
 have h1 := units_mono h
 omega
theorem sp_U {a R S D U : Nat} (h : Sp a R S D U) : 0 < U := by
 have h1 := units_succ a
 have h2 : 0 < (units (a + 1) - units a) * S := Nat.mul_pos (by omega) h.hS
 rw [← h.hU] at h2
 exact Nat.pos_of_mul_pos_right h2
theorem sp_two {a R S D U : Nat} (h : Sp a R S D U) : 2 * D ≤ R := by
 refine Nat.le_of_mul_le_mul_right (c := K) ?_ K_pos
 rw [Nat.mul_assoc, h.hD, h.hR, Nat.mul_assoc]
 exact Nat.mul_le_mul_left _ (Nat.mul_le_mul_right _ (Nat.sub_le _ _))
theorem sp_lo {a R S D U : Nat} (h : Sp a R S D U) (ha : 0 < a) : (R - D) * K = mid (a - 1) * S := by
 have h1 : units (a - 1) < units a := units_mono (by omega)
 rw [Nat.sub_mul, h.hR, h.hD, ← Nat.sub_mul]
 unfold mid
 rw [show a - 1 + 1 = a by omega]
 congr 1
 omega
theorem sp_hi {a R S D U : Nat} (h : Sp a R S D U) : (R + U) * K = mid a * S := by
 have h1 := units_succ a
 rw [Nat.add_mul, h.hR, h.hU, ← Nat.add_mul]
 unfold mid
 congr 1
 omega
theorem above_iff {a R S D U A B : Nat} (h : Sp a R S D U) (ha : 0 < a) : Above A B a ↔ ((R - D) * B < A * S ∨ ((R - D) * B = A * S ∧ a % 2 = 0)) := by
 unfold Above
 rw [cross_lt K_pos h.hS (sp_lo h ha), cross_eq K_pos h.hS (sp_lo h ha)]
 constructor
 ·rintro (h0 | h0 | h0)
  ·omega
  ·exact .inl h0
  ·exact .inr h0
 ·rintro (h0 | h0)
  ·exact .inr (.inl h0)
  ·exact .inr (.inr h0)
theorem under_iff {a R S D U A B : Nat} (h : Sp a R S D U) : Under A B a ↔ (A * S < (R + U) * B ∨ (A * S = (R + U) * B ∧ a % 2 = 0)) := by
 unfold Under
 rw [cross_lt' K_pos h.hS (sp_hi h), eq_comm, cross_eq K_pos h.hS (sp_hi h), eq_comm]
def Far (r up s : Nat) (ev : Bool) : Prop := s < r + up ∨ (s = r + up ∧ ev = true)
def Low (r dn : Nat) (ev : Bool) : Prop := r < dn ∨ (r = dn ∧ ev = true)
instance (r up s : Nat) (ev : Bool) : Decidable (Far r up s ev) := by unfold Far; infer_instance
instance (r dn : Nat) (ev : Bool) : Decidable (Low r dn ev) := by unfold Low; infer_instance
theorem ratio_lt {a b c d x y : Nat} (ha : 0 < a) (hd : 0 < d) (hb : 0 < b) (hc : 0 < c) (h : a * d = b * c) : x * a < y * b ↔ x * c < y * d := by
 rw [← Nat.mul_lt_mul_left (a := d) hd, ← Nat.mul_lt_mul_left (a := b) (b := x * c) hb]
 rw [show d * (x * a) = x * (a * d) by rw [Nat.mul_left_comm, Nat.mul_comm d a], h, show b * (x * c) = x * (b * c) by rw [Nat.mul_left_comm], show d * (y * b) = b * (y * d) by rw [Nat.mul_comm y b, Nat.mul_left_comm, Nat.mul_comm d y]]
theorem ratio_eq {a b c d x y : Nat} (ha : 0 < a) (hd : 0 < d) (hb : 0 < b) (hc : 0 < c) (h : a * d = b * c) : x * a = y * b ↔ x * c = y * d := by
 have h1 := ratio_lt (x := x) (y := y) ha hd hb hc h
 have h2 := ratio_lt (a := b) (b := a) (c := d) (d := c) (x := y) (y := x) hb hc ha hd h.symm
 omega
theorem scale_pow {e : Int} {p q m : Nat} (he : e = (q : Int) - p) : loN (e - m) * 10 ^ q = 10 ^ (e - m).toNat * (10 ^ p * 10 ^ m) := by
 unfold loN
 rw [← Nat.pow_add, ← Nat.pow_add, ← Nat.pow_add]
 congr 1
 omega
theorem ten_pos (n : Nat) : 0 < 10 ^ n := Nat.pow_pos (by decide)
theorem low_iff {a R S D U Q ρ p q m : Nat} {e : Int} (h : Sp a R S D U) (ha : 0 < a) (he : e = (q : Int) - p) (hQ : R * 10 ^ p * 10 ^ m = Q * (S * 10 ^ q) + ρ) :
  Above (upN Q (e - m)) (loN (e - m)) a ↔ Low ρ (D * 10 ^ p * 10 ^ m) (a % 2 == 0) := by
 have hD2 := sp_two h
 have hc := scale_pow (m := m) he
 rw [above_iff h ha]
 unfold upN
 rw [show Q * 10 ^ (e - (m : Int)).toNat * S = Q * S * 10 ^ (e - (m : Int)).toNat by rw [Nat.mul_right_comm]]
 rw [ratio_lt (loN_pos _) (ten_pos q) (ten_pos _) (Nat.mul_pos (ten_pos p) (ten_pos m)) hc, ratio_eq (loN_pos _) (ten_pos q) (ten_pos _) (Nat.mul_pos (ten_pos p) (ten_pos m)) hc]
 have e1 : (R - D) * (10 ^ p * 10 ^ m) = R * 10 ^ p * 10 ^ m - D * 10 ^ p * 10 ^ m := by rw [Nat.sub_mul, Nat.mul_assoc, Nat.mul_assoc]
 have e2 : D * 10 ^ p * 10 ^ m ≤ R * 10 ^ p * 10 ^ m := Nat.mul_le_mul_right _ (Nat.mul_le_mul_right _ (by omega))
 rw [e1, hQ, show Q * S * 10 ^ q = Q * (S * 10 ^ q) by rw [Nat.mul_assoc]]
 rw [hQ] at e2
 unfold Low
 simp only [beq_iff_eq]
 omega
theorem far_iff {a R S D U Q ρ p q m : Nat} {e : Int} (h : Sp a R S D U) (he : e = (q : Int) - p) (hQ : R * 10 ^ p * 10 ^ m = Q * (S * 10 ^ q) + ρ) :
  Under (upN (Q + 1) (e - m)) (loN (e - m)) a ↔ Far ρ (U * 10 ^ p * 10 ^ m) (S * 10 ^ q) (a % 2 == 0) := by
 have hc := scale_pow (m := m) he
 rw [under_iff h]
 unfold upN
 rw [show (Q + 1) * 10 ^ (e - (m : Int)).toNat * S = (Q + 1) * S * 10 ^ (e - (m : Int)).toNat by rw [Nat.mul_right_comm]]
 rw [ratio_lt (ten_pos _) (Nat.mul_pos (ten_pos p) (ten_pos m)) (loN_pos _) (ten_pos q) hc.symm, ratio_eq (ten_pos _) (Nat.mul_pos (ten_pos p) (ten_pos m)) (loN_pos _) (ten_pos q) hc.symm]
 have e1 : (R + U) * (10 ^ p * 10 ^ m) = Q * (S * 10 ^ q) + ρ + U * 10 ^ p * 10 ^ m := by rw [Nat.add_mul, ← Nat.mul_assoc, hQ, ← Nat.mul_assoc U]
 rw [e1, show (Q + 1) * S * 10 ^ q = Q * (S * 10 ^ q) + S * 10 ^ q by rw [Nat.mul_assoc, Nat.add_mul, Nat.one_mul]]
 unfold Far
 simp only [beq_iff_eq]
 omega
theorem under_low {a R S D U Q ρ p q m : Nat} {e : Int} (h : Sp a R S D U) (he : e = (q : Int) - p) (hQ : R * 10 ^ p * 10 ^ m = Q * (S * 10 ^ q) + ρ) :
  Under (upN Q (e - m)) (loN (e - m)) a := by
 have hc := scale_pow (m := m) he
 rw [under_iff h]
 unfold upN
 rw [show Q * 10 ^ (e - (m : Int)).toNat * S = Q * S * 10 ^ (e - (m : Int)).toNat by rw [Nat.mul_right_comm]]
 refine .inl ?_
 rw [ratio_lt (ten_pos _) (Nat.mul_pos (ten_pos p) (ten_pos m)) (loN_pos _) (ten_pos q) hc.symm]
 have e1 : (R + U) * (10 ^ p * 10 ^ m) = Q * (S * 10 ^ q) + ρ + U * 10 ^ p * 10 ^ m := by rw [Nat.add_mul, ← Nat.mul_assoc, hQ, ← Nat.mul_assoc U]
 have hu : 0 < U * 10 ^ p * 10 ^ m := Nat.mul_pos (Nat.mul_pos (sp_U h) (ten_pos _)) (ten_pos _)
 rw [e1, Nat.mul_assoc]
 omega
theorem above_high {a R S D U Q ρ p q m : Nat} {e : Int} (h : Sp a R S D U) (ha : 0 < a) (he : e = (q : Int) - p) (hQ : R * 10 ^ p * 10 ^ m = Q * (S * 10 ^ q) + ρ) (hρ : ρ < S * 10 ^ q) :
  Above (upN (Q + 1) (e - m)) (loN (e - m)) a := by
 have hc := scale_pow (m := m) he
 rw [above_iff h ha]
 unfold upN
 rw [show (Q + 1) * 10 ^ (e - (m : Int)).toNat * S = (Q + 1) * S * 10 ^ (e - (m : Int)).toNat by rw [Nat.mul_right_comm]]
 refine .inl ?_
 rw [ratio_lt (loN_pos _) (ten_pos q) (ten_pos _) (Nat.mul_pos (ten_pos p) (ten_pos m)) hc]
 have e1 : (R - D) * (10 ^ p * 10 ^ m) ≤ Q * (S * 10 ^ q) + ρ := by
  rw [← hQ, ← Nat.mul_assoc]
  exact Nat.mul_le_mul_right _ (Nat.mul_le_mul_right _ (Nat.sub_le _ _))
 rw [show (Q + 1) * S * 10 ^ q = Q * (S * 10 ^ q) + S * 10 ^ q by rw [Nat.mul_assoc, Nat.add_mul, Nat.one_mul]]
 omega
end Go.Proofs.YtflcanpajgpghaaDoor.Flo
end
section
namespace Go.Proofs.YtflcanpajgpghaaDoor.Flo
open Go Ieee
theorem units_form (a : Nat) : ∃ j q : Nat, a = j * 4503599627370496 + q ∧ q < 9007199254740992 ∧ (j = 0 ∨ 4503599627370496 ≤ q) ∧ units a = q * 2 ^ j ∧ units (a + 1) = (q + 1) * 2 ^ j := by
 by_cases h : a < 4503599627370496
 ·refine ⟨0, a, by omega, by omega, .inl rfl, ?_, ?_⟩
  ·have := units_of 0 a (by omega) (.inl rfl)
   rwa [Nat.zero_mul, Nat.zero_add] at this
  ·have := units_of 0 (a + 1) (by omega) (.inl rfl)
   rwa [Nat.zero_mul, Nat.zero_add] at this
 ·refine ⟨a / 4503599627370496 - 1, 4503599627370496 + a % 4503599627370496, by omega, by omega, .inr (by omega), ?_, ?_⟩
  ·have := units_of (a / 4503599627370496 - 1) (4503599627370496 + a % 4503599627370496) (by omega) (.inr (by omega))
   rwa [show (a / 4503599627370496 - 1) * 4503599627370496 + (4503599627370496 + a % 4503599627370496) = a by omega] at this
  ·have := units_of (a / 4503599627370496 - 1) (4503599627370496 + a % 4503599627370496 + 1) (by omega) (.inr (by omega))
   rwa [show (a / 4503599627370496 - 1) * 4503599627370496 + (4503599627370496 + a % 4503599627370496 + 1) = a + 1 by omega] at this
theorem units_down {a j q : Nat} (h : a = j * 4503599627370496 + q) (hq : q < 9007199254740992) (hj : j = 0 ∨ 4503599627370496 ≤ q) (h0 : 0 < a) :
  (units a - units (a - 1) = 2 ^ j) ∨ (q = 4503599627370496 ∧ 0 < j ∧ 2 * (units a - units (a - 1)) = 2 ^ j) := by
 have e0 : units a = q * 2 ^ j := by rw [h]; exact units_of j q (by omega) hj
 by_cases hc : j = 0 ∨ 4503599627370496 ≤ q - 1
 ·left
  have e1 : units (a - 1) = (q - 1) * 2 ^ j := by
   rw [show a - 1 = j * 4503599627370496 + (q - 1) by omega]
   exact units_of j (q - 1) (by omega) hc
  rw [e0, e1, ← Nat.sub_mul, show q - (q - 1) = 1 by omega, Nat.one_mul]
 ·right
  have hq2 : q = 4503599627370496 := by omega
  obtain ⟨i, rfl⟩ : ∃ i, j = i + 1 := ⟨j - 1, by omega⟩
  have e1 : units (a - 1) = 9007199254740991 * 2 ^ i := by
   rw [show a - 1 = i * 4503599627370496 + 9007199254740991 by omega]
   exact units_of i 9007199254740991 (by omega) (.inr (by omega))
  refine ⟨hq2, by omega, ?_⟩
  rw [e0, e1, hq2, Nat.pow_succ]
  omega
theorem sp_ratio {a R S D U : Nat} (h : Sp a R S D U) (ha : 0 < a) : ∃ q : Nat, 0 < q ∧ q < 9007199254740992 ∧ R = 2 * q * U ∧ (D = U ∨ (q = 4503599627370496 ∧ 2 * D = U)) ∧ (a < 10 → q = a) ∧ (10 ≤ a → 10 ≤ q) := by
 obtain ⟨j, q, hf, hq, hj, e0, e1⟩ := units_form a
 have hU := h.hU
 rw [e0, e1, Nat.add_mul, Nat.one_mul, Nat.add_sub_cancel_left] at hU
 have hR := h.hR
 rw [e0] at hR
 refine ⟨q, ?_, hq, ?_, ?_, ?_, ?_⟩
 ·rcases Nat.eq_zero_or_pos q with h0 | h0
  ·rcases hj with hj | hj
   ·rw [hj, h0] at hf; omega
   ·omega
  ·exact h0
 ·refine Nat.eq_of_mul_eq_mul_right K_pos ?_
  rw [hR, Nat.mul_assoc (2 * q) U, hU]
  simp only [Nat.mul_assoc]
 ·rcases units_down hf hq hj ha with g | ⟨g1, g2, g3⟩
  ·left
   refine Nat.eq_of_mul_eq_mul_right K_pos ?_
   rw [h.hD, g, hU]
  ·right
   refine ⟨g1, Nat.eq_of_mul_eq_mul_right K_pos ?_⟩
   rw [Nat.mul_assoc, h.hD, hU, ← g3, Nat.mul_assoc]
 ·intro h10
  rcases hj with hj | hj
  ·rw [hj] at hf; omega
  ·omega
 ·intro h10
  rcases hj with hj | hj
  ·rw [hj] at hf; omega
  ·omega
theorem sp_UR {a R S D U : Nat} (h : Sp a R S D U) (ha : 0 < a) : 2 * U ≤ R := by
 obtain ⟨q, h1, h2, h3, _⟩ := sp_ratio h ha
 rw [h3]
 exact Nat.mul_le_mul_right _ (by omega)
def kT : Nat := 322
def Least (x y : Nat) (e : Int) : Prop := y * 10 ^ e.toNat ≤ x * 10 ^ (-e).toNat
instance (x y : Nat) (e : Int) : Decidable (Least x y e) := by unfold Least; infer_instance
theorem sp_R {a R S D U : Nat} (h : Sp a R S D U) (ha : 0 < a) : 0 < R := by
 have := sp_U h
 have := sp_UR h ha
 omega
def Stop (ρ dn up s : Nat) (ev : Bool) : Prop := Low ρ dn ev ∨ Far ρ up s ev
instance (ρ dn up s : Nat) (ev : Bool) : Decidable (Stop ρ dn up s ev) := by unfold Stop; infer_instance
def pickX (Q ρ dn up s : Nat) (ev : Bool) : Nat := if Far ρ up s ev ∧ (¬ Low ρ dn ev ∨ s < 2 * ρ ∨ (2 * ρ = s ∧ Q % 2 = 1)) then Q + 1 else Q
def gen (r s dn up : Nat) (ev : Bool) : Nat → Nat → Nat × Nat
 | 0, m => (m, 0)
 | n + 1, m => if Stop (r * 10 ^ m % s) (dn * 10 ^ m) (up * 10 ^ m) s ev then (m, pickX (r * 10 ^ m / s) (r * 10 ^ m % s) (dn * 10 ^ m) (up * 10 ^ m) s ev) else gen r s dn up ev n (m + 1)
theorem stop_sixteen {a R S D U p q : Nat} (ev : Bool) (h : Sp a R S D U) (ha : 0 < a) (hge : S * 10 ^ q ≤ R * 10 ^ p) : Stop (R * 10 ^ p * 10 ^ 16 % (S * 10 ^ q)) (D * 10 ^ p * 10 ^ 16) (U * 10 ^ p * 10 ^ 16) (S * 10 ^ q) ev := by
 obtain ⟨f, f0, f1, f2, f3, _, _⟩ := sp_ratio h ha
 have hs : 0 < S * 10 ^ q := Nat.mul_pos h.hS (ten_pos q)
 have hρ := Nat.mod_lt (R * 10 ^ p * 10 ^ 16) hs
 obtain ⟨s, hse⟩ : ∃ s, s = S * 10 ^ q := ⟨_, rfl⟩
 rw [← hse] at hs hρ hge ⊢
 obtain ⟨ρ, hρe⟩ : ∃ ρ, ρ = R * 10 ^ p * 10 ^ 16 % s := ⟨_, rfl⟩
 rw [← hρe] at hρ ⊢
 obtain ⟨u, hu⟩ : ∃ u, u = U * 10 ^ p * 10 ^ 16 := ⟨_, rfl⟩
 have hr : R * 10 ^ p * 10 ^ 16 = 2 * f * u := by
  rw [f2, hu]
  simp only [Nat.mul_assoc]
 have hb : s * 10 ^ 16 ≤ 2 * f * u := by rw [← hr]; exact Nat.mul_le_mul_right _ hge
 have hu0 : 0 < u := by rw [hu]; exact Nat.mul_pos (Nat.mul_pos (sp_U h) (ten_pos _)) (ten_pos _)
 rw [← hu]
 have e16 : (10 : Nat) ^ 16 = 10000000000000000 := by decide
 rw [e16] at hb
 unfold Stop Low Far
 rcases f3 with f3 | ⟨f3, f4⟩
 ·have hd : D * 10 ^ p * 10 ^ 16 = u := by rw [f3, hu]
  rw [hd]
  have : 2 * f * u ≤ 2 * 9007199254740991 * u := Nat.mul_le_mul_right _ (by omega)
  omega
 ·rw [f3] at hb
  omega
theorem gen_done (r s dn up : Nat) (ev : Bool) : ∀ (n m : Nat), (∃ j, m ≤ j ∧ j < m + n ∧ Stop (r * 10 ^ j % s) (dn * 10 ^ j) (up * 10 ^ j) s ev) →
  m ≤ (gen r s dn up ev n m).1 ∧ (gen r s dn up ev n m).1 < m + n ∧ (gen r s dn up ev n m).2 = pickX (r * 10 ^ (gen r s dn up ev n m).1 / s) (r * 10 ^ (gen r s dn up ev n m).1 % s) (dn * 10 ^ (gen r s dn up ev n m).1) (up * 10 ^ (gen r s dn up ev n m).1) s ev ∧ Stop (r * 10 ^ (gen r s dn up ev n m).1 % s) (dn * 10 ^ (gen r s dn up ev n m).1) (up * 10 ^ (gen r s dn up ev n m).1) s ev
 | 0, m, h => by obtain ⟨j, h1, h2, _⟩ := h; omega
 | n + 1, m, h => by
  rw [gen]
  by_cases hs : Stop (r * 10 ^ m % s) (dn * 10 ^ m) (up * 10 ^ m) s ev
  ·rw [if_pos hs]
   exact ⟨Nat.le_refl _, by show m < m + (n + 1); omega, rfl, hs⟩
  ·rw [if_neg hs]
   obtain ⟨j, h1, h2, h3⟩ := h
   have hj : m ≠ j := fun hj => hs (hj ▸ h3)
   obtain ⟨g1, g2, g3, g4⟩ := gen_done r s dn up ev n (m + 1) ⟨j, by omega, by omega, h3⟩
   exact ⟨by omega, by omega, g3, g4⟩
end Go.Proofs.YtflcanpajgpghaaDoor.Flo
end
section
namespace Go.Proofs.YtflcanpajgpghaaDoor.Pure
open Go.RowKit Go.Proofs.YtflcanpajgpghaaDoor.Pr Go.Proofs.YtflcanpajgpghaaDoorW.PrintWords Go.Proofs.YtflcanpajgpghaaDoorW.PrintLast Go.Proofs.YtflcanpajgpghaaDoorW.PrintMore Go.Proofs.YtflcanpajgpghaaDoor.Flo
theorem len_big {x m : Nat} (h : x < 2 ^ m) (hm : m ≤ 1000000) : (toB x).length ≤ 1048000 := by
 have := len_of_lt h
 omega
theorem up1_ev (x : Nat) (h : (toB x).length ≤ 1047000) : Ev (fun k => dec_big_up.f k (toB x) 1) (toB (x * 2)) := by
 have hup := up_ev x 1 (.inr (by decide)) (by omega)
 rw [Nat.pow_one] at hup
 exact hup
theorem ten_ev' (x : Nat) (h : (toB x).length ≤ 1048576) : Ev (fun k => dec_big_times.f k (toB x) 10 0) (toB (x * 10)) := by
 have := times_ev x 10 0 (by decide) (by decide) h
 exact this
theorem high_ev (r up s m : Nat) (ev : Bool) (hm : m ≤ 900000) (hr : r < 2 ^ m) (hu : up < 2 ^ m) (hs : s < 2 ^ m) : Ev (fun k => dec_high.f k (toB s) (toB r) (toB up) ev) (decide (Far r up s ev)) := by
 have hsum : r + up < 2 ^ (m + 1) := by rw [Nat.pow_succ]; omega
 have l1 := len_big hr (by omega)
 have l2 := len_big hu (by omega)
 have l3 := len_big hs (by omega)
 have l4 := len_big hsum (by omega)
 obtain ⟨K1, h1⟩ := plus_ev r up (by omega) (by omega)
 obtain ⟨c, ⟨K2, h2⟩, c1, c2⟩ := cmp_ev (r + up) s (by omega) (by omega)
 refine ⟨K1 + K2, fun k hk => ?_⟩
 dsimp only
 try dsimp only at h1
 try dsimp only at h2
 try dsimp only at h3
 try dsimp only at h4
 rw [dec_high.f, h1 k (by omega), Option.bind_some, h2 k (by omega), Option.bind_some]
 congr 1
 unfold Far
 cases ev
 ·rw [Bool.false_and, Bool.or_false]
  refine decide_eq_decide.2 ?_
  simp only [Bool.false_eq_true, and_false, or_false]
  omega
 ·rw [Bool.true_and, ← Bool.decide_or]
  refine decide_eq_decide.2 ?_
  simp only [and_true]
  omega
def outF (mx : Nat × Nat) (e : Int) : ByteArray × Int := (strOfNums (ds (strip mx.2)), if mx.2 = 10 ^ (mx.1 + 1) then e + 1 else e)
theorem last_ev (m y t : Nat) (e : Int) (hy : y < 10 ^ m) (ht : t ≤ 10) (hX : 10 ^ m ≤ 10 * y + t) (hm : m ≤ 1000) (he : -100000 ≤ e) (he2 : e ≤ 100000) (z : Int) (hz : z = ((48 + t : Nat) : Int)) :
  Ev (fun k => (dec_tidy.f k (dl m y ++ [z]) e).bind fun b => some (b.1, b.2)) (outF (m, 10 * y + t) e) := by
 have h := tidy_ev m y t e hy ht hX hm he he2
 rw [hz]
 exact Ev.bind h (Ev.now _)
theorem add_dig (n : Nat) (h : n ≤ 9) : (48 + (n : Int)) % 256 = ((48 + n : Nat) : Int) := by omega
theorem add_dig1 (n : Nat) (h : n ≤ 9) : (48 + (((n : Int) + 1) % 256)) % 256 = ((48 + (n + 1) : Nat) : Int) := by omega
theorem end_ev (m Q ρ dn up s M : Nat) (ev : Bool) (e : Int) (hM : M ≤ 800000) (hρ : ρ < 2 ^ M) (hs : s < 2 ^ M) (hQ : Q / 10 < 10 ^ m) (hm : m ≤ 1000) (he : -100000 ≤ e) (he2 : e ≤ 100000)
  (hstop : Stop ρ dn up s ev) (hX : 10 ^ m ≤ pickX Q ρ dn up s ev) :
  Ev (fun k => dec_shortest.j5 k e (dl m (Q / 10)) ((Q % 10 : Nat) : Int) (decide (Low ρ dn ev)) (decide (Far ρ up s ev)) (toB ρ) (toB s) (toB dn) (toB up) ev) (outF (m, pickX Q ρ dn up s ev) e) := by
 have hn : Q % 10 ≤ 9 := by have := Nat.mod_lt Q (show 0 < 10 by decide); omega
 have hQe : 10 * (Q / 10) + Q % 10 = Q := Nat.div_add_mod Q 10
 have hup := up1_ev ρ (by have := len_of_lt hρ; omega)
 have l4 := len_big (show ρ * 2 < 2 ^ (M + 1) by rw [Nat.pow_succ]; omega) (by omega)
 have l3 := len_big hs (by omega)
 obtain ⟨K1, h1⟩ := hup
 obtain ⟨c, ⟨K2, h2⟩, c1, c2⟩ := cmp_ev (ρ * 2) s (by omega) (by omega)
 have hlen : (dl m (Q / 10)).length < 140737488355328 := by rw [dl_length]; omega
 have main : Ev (fun k => dec_shortest.j6 k e (dl m (Q / 10)) ((Q % 10 : Nat) : Int) (decide (Low ρ dn ev)) (decide (Far ρ up s ev)) false (toB ρ) (toB s) (toB dn) (toB up) ev) (outF (m, pickX Q ρ dn up s ev) e) := by
  have hodd : Int.tmod ((Q % 10 : Nat) : Int) 2 = 1 ↔ Q % 2 = 1 := by
   rw [Int.tmod_eq_emod_of_nonneg (by omega)]
   omega
  have up1 : pickX Q ρ dn up s ev = Q + 1 → Ev (fun k => (dec_tidy.f k (dl m (Q / 10) ++ [(48 + ((((Q % 10 : Nat) : Int) + 1) % 256)) % 256]) e).bind fun b => some (b.1, b.2)) (outF (m, pickX Q ρ dn up s ev) e) := by
   intro hx
   have := last_ev m (Q / 10) (Q % 10 + 1) e hQ (by omega) (by omega) hm he he2 _ (add_dig1 (Q % 10) hn)
   rw [show 10 * (Q / 10) + (Q % 10 + 1) = pickX Q ρ dn up s ev by omega] at this
   exact this
  have up0 : pickX Q ρ dn up s ev = Q → Ev (fun k => (dec_tidy.f k (dl m (Q / 10) ++ [(48 + ((Q % 10 : Nat) : Int)) % 256]) e).bind fun b => some (b.1, b.2)) (outF (m, pickX Q ρ dn up s ev) e) := by
   intro hx
   have := last_ev m (Q / 10) (Q % 10) e hQ (by omega) (by omega) hm he he2 _ (add_dig (Q % 10) hn)
   rw [show 10 * (Q / 10) + Q % 10 = pickX Q ρ dn up s ev by omega] at this
   exact this
  by_cases hf : Far ρ up s ev
  ·by_cases hl : Low ρ dn ev
   ·by_cases hc : c > 0
    ·obtain ⟨K3, h3⟩ := up1 (by unfold pickX; rw [if_pos ⟨hf, .inr (.inl (by omega))⟩])
     refine ⟨K1 + K2 + K3 + 1, fun k hk => ?_⟩
     dsimp only
     try dsimp only at h1
     try dsimp only at h2
     try dsimp only at h3
     try dsimp only at h4
     obtain ⟨k', rfl⟩ : ∃ k', k = k' + 1 := ⟨k - 1, by omega⟩
     rw [dec_shortest.j6, if_neg (by decide), h1 k' (by omega), Option.bind_some, h2 k' (by omega), Option.bind_some, if_pos (decide_eq_true hf), if_pos (decide_eq_true hl), if_pos hc, if_pos hlen]
     exact h3 k' (by omega)
    ·by_cases hc0 : c = 0
     ·by_cases ho : Int.tmod ((Q % 10 : Nat) : Int) 2 = 1
      ·obtain ⟨K3, h3⟩ := up1 (by unfold pickX; rw [if_pos ⟨hf, .inr (.inr ⟨by omega, hodd.1 ho⟩)⟩])
       refine ⟨K1 + K2 + K3 + 1, fun k hk => ?_⟩
       dsimp only
       try dsimp only at h1
       try dsimp only at h2
       try dsimp only at h3
       try dsimp only at h4
       obtain ⟨k', rfl⟩ : ∃ k', k = k' + 1 := ⟨k - 1, by omega⟩
       rw [dec_shortest.j6, if_neg (by decide), h1 k' (by omega), Option.bind_some, h2 k' (by omega), Option.bind_some, if_pos (decide_eq_true hf), if_pos (decide_eq_true hl), if_neg hc, if_pos hc0, if_pos ho, if_pos hlen]
       exact h3 k' (by omega)
      ·obtain ⟨K3, h3⟩ := up0 (by
        unfold pickX
        rw [if_neg]
        rintro ⟨_, h | h | ⟨_, h⟩⟩
        ·exact h hl
        ·omega
        ·exact ho (hodd.2 h))
       refine ⟨K1 + K2 + K3 + 1, fun k hk => ?_⟩
       dsimp only
       try dsimp only at h1
       try dsimp only at h2
       try dsimp only at h3
       try dsimp only at h4
       obtain ⟨k', rfl⟩ : ∃ k', k = k' + 1 := ⟨k - 1, by omega⟩
       rw [dec_shortest.j6, if_neg (by decide), h1 k' (by omega), Option.bind_some, h2 k' (by omega), Option.bind_some, if_pos (decide_eq_true hf), if_pos (decide_eq_true hl), if_neg hc, if_pos hc0, if_neg ho, if_pos hlen]
       exact h3 k' (by omega)
     ·obtain ⟨K3, h3⟩ := up0 (by
       unfold pickX
       rw [if_neg]
       rintro ⟨_, h | h | ⟨h, _⟩⟩
       ·exact h hl
       ·omega
       ·omega)
      refine ⟨K1 + K2 + K3 + 1, fun k hk => ?_⟩
      dsimp only
      try dsimp only at h1
      try dsimp only at h2
      try dsimp only at h3
      try dsimp only at h4
      obtain ⟨k', rfl⟩ : ∃ k', k = k' + 1 := ⟨k - 1, by omega⟩
      rw [dec_shortest.j6, if_neg (by decide), h1 k' (by omega), Option.bind_some, h2 k' (by omega), Option.bind_some, if_pos (decide_eq_true hf), if_pos (decide_eq_true hl), if_neg hc, if_neg hc0, if_pos hlen]
      exact h3 k' (by omega)
   ·obtain ⟨K3, h3⟩ := up1 (by unfold pickX; rw [if_pos ⟨hf, .inl hl⟩])
    refine ⟨K1 + K2 + K3 + 1, fun k hk => ?_⟩
    dsimp only
    try dsimp only at h1
    try dsimp only at h2
    try dsimp only at h3
    try dsimp only at h4
    obtain ⟨k', rfl⟩ : ∃ k', k = k' + 1 := ⟨k - 1, by omega⟩
    rw [dec_shortest.j6, if_neg (by decide), h1 k' (by omega), Option.bind_some, h2 k' (by omega), Option.bind_some, if_pos (decide_eq_true hf), if_neg (by rw [decide_eq_false hl]; decide), if_pos hlen]
    exact h3 k' (by omega)
  ·obtain ⟨K3, h3⟩ := up0 (by unfold pickX; rw [if_neg (fun h => hf h.1)])
   refine ⟨K1 + K2 + K3 + 1, fun k hk => ?_⟩
   dsimp only
   try dsimp only at h1
   try dsimp only at h2
   try dsimp only at h3
   try dsimp only at h4
   obtain ⟨k', rfl⟩ : ∃ k', k = k' + 1 := ⟨k - 1, by omega⟩
   rw [dec_shortest.j6, if_neg (by decide), h1 k' (by omega), Option.bind_some, h2 k' (by omega), Option.bind_some, if_neg (by rw [decide_eq_false hf]; decide), if_pos hlen]
   exact h3 k' (by omega)
 refine Ev.step (fun k => ?_) main
 rw [dec_shortest.j5]
 by_cases hl : Low ρ dn ev
 ·rw [if_pos (decide_eq_true hl)]
 ·have hf : Far ρ up s ev := hstop.resolve_left hl
  rw [if_neg (by rw [decide_eq_false hl]; decide), decide_eq_true hf]
  rfl
theorem on_ev (m Q ρ dn up s M : Nat) (ev : Bool) (e : Int) (r : ByteArray × Int) (hM : M ≤ 800000) (hρ : ρ < 2 ^ M) (hd : dn < 2 ^ M) (hu : up < 2 ^ M) (hm : m ≤ 1000) (hstop : ¬ Stop ρ dn up s ev)
  (h : Ev (fun k => dec_shortest.l2 k e (dl (m + 1) Q) (toB (ρ * 10)) (toB s) (toB (dn * 10)) (toB (up * 10)) ev) r) :
  Ev (fun k => dec_shortest.j5 k e (dl m (Q / 10)) ((Q % 10 : Nat) : Int) (decide (Low ρ dn ev)) (decide (Far ρ up s ev)) (toB ρ) (toB s) (toB dn) (toB up) ev) r := by
 have hn : Q % 10 ≤ 9 := by have := Nat.mod_lt Q (show 0 < 10 by decide); omega
 have hl : ¬ Low ρ dn ev := fun h => hstop (.inl h)
 have hf : ¬ Far ρ up s ev := fun h => hstop (.inr h)
 have l1 := len_big hρ (by omega)
 have l2 := len_big hd (by omega)
 have l3 := len_big hu (by omega)
 obtain ⟨K1, h1⟩ := ten_ev' ρ (by omega)
 obtain ⟨K2, h2⟩ := ten_ev' dn (by omega)
 obtain ⟨K3, h3⟩ := ten_ev' up (by omega)
 obtain ⟨K4, h4⟩ := h
 have hlen : (dl m (Q / 10)).length < 140737488355328 := by rw [dl_length]; omega
 have eL : dl m (Q / 10) ++ [(48 + ((Q % 10 : Nat) : Int)) % 256] = dl (m + 1) Q := by
  rw [add_dig _ hn, dl]
  rfl
 refine ⟨K1 + K2 + K3 + K4 + 2, fun k hk => ?_⟩
 dsimp only
 try dsimp only at h1
 try dsimp only at h2
 try dsimp only at h3
 try dsimp only at h4
 obtain ⟨k', rfl⟩ : ∃ k', k = k' + 1 + 1 := ⟨k - 2, by omega⟩
 have g1 := h1 k' (by omega)
 have g2 := h2 k' (by omega)
 have g3 := h3 k' (by omega)
 have g4 := h4 k' (by omega)
 rw [dec_shortest.j5, if_neg (by rw [decide_eq_false hl]; decide), decide_eq_false hf, dec_shortest.j6, if_pos (show (!false) = true from rfl), if_pos hlen]
 rw [g1, Option.bind_some, g2, Option.bind_some, g3, Option.bind_some, eL]
 exact g4
theorem count_ev (ρ dn up s M : Nat) (ev : Bool) (e : Int) (x8 : List Int) (n : Nat) (hn : n ≤ 9) (r : ByteArray × Int) (hM : M ≤ 800000) (hρ : ρ < s) (hs : 16 * s < 2 ^ M) (hd : dn < 2 ^ M) (hu : up < 2 ^ M)
  (h : Ev (fun k => dec_shortest.j5 k e x8 (n : Int) (decide (Low ρ dn ev)) (decide (Far ρ up s ev)) (toB ρ) (toB s) (toB dn) (toB up) ev) r) :
  ∀ d c : Nat, c + d = n → Ev (fun k => dec_shortest.l3 k e x8 (c : Int) (toB (d * s + ρ)) (toB s) (toB dn) (toB up) ev) r
 | 0, c, hc => by
  obtain rfl : c = n := by omega
  rw [Nat.zero_mul, Nat.zero_add]
  have l1 := len_big (show ρ < 2 ^ M by omega) (by omega)
  have l2 := len_big (show s < 2 ^ M by omega) (by omega)
  have l3 := len_big hd (by omega)
  obtain ⟨c1, ⟨K1, h1⟩, a1, a2⟩ := cmp_ev ρ s (by omega) (by omega)
  obtain ⟨c2, ⟨K2, h2⟩, b1, b2⟩ := cmp_ev ρ dn (by omega) (by omega)
  obtain ⟨K3, h3⟩ := high_ev ρ up s M ev (by omega) (by omega) hu (by omega)
  obtain ⟨K4, h4⟩ := h
  refine ⟨K1 + K2 + K3 + K4 + 1, fun k hk => ?_⟩
  dsimp only
  try dsimp only at h1
  try dsimp only at h2
  try dsimp only at h3
  try dsimp only at h4
  obtain ⟨k', rfl⟩ : ∃ k', k = k' + 1 := ⟨k - 1, by omega⟩
  have g4 := h4 k' (by omega)
  rw [dec_shortest.l3, h1 k' (by omega), Option.bind_some, if_neg (by omega), h2 k' (by omega), Option.bind_some, h3 k' (by omega), Option.bind_some, Option.bind_some, Option.bind_some]
  by_cases hlt : c2 < 0
  ·rw [if_pos hlt]
   rw [decide_eq_true (show Low ρ dn ev from .inl (b1.1 hlt))] at g4
   exact g4
  ·rw [if_neg hlt]
   cases ev with
   | true =>
    rw [if_pos rfl]
    have e1 : (c2 == 0) = decide (Low ρ dn true) := by
     rw [show (c2 == 0) = decide (c2 = 0) from rfl]
     refine decide_eq_decide.2 ?_
     unfold Low
     simp only [and_true]
     omega
    rw [e1]
    exact g4
   | false =>
    rw [if_neg (by decide)]
    have e1 : decide (Low ρ dn false) = false := by
     refine decide_eq_false ?_
     unfold Low
     simp only [Bool.false_eq_true, and_false, or_false]
     omega
    rw [e1] at g4
    exact g4
 | d + 1, c, hc => by
  have hds : d ≤ 9 := by omega
  have hsum : (d + 1) * s + ρ < 2 ^ M := by
   have : (d + 1) * s ≤ 10 * s := Nat.mul_le_mul_right _ (by omega)
   omega
  have l1 := len_big hsum (by omega)
  have l2 := len_big (show s < 2 ^ M by omega) (by omega)
  have hge : s ≤ (d + 1) * s + ρ := by rw [Nat.succ_mul]; omega
  obtain ⟨c1, ⟨K1, h1⟩, a1, a2⟩ := cmp_ev ((d + 1) * s + ρ) s (by omega) (by omega)
  obtain ⟨K2, h2⟩ := minus_ev ((d + 1) * s + ρ) s hge (by omega)
  obtain ⟨K3, h3⟩ := count_ev ρ dn up s M ev e x8 n hn r hM hρ hs hd hu h d (c + 1) (by omega)
  refine ⟨K1 + K2 + K3 + 1, fun k hk => ?_⟩
  dsimp only
  try dsimp only at h1
  try dsimp only at h2
  try dsimp only at h3
  try dsimp only at h4
  obtain ⟨k', rfl⟩ : ∃ k', k = k' + 1 := ⟨k - 1, by omega⟩
  have g2 := h2 k' (by omega)
  rw [show (d + 1) * s + ρ - s = d * s + ρ by rw [Nat.succ_mul]; omega] at g2
  rw [dec_shortest.l3, h1 k' (by omega), Option.bind_some, if_pos (by omega), g2, Option.bind_some, show (((c : Int) + 1) % 256) = ((c + 1 : Nat) : Int) by omega]
  exact h3 k' (by omega)
end Go.Proofs.YtflcanpajgpghaaDoor.Pure
end
section
namespace Go.Proofs.YtflcanpajgpghaaDoor.Pure
open Go.RowKit Go.Proofs.YtflcanpajgpghaaDoor.Pr Go.Proofs.YtflcanpajgpghaaDoorW.PrintWords Go.Proofs.YtflcanpajgpghaaDoorW.PrintLast Go.Proofs.YtflcanpajgpghaaDoorW.PrintMore Go.Proofs.YtflcanpajgpghaaDoor.Flo
theorem next_stage (T s : Nat) (hs : 0 < s) : T * 10 / s / 10 = T / s ∧ (T * 10 / s % 10) * s + T * 10 % s = (T % s) * 10 := by
 have hρ := Nat.mod_lt T hs
 have hT := Nat.div_add_mod T s
 have h10 := Nat.div_add_mod (T % s * 10) s
 have e1 : T * 10 = T % s * 10 + s * (10 * (T / s)) := by
  rw [Nat.mul_left_comm]
  omega
 have hlt : T % s * 10 / s < 10 := Nat.div_lt_of_lt_mul (by omega)
 have e2 : T * 10 / s = T % s * 10 / s + 10 * (T / s) := by rw [e1, Nat.add_mul_div_left _ _ hs]
 have e3 : T * 10 % s = T % s * 10 % s := by rw [e1, Nat.add_mul_mod_self_left]
 rw [e2, e3]
 obtain ⟨x, hx⟩ : ∃ x, x = T % s * 10 / s := ⟨_, rfl⟩
 rw [← hx] at hlt h10 ⊢
 generalize T / s = y
 constructor
 ·omega
 ·rw [show (x + 10 * y) % 10 = x by omega, Nat.mul_comm]
  exact h10
theorem pow_up {x a b M : Nat} (h : x * 10 ^ b < 2 ^ M) (hab : a ≤ b) : x * 10 ^ a < 2 ^ M := Nat.lt_of_le_of_lt (Nat.mul_le_mul_left _ (Nat.pow_le_pow_right (by decide) hab)) h
theorem gen_ev (r s dn up M : Nat) (ev : Bool) (e : Int) (hs : 0 < s) (hr : r < 10 * s) (hM : M ≤ 800000) (hsM : 16 * s < 2 ^ M) (he : -100000 ≤ e) (he2 : e ≤ 100000) :
  ∀ n m : Nat, m + n ≤ 1000 → dn * 10 ^ (m + n) < 2 ^ M → up * 10 ^ (m + n) < 2 ^ M → (∃ j, m ≤ j ∧ j < m + n ∧ Stop (r * 10 ^ j % s) (dn * 10 ^ j) (up * 10 ^ j) s ev) →
  (s ≤ r ∨ (m = 0 ∧ Stop (r * 10 ^ 0 % s) (dn * 10 ^ 0) (up * 10 ^ 0) s ev ∧ 1 ≤ pickX (r * 10 ^ 0 / s) (r * 10 ^ 0 % s) (dn * 10 ^ 0) (up * 10 ^ 0) s ev)) →
  Ev (fun k => dec_shortest.l2 k e (dl m (r * 10 ^ m / s / 10)) (toB ((r * 10 ^ m / s % 10) * s + r * 10 ^ m % s)) (toB s) (toB (dn * 10 ^ m)) (toB (up * 10 ^ m)) ev) (outF (gen r s dn up ev n m) e)
 | 0, m, _, _, _, h, _ => by obtain ⟨j, h1, h2, _⟩ := h; omega
 | n + 1, m, hmn, hd, hu, h, h0 => by
  have hρ := Nat.mod_lt (r * 10 ^ m) hs
  have hQ : r * 10 ^ m / s / 10 < 10 ^ m := by
   rw [Nat.div_div_eq_div_mul]
   refine Nat.div_lt_of_lt_mul ?_
   rw [Nat.mul_comm s 10]
   exact Nat.mul_lt_mul_of_pos_right hr (Nat.pow_pos (by decide))
  have hn9 : r * 10 ^ m / s % 10 ≤ 9 := by have := Nat.mod_lt (r * 10 ^ m / s) (show 0 < 10 by decide); omega
  have hdm := pow_up hd (Nat.le_add_right m (n + 1))
  have hum := pow_up hu (Nat.le_add_right m (n + 1))
  have main : Ev (fun k => dec_shortest.j5 k e (dl m (r * 10 ^ m / s / 10)) ((r * 10 ^ m / s % 10 : Nat) : Int) (decide (Low (r * 10 ^ m % s) (dn * 10 ^ m) ev)) (decide (Far (r * 10 ^ m % s) (up * 10 ^ m) s ev)) (toB (r * 10 ^ m % s)) (toB s) (toB (dn * 10 ^ m)) (toB (up * 10 ^ m)) ev) (outF (gen r s dn up ev (n + 1) m) e) := by
   rw [gen]
   by_cases hst : Stop (r * 10 ^ m % s) (dn * 10 ^ m) (up * 10 ^ m) s ev
   ·rw [if_pos hst]
    refine end_ev m (r * 10 ^ m / s) (r * 10 ^ m % s) (dn * 10 ^ m) (up * 10 ^ m) s M ev e hM (by omega) (by omega) hQ (by omega) he he2 hst ?_
    rcases h0 with h0 | ⟨h0, h1, h2⟩
    ·have : 10 ^ m ≤ r * 10 ^ m / s := by
      rw [Nat.le_div_iff_mul_le hs, Nat.mul_comm]
      exact Nat.mul_le_mul_right _ h0
     unfold pickX
     split <;> omega
    ·rw [h0, Nat.pow_zero]
     rw [Nat.pow_zero] at h2
     exact h2
   ·rw [if_neg hst]
    have hnx := next_stage (r * 10 ^ m) s hs
    rw [Nat.mul_assoc, ← Nat.pow_succ] at hnx
    refine on_ev m (r * 10 ^ m / s) (r * 10 ^ m % s) (dn * 10 ^ m) (up * 10 ^ m) s M ev e _ hM (by omega) hdm hum (by omega) hst ?_
    have ih := gen_ev r s dn up M ev e hs hr hM hsM he he2 n (m + 1) (by omega) (by rw [show m + 1 + n = m + (n + 1) by omega]; exact hd) (by rw [show m + 1 + n = m + (n + 1) by omega]; exact hu) ?_ ?_
    ·rw [hnx.1, hnx.2, Nat.pow_succ, ← Nat.mul_assoc, ← Nat.mul_assoc] at ih
     exact ih
    ·obtain ⟨j, h1, h2, h3⟩ := h
     have hj : m ≠ j := fun hj => hst (hj ▸ h3)
     exact ⟨j, by omega, by omega, h3⟩
    ·rcases h0 with h0 | ⟨h0, h1, _⟩
     ·exact .inl h0
     ·rw [h0] at hst
      exact absurd h1 hst
  have hc := count_ev (r * 10 ^ m % s) (dn * 10 ^ m) (up * 10 ^ m) s M ev e (dl m (r * 10 ^ m / s / 10)) (r * 10 ^ m / s % 10) hn9 _ hM hρ hsM hdm hum main (r * 10 ^ m / s % 10) 0 (by omega)
  refine Ev.step (fun k => ?_) hc
  rw [dec_shortest.l2]
  rfl
theorem far_scale {r up s : Nat} {ev : Bool} : Far (r * 10) (up * 10) (s * 10) ev ↔ Far r up s ev := by
 unfold Far
 constructor
 ·rintro (h | ⟨h, h2⟩)
  ·exact .inl (by omega)
  ·exact .inr ⟨by omega, h2⟩
 ·rintro (h | ⟨h, h2⟩)
  ·exact .inl (by omega)
  ·exact .inr ⟨by omega, h2⟩
theorem far_le {r up s : Nat} {ev : Bool} (h : ¬ Far r up s ev) : r + up ≤ s := Nat.le_of_not_lt (fun g => h (.inl g))
theorem down_ev (R S D U q M : Nat) (ev : Bool) (hU : 0 < U) (hD : D ≤ R) (hM : M ≤ 800000) (hsM : 16 * (S * 10 ^ q) < 2 ^ M) (hq : q ≤ 50000) :
  ∀ d p : Nat, p + d ≤ 50000 → S * 10 ^ q ≤ R * 10 ^ (p + d) → ¬ Far (R * 10 ^ p) (U * 10 ^ p) (S * 10 ^ (q + 1)) ev →
  ∃ p', p ≤ p' ∧ p' ≤ p + d ∧ Far (R * 10 ^ p') (U * 10 ^ p') (S * 10 ^ q) ev ∧ ¬ Far (R * 10 ^ p') (U * 10 ^ p') (S * 10 ^ (q + 1)) ev ∧
   ∀ res, Ev (fun k => dec_shortest.l2 k ((q : Int) - p') ([] : List Int) (toB (R * 10 ^ p')) (toB (S * 10 ^ q)) (toB (D * 10 ^ p')) (toB (U * 10 ^ p')) ev) res →
    Ev (fun k => dec_shortest.l1 k ((q : Int) - p) (toB (R * 10 ^ p)) (toB (S * 10 ^ q)) (toB (D * 10 ^ p)) (toB (U * 10 ^ p)) ev) res := by
 intro d
 induction d with
 | zero =>
  intro p hp hd hn
  have hle := far_le hn
  rw [Nat.pow_succ, ← Nat.mul_assoc] at hle
  have hU2 : 0 < U * 10 ^ p := Nat.mul_pos hU (ten_pos p)
  have hf : Far (R * 10 ^ p) (U * 10 ^ p) (S * 10 ^ q) ev := .inl (by rw [Nat.add_zero] at hd; omega)
  refine ⟨p, Nat.le_refl _, Nat.le_refl _, hf, hn, fun res h => ?_⟩
  obtain ⟨K1, h1⟩ := high_ev (R * 10 ^ p) (U * 10 ^ p) (S * 10 ^ q) M ev (by omega) (by omega) (by omega) (by omega)
  obtain ⟨K2, h2⟩ := h
  refine ⟨K1 + K2 + 1, fun k hk => ?_⟩
  dsimp only at h1 h2 ⊢
  obtain ⟨k', rfl⟩ : ∃ k', k = k' + 1 := ⟨k - 1, by omega⟩
  rw [dec_shortest.l1, h1 k' (by omega), Option.bind_some, if_pos (decide_eq_true hf)]
  exact h2 k' (by omega)
 | succ d ih =>
  intro p hp hd hn
  have hle := far_le hn
  rw [Nat.pow_succ, ← Nat.mul_assoc] at hle
  have hDp : D * 10 ^ p ≤ R * 10 ^ p := Nat.mul_le_mul_right _ hD
  by_cases hf : Far (R * 10 ^ p) (U * 10 ^ p) (S * 10 ^ q) ev
  ·refine ⟨p, Nat.le_refl _, by omega, hf, hn, fun res h => ?_⟩
   obtain ⟨K1, h1⟩ := high_ev (R * 10 ^ p) (U * 10 ^ p) (S * 10 ^ q) M ev (by omega) (by omega) (by omega) (by omega)
   obtain ⟨K2, h2⟩ := h
   refine ⟨K1 + K2 + 1, fun k hk => ?_⟩
   dsimp only at h1 h2 ⊢
   obtain ⟨k', rfl⟩ : ∃ k', k = k' + 1 := ⟨k - 1, by omega⟩
   rw [dec_shortest.l1, h1 k' (by omega), Option.bind_some, if_pos (decide_eq_true hf)]
   exact h2 k' (by omega)
  ·obtain ⟨p', g1, g2, g3, g4, g5⟩ := ih (p + 1) (by omega) (by rw [show p + 1 + d = p + (d + 1) by omega]; exact hd) (by
    rw [Nat.pow_succ, Nat.pow_succ, ← Nat.mul_assoc, ← Nat.mul_assoc, ← Nat.mul_assoc, far_scale]
    exact hf)
   refine ⟨p', by omega, by omega, g3, g4, fun res h => ?_⟩
   obtain ⟨K0, h0⟩ := g5 res h
   obtain ⟨K1, h1⟩ := high_ev (R * 10 ^ p) (U * 10 ^ p) (S * 10 ^ q) M ev (by omega) (by omega) (by omega) (by omega)
   obtain ⟨K2, h2⟩ := ten_ev' (R * 10 ^ p) (by have := len_big (show R * 10 ^ p < 2 ^ M by omega) (by omega); omega)
   obtain ⟨K3, h3⟩ := ten_ev' (D * 10 ^ p) (by have := len_big (show D * 10 ^ p < 2 ^ M by omega) (by omega); omega)
   obtain ⟨K4, h4⟩ := ten_ev' (U * 10 ^ p) (by have := len_big (show U * 10 ^ p < 2 ^ M by omega) (by omega); omega)
   refine ⟨K0 + K1 + K2 + K3 + K4 + 1, fun k hk => ?_⟩
   dsimp only at h0 h1 h2 h3 h4 ⊢
   obtain ⟨k', rfl⟩ : ∃ k', k = k' + 1 := ⟨k - 1, by omega⟩
   have g0 := h0 k' (by omega)
   rw [Nat.pow_succ, ← Nat.mul_assoc, ← Nat.mul_assoc, ← Nat.mul_assoc] at g0
   rw [dec_shortest.l1, h1 k' (by omega), Option.bind_some, if_neg (by rw [decide_eq_false hf]; decide), h2 k' (by omega), Option.bind_some, h3 k' (by omega), Option.bind_some, h4 k' (by omega), Option.bind_some, wrapB _ (by omega) (by omega), show (q : Int) - p - 1 = (q : Int) - ((p + 1 : Nat) : Int) by omega]
   exact g0
theorem up_ev' (R S D U p M : Nat) (ev : Bool) (hM : M ≤ 800000) (hrM : R * 10 ^ p + U * 10 ^ p < 2 ^ M) (hp : p ≤ 50000) :
  ∀ d q : Nat, q + d ≤ 50000 → R * 10 ^ p + U * 10 ^ p < S * 10 ^ (q + 1 + d) → S * 10 ^ q < 2 ^ M →
  ∃ q', q ≤ q' ∧ q' ≤ q + d ∧ S * 10 ^ q' < 2 ^ M ∧ ¬ Far (R * 10 ^ p) (U * 10 ^ p) (S * 10 ^ (q' + 1)) ev ∧
   ∀ res, Ev (fun k => dec_shortest.l1 k ((q' : Int) - p) (toB (R * 10 ^ p)) (toB (S * 10 ^ q')) (toB (D * 10 ^ p)) (toB (U * 10 ^ p)) ev) res →
    Ev (fun k => dec_shortest.l0 k ((q : Int) - p) (toB (R * 10 ^ p)) (toB (S * 10 ^ q)) (toB (D * 10 ^ p)) (toB (U * 10 ^ p)) ev) res := by
 intro d
 induction d with
 | zero =>
  intro q hq hd hsM
  have hn : ¬ Far (R * 10 ^ p) (U * 10 ^ p) (S * 10 ^ (q + 1)) ev := by
   unfold Far
   rw [Nat.add_zero] at hd
   omega
  refine ⟨q, Nat.le_refl _, Nat.le_refl _, hsM, hn, fun res h => ?_⟩
  have e10 : S * 10 ^ q * 10 = S * 10 ^ (q + 1) := by rw [Nat.pow_succ, Nat.mul_assoc]
  have hb : S * 10 ^ (q + 1) < 2 ^ (M + 4) := by rw [← e10, Nat.pow_add]; omega
  obtain ⟨K1, h1⟩ := high_ev (R * 10 ^ p) (U * 10 ^ p) (S * 10 ^ (q + 1)) (M + 4) ev (by omega) (by rw [Nat.pow_add]; omega) (by rw [Nat.pow_add]; omega) hb
  obtain ⟨K2, h2⟩ := ten_ev' (S * 10 ^ q) (by have := len_big hsM (by omega); omega)
  obtain ⟨K3, h3⟩ := h
  refine ⟨K1 + K2 + K3 + 1, fun k hk => ?_⟩
  dsimp only at h1 h2 h3 ⊢
  obtain ⟨k', rfl⟩ : ∃ k', k = k' + 1 := ⟨k - 1, by omega⟩
  rw [dec_shortest.l0, h2 k' (by omega), Option.bind_some, e10, h1 k' (by omega), Option.bind_some, if_neg (by rw [decide_eq_false hn]; decide)]
  exact h3 k' (by omega)
 | succ d ih =>
  intro q hq hd hsM
  have e10 : S * 10 ^ q * 10 = S * 10 ^ (q + 1) := by rw [Nat.pow_succ, Nat.mul_assoc]
  have hb : S * 10 ^ (q + 1) < 2 ^ (M + 4) := by rw [← e10, Nat.pow_add]; omega
  obtain ⟨K1, h1⟩ := high_ev (R * 10 ^ p) (U * 10 ^ p) (S * 10 ^ (q + 1)) (M + 4) ev (by omega) (by rw [Nat.pow_add]; omega) (by rw [Nat.pow_add]; omega) hb
  obtain ⟨K2, h2⟩ := ten_ev' (S * 10 ^ q) (by have := len_big hsM (by omega); omega)
  dsimp only at h1 h2
  by_cases hf : Far (R * 10 ^ p) (U * 10 ^ p) (S * 10 ^ (q + 1)) ev
  ·have hle : S * 10 ^ (q + 1) ≤ R * 10 ^ p + U * 10 ^ p := by
    rcases hf with hf | hf
    ·exact Nat.le_of_lt hf
    ·exact Nat.le_of_eq hf.1
   obtain ⟨q', g1, g2, g3, g4, g5⟩ := ih (q + 1) (by omega) (by rw [show q + 1 + 1 + d = q + 1 + (d + 1) by omega]; exact hd) (by omega)
   refine ⟨q', by omega, by omega, g3, g4, fun res h => ?_⟩
   obtain ⟨K3, h3⟩ := g5 res h
   refine ⟨K1 + K2 + K3 + 1, fun k hk => ?_⟩
   dsimp only at h3 ⊢
   obtain ⟨k', rfl⟩ : ∃ k', k = k' + 1 := ⟨k - 1, by omega⟩
   rw [dec_shortest.l0, h2 k' (by omega), Option.bind_some, e10, h1 k' (by omega), Option.bind_some, if_pos (decide_eq_true hf), Option.bind_some, wrapB _ (by omega) (by omega), show (q : Int) - p + 1 = ((q + 1 : Nat) : Int) - p by omega]
   exact h3 k' (by omega)
  ·refine ⟨q, Nat.le_refl _, by omega, hsM, hf, fun res h => ?_⟩
   obtain ⟨K3, h3⟩ := h
   refine ⟨K1 + K2 + K3 + 1, fun k hk => ?_⟩
   dsimp only at h3 ⊢
   obtain ⟨k', rfl⟩ : ∃ k', k = k' + 1 := ⟨k - 1, by omega⟩
   rw [dec_shortest.l0, h2 k' (by omega), Option.bind_some, e10, h1 k' (by omega), Option.bind_some, if_neg (by rw [decide_eq_false hf]; decide)]
   exact h3 k' (by omega)
end Go.Proofs.YtflcanpajgpghaaDoor.Pure
end
section
namespace Go.Proofs.YtflcanpajgpghaaDoor.Flo
theorem sp_same {n j q P M : Nat} (hu : units n = q * 2 ^ j) (hu1 : units (n + 1) = (q + 1) * 2 ^ j) (hd : units n - units (n - 1) = 2 ^ j) (hM : 0 < M) (hK : P * K = 2 * 2 ^ j * M) : Sp n (q * 2 * P) (2 * M) P P := by
 refine ⟨by omega, ?_, ?_, ?_⟩
 ·rw [Nat.mul_assoc, hK, hu, Nat.mul_assoc q 2, Nat.mul_left_comm q 2, Nat.mul_assoc 2 (q * 2 ^ j), Nat.mul_assoc q (2 ^ j), Nat.mul_assoc 2 (2 ^ j) M, Nat.mul_left_comm (2 ^ j) 2 M]
 ·rw [hK, hd, Nat.mul_left_comm, Nat.mul_assoc]
 ·rw [hK, hu, hu1, Nat.add_mul, Nat.one_mul, Nat.add_sub_cancel_left, Nat.mul_left_comm, Nat.mul_assoc]
theorem sp_half {n j q P M : Nat} (hu : units n = q * 2 ^ j) (hu1 : units (n + 1) = (q + 1) * 2 ^ j) (hd : 2 * (units n - units (n - 1)) = 2 ^ j) (hM : 0 < M) (hK : P * K = 2 * 2 ^ j * M) : Sp n (q * 4 * P) (4 * M) P (2 * P) := by
 refine ⟨by omega, ?_, ?_, ?_⟩
 ·rw [Nat.mul_assoc, hK, hu]
  generalize 2 ^ j = J
  rw [show 2 * J * M = 2 * (J * M) from Nat.mul_assoc _ _ _, show 2 * (q * J) * (4 * M) = 2 * (4 * (q * (J * M))) by rw [Nat.mul_assoc, Nat.mul_left_comm (q * J) 4, Nat.mul_assoc q]]
  rw [show q * 4 * (2 * (J * M)) = 4 * (2 * (q * (J * M))) by rw [Nat.mul_comm q 4, Nat.mul_assoc, Nat.mul_left_comm q 2]]
  omega
 ·rw [hK, ← hd]
  generalize units n - units (n - 1) = J
  rw [show 2 * (2 * J) * M = 4 * (J * M) by rw [← Nat.mul_assoc, Nat.mul_assoc], Nat.mul_left_comm]
 ·rw [Nat.mul_assoc, hK, hu, hu1, Nat.add_mul, Nat.one_mul, Nat.add_sub_cancel_left]
  generalize 2 ^ j = J
  rw [show 2 * (2 * J * M) = 4 * (J * M) by rw [Nat.mul_assoc 2 J M, ← Nat.mul_assoc 2 2], Nat.mul_left_comm]
theorem span_K (j : Nat) (e : Int) (he : (j : Int) = e + 1074) : 2 ^ e.toNat * K = 2 * 2 ^ j * 2 ^ (-e).toNat := by
 obtain ⟨E, hE, hK⟩ := K_exp
 rw [hK, ← Nat.pow_add, Nat.mul_comm 2, ← Nat.pow_succ, ← Nat.pow_add, show e.toNat + E = j + 1 + (-e).toNat by omega]
end Go.Proofs.YtflcanpajgpghaaDoor.Flo
end
section
namespace Go.Proofs.YtflcanpajgpghaaDoor.Pure
open Go.RowKit Go.Proofs.YtflcanpajgpghaaDoor.Pr Go.Proofs.YtflcanpajgpghaaDoorW.PrintWords Go.Proofs.YtflcanpajgpghaaDoorW.PrintLast Go.Proofs.YtflcanpajgpghaaDoorW.PrintMore Go.Proofs.YtflcanpajgpghaaDoor.Flo
theorem kind_fin {a : Nat} (h0 : 0 < rung a) (h1 : rung a < INF) : kindV a = if rung a < 4503599627370496 then 1 else 2 := by
 unfold INF at h1
 unfold kindV nanB infB
 rw [if_neg (by rw [decide_eq_true_iff]; omega), if_neg (by omega), if_neg (by rw [decide_eq_true_iff]; omega)]
theorem and_mask (a : Nat) (h : a < 18446744073709551616) : Go.bits .and .u64 (a : Int) 2047 = ((a % 2048 : Nat) : Int) := by
 have := bits_and a 2047 h (by decide)
 rw [show (2047 : Nat) = 2 ^ 11 - 1 from rfl, Nat.and_two_pow_sub_one_eq_mod] at this
 exact this
theorem or_hidden (b : Nat) (h : b < 4503599627370496) : Go.bits .or .u64 (b : Int) 4503599627370496 = ((4503599627370496 + b : Nat) : Int) := by
 have h1 := bits_or b 4503599627370496 (by omega) (by decide)
 have h2 := Nat.two_pow_add_eq_or_of_lt (i := 52) h 1
 rw [Nat.mul_one] at h2
 rw [Nat.or_comm, show (4503599627370496 : Nat) = 2 ^ 52 from rfl, ← h2] at h1
 exact h1
theorem parts_ev (a : Nat) (ha : a < 18446744073709551616) (h0 : 0 < rung a) (h1 : rung a < INF) : ∃ (j q : Nat) (b : Bool), rung a = j * 4503599627370496 + q ∧ q < 9007199254740992 ∧ (j = 0 ∨ 4503599627370496 ≤ q) ∧ j ≤ 2045 ∧ flo_Parts.f (a : Int) = some (b, (j : Int) - 1074, (q : Int)) := by
 have hk : flo_kind.f (a : Int) = some (kindV a) := by
  unfold flo_kind.f
  rw [if_pos (by omega), Int.toNat_natCast]
 have hf := kind_fin h0 h1
 have hr : rung a = a % 9223372036854775808 := rfl
 unfold INF at h1
 by_cases h : rung a < 4503599627370496
 ·rw [if_pos h] at hf
  refine ⟨0, rung a, ((a : Int) / 9223372036854775808 == 1), by omega, by omega, .inl rfl, by omega, ?_⟩
  rw [flo_Parts.f, hk, hf, Option.bind_some, if_pos rfl, and_frac a ha, show a % 4503599627370496 = rung a by omega]
  rfl
 ·rw [if_neg h] at hf
  refine ⟨rung a / 4503599627370496 - 1, 4503599627370496 + a % 4503599627370496, ((a : Int) / 9223372036854775808 == 1), by omega, by omega, .inr (by omega), by omega, ?_⟩
  have e1 : ((a : Int) / 4503599627370496) = ((a / 4503599627370496 : Nat) : Int) := by omega
  rw [flo_Parts.f, hk, hf, Option.bind_some, if_neg (by decide), if_pos rfl, and_frac a ha, or_hidden _ (by omega), e1, and_mask _ (by omega), wrapB ((a / 4503599627370496 % 2048 : Nat) : Int) (by omega) (by omega), wrapB _ (by omega) (by omega), show (((a / 4503599627370496 % 2048 : Nat) : Int) - 1075) = ((rung a / 4503599627370496 - 1 : Nat) : Int) - 1074 by omega]
theorem of_ev (n : Nat) (h : n < 18446744073709551616) : Ev (fun k => dec_of.f k (n : Int)) (toB n) := by
 have hp : Parts [(n : Int) % 4294967296, ((n : Int) / 4294967296) % 4294967296] := by
  intro x hx
  rcases List.mem_cons.1 hx with rfl | hx
  ·omega
  ·rw [List.mem_singleton.1 hx]; omega
 have hv : valB [(n : Int) % 4294967296, ((n : Int) / 4294967296) % 4294967296] = n := by
  simp only [valB]
  omega
 have ht := trim_ev 2 _ rfl hp (by decide)
 rw [hv] at ht
 have h1 : Ev (fun k => dec_big_trim.f k [(n : Int) % 4294967296, ((n : Int) / 4294967296) % 4294967296]) (toB n) := Ev.congr (fun k => rfl) ht
 have h2 : Ev (fun k => (dec_big_trim.f k [(n : Int) % 4294967296, ((n : Int) / 4294967296) % 4294967296]).bind fun t => some t) (toB n) := Ev.bind h1 (Ev.now _)
 exact Ev.congr (fun k => rfl) h2
theorem spans_end (e : Int) (x s d u B : Nat) (hx : x ≠ 0) (hs : s ≠ 0) (hd : d ≠ 0) (hu : u ≠ 0) (he : -1074 ≤ e) (he2 : e ≤ 971) (hx2 : x < 2 ^ B) (hs2 : s < 2 ^ B) (hd2 : d < 2 ^ B) (hu2 : u < 2 ^ B) (hB : B ≤ 100) :
  Ev (fun k => dec_spans.j1 k e (toB x) (toB s) (toB d) (toB u)) (toB (x * 2 ^ e.toNat), toB (s * 2 ^ (-e).toNat), toB (d * 2 ^ e.toNat), toB (u * 2 ^ e.toNat)) := by
 have l1 := len_of_lt hx2
 have l2 := len_of_lt hs2
 have l3 := len_of_lt hd2
 have l4 := len_of_lt hu2
 by_cases h : e ≥ 0
 ·obtain ⟨K1, h1⟩ := up_ev x e.toNat (.inl hx) (by omega)
  obtain ⟨K2, h2⟩ := up_ev d e.toNat (.inl hd) (by omega)
  obtain ⟨K3, h3⟩ := up_ev u e.toNat (.inl hu) (by omega)
  refine ⟨K1 + K2 + K3 + 1, fun k hk => ?_⟩
  dsimp only at h1 h2 h3 ⊢
  obtain ⟨k', rfl⟩ : ∃ k', k = k' + 1 := ⟨k - 1, by omega⟩
  have g1 := h1 k' (by omega)
  have g2 := h2 k' (by omega)
  have g3 := h3 k' (by omega)
  rw [show ((e.toNat : Nat) : Int) = e by omega] at g1 g2 g3
  rw [dec_spans.j1, if_pos h, g1, Option.bind_some, g2, Option.bind_some, g3, Option.bind_some, show (-e).toNat = 0 by omega, Nat.pow_zero, Nat.mul_one]
 ·obtain ⟨K1, h1⟩ := up_ev s (-e).toNat (.inl hs) (by omega)
  refine ⟨K1 + 1, fun k hk => ?_⟩
  dsimp only at h1 ⊢
  obtain ⟨k', rfl⟩ : ∃ k', k = k' + 1 := ⟨k - 1, by omega⟩
  have g1 := h1 k' (by omega)
  rw [show (((-e).toNat : Nat) : Int) = -e by omega] at g1
  rw [dec_spans.j1, if_neg h, wrapB _ (by omega) (by omega), g1, Option.bind_some, show e.toNat = 0 by omega, Nat.pow_zero, Nat.mul_one, Nat.mul_one, Nat.mul_one]
theorem units_half {n j : Nat} (h : n = j * 4503599627370496 + 4503599627370496) (hj : 0 < j) : 2 * (units n - units (n - 1)) = 2 ^ j := by
 obtain ⟨i, rfl⟩ : ∃ i, j = i + 1 := ⟨j - 1, by omega⟩
 have e0 : units n = 4503599627370496 * 2 ^ (i + 1) := by rw [h]; exact units_of (i + 1) 4503599627370496 (by omega) (.inr (by omega))
 have e1 : units (n - 1) = 9007199254740991 * 2 ^ i := by
  rw [show n - 1 = i * 4503599627370496 + 9007199254740991 by omega]
  exact units_of i 9007199254740991 (by omega) (.inr (by omega))
 rw [e0, e1, Nat.pow_succ]
 omega
theorem lt_up {x a b B : Nat} (h : x < 2 ^ a) (hb : a + b ≤ B) : x * 2 ^ b < 2 ^ B := by
 refine Nat.lt_of_lt_of_le (Nat.mul_lt_mul_of_pos_right h (Nat.two_pow_pos b)) ?_
 rw [← Nat.pow_add]
 exact Nat.pow_le_pow_right (by decide) hb
theorem spans_ev (a : Nat) (ha : a < 18446744073709551616) (h0 : 0 < rung a) (h1 : rung a < INF) (B : Nat) (hB : B = 1100) :
  ∃ R S D U : Nat, Sp (rung a) R S D U ∧ R < 2 ^ B ∧ S < 2 ^ B ∧ D < 2 ^ B ∧ U < 2 ^ B ∧ Ev (fun k => dec_spans.f k (a : Int)) (toB R, toB S, toB D, toB U) := by
 obtain ⟨j, q, b, hr, hq, hjq, hj, hp⟩ := parts_ev a ha h0 h1
 obtain ⟨n, hn⟩ : ∃ n, n = rung a := ⟨_, rfl⟩
 rw [← hn] at hr h0 h1 ⊢
 obtain ⟨e, he⟩ : ∃ e : Int, e = (j : Int) - 1074 := ⟨_, rfl⟩
 rw [← he] at hp
 have hK := span_K j e (by omega)
 have hq0 : q ≠ 0 := by omega
 have u0 : units n = q * 2 ^ j := by rw [hr]; exact units_of j q (by omega) hjq
 have u1 : units (n + 1) = (q + 1) * 2 ^ j := by rw [hr, Nat.add_assoc]; exact units_of j (q + 1) (by omega) (by omega)
 obtain ⟨K1, o1⟩ := of_ev q (by omega)
 obtain ⟨K2, o2⟩ := up_ev q 1 (.inr (by decide)) (by have := len_of_lt (show q < 2 ^ 53 by omega); omega)
 obtain ⟨K3, o3⟩ := of_ev 2 (by decide)
 obtain ⟨K4, o4⟩ := of_ev 1 (by decide)
 have hstart : ∀ (k : Nat), K1 + K2 + K3 + K4 ≤ k → dec_spans.f k (a : Int) = if ((q : Int)) = 4503599627370496 then dec_spans.j0 k e (q : Int) (decide (e > (-1074))) (toB (q * 2)) (toB 2) (toB 1) (toB 1) else dec_spans.j0 k e (q : Int) false (toB (q * 2)) (toB 2) (toB 1) (toB 1) := by
  intro k hk
  dsimp only at o1 o2 o3 o4
  have p1 := o1 k (by omega)
  have p2 := o2 k (by omega)
  have p3 := o3 k (by omega)
  have p4 := o4 k (by omega)
  rw [Nat.pow_one] at p2
  have p3 : dec_of.f k 2 = some (toB 2) := p3
  have p4 : dec_of.f k 1 = some (toB 1) := p4
  have p2 : dec_big_up.f k (toB q) 1 = some (toB (q * 2)) := p2
  rw [dec_spans.f, hp, Option.bind_some]
  dsimp only
  rw [p1, Option.bind_some, p2, Option.bind_some, p3, Option.bind_some, p4, Option.bind_some, Option.bind_some]
 by_cases hc : q = 4503599627370496 ∧ 0 < j
 ·obtain ⟨K5, o5⟩ := up_ev q 2 (.inr (by decide)) (by have := len_of_lt (show q < 2 ^ 53 by omega); omega)
  obtain ⟨K6, o6⟩ := of_ev 4 (by decide)
  obtain ⟨K7, o7⟩ := spans_end e (q * 4) 4 1 2 60 (by omega) (by decide) (by decide) (by decide) (by omega) (by omega) (by omega) (by decide) (by decide) (by decide) (by decide)
  have hd := units_half (show n = j * 4503599627370496 + 4503599627370496 by omega) hc.2
  refine ⟨_, _, _, _, sp_half u0 u1 hd (Nat.two_pow_pos _) hK, lt_up (a := 60) (by omega) (by omega), lt_up (a := 3) (by decide) (by omega), ?_, lt_up (a := 2) (by decide) (by omega), ?_⟩
  ·have := lt_up (x := 1) (a := 1) (b := e.toNat) (B := B) (by decide) (by omega)
   rwa [Nat.one_mul] at this
  ·refine ⟨K1 + K2 + K3 + K4 + K5 + K6 + K7 + 1, fun k hk => ?_⟩
   dsimp only at o1 o3 o4 o5 o6 o7 ⊢
   obtain ⟨k', rfl⟩ : ∃ k', k = k' + 1 := ⟨k - 1, by omega⟩
   have p1 := o1 k' (by omega)
   have p5 : dec_big_up.f k' (toB q) 2 = some (toB (q * 4)) := o5 k' (by omega)
   have p6 : dec_of.f k' 4 = some (toB 4) := o6 k' (by omega)
   have p3 : dec_of.f k' 2 = some (toB 2) := o3 k' (by omega)
   have p4 : dec_of.f k' 1 = some (toB 1) := o4 k' (by omega)
   rw [hstart (k' + 1) (by omega), if_pos (by omega), dec_spans.j0, if_pos (by rw [decide_eq_true_iff]; omega), p1, Option.bind_some, p5, Option.bind_some, p6, Option.bind_some, p4, Option.bind_some, p3, Option.bind_some, o7 k' (by omega), Nat.one_mul]
 ·obtain ⟨K7, o7⟩ := spans_end e (q * 2) 2 1 1 60 (by omega) (by decide) (by decide) (by decide) (by omega) (by omega) (by omega) (by decide) (by decide) (by decide) (by decide)
  have hd : units n - units (n - 1) = 2 ^ j := by
   rcases units_down hr hq hjq h0 with h | h
   ·exact h
   ·exact absurd ⟨h.1, h.2.1⟩ hc
  have hone : 2 ^ e.toNat < 2 ^ B := by
   have := lt_up (x := 1) (a := 1) (b := e.toNat) (B := B) (by decide) (by omega)
   rwa [Nat.one_mul] at this
  refine ⟨_, _, _, _, sp_same u0 u1 hd (Nat.two_pow_pos _) hK, lt_up (a := 60) (by omega) (by omega), lt_up (a := 2) (by decide) (by omega), hone, hone, ?_⟩
  ·refine ⟨K1 + K2 + K3 + K4 + K7 + 1, fun k hk => ?_⟩
   dsimp only at o7 ⊢
   obtain ⟨k', rfl⟩ : ∃ k', k = k' + 1 := ⟨k - 1, by omega⟩
   have g7 := o7 k' (by omega)
   rw [Nat.one_mul] at g7
   rw [hstart (k' + 1) (by omega)]
   by_cases hq2 : q = 4503599627370496
   ·rw [if_pos (by omega), dec_spans.j0, if_neg (by rw [decide_eq_true_iff]; omega)]
    exact g7
   ·rw [if_neg (by omega), dec_spans.j0, if_neg (by decide)]
    exact g7
end Go.Proofs.YtflcanpajgpghaaDoor.Pure
end
section
namespace Go.Proofs.YtflcanpajgpghaaDoor.Pure
open Go.RowKit Go.Proofs.YtflcanpajgpghaaDoor.Pr Go.Proofs.YtflcanpajgpghaaDoorW.PrintWords Go.Proofs.YtflcanpajgpghaaDoorW.PrintLast Go.Proofs.YtflcanpajgpghaaDoorW.PrintMore Go.Proofs.YtflcanpajgpghaaDoor.Flo
theorem tens_lt {x B n M : Nat} (h : x < 2 ^ B) (hM : B + (4 * n + 1) ≤ M) : x * 10 ^ n < 2 ^ M := by
 refine Nat.lt_of_lt_of_le (Nat.mul_lt_mul'' h (ten_lt n)) ?_
 rw [← Nat.pow_add]
 exact Nat.pow_le_pow_right (by decide) hM
theorem two_ten (M : Nat) : 2 ^ M ≤ 10 ^ M := Nat.pow_le_pow_left (by decide) M
theorem digits_ev {n R S D U p q : Nat} (M : Nat) (ev : Bool) (e : Int) (h : Sp n R S D U) (hn : 0 < n) (hM : M ≤ 100000) (hsM : S * 10 ^ q < 2 ^ M) (he : -100000 ≤ e) (he2 : e ≤ 100000)
  (hf : Far (R * 10 ^ p) (U * 10 ^ p) (S * 10 ^ q) ev) (hnf : ¬ Far (R * 10 ^ p) (U * 10 ^ p) (S * 10 ^ (q + 1)) ev) :
  Ev (fun k => dec_shortest.l2 k e ([] : List Int) (toB (R * 10 ^ p)) (toB (S * 10 ^ q)) (toB (D * 10 ^ p)) (toB (U * 10 ^ p)) ev) (outF (gen (R * 10 ^ p) (S * 10 ^ q) (D * 10 ^ p) (U * 10 ^ p) ev 17 0) e) := by
 have hs : 0 < S * 10 ^ q := Nat.mul_pos h.hS (ten_pos q)
 have hU := Nat.mul_pos (sp_U h) (ten_pos p)
 have hR := Nat.mul_pos (sp_R h hn) (ten_pos p)
 have hD2 : 2 * (D * 10 ^ p) ≤ R * 10 ^ p := by rw [← Nat.mul_assoc]; exact Nat.mul_le_mul_right _ (sp_two h)
 have hle := far_le hnf
 rw [Nat.pow_succ, ← Nat.mul_assoc] at hle
 have hstop : (∃ j, 0 ≤ j ∧ j < 0 + 17 ∧ Stop (R * 10 ^ p * 10 ^ j % (S * 10 ^ q)) (D * 10 ^ p * 10 ^ j) (U * 10 ^ p * 10 ^ j) (S * 10 ^ q) ev) ∧
   (S * 10 ^ q ≤ R * 10 ^ p ∨ (0 = 0 ∧ Stop (R * 10 ^ p * 10 ^ 0 % (S * 10 ^ q)) (D * 10 ^ p * 10 ^ 0) (U * 10 ^ p * 10 ^ 0) (S * 10 ^ q) ev ∧ 1 ≤ pickX (R * 10 ^ p * 10 ^ 0 / (S * 10 ^ q)) (R * 10 ^ p * 10 ^ 0 % (S * 10 ^ q)) (D * 10 ^ p * 10 ^ 0) (U * 10 ^ p * 10 ^ 0) (S * 10 ^ q) ev)) := by
  by_cases hge : S * 10 ^ q ≤ R * 10 ^ p
  ·exact ⟨⟨16, by omega, by omega, stop_sixteen ev h hn hge⟩, .inl hge⟩
  ·have hlt : R * 10 ^ p < S * 10 ^ q := Nat.lt_of_not_le hge
   have hst : Stop (R * 10 ^ p * 10 ^ 0 % (S * 10 ^ q)) (D * 10 ^ p * 10 ^ 0) (U * 10 ^ p * 10 ^ 0) (S * 10 ^ q) ev := by
    rw [Nat.pow_zero, Nat.mul_one, Nat.mul_one, Nat.mul_one, Nat.mod_eq_of_lt hlt]
    exact .inr hf
   refine ⟨⟨0, by omega, by omega, hst⟩, .inr ⟨rfl, hst, ?_⟩⟩
   rw [Nat.pow_zero, Nat.mul_one, Nat.mul_one, Nat.mul_one, Nat.mod_eq_of_lt hlt, Nat.div_eq_of_lt hlt]
   unfold pickX
   have hnl : ¬ Low (R * 10 ^ p) (D * 10 ^ p) ev := by
    unfold Low
    rintro (g | ⟨g, _⟩) <;> omega
   rw [if_pos ⟨hf, .inl hnl⟩]
   exact Nat.le_refl _
 have hB : (2 : Nat) ^ (M + 4) = 2 ^ M * 16 := by rw [Nat.pow_add]
 have hdn : D * 10 ^ p < 2 ^ (M + 4) := by omega
 have hup : U * 10 ^ p < 2 ^ (M + 4) := by omega
 have hg := gen_ev (R * 10 ^ p) (S * 10 ^ q) (D * 10 ^ p) (U * 10 ^ p) (M + 80) ev e hs (by omega) (by omega) (by
  have : (2 : Nat) ^ (M + 4) ≤ 2 ^ (M + 80) := Nat.pow_le_pow_right (by decide) (by omega)
  omega) he he2 17 0 (by omega) (tens_lt hdn (by omega)) (tens_lt hup (by omega)) hstop.1 hstop.2
 have e1 : (R * 10 ^ p * 10 ^ 0 / (S * 10 ^ q) % 10) * (S * 10 ^ q) + R * 10 ^ p * 10 ^ 0 % (S * 10 ^ q) = R * 10 ^ p := by
  rw [Nat.pow_zero, Nat.mul_one]
  have h10 : R * 10 ^ p / (S * 10 ^ q) < 10 := Nat.div_lt_of_lt_mul (by omega)
  rw [Nat.mod_eq_of_lt h10, Nat.mul_comm]
  exact Nat.div_add_mod _ _
 rw [e1, Nat.pow_zero, Nat.mul_one (R * 10 ^ p), Nat.mul_one (D * 10 ^ p), Nat.mul_one (U * 10 ^ p)] at hg
 exact hg
theorem guess_ev {n R S D U : Nat} (p q M : Nat) (ev : Bool) (h : Sp n R S D U) (hn : 0 < n) (hM : M ≤ 10000) (hp : p ≤ 1000) (hq : q ≤ 1000) (hrM : R * 10 ^ p + U * 10 ^ p < 2 ^ M) (hsM : S * 10 ^ q < 2 ^ M) :
  ∃ p' q' : Nat, Far (R * 10 ^ p') (U * 10 ^ p') (S * 10 ^ q') ev ∧ ¬ Far (R * 10 ^ p') (U * 10 ^ p') (S * 10 ^ (q' + 1)) ev ∧
   Ev (fun k => dec_shortest.l0 k ((q : Int) - p) (toB (R * 10 ^ p)) (toB (S * 10 ^ q)) (toB (D * 10 ^ p)) (toB (U * 10 ^ p)) ev) (outF (gen (R * 10 ^ p') (S * 10 ^ q') (D * 10 ^ p') (U * 10 ^ p') ev 17 0) ((q' : Int) - p')) := by
 have hup : R * 10 ^ p + U * 10 ^ p < S * 10 ^ (q + 1 + M) := by
  refine Nat.lt_of_lt_of_le hrM (Nat.le_trans (two_ten M) ?_)
  refine Nat.le_trans (Nat.pow_le_pow_right (by decide) (show M ≤ q + 1 + M by omega)) ?_
  exact Nat.le_mul_of_pos_left _ h.hS
 obtain ⟨q', g1, g2, g3, g4, g5⟩ := up_ev' R S D U p M ev (by omega) hrM (by omega) M q (by omega) hup hsM
 have hlo : S * 10 ^ q' ≤ R * 10 ^ (p + M) := by
  refine Nat.le_trans (Nat.le_of_lt g3) (Nat.le_trans (two_ten M) ?_)
  refine Nat.le_trans (Nat.pow_le_pow_right (by decide) (show M ≤ p + M by omega)) ?_
  exact Nat.le_mul_of_pos_left _ (sp_R h hn)
 have h16 : 16 * (S * 10 ^ q') < 2 ^ (M + 4) := by rw [Nat.pow_add]; omega
 obtain ⟨p', k1, k2, k3, k4, k5⟩ := down_ev R S D U q' (M + 4) ev (sp_U h) (by have := sp_two h; omega) (by omega) h16 (by omega) M p (by omega) hlo g4
 exact ⟨p', q', k3, k4, g5 _ (k5 _ (digits_ev M ev _ h hn (by omega) g3 (by omega) (by omega) k3 k4))⟩
theorem bit_even (a : Nat) (ha : a < 18446744073709551616) : (Go.bits .and .u64 (a : Int) 1 == 0) = (a % 2 == 0) := by
 have := bits_and a 1 ha (by decide)
 rw [show (1 : Nat) = 2 ^ 1 - 1 from rfl, Nat.and_two_pow_sub_one_eq_mod, Nat.pow_one] at this
 have h2 : Go.bits .and .u64 (a : Int) 1 = ((a % 2 : Nat) : Int) := this
 rw [h2, show ((((a % 2 : Nat) : Int) == 0)) = decide (((a % 2 : Nat) : Int) = 0) from rfl, show (a % 2 == 0) = decide (a % 2 = 0) from rfl]
 exact decide_eq_decide.2 (by omega)
theorem shortest_ev (a : Nat) (ha : a < 18446744073709551616) (h0 : 0 < rung a) (h1 : rung a < INF) : ∃ R S D U p q : Nat, Sp (rung a) R S D U ∧
  Far (R * 10 ^ p) (U * 10 ^ p) (S * 10 ^ q) (a % 2 == 0) ∧ ¬ Far (R * 10 ^ p) (U * 10 ^ p) (S * 10 ^ (q + 1)) (a % 2 == 0) ∧
  Ev (fun k => dec_shortest.f k (a : Int)) (outF (gen (R * 10 ^ p) (S * 10 ^ q) (D * 10 ^ p) (U * 10 ^ p) (a % 2 == 0) 17 0) ((q : Int) - p)) := by
 obtain ⟨B, hB⟩ : ∃ B, B = 1100 := ⟨_, rfl⟩
 obtain ⟨R, S, D, U, hsp, bR, bS, bD, bU, ⟨K1, h2⟩⟩ := spans_ev a ha h0 h1 B hB
 have lR := len_of_lt bR
 have lS := len_of_lt bS
 obtain ⟨la, la1, la2, la3⟩ := len_ev R (by omega)
 obtain ⟨lb, lb1, lb2, lb3⟩ := len_ev S (by omega)
 have hla : la ≤ 1200 := by omega
 have hlb : lb ≤ 1200 := by omega
 have hR := sp_R hsp h0
 obtain ⟨e, he⟩ : ∃ e : Int, e = ((la : Int) - lb) * 1233 / 4096 := ⟨_, rfl⟩
 have hwe : wrap64 (wrap64 ((la : Int) - lb) * 1233) / 4096 = e := by rw [wrapB ((la : Int) - lb) (by omega) (by omega), wrapB _ (by omega) (by omega), he]
 have he1 : -400 ≤ e := by omega
 have he2 : e ≤ 400 := by omega
 have hev := bit_even a ha
 clear he lR lS la2 lb2
 obtain ⟨M, hM⟩ : ∃ M, M = 4000 := ⟨_, rfl⟩
 have t2 : ∀ x : Nat, x < 2 ^ B → ∀ n : Nat, n ≤ 400 → x * 10 ^ n < 2 ^ (M - 1) := fun x hx n hn => tens_lt hx (by omega)
 have hM2 : (2 : Nat) ^ M = 2 ^ (M - 1) * 2 := by rw [← Nat.pow_succ, show (M - 1).succ = M by omega]
 by_cases hpos : e ≥ 0
 ·have s1 := t2 S bS e.toNat (by omega)
  have r1 := t2 R bR 0 (by omega)
  have u1 := t2 U bU 0 (by omega)
  obtain ⟨p', q', g1, g2, K3, g3⟩ := guess_ev 0 e.toNat M (a % 2 == 0) hsp h0 (by omega) (by omega) (by omega) (by omega) (by omega)
  obtain ⟨K2, h3⟩ := tens_ev S e.toNat M (by omega) (by omega) (by omega)
  refine ⟨R, S, D, U, p', q', hsp, g1, g2, K1 + K2 + K3 + 1, fun k hk => ?_⟩
  dsimp only at h2 h3 g3 ⊢
  obtain ⟨k', rfl⟩ : ∃ k', k = k' + 1 := ⟨k - 1, by omega⟩
  have p3 := h3 (k' + 1) (by omega)
  have pg := g3 k' (by omega)
  rw [show ((e.toNat : Nat) : Int) = e by omega] at p3 pg
  rw [Nat.pow_zero, Nat.mul_one, Nat.mul_one, Nat.mul_one, show e - ((0 : Nat) : Int) = e by omega] at pg
  rw [dec_shortest.f, h2 (k' + 1) (by omega), Option.bind_some]
  dsimp only
  rw [la1, Option.bind_some, lb1, Option.bind_some, hwe, if_pos hpos, p3, Option.bind_some, hev, dec_shortest.j0]
  exact pg
 ·have s1 := t2 S bS 0 (by omega)
  have r1 := t2 R bR (-e).toNat (by omega)
  have u1 := t2 U bU (-e).toNat (by omega)
  have d1 := t2 D bD (-e).toNat (by omega)
  obtain ⟨p', q', g1, g2, K3, g3⟩ := guess_ev (-e).toNat 0 M (a % 2 == 0) hsp h0 (by omega) (by omega) (by omega) (by omega) (by omega)
  obtain ⟨K2, h3⟩ := tens_ev R (-e).toNat M (by omega) (by omega) (by omega)
  obtain ⟨K4, h4⟩ := tens_ev D (-e).toNat M (by omega) (by omega) (by omega)
  obtain ⟨K5, h5⟩ := tens_ev U (-e).toNat M (by omega) (by omega) (by omega)
  refine ⟨R, S, D, U, p', q', hsp, g1, g2, K1 + K2 + K3 + K4 + K5 + 1, fun k hk => ?_⟩
  dsimp only at h2 h3 h4 h5 g3 ⊢
  obtain ⟨k', rfl⟩ : ∃ k', k = k' + 1 := ⟨k - 1, by omega⟩
  have p3 := h3 (k' + 1) (by omega)
  have p4 := h4 (k' + 1) (by omega)
  have p5 := h5 (k' + 1) (by omega)
  have pg := g3 k' (by omega)
  rw [show (((-e).toNat : Nat) : Int) = -e by omega] at p3 p4 p5
  rw [Nat.pow_zero, Nat.mul_one, show ((0 : Nat) : Int) - (((-e).toNat : Nat) : Int) = e by omega] at pg
  rw [dec_shortest.f, h2 (k' + 1) (by omega), Option.bind_some]
  dsimp only
  rw [la1, Option.bind_some, lb1, Option.bind_some, hwe, if_neg hpos, wrapB (-e) (by omega) (by omega), p3, Option.bind_some, p4, Option.bind_some, p5, Option.bind_some, hev, dec_shortest.j0]
  exact pg
end Go.Proofs.YtflcanpajgpghaaDoor.Pure
end
section
namespace Go.Proofs.YtflcanpajgpghaaDoor.Flo
theorem two_ten3 (t : Nat) : 2 ^ (3 * t) ≤ 10 ^ t := by rw [Nat.pow_mul]; exact Nat.pow_le_pow_left (by decide) t
theorem units_bound {a : Nat} (h : a < INF) (B : Nat) (hB : B = 2098) : units a < 2 ^ B := by
 obtain ⟨j, q, h1, h2, h3, h4, _⟩ := units_form a
 unfold INF at h
 rw [h4, show B = 53 + (B - 53) by omega, Nat.pow_add]
 have : 2 ^ j ≤ 2 ^ (B - 53) := Nat.pow_le_pow_right (by decide) (by omega)
 calc q * 2 ^ j < 2 ^ 53 * 2 ^ j := Nat.mul_lt_mul_of_pos_right h2 (Nat.two_pow_pos _)
  _ ≤ 2 ^ 53 * 2 ^ (B - 53) := Nat.mul_le_mul_left _ this
theorem exp_bounds {a R S D U p q : Nat} {ev : Bool} (h : Sp a R S D U) (ha : 0 < a) (ha2 : a < INF) (hf : Far (R * 10 ^ p) (U * 10 ^ p) (S * 10 ^ q) ev) (hn : ¬ Far (R * 10 ^ p) (U * 10 ^ p) (S * 10 ^ (q + 1)) ev) :
  -362 ≤ (q : Int) - p ∧ (q : Int) - p ≤ 362 := by
 obtain ⟨t, ht⟩ : ∃ t, t = 360 := ⟨_, rfl⟩
 obtain ⟨B, hB⟩ : ∃ B, B = 2098 := ⟨_, rfl⟩
 have hK1 : K < 2 ^ (3 * t) := by
  obtain ⟨E, hE, hK⟩ := K_exp
  rw [hK]
  exact Nat.pow_lt_pow_right (by decide) (by omega)
 have hK2 : 2 ^ (B + 2) ≤ 2 ^ (3 * t) * K := by
  obtain ⟨E, hE, hK⟩ := K_exp
  rw [hK, ← Nat.pow_add]
  exact Nat.pow_le_pow_right (by decide) (by omega)
 have hu := units_bound ha2 B hB
 have hup := units_pos ha
 have h10 : 2 ^ (3 * t) ≤ 10 ^ t := two_ten3 t
 have hUR := sp_UR h ha
 constructor
 ·apply Int.le_of_not_gt
  intro hgt
  have h1 : R * 10 ^ p ≤ S * 10 ^ (q + 1) := by
   have : R * 10 ^ p + U * 10 ^ p ≤ S * 10 ^ (q + 1) := Nat.le_of_not_lt (fun g => hn (.inl g))
   omega
  rw [show p = (q + 1) + t + (p - (q + 1) - t) by omega, Nat.pow_add 10 (q + 1 + t), Nat.pow_add 10 (q + 1)] at h1
  have h2 : R * 10 ^ t * 10 ^ (q + 1) ≤ S * 10 ^ (q + 1) := by
   refine Nat.le_trans ?_ h1
   rw [show R * (10 ^ (q + 1) * 10 ^ t * 10 ^ (p - (q + 1) - t)) = R * 10 ^ t * 10 ^ (q + 1) * 10 ^ (p - (q + 1) - t) by ac_rfl]
   exact Nat.le_mul_of_pos_right _ (ten_pos _)
  have h3 : R * 10 ^ t ≤ S := Nat.le_of_mul_le_mul_right h2 (ten_pos _)
  have h4 : 10 ^ t * S ≤ K * S := by
   have h5 : R * 10 ^ t * K ≤ S * K := Nat.mul_le_mul_right _ h3
   rw [Nat.mul_right_comm, h.hR] at h5
   rw [Nat.mul_comm K S]
   refine Nat.le_trans ?_ h5
   rw [show 2 * units a * S * 10 ^ t = 2 * units a * (10 ^ t * S) by ac_rfl]
   exact Nat.le_mul_of_pos_left _ (by omega)
  have h6 : 10 ^ t ≤ K := Nat.le_of_mul_le_mul_right h4 h.hS
  exact absurd (Nat.lt_of_lt_of_le hK1 h10) (Nat.not_lt_of_le h6)
 ·apply Int.le_of_not_gt
  intro hgt
  have h1 : S * 10 ^ q ≤ R * 10 ^ p + U * 10 ^ p := by
   rcases hf with g | g
   ·exact Nat.le_of_lt g
   ·exact Nat.le_of_eq g.1
  have h2 : S * 10 ^ q ≤ 2 * R * 10 ^ p := by
   have : U * 10 ^ p ≤ R * 10 ^ p := Nat.mul_le_mul_right _ (by omega)
   rw [Nat.mul_assoc]
   omega
  rw [show q = p + t + (q - p - t) by omega, Nat.pow_add 10 (p + t), Nat.pow_add 10 p] at h2
  have h3 : S * 10 ^ t * 10 ^ p ≤ 2 * R * 10 ^ p := by
   refine Nat.le_trans ?_ h2
   rw [show S * (10 ^ p * 10 ^ t * 10 ^ (q - p - t)) = S * 10 ^ t * 10 ^ p * 10 ^ (q - p - t) by ac_rfl]
   exact Nat.le_mul_of_pos_right _ (ten_pos _)
  have h4 : S * 10 ^ t ≤ 2 * R := Nat.le_of_mul_le_mul_right h3 (ten_pos _)
  have h5 : 10 ^ t * K * S ≤ 4 * units a * S := by
   have h5 : S * 10 ^ t * K ≤ 2 * R * K := Nat.mul_le_mul_right _ h4
   rw [Nat.mul_assoc 2 R K, h.hR] at h5
   rw [Nat.mul_comm (10 ^ t * K) S, ← Nat.mul_assoc]
   refine Nat.le_trans h5 (Nat.le_of_eq ?_)
   rw [← Nat.mul_assoc, ← Nat.mul_assoc]
  have h6 : 10 ^ t * K ≤ 4 * units a := Nat.le_of_mul_le_mul_right h5 h.hS
  have h7 : 2 ^ (B + 2) ≤ 10 ^ t * K := by
   exact Nat.le_trans hK2 (Nat.mul_le_mul_right _ h10)
  have h8 : 2 ^ (B + 2) ≤ 4 * units a := Nat.le_trans h7 h6
  rw [Nat.pow_add, Nat.mul_comm] at h8
  exact absurd hu (Nat.not_lt_of_le (Nat.le_of_mul_le_mul_left h8 (by decide)))
end Go.Proofs.YtflcanpajgpghaaDoor.Flo
end
section
namespace Go.Proofs.YtflcanpajgpghaaDoor.Pure
open Go.RowKit Go.Proofs.YtflcanpajgpghaaDoor.Pr Go.Proofs.YtflcanpajgpghaaDoorW.PrintWords Go.Proofs.YtflcanpajgpghaaDoorW.PrintLast Go.Proofs.YtflcanpajgpghaaDoorW.PrintMore
theorem qone_size (c : Int) : (strOfNums [c]).size = 1 := rfl
theorem qapp_size (a b : ByteArray) : (a ++ b).size = a.size + b.size := ByteArray.size_append
theorem qone_bt (c : Int) (h : 0 ≤ c) (h2 : c < 256) : bt (strOfNums [c]) ((0 : Nat) : Int) = c := by
 show (((UInt8.ofNat c.toNat).toNat : Nat) : Int) = c
 rw [UInt8.toNat_ofNat_of_lt' (by show c.toNat < 256; omega)]
 omega
theorem qalld_app {a b : ByteArray} (ha : AllDigits a) (hb : AllDigits b) : AllDigits (a ++ b) := by
 intro i hi
 rw [qapp_size] at hi
 rw [bt_app]
 by_cases h : i < a.size
 ·rw [if_pos h]; exact ha i h
 ·rw [if_neg h]; exact hb _ (by omega)
theorem qalld_one {c : Int} (h : 48 ≤ c) (h2 : c ≤ 57) : AllDigits (strOfNums [c]) := by
 intro i hi
 rw [qone_size] at hi
 obtain rfl : i = 0 := by omega
 rw [qone_bt c (by omega) (by omega)]
 exact ⟨h, h2⟩
theorem qdval_app (a b : ByteArray) : ∀ i, i ≤ a.size → dval (a ++ b) i = dval a i
 | 0, _ => rfl
 | i + 1, h => by rw [dval, dval, qdval_app a b i (by omega), bt_app, if_pos (by omega)]
theorem qdval_one (s : ByteArray) (c : Int) (h : 48 ≤ c) (h2 : c ≤ 57) : dval (s ++ strOfNums [c]) (s ++ strOfNums [c]).size = dval s s.size * 10 + (c - 48).toNat := by
 rw [qapp_size, qone_size, dval, qdval_app s _ s.size (Nat.le_refl _), bt_app, if_neg (by omega), Nat.sub_self, qone_bt c (by omega) (by omega)]
theorem ds_read : ∀ (n x : Nat), x ≤ n → AllDigits (strOfNums (ds x)) ∧ dval (strOfNums (ds x)) (strOfNums (ds x)).size = x := by
 intro n
 induction n with
 | zero =>
  intro x h
  rw [show x = 0 by omega, ds_zero]
  exact ⟨fun i hi => absurd hi (Nat.not_lt_zero i), rfl⟩
 | succ n ih =>
  intro x h
  by_cases h0 : x = 0
  ·rw [h0, ds_zero]
   exact ⟨fun i hi => absurd hi (Nat.not_lt_zero i), rfl⟩
  ·obtain ⟨a, b⟩ := ih (x / 10) (by omega)
   have hd := dg_in x
   rw [ds_pos h0, str_app]
   refine ⟨qalld_app a (qalld_one hd.1 hd.2), ?_⟩
   rw [qdval_one _ _ hd.1 hd.2, b]
   unfold dg
   omega
theorem ds_all (x : Nat) : AllDigits (strOfNums (ds x)) := (ds_read x x (Nat.le_refl _)).1
theorem ds_val (x : Nat) : dval (strOfNums (ds x)) (strOfNums (ds x)).size = x := (ds_read x x (Nat.le_refl _)).2
theorem ds_size {m x : Nat} (h : x < 10 ^ m) : (strOfNums (ds x)).size ≤ m := by rw [str_size]; exact ds_len m x h
theorem ds_pos_len {x : Nat} (h : x ≠ 0) : 0 < (ds x).length := by rw [ds_pos h, List.length_append, List.length_singleton]; omega
theorem ds_last {x : Nat} (h : x ≠ 0) (t : ByteArray) : bt (strOfNums (ds x) ++ t) (((ds x).length - 1 : Nat) : Int) = dg x := by
 have hd := dg_in x
 have hl : (strOfNums (ds (x / 10))).size = (ds x).length - 1 := by rw [str_size, ds_pos h, List.length_append, List.length_singleton, Nat.add_sub_cancel]
 have hl2 := ds_pos_len h
 rw [bt_app, str_size, if_pos (by omega), ds_pos h, str_app, bt_app, ← ds_pos h, hl, if_neg (Nat.lt_irrefl _), Nat.sub_self]
 exact qone_bt _ (by omega) (by omega)
end Go.Proofs.YtflcanpajgpghaaDoor.Pure
end
section
namespace Go.Proofs.YtflcanpajgpghaaDoor.Pure
open Go.RowKit Go.Proofs.YtflcanpajgpghaaDoor.Pr Go.Proofs.YtflcanpajgpghaaDoorW.PrintWords Go.Proofs.YtflcanpajgpghaaDoorW.PrintLast Go.Proofs.YtflcanpajgpghaaDoorW.PrintMore Go.Proofs.YtflcanpajgpghaaDoor.Flo
def zs (n : Nat) : ByteArray := strOfNums (List.replicate n 48)
def mant (d : ByteArray) : ByteArray := if 1 < d.size then d.extract 0 1 ++ (⟨#[46]⟩ : ByteArray) ++ d.extract 1 d.size else d
def layF (d : ByteArray) (e : Int) : ByteArray :=
 if e < -7 then mant d ++ (⟨#[101, 45]⟩ : ByteArray) ++ strOfNums (ds (-e).toNat) else if 20 < e then mant d ++ (⟨#[101, 43]⟩ : ByteArray) ++ strOfNums (ds e.toNat)
 else if e < 0 then (⟨#[48, 46]⟩ : ByteArray) ++ zs (-e - 1).toNat ++ d
 else if (d.size : Int) ≤ e + 1 then d ++ zs (e + 1 - d.size).toNat
 else d.extract 0 (e + 1).toNat ++ (⟨#[46]⟩ : ByteArray) ++ d.extract (e + 1).toNat d.size
theorem size_dot : (⟨#[46]⟩ : ByteArray).size = 1 := rfl
theorem size_em : (⟨#[101, 45]⟩ : ByteArray).size = 2 := rfl
theorem size_ep : (⟨#[101, 43]⟩ : ByteArray).size = 2 := rfl
theorem size_zd : (⟨#[48, 46]⟩ : ByteArray).size = 2 := rfl
theorem zs_size (n : Nat) : (zs n).size = n := by unfold zs; rw [str_size, List.length_replicate]
theorem dec_ds : ∀ (n u : Nat), u ≤ n → u ≠ 0 → Lib.decDigits u = (ds u).map nb
 | 0, u, h, h0 => absurd (by omega) h0
 | n + 1, u, h, h0 => by
  have hn : nb (dg u) = UInt8.ofNat (48 + u % 10) := rfl
  rw [Lib.decDigits, ds_pos h0, List.map_append, List.map_cons, List.map_nil, hn]
  by_cases h1 : u < 10
  ·rw [dif_pos h1, show u / 10 = 0 by omega, ds_zero, Nat.mod_eq_of_lt h1]
   rfl
  ·rw [dif_neg h1, dec_ds n (u / 10) (by omega) (by omega)]
theorem itoa_ds (n : Nat) (h : n ≠ 0) : itoaOf (n : Int) = strOfNums (ds n) := by
 refine str_of _ _ ?_
 show Lib.itoa (n : Int) = _
 unfold Lib.itoa
 rw [if_neg (by omega), Int.toNat_natCast, dec_ds n n (Nat.le_refl _) h]
theorem itoa_ev (n : Nat) (h : n ≠ 0) (h2 : n ≤ 1000) : strconv_Itoa.f (n : Int) = some (strOfNums (ds n)) := by rw [strconv_Itoa.f, if_pos (by omega), itoa_ds n h]
theorem repeat_zs (n : Nat) : repeatOf (⟨#[48]⟩ : ByteArray) n = zs n := by
 refine str_of _ _ ?_
 show Lib.repeatL [48] n = _
 induction n with
 | zero => rfl
 | succ n ih => rw [Lib.repeatL, ih]; rfl
theorem repeat_ev (n : Nat) (h : n ≤ 1000) : strings_Repeat.f (⟨#[48]⟩ : ByteArray) (n : Int) = some (zs n) := by
 have h1 : (⟨#[48]⟩ : ByteArray).size = 1 := rfl
 rw [strings_Repeat.f, if_pos (by rw [h1]; omega), Int.toNat_natCast, repeat_zs]
theorem ds_small (n : Nat) (h : n ≤ 1000) : (strOfNums (ds n)).size ≤ 4 := ds_size (by omega)
theorem laid_ev (d : ByteArray) (e : Int) (hd : d.size ≤ 100) (he : -900 ≤ e) (he2 : e ≤ 900) : Ev (fun k => dec_laid.f k d e) (layF d e) := by
 have hsz : (d.size : Int) ≤ 100 := by omega
 unfold layF
 by_cases c1 : e < -7
 ·rw [if_pos c1]
  have hi := itoa_ev (-e).toNat (by omega) (by omega)
  have h4 := ds_small (-e).toNat (by omega)
  rw [show (((-e).toNat : Nat) : Int) = -e by omega] at hi
  unfold mant
  by_cases c2 : 1 < d.size
  ·rw [if_pos c2]
   refine Ev.congr (fun k => (by rw [dec_laid.f, if_pos c1])) (Ev.step (f := fun _ => some _) (g := fun k => dec_laid.j0 k d e true) (fun k => ?_) (Ev.now _))
   rw [dec_laid.j0, if_pos rfl, if_pos (by omega), if_pos (by omega), if_pos (by decide), if_pos (by omega), if_pos (by simp only [qapp_size, ByteArray.size_extract]; omega), if_pos (by simp only [qapp_size, ByteArray.size_extract, size_dot]; omega), if_pos (by simp only [qapp_size, ByteArray.size_extract, size_dot]; omega), wrapB (-e) (by omega) (by omega), hi, Option.bind_some, if_pos (by simp only [qapp_size, ByteArray.size_extract, size_dot, size_em]; omega)]
  ·rw [if_neg c2]
   refine Ev.congr (fun k => (by rw [dec_laid.f, if_pos c1])) (Ev.step (f := fun _ => some _) (g := fun k => dec_laid.j0 k d e true) (fun k => ?_) (Ev.now _))
   rw [dec_laid.j0, if_pos rfl, if_pos (by omega), if_neg (by omega), if_pos (by omega), wrapB (-e) (by omega) (by omega), hi, Option.bind_some, if_pos (by simp only [qapp_size, size_em]; omega)]
 ·rw [if_neg c1]
  by_cases c3 : 20 < e
  ·rw [if_pos c3]
   have hi := itoa_ev e.toNat (by omega) (by omega)
   have h4 := ds_small e.toNat (by omega)
   rw [show ((e.toNat : Nat) : Int) = e by omega] at hi
   unfold mant
   by_cases c2 : 1 < d.size
   ·rw [if_pos c2]
    refine Ev.congr (fun k => (by rw [dec_laid.f, if_neg c1, decide_eq_true (show e > 20 from c3)])) (Ev.step (f := fun _ => some _) (g := fun k => dec_laid.j0 k d e true) (fun k => ?_) (Ev.now _))
    rw [dec_laid.j0, if_pos rfl, if_neg (by omega), if_pos (by omega), if_pos (by decide), if_pos (by omega), if_pos (by simp only [qapp_size, ByteArray.size_extract]; omega), if_pos (by simp only [qapp_size, ByteArray.size_extract, size_dot]; omega), if_pos (by simp only [qapp_size, ByteArray.size_extract, size_dot]; omega), hi, Option.bind_some, if_pos (by simp only [qapp_size, ByteArray.size_extract, size_dot, size_ep]; omega)]
   ·rw [if_neg c2]
    refine Ev.congr (fun k => (by rw [dec_laid.f, if_neg c1, decide_eq_true (show e > 20 from c3)])) (Ev.step (f := fun _ => some _) (g := fun k => dec_laid.j0 k d e true) (fun k => ?_) (Ev.now _))
    rw [dec_laid.j0, if_pos rfl, if_neg (by omega), if_neg (by omega), if_pos (by omega), hi, Option.bind_some, if_pos (by simp only [qapp_size, size_ep]; omega)]
  ·rw [if_neg c3]
   have hc : decide (e > 20) = false := decide_eq_false (by omega)
   by_cases c4 : e < 0
   ·rw [if_pos c4]
    have hr := repeat_ev (-e - 1).toNat (by omega)
    rw [show (((-e - 1).toNat : Nat) : Int) = -e - 1 by omega] at hr
    refine Ev.congr (fun k => (by rw [dec_laid.f, if_neg c1, hc])) (Ev.step (f := fun _ => some _) (g := fun k => dec_laid.j0 k d e false) (fun k => ?_) (Ev.now _))
    rw [dec_laid.j0, if_neg (by decide), if_pos c4, wrapB (-e) (by omega) (by omega), wrapB (-e - 1) (by omega) (by omega), hr, Option.bind_some, if_pos (by rw [zs_size]; omega), if_pos (by simp only [qapp_size, size_zd, zs_size]; omega)]
   ·rw [if_neg c4]
    by_cases c5 : (d.size : Int) ≤ e + 1
    ·rw [if_pos c5]
     have hr := repeat_ev (e + 1 - d.size).toNat (by omega)
     rw [show (((e + 1 - (d.size : Int)).toNat : Nat) : Int) = e + 1 - (d.size : Int) by omega] at hr
     refine Ev.congr (fun k => (by rw [dec_laid.f, if_neg c1, hc])) (Ev.step (f := fun _ => some _) (g := fun k => dec_laid.j0 k d e false) (fun k => ?_) (Ev.now _))
     rw [dec_laid.j0, if_neg (by decide), if_neg c4, wrapB (e + 1) (by omega) (by omega), if_pos (by omega), wrapB (e + 1 - (d.size : Int)) (by omega) (by omega), hr, Option.bind_some, if_pos (by rw [zs_size]; omega)]
    ·rw [if_neg c5]
     refine Ev.congr (fun k => (by rw [dec_laid.f, if_neg c1, hc])) (Ev.step (f := fun _ => some _) (g := fun k => dec_laid.j0 k d e false) (fun k => ?_) (Ev.now _))
     rw [dec_laid.j0, if_neg (by decide), if_neg c4, wrapB (e + 1) (by omega) (by omega), if_neg (by omega), if_pos (by omega), if_pos (by omega), if_pos (by simp only [ByteArray.size_extract]; omega), if_pos (by simp only [qapp_size, ByteArray.size_extract, size_dot]; omega)]
end Go.Proofs.YtflcanpajgpghaaDoor.Pure
end
section
namespace Go.Proofs.YtflcanpajgpghaaDoor.Flo
theorem pick_le (Q ρ dn up s : Nat) (ev : Bool) : Q ≤ pickX Q ρ dn up s ev ∧ pickX Q ρ dn up s ev ≤ Q + 1 := by
 unfold pickX
 split <;> omega
theorem gen_fact {n R S D U p q : Nat} {ev : Bool} (h : Sp n R S D U) (hn : 0 < n) (hf : Far (R * 10 ^ p) (U * 10 ^ p) (S * 10 ^ q) ev) (hnf : ¬ Far (R * 10 ^ p) (U * 10 ^ p) (S * 10 ^ (q + 1)) ev) :
  ∃ m X : Nat, gen (R * 10 ^ p) (S * 10 ^ q) (D * 10 ^ p) (U * 10 ^ p) ev 17 0 = (m, X) ∧ m ≤ 16 ∧ 10 ^ m ≤ X ∧ X ≤ 10 ^ (m + 1) ∧
   X = pickX (R * 10 ^ p * 10 ^ m / (S * 10 ^ q)) (R * 10 ^ p * 10 ^ m % (S * 10 ^ q)) (D * 10 ^ p * 10 ^ m) (U * 10 ^ p * 10 ^ m) (S * 10 ^ q) ev ∧
   Stop (R * 10 ^ p * 10 ^ m % (S * 10 ^ q)) (D * 10 ^ p * 10 ^ m) (U * 10 ^ p * 10 ^ m) (S * 10 ^ q) ev := by
 have hs : 0 < S * 10 ^ q := Nat.mul_pos h.hS (ten_pos q)
 have hU := Nat.mul_pos (sp_U h) (ten_pos p)
 have hle : R * 10 ^ p + U * 10 ^ p ≤ S * 10 ^ (q + 1) := Nat.le_of_not_lt (fun g => hnf (.inl g))
 rw [Nat.pow_succ, ← Nat.mul_assoc] at hle
 by_cases hge : S * 10 ^ q ≤ R * 10 ^ p
 ·obtain ⟨g1, g2, g3, g4⟩ := gen_done (R * 10 ^ p) (S * 10 ^ q) (D * 10 ^ p) (U * 10 ^ p) ev 17 0 ⟨16, by omega, by omega, stop_sixteen ev h hn hge⟩
  generalize hg : gen (R * 10 ^ p) (S * 10 ^ q) (D * 10 ^ p) (U * 10 ^ p) ev 17 0 = g at g1 g2 g3 g4 ⊢
  obtain ⟨m, X⟩ := g
  dsimp only at g1 g2 g3 g4
  have hQ0 : 10 ^ m ≤ R * 10 ^ p * 10 ^ m / (S * 10 ^ q) := by
   rw [Nat.le_div_iff_mul_le hs, Nat.mul_comm]
   exact Nat.mul_le_mul_right _ hge
  have hQ2 : R * 10 ^ p * 10 ^ m / (S * 10 ^ q) < 10 ^ (m + 1) := by
   refine Nat.div_lt_of_lt_mul ?_
   rw [Nat.pow_succ, Nat.mul_comm (10 ^ m) 10, ← Nat.mul_assoc]
   exact Nat.mul_lt_mul_of_pos_right (by omega) (ten_pos m)
  have hp := pick_le (R * 10 ^ p * 10 ^ m / (S * 10 ^ q)) (R * 10 ^ p * 10 ^ m % (S * 10 ^ q)) (D * 10 ^ p * 10 ^ m) (U * 10 ^ p * 10 ^ m) (S * 10 ^ q) ev
  rw [← g3] at hp
  exact ⟨m, X, rfl, by omega, by omega, by omega, g3, g4⟩
 ·have hlt : R * 10 ^ p < S * 10 ^ q := Nat.lt_of_not_le hge
  have hD2 : 2 * (D * 10 ^ p) ≤ R * 10 ^ p := by rw [← Nat.mul_assoc]; exact Nat.mul_le_mul_right _ (sp_two h)
  have hRp := Nat.mul_pos (sp_R h hn) (ten_pos p)
  have hnl : ¬ Low (R * 10 ^ p) (D * 10 ^ p) ev := by
   unfold Low
   rintro (g | ⟨g, _⟩) <;> omega
  have hx : pickX (R * 10 ^ p * 10 ^ 0 / (S * 10 ^ q)) (R * 10 ^ p * 10 ^ 0 % (S * 10 ^ q)) (D * 10 ^ p * 10 ^ 0) (U * 10 ^ p * 10 ^ 0) (S * 10 ^ q) ev = 1 := by
   rw [Nat.pow_zero, Nat.mul_one, Nat.mul_one, Nat.mul_one, Nat.mod_eq_of_lt hlt, Nat.div_eq_of_lt hlt]
   unfold pickX
   rw [if_pos ⟨hf, .inl hnl⟩]
  have hst : Stop (R * 10 ^ p * 10 ^ 0 % (S * 10 ^ q)) (D * 10 ^ p * 10 ^ 0) (U * 10 ^ p * 10 ^ 0) (S * 10 ^ q) ev := by
   rw [Nat.pow_zero, Nat.mul_one, Nat.mul_one, Nat.mul_one, Nat.mod_eq_of_lt hlt]
   exact .inr hf
  exact ⟨0, 1, by rw [gen, if_pos hst, hx], by decide, by decide, by decide, hx.symm, hst⟩
end Go.Proofs.YtflcanpajgpghaaDoor.Flo
end
section
namespace Go.Proofs.YtflcanpajgpghaaDoor.Pure
open Go.RowKit Go.Proofs.YtflcanpajgpghaaDoor.Pr Go.Proofs.YtflcanpajgpghaaDoorW.PrintWords Go.Proofs.YtflcanpajgpghaaDoorW.PrintLast Go.Proofs.YtflcanpajgpghaaDoorW.PrintMore Go.Proofs.YtflcanpajgpghaaDoor.Flo
theorem strip_le {x : Nat} (h : x ≠ 0) : strip x ≤ x := by
 obtain ⟨_, _, z, hz⟩ := strip_pos x x (Nat.le_refl _) h
 have : strip x * 1 ≤ strip x * 10 ^ z := Nat.mul_le_mul_left _ (Nat.pow_pos (by decide))
 omega
def pre (a : Nat) : ByteArray := if a / 9223372036854775808 = 1 then (⟨#[45]⟩ : ByteArray) else (⟨#[]⟩ : ByteArray)
theorem pre_size (a : Nat) : (pre a).size ≤ 1 := by
 unfold pre
 split
 ·exact Nat.le_refl 1
 ·exact Nat.zero_le 1
theorem kind_ev (a : Nat) (ha : a < 18446744073709551616) : flo_Kind.f (a : Int) = some (kindV a) := by
 rw [flo_Kind.f, flo_kind.f, if_pos (by omega), Int.toNat_natCast]
 rfl
theorem print_start (a : Nat) (ha : a < 18446744073709551616) (r : ByteArray) (h : Ev (fun k => dec_Print.j0 k (a : Int) (pre a)) r) : Ev (fun k => dec_Print.f k (a : Int)) r := by
 refine Ev.congr (fun k => ?_) h
 unfold dec_Print.f pre
 by_cases c : a / 9223372036854775808 = 1
 ·rw [if_pos c, if_pos (by omega)]
 ·rw [if_neg c, if_neg (by omega)]
theorem print_fin (a : Nat) (ha : a < 18446744073709551616) (h0 : 0 < rung a) (h1 : rung a < INF) : ∃ R S D U p q m X : Nat, Sp (rung a) R S D U ∧
  Far (R * 10 ^ p) (U * 10 ^ p) (S * 10 ^ q) (a % 2 == 0) ∧ ¬ Far (R * 10 ^ p) (U * 10 ^ p) (S * 10 ^ (q + 1)) (a % 2 == 0) ∧ gen (R * 10 ^ p) (S * 10 ^ q) (D * 10 ^ p) (U * 10 ^ p) (a % 2 == 0) 17 0 = (m, X) ∧ m ≤ 16 ∧ 10 ^ m ≤ X ∧ X ≤ 10 ^ (m + 1) ∧
  Ev (fun k => dec_Print.f k (a : Int)) (pre a ++ layF (outF (m, X) ((q : Int) - p)).1 (outF (m, X) ((q : Int) - p)).2) := by
 obtain ⟨R, S, D, U, p, q, hsp, hf, hnf, K1, g1⟩ := shortest_ev a ha h0 h1
 obtain ⟨m, X, hg, hm, hX1, hX2, _, _⟩ := gen_fact hsp h0 hf hnf
 rw [hg] at g1
 have hb := exp_bounds hsp h0 h1 hf hnf
 have hX0 : X ≠ 0 := by have := ten_pos m; omega
 have hsz : (outF (m, X) ((q : Int) - p)).1.size ≤ 18 := by
  unfold outF
  dsimp only
  refine ds_size ?_
  have h2 := strip_le hX0
  have h3 : (10 : Nat) ^ (m + 1) < 10 ^ 18 := Nat.pow_lt_pow_right (by decide) (by omega)
  omega
 have he : -402 ≤ (outF (m, X) ((q : Int) - p)).2 ∧ (outF (m, X) ((q : Int) - p)).2 ≤ 403 := by
  unfold outF
  dsimp only
  split <;> omega
 refine ⟨R, S, D, U, p, q, m, X, hsp, hf, hnf, hg, hm, hX1, hX2, print_start a ha _ ?_⟩
 generalize outF (m, X) ((q : Int) - p) = o at g1 hsz he ⊢
 obtain ⟨d, e⟩ := o
 dsimp only at hsz he ⊢
 obtain ⟨K2, g2⟩ := laid_ev d e (by omega) (by omega) (by omega)
 have hk := kind_fin h0 h1
 have hps := pre_size a
 have hls : (layF d e).size ≤ 2000 := by
  unfold layF mant
  have e1 := ds_small (-e).toNat (by omega)
  have e2 := ds_small e.toNat (by omega)
  by_cases c1 : e < -7
  ·rw [if_pos c1]
   split <;> simp only [qapp_size, ByteArray.size_extract, size_dot, size_em] <;> omega
  ·rw [if_neg c1]
   by_cases c2 : 20 < e
   ·rw [if_pos c2]
    split <;> simp only [qapp_size, ByteArray.size_extract, size_dot, size_ep] <;> omega
   ·rw [if_neg c2]
    by_cases c3 : e < 0
    ·rw [if_pos c3]
     simp only [qapp_size, size_zd, zs_size]
     omega
    ·rw [if_neg c3]
     split <;> simp only [qapp_size, ByteArray.size_extract, size_dot, zs_size] <;> omega
 refine ⟨K1 + K2 + 1, fun k hk2 => ?_⟩
 dsimp only at g1 g2 ⊢
 obtain ⟨k', rfl⟩ : ∃ k', k = k' + 1 := ⟨k - 1, by omega⟩
 have hk3 : kindV a ≠ 4 ∧ kindV a ≠ 3 ∧ kindV a ≠ 0 := by rw [hk]; split <;> decide
 rw [dec_Print.j0, kind_ev a ha, Option.bind_some, if_neg hk3.1, if_neg hk3.2.1, if_neg hk3.2.2, g1 k' (by omega), Option.bind_some]
 dsimp only
 rw [g2 k' (by omega), Option.bind_some, if_pos (by omega)]
end Go.Proofs.YtflcanpajgpghaaDoor.Pure
end
section
namespace Go.Proofs.YtflcanpajgpghaaDoor.Pure
open Go.RowKit Go.Proofs.YtflcanpajgpghaaDoor.Pr Go.Proofs.YtflcanpajgpghaaDoorW.PrintWords Go.Proofs.YtflcanpajgpghaaDoorW.PrintLast Go.Proofs.YtflcanpajgpghaaDoorW.PrintMore Go.Proofs.YtflcanpajgpghaaDoor.Flo
theorem ext_app (a b : ByteArray) : (a ++ b).extract 0 a.size = a := by
 refine ba_ext ?_
 rw [bytes_extract, bytes_append, List.drop_zero, List.take_left' (bytes_length a)]
theorem app_size (a b : ByteArray) : (a ++ b).size = a.size + b.size := ByteArray.size_append
theorem parse_of_cut (s d : ByteArray) (e : Int) (hsz : s.size ≤ 400) (hd : AllDigits d) (hds : d.size ≤ 400) (he : -100000 ≤ e) (he2 : e ≤ 100000) (h : Ev (fun k => dec_cut.f k s) (d, e, true)) : ∃ w, ReadAs (dval d d.size) e w ∧ Ev (fun k => dec_Parse.f k s) (((w : Nat) : Int), 0) := by
 obtain ⟨w, hw, hwe⟩ := nearest_ev d e hd hds he he2
 refine ⟨w, hw, ?_⟩
 have hn : Ev (fun k => (dec_nearest.f k d e).bind fun t => some (t, (0 : Int))) (((w : Nat) : Int), 0) := Ev.bind hwe (Ev.now _)
 refine Ev.congr (fun k => ?_) (Ev.bind h (f := fun k bt => if bt.2.2 = true then ((dec_nearest.f k bt.1 bt.2.1).bind fun t => (some (t, (0 : Int)))) else (some (0, 4))) (Ev.congr (fun k => if_pos rfl) hn))
 unfold dec_Parse.f
 rw [if_neg (by omega)]
end Go.Proofs.YtflcanpajgpghaaDoor.Pure
end
section
namespace Go.Proofs.YtflcanpajgpghaaDoor.Pure
open Go.RowKit Go.Proofs.YtflcanpajgpghaaDoor.Pr Go.Proofs.YtflcanpajgpghaaDoorW.PrintWords Go.Proofs.YtflcanpajgpghaaDoorW.PrintLast Go.Proofs.YtflcanpajgpghaaDoorW.PrintMore Go.Proofs.YtflcanpajgpghaaDoor.Flo
theorem tassoc (a b c : ByteArray) : a ++ b ++ c = a ++ (b ++ c) := ba_ext (by simp only [bytes_append, List.append_assoc])
theorem tnil (a : ByteArray) : a ++ (⟨#[]⟩ : ByteArray) = a := ba_ext (by rw [bytes_append]; exact List.append_nil _)
theorem tnil_left (a : ByteArray) : (⟨#[]⟩ : ByteArray) ++ a = a := ba_ext (by rw [bytes_append]; rfl)
theorem dval_step (s : ByteArray) (i : Nat) : dval s i ≤ dval s (i + 1) := by rw [dval]; omega
theorem dval_mono (s : ByteArray) (i : Nat) : ∀ d, dval s i ≤ dval s (i + d)
 | 0 => Nat.le_refl _
 | d + 1 => Nat.le_trans (dval_mono s i d) (dval_step s (i + d))
theorem efold_dval (g : ByteArray) (hg : dval g g.size ≤ 9999) : ∀ n i, i + n = g.size → efold g n i (dval g i) = dval g g.size
 | 0, i, h => by rw [efold, show i = g.size by omega]
 | n + 1, i, h => by
  have h1 : dval g (i + 1) ≤ 9999 := by
   have := dval_mono g (i + 1) n
   rw [show i + 1 + n = g.size by omega] at this
   omega
  have h2 : min (10 * dval g i + (bt g (i : Int) - 48).toNat) 9999 = dval g (i + 1) := by
   rw [dval] at h1 ⊢
   rw [Nat.mul_comm 10]
   exact Nat.min_eq_left h1
  rw [efold, h2]
  exact efold_dval g hg n (i + 1) (by omega)
structure TailOK (T : ByteArray) (E : Int) : Prop where
 run : ∀ (P d : ByteArray) (x : Int), (P ++ T).size ≤ 1000 → -1000 ≤ x → x ≤ 1000 → Ev (fun k => dec_cut.j0 k (suf (P ++ T) P.size) d x) (d, x + E, true)
 front : T.size = 0 ∨ bt T ((0 : Nat) : Int) = 101
 small : T.size ≤ 20
theorem tail_nil : TailOK (⟨#[]⟩ : ByteArray) 0 := by
 refine ⟨fun P d x h1 h2 h3 => ?_, .inl rfl, by decide⟩
 rw [tnil] at h1 ⊢
 rw [Int.add_zero]
 exact tail_ev P P.size (by omega) (Nat.le_refl _) x d _ (fun _ => rfl) (fun h => absurd h (Nat.lt_irrefl _)) (fun h => absurd h (Nat.lt_irrefl _)) (fun h => absurd h (Nat.lt_irrefl _)) (fun h => absurd h (Nat.lt_irrefl _))
def emark (neg : Bool) : ByteArray := if neg = true then (⟨#[101, 45]⟩ : ByteArray) else (⟨#[101, 43]⟩ : ByteArray)
theorem tail_exp (neg : Bool) (g : ByteArray) (hg : AllDigits g) (hg0 : g.size ≠ 0) (hg2 : g.size ≤ 4) (hv : dval g g.size ≤ 9999) : TailOK (emark neg ++ g) (if neg = true then -(dval g g.size : Int) else (dval g g.size : Int)) := by
 have hms : (emark neg).size = 2 := by unfold emark; cases neg <;> rfl
 have m0 : bt (emark neg) ((0 : Nat) : Int) = 101 := by unfold emark; cases neg <;> rfl
 have m1 : bt (emark neg) ((1 : Nat) : Int) = if neg = true then 45 else 43 := by unfold emark; cases neg <;> rfl
 refine ⟨fun P d x h1 h2 h3 => ?_, .inr (by rw [bt_app, if_pos (by omega)]; exact m0), by rw [app_size]; omega⟩
 obtain ⟨S, hS⟩ : ∃ S, S = P ++ (emark neg ++ g) := ⟨_, rfl⟩
 rw [← hS] at h1 ⊢
 have hSs : S.size = P.size + (2 + g.size) := by rw [hS, app_size, app_size, hms]
 have b0 : bt S (P.size : Int) = 101 := by rw [hS, bt_app, if_neg (Nat.lt_irrefl _), Nat.sub_self, bt_app, if_pos (by omega)]; exact m0
 have b1 : bt S ((P.size + 1 : Nat) : Int) = if neg = true then 45 else 43 := by rw [hS, bt_app, if_neg (by omega), show P.size + 1 - P.size = 1 by omega, bt_app, if_pos (by omega)]; exact m1
 have b2 : ∀ i : Nat, bt S ((P.size + 2 + i : Nat) : Int) = bt g (i : Int) := fun i => by
  rw [hS, bt_app, if_neg (by omega), bt_app, if_neg (by omega), hms]
  congr 2
  omega
 have hDE : DE S (P.size + 2) S.size := by
  refine ⟨by omega, Nat.le_refl _, fun t t1 t2 => ⟨t2, ?_⟩, fun c => absurd c.1 (Nat.lt_irrefl _)⟩
  obtain ⟨i, rfl⟩ := Nat.exists_eq_add_of_le t1
  rw [b2 i]
  exact hg i (by omega)
 have hfold : ∀ n i e, efold S n (P.size + 2 + i) e = efold g n i e := by
  intro n
  induction n with
  | zero => intro i e; rfl
  | succ n ih =>
   intro i e
   rw [efold, efold, b2 i, Nat.add_assoc (P.size + 2) i 1, ih]
 have hE : efrom S (P.size + 2) = dval g g.size := by
  unfold efrom
  rw [show S.size - (P.size + 2) = g.size by omega]
  exact (hfold g.size 0 0).trans (efold_dval g hv g.size 0 (by omega))
 have hx : ∀ x8 : Int, (x8 = 1 ∨ x8 = -1) → Ev (fun k => dec_cut.j3 k (suf S (P.size + 2)) x8 d x) (d, x + x8 * (dval g g.size : Nat), true) := by
  intro x8 h8
  have := exp_ev S (P.size + 2) S.size (by omega) (by omega) x8 x d h8 (by omega) hDE
  rw [if_neg (by omega), hE] at this
  exact this
 refine tail_ev S P.size (by omega) (by omega) x d _ (fun h => by omega) (fun _ h => absurd b0 h) (fun _ _ _ h => ?_) (fun _ _ _ h => ?_) (fun _ _ h => ?_)
 ·cases neg with
  | true =>
   have := hx (-1) (.inr rfl)
   rw [if_pos rfl, show (-(dval g g.size : Int)) = -1 * ((dval g g.size : Nat) : Int) by omega]
   exact this
  | false => rw [b1] at h; exact absurd h (by decide)
 ·cases neg with
  | true => rw [b1] at h; exact absurd h (by decide)
  | false =>
   have := hx 1 (.inl rfl)
   rw [if_neg (by decide), show ((dval g g.size : Int)) = 1 * ((dval g g.size : Nat) : Int) by omega]
   exact this
 ·rcases h with h | h
  ·omega
  ·cases neg with
   | true => exact absurd b1 h.2
   | false => exact absurd b1 h.1
theorem cut_plain (f T : ByteArray) (E : Int) (hf : AllDigits f) (hf0 : f.size ≠ 0) (hfs : f.size ≤ 400) (hT : TailOK T E) : Ev (fun k => dec_cut.f k (f ++ T)) (f, E, true) := by
 have hts := hT.small
 have hS : (f ++ T).size = f.size + T.size := app_size _ _
 have b1 : ∀ i : Nat, i < f.size → bt (f ++ T) (i : Int) = bt f (i : Int) := fun i hi => by rw [bt_app, if_pos hi]
 have b2 : T.size ≠ 0 → bt (f ++ T) (f.size : Int) = 101 := fun h => by
  rw [bt_app, if_neg (Nat.lt_irrefl _), Nat.sub_self]
  rcases hT.front with g | g
  ·exact absurd g h
  ·exact g
 have hDE : DE (f ++ T) 0 f.size := by
  refine ⟨Nat.zero_le _, by omega, fun t _ ht => ⟨by omega, ?_⟩, fun c => ?_⟩
  ·rw [b1 t ht]; exact hf t ht
  ·have c1 := c.1
   have c2 := c.2.2
   rw [b2 (by omega)] at c2
   exact absurd c2 (by decide)
 have hrun := hT.run f f 0 (by omega) (by omega) (by omega)
 rw [Int.zero_add] at hrun
 refine cut_ev (f ++ T) f.size 0 (by omega) hDE _ (fun h => absurd h hf0) (fun _ h1 h2 => ?_) (fun _ _ => ?_)
 ·rw [b2 (by omega)] at h2; exact absurd h2 (by decide)
 ·rw [ext_app]
  exact hrun
theorem cut_dotted (f g T : ByteArray) (E : Int) (hf : AllDigits f) (hf0 : f.size ≠ 0) (hfs : f.size ≤ 400) (hg : AllDigits g) (hg0 : g.size ≠ 0) (hgs : g.size ≤ 400) (hT : TailOK T E) :
  Ev (fun k => dec_cut.f k (f ++ ((⟨#[46]⟩ : ByteArray) ++ (g ++ T)))) (f ++ g, -(g.size : Int) + E, true) := by
 have hts := hT.small
 obtain ⟨S, hS⟩ : ∃ S, S = f ++ ((⟨#[46]⟩ : ByteArray) ++ (g ++ T)) := ⟨_, rfl⟩
 rw [← hS]
 have hSs : S.size = f.size + (1 + (g.size + T.size)) := by rw [hS, app_size, app_size, app_size, size_dot]
 have b1 : ∀ i : Nat, i < f.size → bt S (i : Int) = bt f (i : Int) := fun i hi => by rw [hS, bt_app, if_pos hi]
 have b2 : bt S (f.size : Int) = 46 := by
  rw [hS, bt_app, if_neg (Nat.lt_irrefl _), Nat.sub_self, bt_app, if_pos (by rw [size_dot]; omega)]
  rfl
 have b3 : ∀ i : Nat, i < g.size → bt S ((f.size + 1 + i : Nat) : Int) = bt g (i : Int) := fun i hi => by
  rw [hS, bt_app, if_neg (by omega), bt_app, if_neg (by rw [size_dot]; omega), bt_app, size_dot, if_pos (by omega)]
  congr 2
  omega
 have b4 : T.size ≠ 0 → bt S ((f.size + 1 + g.size : Nat) : Int) = 101 := fun h => by
  rw [hS, bt_app, if_neg (by omega), bt_app, if_neg (by rw [size_dot]; omega), bt_app, size_dot, if_neg (by omega), show f.size + 1 + g.size - f.size - 1 - g.size = 0 by omega]
  rcases hT.front with g | g
  ·exact absurd g h
  ·exact g
 have hDE : DE S 0 f.size := by
  refine ⟨Nat.zero_le _, by omega, fun t _ ht => ⟨by omega, ?_⟩, fun c => ?_⟩
  ·rw [b1 t ht]; exact hf t ht
  ·have := c.2.1; rw [b2] at this; omega
 have hDE2 : DE S (f.size + 1) (f.size + 1 + g.size) := by
  refine ⟨by omega, by omega, fun t h1 h2 => ⟨by omega, ?_⟩, fun c => ?_⟩
  ·obtain ⟨i, rfl⟩ := Nat.exists_eq_add_of_le h1
   rw [b3 i (by omega)]
   exact hg i (by omega)
  ·have c1 := c.1
   have c2 := c.2.2
   rw [b4 (by omega)] at c2
   exact absurd c2 (by decide)
 have e1 : S.extract 0 f.size = f := by rw [hS]; exact ext_app _ _
 have e2 : S.extract (f.size + 1) (f.size + 1 + g.size) = g := by
  refine ba_ext ?_
  rw [bytes_extract, hS, bytes_append, bytes_append, bytes_append, ← List.append_assoc, ← List.append_assoc, List.take_left' (by rw [List.length_append, List.length_append, bytes_length, bytes_length, bytes_length, size_dot]), List.drop_left' (by rw [List.length_append, bytes_length, bytes_length, size_dot])]
 have hrun := hT.run (f ++ ((⟨#[46]⟩ : ByteArray) ++ g)) (f ++ g) (-(g.size : Int)) (by rw [app_size, app_size, app_size, size_dot]; omega) (by omega) (by omega)
 rw [show f ++ ((⟨#[46]⟩ : ByteArray) ++ g) ++ T = S by rw [hS]; simp only [tassoc], show (f ++ ((⟨#[46]⟩ : ByteArray) ++ g)).size = f.size + 1 + g.size by rw [app_size, app_size, size_dot]; omega] at hrun
 refine cut_ev S f.size (f.size + 1 + g.size) (by omega) hDE _ (fun h => absurd h hf0) (fun _ _ _ => ⟨hDE2, fun h => by omega, fun _ => ?_⟩) (fun _ h => absurd ⟨by omega, b2⟩ h)
 rw [e1, e2, show f.size + 1 + g.size - f.size - 1 = g.size by omega]
 exact hrun
end Go.Proofs.YtflcanpajgpghaaDoor.Pure
end
section
namespace Go.Proofs.YtflcanpajgpghaaDoor.Pure
open Go.RowKit Go.Proofs.YtflcanpajgpghaaDoor.Pr Go.Proofs.YtflcanpajgpghaaDoorW.PrintWords Go.Proofs.YtflcanpajgpghaaDoorW.PrintLast Go.Proofs.YtflcanpajgpghaaDoorW.PrintMore Go.Proofs.YtflcanpajgpghaaDoor.Flo
theorem zs_add (a b : Nat) : zs (a + b) = zs a ++ zs b := by
 unfold zs
 rw [← str_app, List.replicate_append_replicate]
theorem zs_none : zs 0 = (⟨#[]⟩ : ByteArray) := rfl
theorem zs_bt : ∀ (a i : Nat), i < a → bt (zs a) (i : Int) = 48
 | 0, i, h => by omega
 | a + 1, i, h => by
  rw [zs_add, bt_app, zs_size]
  by_cases c : i < a
  ·rw [if_pos c]; exact zs_bt a i c
  ·rw [if_neg c, show i - a = 0 by omega]; rfl
theorem zs_all (a : Nat) : AllDigits (zs a) := fun i hi => by rw [zs_size] at hi; rw [zs_bt a i hi]; decide
theorem dval_cat (s t : ByteArray) : ∀ i, i ≤ t.size → dval (s ++ t) (s.size + i) = dval s s.size * 10 ^ i + dval t i
 | 0, _ => by rw [Nat.add_zero, Nat.pow_zero, Nat.mul_one, qdval_app s t s.size (Nat.le_refl _)]; rfl
 | i + 1, h => by
  rw [← Nat.add_assoc, dval, dval, dval_cat s t i (by omega), bt_app, if_neg (by omega), show s.size + i - s.size = i by omega, Nat.pow_succ, Nat.add_mul, Nat.mul_assoc, Nat.add_assoc]
theorem zs_val (a : Nat) : ∀ i, i ≤ a → dval (zs a) i = 0
 | 0, _ => rfl
 | i + 1, h => by rw [dval, zs_val a i (by omega), zs_bt a i (by omega)]; rfl
theorem dval_mid (a b : Nat) (d : ByteArray) : dval (zs a ++ d ++ zs b) (zs a ++ d ++ zs b).size = dval d d.size * 10 ^ b := by
 have h1 := dval_cat (zs a ++ d) (zs b) b (by rw [zs_size]; exact Nat.le_refl _)
 have h2 := dval_cat (zs a) d d.size (Nat.le_refl _)
 rw [zs_size] at h2
 rw [qapp_size (zs a ++ d), zs_size, h1, qapp_size, zs_size, h2, zs_val a a (Nat.le_refl _), zs_val b b (Nat.le_refl _), Nat.zero_mul, Nat.zero_add, Nat.add_zero]
theorem ext_join (d : ByteArray) (i : Nat) (h : i ≤ d.size) : d.extract 0 i ++ d.extract i d.size = d := by
 refine ba_ext ?_
 rw [bytes_append, bytes_extract, bytes_extract, List.drop_zero, List.take_of_length_le (l := bytes d) (i := d.size) (by rw [bytes_length]; exact Nat.le_refl _), List.take_append_drop]
theorem alld_ext {d : ByteArray} (h : AllDigits d) (a b : Nat) (hb : b ≤ d.size) : AllDigits (d.extract a b) := by
 intro i hi
 rw [ext_size d a b hb] at hi
 rw [bt_ext d a b i (by omega)]
 exact h _ (by omega)
theorem far_cut (d : ByteArray) (hd : AllDigits d) (hd0 : d.size ≠ 0) (hds : d.size ≤ 100) (neg : Bool) (n : Nat) (hn : n ≠ 0) (hn2 : n ≤ 900) :
  Ev (fun k => dec_cut.f k (mant d ++ (emark neg ++ strOfNums (ds n)))) (d, (if neg = true then -(n : Int) else (n : Int)) - d.size + 1, true) := by
 have h4 := ds_small n (by omega)
 have hv := ds_val n
 have hT := tail_exp neg (strOfNums (ds n)) (ds_all n) (by rw [str_size]; have := ds_pos_len hn; omega) h4 (by omega)
 rw [hv] at hT
 unfold mant
 by_cases c : 1 < d.size
 ·rw [if_pos c]
  have hs1 : (d.extract 0 1).size = 1 := by rw [ext_size d 0 1 (by omega)]
  have hs2 : (d.extract 1 d.size).size = d.size - 1 := ext_size d 1 d.size (Nat.le_refl _)
  have h := cut_dotted (d.extract 0 1) (d.extract 1 d.size) _ _ (alld_ext hd 0 1 (by omega)) (by omega) (by omega) (alld_ext hd 1 d.size (Nat.le_refl _)) (by omega) (by omega) hT
  rw [ext_join d 1 (by omega), hs2] at h
  rw [show d.extract 0 1 ++ (⟨#[46]⟩ : ByteArray) ++ d.extract 1 d.size ++ (emark neg ++ strOfNums (ds n)) = d.extract 0 1 ++ ((⟨#[46]⟩ : ByteArray) ++ (d.extract 1 d.size ++ (emark neg ++ strOfNums (ds n)))) by simp only [tassoc]]
  rw [show (if neg = true then -(n : Int) else (n : Int)) - (d.size : Int) + 1 = -((d.size - 1 : Nat) : Int) + (if neg = true then -(n : Int) else (n : Int)) by split <;> omega]
  exact h
 ·rw [if_neg c]
  have h := cut_plain d _ _ hd hd0 (by omega) hT
  rw [show (if neg = true then -(n : Int) else (n : Int)) - (d.size : Int) + 1 = (if neg = true then -(n : Int) else (n : Int)) by split <;> omega]
  exact h
theorem lay_cut (d : ByteArray) (hd : AllDigits d) (hd0 : d.size ≠ 0) (hds : d.size ≤ 100) (e : Int) (he : -900 ≤ e) (he2 : e ≤ 900) :
  ∃ a b : Nat, a ≤ 10 ∧ b ≤ 25 ∧ Ev (fun k => dec_cut.f k (layF d e)) (zs a ++ d ++ zs b, e - d.size + 1 - b, true) := by
 have hz0 : zs 0 ++ d ++ zs 0 = d := by rw [zs_none, tnil, tnil_left]
 unfold layF
 by_cases c1 : e < -7
 ·rw [if_pos c1]
  refine ⟨0, 0, by decide, by decide, ?_⟩
  have h := far_cut d hd hd0 hds true (-e).toNat (by omega) (by omega)
  rw [if_pos rfl, show (-(((-e).toNat : Nat) : Int)) = e by omega] at h
  rw [hz0, tassoc, show e - (d.size : Int) + 1 - ((0 : Nat) : Int) = e - (d.size : Int) + 1 by omega]
  exact h
 ·rw [if_neg c1]
  by_cases c2 : 20 < e
  ·rw [if_pos c2]
   refine ⟨0, 0, by decide, by decide, ?_⟩
   have h := far_cut d hd hd0 hds false e.toNat (by omega) (by omega)
   rw [if_neg (by decide), show (((e.toNat : Nat) : Int)) = e by omega] at h
   rw [hz0, tassoc, show e - (d.size : Int) + 1 - ((0 : Nat) : Int) = e - (d.size : Int) + 1 by omega]
   exact h
  ·rw [if_neg c2]
   by_cases c3 : e < 0
   ·rw [if_pos c3]
    refine ⟨1 + (-e - 1).toNat, 0, by omega, by decide, ?_⟩
    have h := cut_dotted (zs 1) (zs (-e - 1).toNat ++ d) _ _ (zs_all 1) (by rw [zs_size]; decide) (by rw [zs_size]; decide) (qalld_app (zs_all _) hd) (by rw [app_size]; omega) (by rw [app_size, zs_size]; omega) tail_nil
    rw [tnil, app_size, zs_size] at h
    rw [zs_add, zs_none, tnil, show (⟨#[48, 46]⟩ : ByteArray) ++ zs (-e - 1).toNat ++ d = zs 1 ++ ((⟨#[46]⟩ : ByteArray) ++ (zs (-e - 1).toNat ++ d)) by rw [show (⟨#[48, 46]⟩ : ByteArray) = zs 1 ++ (⟨#[46]⟩ : ByteArray) from rfl]; simp only [tassoc]]
    rw [tassoc, show e - (d.size : Int) + 1 - ((0 : Nat) : Int) = -(((-e - 1).toNat + d.size : Nat) : Int) + 0 by omega]
    exact h
   ·rw [if_neg c3]
    by_cases c4 : (d.size : Int) ≤ e + 1
    ·rw [if_pos c4]
     refine ⟨0, (e + 1 - d.size).toNat, by decide, by omega, ?_⟩
     have h := cut_plain (d ++ zs (e + 1 - d.size).toNat) _ _ (qalld_app hd (zs_all _)) (by rw [app_size]; omega) (by rw [app_size, zs_size]; omega) tail_nil
     rw [tnil] at h
     rw [zs_none, tnil_left, show e - (d.size : Int) + 1 - (((e + 1 - (d.size : Int)).toNat : Nat) : Int) = 0 by omega]
     exact h
    ·rw [if_neg c4]
     refine ⟨0, 0, by decide, by decide, ?_⟩
     have hs1 : (d.extract 0 (e + 1).toNat).size = (e + 1).toNat := by rw [ext_size d 0 (e + 1).toNat (by omega)]; omega
     have hs2 : (d.extract (e + 1).toNat d.size).size = d.size - (e + 1).toNat := ext_size d (e + 1).toNat d.size (Nat.le_refl _)
     have h := cut_dotted (d.extract 0 (e + 1).toNat) (d.extract (e + 1).toNat d.size) _ _ (alld_ext hd 0 (e + 1).toNat (by omega)) (by omega) (by omega) (alld_ext hd (e + 1).toNat d.size (Nat.le_refl _)) (by omega) (by omega) tail_nil
     rw [tnil, ext_join d (e + 1).toNat (by omega), hs2] at h
     rw [hz0, tassoc, show e - (d.size : Int) + 1 - ((0 : Nat) : Int) = -((d.size - (e + 1).toNat : Nat) : Int) + 0 by omega]
     exact h
end Go.Proofs.YtflcanpajgpghaaDoor.Pure
end
section
namespace Go.Proofs.YtflcanpajgpghaaDoor.Pure
open Go.RowKit Go.Proofs.YtflcanpajgpghaaDoor.Pr Go.Proofs.YtflcanpajgpghaaDoorW.PrintWords Go.Proofs.YtflcanpajgpghaaDoorW.PrintLast Go.Proofs.YtflcanpajgpghaaDoorW.PrintMore Go.Proofs.YtflcanpajgpghaaDoor.Flo
theorem andNot_sign (a : Nat) (h : a < 18446744073709551616) : Go.bits .andNot .u64 (a : Int) 9223372036854775808 = ((rung a : Nat) : Int) := by
 unfold Go.bits
 rw [show IntKind.u64.bits = 64 from rfl]
 simp only [BitVec.toNat_and, BitVec.toNat_not]
 have e2 : (BitVec.ofInt 64 (a : Int)).toNat = a := by rw [BitVec.ofInt_natCast, BitVec.toNat_ofNat, Nat.mod_eq_of_lt (by omega)]
 rw [e2, show 2 ^ 64 - 1 - (BitVec.ofInt 64 9223372036854775808).toNat = 2 ^ 63 - 1 from rfl, Nat.and_two_pow_sub_one_eq_mod]
 show IntKind.u64.wrap ((a % 9223372036854775808 : Nat) : Int) = ((a % 9223372036854775808 : Nat) : Int)
 exact u64_in _ (by omega)
theorem exp_bits (a : Nat) (h : a < 18446744073709551616) : Go.bits .and .u64 ((a : Int) / 4503599627370496) 2047 = ((a / 4503599627370496 % 2048 : Nat) : Int) := by
 have := and_mask (a / 4503599627370496) (by omega)
 rw [← this]
 congr 1
theorem rkind2_ev (a : Nat) (h : a < 18446744073709551616) : Ev (fun k => minstrelref01_Kind.f k (a : Int)) (kindV a) := by
 have hr : rung a = a % 9223372036854775808 := rfl
 have hq := exp_bits a h
 have hf : Go.bits .and .u64 (a : Int) 4503599627370495 = ((a % 4503599627370496 : Nat) : Int) := and_frac a h
 unfold minstrelref01_Kind.f kindV nanB infB
 rw [hq, hf]
 by_cases c1 : a / 4503599627370496 % 2048 = 2047
 ·by_cases c2 : a % 4503599627370496 = 0
  ·rw [if_neg (by rw [decide_eq_true_iff]; omega), if_neg (by omega), if_pos (by rw [decide_eq_true_iff]; omega)]
   refine Ev.congr (fun k => if_pos (by omega)) (Ev.step (f := fun _ => some 3) (fun k => ?_) (Ev.now _))
   rw [minstrelref01_Kind.j0, if_neg (by rw [c2]; decide), if_pos (by omega)]
  ·have hn : (((a % 4503599627370496 : Nat) : Int) != 0) = true := by rw [bne_iff_ne]; omega
   rw [if_pos (by rw [decide_eq_true_iff]; omega)]
   refine Ev.congr (fun k => if_pos (by omega)) (Ev.step (f := fun _ => some 4) (fun k => ?_) (Ev.now _))
   rw [minstrelref01_Kind.j0, if_pos hn]
 ·rw [if_neg (by rw [decide_eq_true_iff]; omega)]
  by_cases c2 : a / 4503599627370496 % 2048 = 0
  ·by_cases c3 : a % 4503599627370496 = 0
   ·rw [if_pos (by omega)]
    refine Ev.congr (fun k => if_neg (by omega)) (Ev.step (fun k => ?_) (Ev.step (f := fun _ => some 0) (g := fun k => minstrelref01_Kind.j1 k ((a / 4503599627370496 % 2048 : Nat) : Int) true) (fun k => ?_) (Ev.now _)))
    ·rw [minstrelref01_Kind.j0, if_neg (by decide), if_neg (by omega), if_pos (by omega), c3]
     rfl
    ·rw [minstrelref01_Kind.j1, if_pos rfl]
   ·have hn : (((a % 4503599627370496 : Nat) : Int) == 0) = false := beq_eq_false_iff_ne.2 (by omega)
    rw [if_neg (by omega), if_neg (by rw [decide_eq_true_iff]; omega), if_pos (by omega)]
    refine Ev.congr (fun k => if_neg (by omega)) (Ev.step (fun k => ?_) (Ev.step (f := fun _ => some 1) (g := fun k => minstrelref01_Kind.j1 k ((a / 4503599627370496 % 2048 : Nat) : Int) false) (fun k => ?_) (Ev.now _)))
    ·rw [minstrelref01_Kind.j0, if_neg (by decide), if_neg (by omega), if_pos (by omega), hn]
    ·rw [minstrelref01_Kind.j1, if_neg (by decide), if_pos (by omega)]
  ·rw [if_neg (by omega), if_neg (by rw [decide_eq_true_iff]; omega), if_neg (by omega)]
   refine Ev.congr (fun k => if_neg (by omega)) (Ev.step (fun k => ?_) (Ev.step (f := fun _ => some 2) (g := fun k => minstrelref01_Kind.j1 k ((a / 4503599627370496 % 2048 : Nat) : Int) false) (fun k => ?_) (Ev.now _)))
   ·rw [minstrelref01_Kind.j0, if_neg (by decide), if_neg (by omega), if_neg (by omega)]
   ·rw [minstrelref01_Kind.j1, if_neg (by decide), if_neg (by omega)]
end Go.Proofs.YtflcanpajgpghaaDoor.Pure
end
section
namespace Go.Proofs.YtflcanpajgpghaaDoor.Pure
open Go.RowKit Go.Proofs.YtflcanpajgpghaaDoor.Pr Go.Proofs.YtflcanpajgpghaaDoorW.PrintWords Go.Proofs.YtflcanpajgpghaaDoorW.PrintLast Go.Proofs.YtflcanpajgpghaaDoorW.PrintMore Go.Proofs.YtflcanpajgpghaaDoor.Flo
theorem wrap_one (i : Nat) (h : i ≤ 1000000000) : wrap64 ((i : Int) + 1) = ((i + 1 : Nat) : Int) := by rw [wrapB _ (by omega) (by omega)]; omega
theorem rdigits_loop (s : ByteArray) (a j : Nat) (hsz : s.size ≤ 1000000) (h : DE s a j) : ∀ d i : Nat, a ≤ i → i + d = j → Ev (fun k => minstrelref05_digits.l0 k s (i : Int)) (j : Int)
 | 0, i, ha, hi => by
  obtain rfl : i = j := by omega
  have h2 := h.2.1
  refine Ev.step (f := fun _ => some (i : Int)) (fun k => ?_) (Ev.now _)
  rw [minstrelref05_digits.l0]
  by_cases he : i = s.size
  ·rw [if_neg (by omega)]
  ·have hnd : ¬ (48 ≤ bt s (i : Int) ∧ bt s (i : Int) ≤ 57) := fun g => h.2.2.2 ⟨by omega, g⟩
   rw [if_pos (by omega), if_pos (by omega)]
   by_cases c : bt s (i : Int) ≥ 48
   ·rw [if_pos c, if_neg (by omega)]
   ·rw [if_neg c]
 | d + 1, i, ha, hi => by
  have ih := rdigits_loop s a j hsz h d (i + 1) (by omega) (by omega)
  have hg := h.2.2.1 i ha (by omega)
  have h3 := hg.1
  have g1 := hg.2.1
  have g2 := hg.2.2
  refine Ev.step (fun k => ?_) ih
  rw [minstrelref05_digits.l0, if_pos (by omega), if_pos (by omega), if_pos g1, if_pos g2, wrap_one i (by omega)]
theorem rdigits (s : ByteArray) (a j : Nat) (hsz : s.size ≤ 1000000) (h : DE s a j) : Ev (fun k => minstrelref05_digits.f k s (a : Int)) (j : Int) :=
 rdigits_loop s a j hsz h (j - a) a (Nat.le_refl _) (by have := h.1; omega)
theorem rexp_loop (s : ByteArray) (a : Nat) (hsz : s.size ≤ 1000000) (neg : Bool) (x : Int) (d : ByteArray) (hx : -1000000 ≤ x ∧ x ≤ 1000000) (hd : ∀ t, a ≤ t → t < s.size → Dg s t) : ∀ n i r e : Nat, a ≤ i → i + n = s.size → e = min r 9999 → r ≤ 100000 →
  Ev (fun k => minstrelref05_Read.l0 k s neg (r : Int) (i : Int) d x) (d, x + (if neg = true then -1 else 1) * (efold s n i e : Nat), true)
 | 0, i, r, e, ha, hi, he, hr => by
  refine Ev.step (f := fun _ => some (d, x + (if neg = true then -1 else 1) * ((efold s 0 i e : Nat) : Int), true)) (fun k => ?_) (Ev.now _)
  have hef : efold s 0 i e = e := rfl
  rw [hef, minstrelref05_Read.l0, if_neg (by omega)]
  by_cases c : (r : Int) > 9999
  ·have e1 : e = 9999 := by omega
   rw [if_pos c, e1]
   cases neg with
   | true => rw [if_pos rfl, if_pos rfl, wrapB _ (by omega) (by omega)]; rfl
   | false => rw [if_neg (by decide), if_neg (by decide), wrapB _ (by omega) (by omega)]; rfl
  ·have e1 : e = r := by omega
   rw [if_neg c, e1]
   cases neg with
   | true => rw [if_pos rfl, if_pos rfl, wrapB (-(r : Int)) (by omega) (by omega), wrapB _ (by omega) (by omega), show x + -(r : Int) = x + -1 * (r : Int) by omega]
   | false => rw [if_neg (by decide), if_neg (by decide), wrapB _ (by omega) (by omega), show x + (r : Int) = x + 1 * (r : Int) by omega]
 | n + 1, i, r, e, ha, hi, he, hr => by
  have hg := hd i ha (by omega)
  have g1 := hg.2.1
  have g2 := hg.2.2
  have hb : (bt s (i : Int) - 48) % 256 = bt s (i : Int) - 48 := by omega
  by_cases c : r < 9999
  ·have ih := rexp_loop s a hsz neg x d hx hd n (i + 1) (10 * r + (bt s (i : Int) - 48).toNat) (min (10 * e + (bt s (i : Int) - 48).toNat) 9999) (by omega) (by omega) (by omega) (by omega)
   have hm : wrap64 ((wrap64 (10 * (r : Int))) + (bt s (i : Int) - 48)) = ((10 * r + (bt s (i : Int) - 48).toNat : Nat) : Int) := by
    rw [wrapB (10 * (r : Int)) (by omega) (by omega), wrapB _ (by omega) (by omega)]
    omega
   refine Ev.step (fun k => ?_) ih
   have q1 : (i : Int) < (s.size : Int) := by omega
   have q2 : (r : Int) < 9999 := by omega
   have q3 : (0 : Int) ≤ (i : Int) := by omega
   have q4 : i ≤ 1000000000 := by omega
   rw [minstrelref05_Read.l0, if_pos q1, if_pos q2, if_pos q3, hb, hm, wrap_one i q4]
  ·have ih := rexp_loop s a hsz neg x d hx hd n (i + 1) r (min (10 * e + (bt s (i : Int) - 48).toNat) 9999) (by omega) (by omega) (by omega) (by omega)
   refine Ev.step (fun k => ?_) ih
   rw [minstrelref05_Read.l0, if_pos (by omega), if_neg (by omega), wrap_one i (by omega)]
theorem rexp_ev (s : ByteArray) (a j : Nat) (hsz : s.size ≤ 1000000) (ha : a ≤ s.size) (neg : Bool) (x : Int) (d : ByteArray) (hx : -1000000 ≤ x ∧ x ≤ 1000000) (h : DE s a j) :
  Ev (fun k => minstrelref05_Read.j4 k s (a : Int) neg d x) (if a = s.size ∨ j ≠ s.size then (d, x, false) else (d, x + (if neg = true then -1 else 1) * (efrom s a : Nat), true)) := by
 by_cases h0 : a = s.size
 ·rw [if_pos (.inl h0)]
  refine Ev.step (fun k => ?_) (Ev.step (f := fun _ => some (d, x, false)) (g := fun k => minstrelref05_Read.j5 k s (a : Int) neg true d x) (fun k => ?_) (Ev.now _))
  ·rw [minstrelref05_Read.j4, if_pos (by omega)]
  ·rw [minstrelref05_Read.j5, if_pos rfl]
 ·have hdg := rdigits s a j hsz h
  by_cases hj : j = s.size
  ·rw [if_neg (by omega)]
   have hl := rexp_loop s a hsz neg x d hx (fun t t1 t2 => h.2.2.1 t t1 (by omega)) (s.size - a) a 0 0 (Nat.le_refl _) (by omega) (by decide) (by decide)
   have h5 : Ev (fun k => minstrelref05_Read.j5 k s (a : Int) neg ((j : Int) != (s.size : Int)) d x) (d, x + (if neg = true then -1 else 1) * (efrom s a : Nat), true) := by
    refine Ev.step (fun k => ?_) hl
    rw [minstrelref05_Read.j5, if_neg (by rw [hj]; simp)]
    rfl
   refine Ev.step (fun k => ?_) (Ev.bind hdg (f := fun k t => minstrelref05_Read.j5 k s (a : Int) neg (t != (s.size : Int)) d x) h5)
   rw [minstrelref05_Read.j4, if_neg (by omega)]
  ·rw [if_pos (.inr hj)]
   have h5 : Ev (fun k => minstrelref05_Read.j5 k s (a : Int) neg ((j : Int) != (s.size : Int)) d x) (d, x, false) := by
    refine Ev.step (f := fun _ => some (d, x, false)) (fun k => ?_) (Ev.now _)
    rw [minstrelref05_Read.j5, if_pos (bne_iff_ne.2 (by omega))]
   refine Ev.step (fun k => ?_) (Ev.bind hdg (f := fun k t => minstrelref05_Read.j5 k s (a : Int) neg (t != (s.size : Int)) d x) h5)
   rw [minstrelref05_Read.j4, if_neg (by omega)]
theorem tail_both (s : ByteArray) (a : Nat) (hsz : s.size ≤ 1000000) (ha : a ≤ s.size) (x : Int) (d : ByteArray) (hx : -1000 ≤ x ∧ x ≤ 0) : ∃ r : ByteArray × Int × Bool, Ev (fun k => dec_cut.j0 k (suf s a) d x) r ∧ Ev (fun k => minstrelref05_Read.j1 k s (a : Int) d x) r ∧ r.1 = d ∧ -20000 ≤ r.2.1 ∧ r.2.1 ≤ 20000 := by
 by_cases c0 : a = s.size
 ·refine ⟨(d, x, true), tail_ev s a hsz ha x d _ (fun _ => rfl) (fun h => by omega) (fun h => by omega) (fun h => by omega) (fun h => by omega), ?_, rfl, by show -20000 ≤ x; omega, by show x ≤ 20000; omega⟩
  refine Ev.step (f := fun _ => some (d, x, true)) (fun k => ?_) (Ev.now _)
  rw [minstrelref05_Read.j1, if_pos (by omega)]
 ·have hlt : a < s.size := by omega
  by_cases ce : bt s (a : Int) = 101 ∨ bt s (a : Int) = 69
  ·
   have hj1 : ∀ r, Ev (fun k => minstrelref05_Read.j2 k s (a : Int) false d x) r → Ev (fun k => minstrelref05_Read.j1 k s (a : Int) d x) r := by
    intro r h
    refine Ev.step (fun k => ?_) h
    rw [minstrelref05_Read.j1, if_neg (by omega), if_pos (by omega), if_pos (by omega)]
    rcases ce with c | c
    ·rw [if_pos c]
    ·rw [if_neg (by rw [c]; decide), c]
     rfl
   have hend : ∀ (b : Nat) (neg : Bool), b ≤ s.size → ∃ r : ByteArray × Int × Bool, Ev (fun k => dec_cut.j3 k (suf s b) (if neg = true then -1 else 1) d x) r ∧ Ev (fun k => minstrelref05_Read.j4 k s (b : Int) neg d x) r ∧ r.1 = d ∧ -20000 ≤ r.2.1 ∧ r.2.1 ≤ 20000 := by
    intro b neg hb
    obtain ⟨j, hj⟩ := DE_some s (s.size - b) b (by omega)
    have h8 : (if neg = true then (-1 : Int) else 1) = 1 ∨ (if neg = true then (-1 : Int) else 1) = -1 := by cases neg <;> simp
    refine ⟨_, exp_ev s b j hsz hb _ x d h8 (by omega) hj, rexp_ev s b j hsz hb neg x d (by omega) hj, ?_, ?_, ?_⟩
    ·split <;> rfl
    ·have := efold_le s (s.size - b) b 0 (by decide)
     split
     ·show -20000 ≤ x; omega
     ·show -20000 ≤ x + (if neg = true then (-1 : Int) else 1) * ((efold s (s.size - b) b 0 : Nat) : Int)
      cases neg
      ·simp only [Bool.false_eq_true, if_false]; omega
      ·simp only [if_true]; omega
    ·have := efold_le s (s.size - b) b 0 (by decide)
     split
     ·show x ≤ 20000; omega
     ·show x + (if neg = true then (-1 : Int) else 1) * ((efold s (s.size - b) b 0 : Nat) : Int) ≤ 20000
      cases neg
      ·simp only [Bool.false_eq_true, if_false]; omega
      ·simp only [if_true]; omega
   have hw1 : wrap64 ((a : Int) + 1) = ((a + 1 : Nat) : Int) := wrap_one a (by omega)
   have hw2 : wrap64 (((a + 1 : Nat) : Int) + 1) = ((a + 2 : Nat) : Int) := wrap_one (a + 1) (by omega)
   by_cases c1 : a + 1 = s.size
   ·obtain ⟨r, r1, r2, r3, r4, r5⟩ := hend (a + 1) false (by omega)
    refine ⟨r, tail_ev s a hsz ha x d r (fun h => absurd h c0) (fun _ h1 h2 => absurd ce (by rintro (h | h); exact h1 h; exact h2 h)) (fun _ _ h => by omega) (fun _ _ h => by omega) (fun _ _ _ => r1), hj1 _ ?_, r3, r4, r5⟩
    refine Ev.step (fun k => ?_) (Ev.step (g := fun k => minstrelref05_Read.j3 k s ((a + 1 : Nat) : Int) false false d x) (fun k => ?_) r2)
    ·rw [minstrelref05_Read.j2, if_neg (by decide), hw1, if_neg (by omega)]
    ·rw [minstrelref05_Read.j3, if_neg (by decide)]
   ·have hlt1 : a + 1 < s.size := by omega
    by_cases c2 : bt s ((a + 1 : Nat) : Int) = 43
    ·obtain ⟨r, r1, r2, r3, r4, r5⟩ := hend (a + 2) false (by omega)
     refine ⟨r, tail_ev s a hsz ha x d r (fun h => absurd h c0) (fun _ h1 h2 => absurd ce (by rintro (h | h); exact h1 h; exact h2 h)) (fun _ _ _ h => by rw [c2] at h; exact absurd h (by decide)) (fun _ _ _ _ => r1) (fun _ _ h => by
      rcases h with h | h
      ·omega
      ·exact absurd c2 h.1), hj1 _ ?_, r3, r4, r5⟩
     refine Ev.step (fun k => ?_) (Ev.step (g := fun k => minstrelref05_Read.j3 k s ((a + 1 : Nat) : Int) false true d x) (fun k => ?_) r2)
     ·rw [minstrelref05_Read.j2, if_neg (by decide), hw1, if_pos (by omega), if_pos (by omega), if_pos c2]
     ·rw [minstrelref05_Read.j3, if_pos rfl, if_pos (by omega), if_pos (by omega), hw2, c2]
      rfl
    ·by_cases c3 : bt s ((a + 1 : Nat) : Int) = 45
     ·obtain ⟨r, r1, r2, r3, r4, r5⟩ := hend (a + 2) true (by omega)
      refine ⟨r, tail_ev s a hsz ha x d r (fun h => absurd h c0) (fun _ h1 h2 => absurd ce (by rintro (h | h); exact h1 h; exact h2 h)) (fun _ _ _ _ => r1) (fun _ _ _ h => absurd h c2) (fun _ _ h => by
       rcases h with h | h
       ·omega
       ·exact absurd c3 h.2), hj1 _ ?_, r3, r4, r5⟩
      refine Ev.step (fun k => ?_) (Ev.step (g := fun k => minstrelref05_Read.j3 k s ((a + 1 : Nat) : Int) false true d x) (fun k => ?_) r2)
      ·rw [minstrelref05_Read.j2, if_neg (by decide), hw1, if_pos (by omega), if_pos (by omega), if_neg c2, c3]
       rfl
      ·rw [minstrelref05_Read.j3, if_pos rfl, if_pos (by omega), if_pos (by omega), hw2, c3]
       rfl
     ·obtain ⟨r, r1, r2, r3, r4, r5⟩ := hend (a + 1) false (by omega)
      refine ⟨r, tail_ev s a hsz ha x d r (fun h => absurd h c0) (fun _ h1 h2 => absurd ce (by rintro (h | h); exact h1 h; exact h2 h)) (fun _ _ _ h => absurd h c3) (fun _ _ _ h => absurd h c2) (fun _ _ _ => r1), hj1 _ ?_, r3, r4, r5⟩
      refine Ev.step (fun k => ?_) (Ev.step (g := fun k => minstrelref05_Read.j3 k s ((a + 1 : Nat) : Int) false false d x) (fun k => ?_) r2)
      ·rw [minstrelref05_Read.j2, if_neg (by decide), hw1, if_pos (by omega), if_pos (by omega), if_neg c2, beq_eq_false_iff_ne.2 c3]
      ·rw [minstrelref05_Read.j3, if_neg (by decide)]
  ·have c1 : bt s (a : Int) ≠ 101 := fun c => ce (.inl c)
   have c2 : bt s (a : Int) ≠ 69 := fun c => ce (.inr c)
   refine ⟨(d, x, false), tail_ev s a hsz ha x d _ (fun h => absurd h c0) (fun _ _ _ => rfl) (fun _ h => absurd h ce) (fun _ h => absurd h ce) (fun _ h => absurd h ce), ?_, rfl, by show -20000 ≤ x; omega, by show x ≤ 20000; omega⟩
   refine Ev.step (fun k => ?_) (Ev.step (f := fun _ => some (d, x, false)) (g := fun k => minstrelref05_Read.j2 k s (a : Int) true d x) (fun k => ?_) (Ev.now _))
   ·rw [minstrelref05_Read.j1, if_neg (by omega), if_pos (by omega), if_pos (by omega), if_neg c1, bne_iff_ne.2 c2]
   ·rw [minstrelref05_Read.j2, if_pos rfl]
theorem read_both (s : ByteArray) (hsz : s.size ≤ 400) : ∃ r r' : ByteArray × Int × Bool, Ev (fun k => dec_cut.f k s) r ∧ Ev (fun k => minstrelref05_Read.f k s) r' ∧ r.2.2 = r'.2.2 ∧ (r.2.2 = true → r = r' ∧ AllDigits r.1 ∧ r.1.size ≤ 400 ∧ -20000 ≤ r.2.1 ∧ r.2.1 ≤ 20000) := by
 obtain ⟨n, hn⟩ := DE_some s s.size 0 (by omega)
 have hrd := rdigits s 0 n (by omega) hn
 have hn2 := hn.2.1
 have e0 : (s.extract 0 n).size = n := by rw [ext_size s 0 n hn2, Nat.sub_zero]
 have ad0 : AllDigits (s.extract 0 n) := by
  intro i hi
  rw [e0] at hi
  rw [bt_ext s 0 n i (by omega), Nat.zero_add]
  exact (hn.2.2.1 i (by omega) hi).2
 by_cases c0 : n = 0
 ·subst c0
  refine ⟨(s.extract 0 0, 0, false), ((⟨#[]⟩ : ByteArray), 0, false), cut_ev s 0 0 (by omega) hn _ (fun _ => rfl) (fun h => absurd rfl h) (fun h => absurd rfl h), ?_, rfl, fun h => by cases h⟩
  refine Ev.bind hrd (f := fun k t416 => (if t416 = 0 then (some ((⟨#[]⟩ : ByteArray), (0 : Int), false)) else (if 0 ≤ t416 then (if t416 ≤ (s.size : Int) then (if t416 < (s.size : Int) then (minstrelref05_Read.j0 k s t416 ((bt s t416) == 46) (s.extract 0 (t416 : Int).toNat) 0) else (minstrelref05_Read.j0 k s t416 false (s.extract 0 (t416 : Int).toNat) 0)) else (none)) else (none)))) (Ev.congr (fun k => if_pos rfl) (Ev.now _))
 ·have hgo : ∀ (r : ByteArray × Int × Bool) (z : Bool), z = decide (n < s.size ∧ bt s (n : Int) = 46) → Ev (fun k => minstrelref05_Read.j0 k s (n : Int) z (s.extract 0 n) 0) r → Ev (fun k => minstrelref05_Read.f k s) r := by
   intro r z hz h
   refine Ev.bind hrd (f := fun k t416 => (if t416 = 0 then (some ((⟨#[]⟩ : ByteArray), (0 : Int), false)) else (if 0 ≤ t416 then (if t416 ≤ (s.size : Int) then (if t416 < (s.size : Int) then (minstrelref05_Read.j0 k s t416 ((bt s t416) == 46) (s.extract 0 (t416 : Int).toNat) 0) else (minstrelref05_Read.j0 k s t416 false (s.extract 0 (t416 : Int).toNat) 0)) else (none)) else (none)))) (Ev.congr (fun k => ?_) h)
   rw [if_neg (by omega), if_pos (by omega), if_pos (by omega), Int.toNat_natCast]
   by_cases c : n < s.size
   ·rw [if_pos (by omega), hz]
    by_cases cb : bt s (n : Int) = 46
    ·rw [cb, decide_eq_true ⟨c, rfl⟩]; rfl
    ·rw [beq_eq_false_iff_ne.2 cb, decide_eq_false (fun h => cb h.2)]
   ·rw [if_neg (by omega), hz, decide_eq_false (fun h => c h.1)]
  by_cases cd : n < s.size ∧ bt s (n : Int) = 46
  ·obtain ⟨m, hm⟩ := DE_some s (s.size - (n + 1)) (n + 1) (by omega)
   have hrd2 := rdigits s (n + 1) m (by omega) hm
   have hm1 := hm.1
   have hm2 := hm.2.1
   have hw : wrap64 ((n : Int) + 1) = ((n + 1 : Nat) : Int) := wrap_one n (by omega)
   by_cases cm : m = n + 1
   ·refine ⟨(s.extract 0 n, 0, false), (s.extract 0 n, 0, false), cut_ev s n m (by omega) hn _ (fun h => absurd h c0) (fun _ _ _ => ⟨hm, fun _ => rfl, fun h => absurd cm h⟩) (fun _ h => absurd cd h), hgo _ true (decide_eq_true cd).symm ?_, rfl, fun h => by cases h⟩
    refine Ev.step (fun k => ?_) (Ev.bind hrd2 (f := fun k t417 => (if t417 = ((n + 1 : Nat) : Int) then (some (s.extract 0 n, (0 : Int), false)) else none)) (Ev.congr (fun k => if_pos (by omega)) (Ev.now _)))
    rw [minstrelref05_Read.j0, if_pos rfl, hw]
    cases hq : minstrelref05_digits.f k s ((n + 1 : Nat) : Int) with
    | none => rfl
    | some t =>
     have ht : t = (m : Int) := by
      obtain ⟨K, hK⟩ := hrd2
      have hup : ∀ z, minstrelref05_digits.f (k + z) s ((n + 1 : Nat) : Int) = some t := by
       intro z
       induction z with
       | zero => exact hq
       | succ z ih => exact minstrelref05_digits.mono _ _ _ _ ih
      exact Option.some.inj ((hup K).symm.trans (hK (k + K) (Nat.le_add_left ..)))
     rw [Option.bind_some, Option.bind_some, if_pos (by omega), if_pos (by omega)]
   ·have e1 : (s.extract (n + 1) m).size = m - (n + 1) := ext_size s (n + 1) m hm2
    have ad1 : AllDigits (s.extract (n + 1) m) := by
     intro i hi
     rw [e1] at hi
     rw [bt_ext s (n + 1) m i (by omega)]
     exact (hm.2.2.1 (n + 1 + i) (by omega) (by omega)).2
    have hds : (s.extract 0 n ++ s.extract (n + 1) m).size ≤ 400 := by rw [ByteArray.size_append, e0, e1]; omega
    have had : AllDigits (s.extract 0 n ++ s.extract (n + 1) m) := by
     intro i hi
     rw [ByteArray.size_append] at hi
     rw [bt_app]
     by_cases h : i < (s.extract 0 n).size
     ·rw [if_pos h]; exact ad0 i h
     ·rw [if_neg h]; exact ad1 _ (by omega)
    obtain ⟨r, r1, r2, r3, r4, r5⟩ := tail_both s m (by omega) hm2 (-((m - n - 1 : Nat) : Int)) (s.extract 0 n ++ s.extract (n + 1) m) (by omega)
    refine ⟨r, r, cut_ev s n m (by omega) hn _ (fun h => absurd h c0) (fun _ _ _ => ⟨hm, fun h => absurd h cm, fun _ => r1⟩) (fun _ h => absurd cd h), hgo _ true (decide_eq_true cd).symm ?_, rfl, fun _ => ⟨rfl, r3 ▸ had, r3 ▸ hds, r4, r5⟩⟩
    have hw3 : wrap64 (((n + 1 : Nat) : Int) - (m : Int)) = -((m - n - 1 : Nat) : Int) := by rw [wrapB _ (by omega) (by omega)]; omega
    have q1 : ¬ (m : Int) = ((n + 1 : Nat) : Int) := by omega
    have q2 : (0 : Int) ≤ ((n + 1 : Nat) : Int) := by omega
    have q3 : ((n + 1 : Nat) : Int) ≤ (m : Int) := by omega
    have q4 : (m : Int) ≤ (s.size : Int) := by omega
    have q5 : (s.extract 0 n).size + (s.extract (n + 1) m).size ≤ 9223372036854775807 := by rw [e0, e1]; omega
    refine Ev.step (fun k => ?_) (Ev.bind hrd2 (f := fun k t417 => (if t417 = ((n + 1 : Nat) : Int) then (some (s.extract 0 n, (0 : Int), false)) else (if 0 ≤ ((n + 1 : Nat) : Int) then (if ((n + 1 : Nat) : Int) ≤ t417 then (if t417 ≤ (s.size : Int) then (if (s.extract 0 n).size + (s.extract (((n + 1 : Nat) : Int)).toNat (t417 : Int).toNat).size ≤ 9223372036854775807 then (minstrelref05_Read.j1 k s t417 (s.extract 0 n ++ (s.extract (((n + 1 : Nat) : Int)).toNat (t417 : Int).toNat)) (wrap64 (((n + 1 : Nat) : Int) - t417))) else (none)) else (none)) else (none)) else (none)))) (Ev.congr (fun k => ?_) r2))
    ·rw [minstrelref05_Read.j0, if_pos rfl, hw]
    ·rw [if_neg q1, if_pos q2, if_pos q3, if_pos q4, Int.toNat_natCast, Int.toNat_natCast, if_pos q5, hw3]
  ·obtain ⟨r, r1, r2, r3, r4, r5⟩ := tail_both s n (by omega) hn2 0 (s.extract 0 n) (by omega)
   refine ⟨r, r, cut_ev s n 0 (by omega) hn _ (fun h => absurd h c0) (fun _ h1 h2 => absurd ⟨h1, h2⟩ cd) (fun _ _ => r1), hgo _ false (decide_eq_false cd).symm ?_, rfl, fun _ => ⟨rfl, r3 ▸ ad0, by rw [r3, e0]; omega, r4, r5⟩⟩
   refine Ev.step (fun k => ?_) r2
   rw [minstrelref05_Read.j0, if_neg (by decide)]
end Go.Proofs.YtflcanpajgpghaaDoor.Pure
end
section
namespace Go.Proofs.YtflcanpajgpghaaDoor.Pure
open Go.RowKit Go.Proofs.YtflcanpajgpghaaDoor.Pr Go.Proofs.YtflcanpajgpghaaDoorW.PrintWords Go.Proofs.YtflcanpajgpghaaDoorW.PrintLast Go.Proofs.YtflcanpajgpghaaDoorW.PrintMore
theorem lives_200 : minstrellaw05_lives.f 200 = some true := by kernel_rfl
theorem lives_ev : Ev (fun k => minstrellaw05_lives.f k) true := Ev.of (k := 200) (fun k => minstrellaw05_lives.mono _) lives_200
end Go.Proofs.YtflcanpajgpghaaDoor.Pure
end
section
namespace Go.Proofs.YtflcanpajgpghaaDoor.Pure
open Go.RowKit Go.Proofs.YtflcanpajgpghaaDoor.Pr Go.Proofs.YtflcanpajgpghaaDoorW.PrintWords Go.Proofs.YtflcanpajgpghaaDoorW.PrintLast Go.Proofs.YtflcanpajgpghaaDoorW.PrintMore Go.Proofs.YtflcanpajgpghaaDoor.Flo
theorem gen_nearest {n R S D U p q m X : Nat} (h : Sp n R S D U) (hn : 0 < n) (hX : X = pickX (R * 10 ^ p * 10 ^ m / (S * 10 ^ q)) (R * 10 ^ p * 10 ^ m % (S * 10 ^ q)) (D * 10 ^ p * 10 ^ m) (U * 10 ^ p * 10 ^ m) (S * 10 ^ q) (n % 2 == 0))
  (hst : Stop (R * 10 ^ p * 10 ^ m % (S * 10 ^ q)) (D * 10 ^ p * 10 ^ m) (U * 10 ^ p * 10 ^ m) (S * 10 ^ q) (n % 2 == 0)) : Nearest (upN X ((q : Int) - p - m)) (loN ((q : Int) - p - m)) n := by
 have hs : 0 < S * 10 ^ q := Nat.mul_pos h.hS (ten_pos q)
 have hQρ : R * 10 ^ p * 10 ^ m = (R * 10 ^ p * 10 ^ m / (S * 10 ^ q)) * (S * 10 ^ q) + R * 10 ^ p * 10 ^ m % (S * 10 ^ q) := by
  rw [Nat.mul_comm (R * 10 ^ p * 10 ^ m / (S * 10 ^ q))]; exact (Nat.div_add_mod _ _).symm
 have hρs := Nat.mod_lt (R * 10 ^ p * 10 ^ m) hs
 have he : (q : Int) - p = (q : Int) - p := rfl
 have hlowI := low_iff (m := m) h hn he hQρ
 have hundI := under_low (m := m) h he hQρ
 have hfarI := far_iff (m := m) h he hQρ
 have habvI := above_high (m := m) h hn he hQρ hρs
 rw [hX]
 unfold pickX
 split
 ·rename_i c
  exact ⟨habvI, hfarI.2 c.1⟩
 ·rename_i c
  rcases hst with g | g
  ·exact ⟨hlowI.2 g, hundI⟩
  ·by_cases hl : Low (R * 10 ^ p * 10 ^ m % (S * 10 ^ q)) (D * 10 ^ p * 10 ^ m) (n % 2 == 0)
   ·exact ⟨hlowI.2 hl, hundI⟩
   ·exact absurd ⟨g, .inl hl⟩ c
theorem ds_mul (Y : Nat) (h : Y ≠ 0) : ∀ z, (ds (Y * 10 ^ z)).length = (ds Y).length + z
 | 0 => by rw [Nat.pow_zero, Nat.mul_one]; rfl
 | z + 1 => by
  have h1 : Y * 10 ^ z ≠ 0 := Nat.ne_of_gt (Nat.mul_pos (by omega) (Nat.pow_pos (by decide)))
  rw [Nat.pow_succ, ← Nat.mul_assoc, ds_pos (by omega), Nat.mul_div_cancel _ (by decide), List.length_append, ds_mul Y h z, List.length_singleton, Nat.add_assoc]
theorem strip_out (m X : Nat) (e : Int) (hX1 : 10 ^ m ≤ X) (hX2 : X ≤ 10 ^ (m + 1)) (hm : m ≤ 16) :
  ∃ z : Nat, X = strip X * 10 ^ z ∧ strip X ≠ 0 ∧ strip X % 10 ≠ 0 ∧ (ds (strip X)).length ≤ 17 ∧ (if X = 10 ^ (m + 1) then e + 1 else e) - ((ds (strip X)).length : Nat) + 1 = e - m + z := by
 have hX0 : X ≠ 0 := by have := Flo.ten_pos m; omega
 obtain ⟨g1, g2, z, g3⟩ := strip_pos X X (Nat.le_refl _) hX0
 have hl := ds_mul (strip X) g1 z
 rw [← g3] at hl
 have hpl := ds_pos_len g1
 by_cases c : X = 10 ^ (m + 1)
 ·have h10 : 10 ^ (m + 1) < 10 ^ (m + 1 + 1) := Nat.pow_lt_pow_right (by decide) (by omega)
  have hlen : (ds X).length = m + 1 + 1 := ds_len_eq (by omega) (by omega)
  have h1 : (ds (strip X)).length = 1 := by
   have hs1 : strip (10 ^ (m + 1)) = 1 := by
    have : ∀ i, strip (10 ^ i) = 1 := by
     intro i
     induction i with
     | zero => exact strip_end (by decide)
     | succ i ih =>
      have hp : 0 < 10 ^ i := Nat.pow_pos (by decide)
      rw [Nat.pow_succ, strip_step (by omega) (by omega), Nat.mul_div_cancel _ (by decide), ih]
    exact this (m + 1)
   rw [c, hs1, ds_pos (by decide), List.length_append, show 1 / 10 = 0 from rfl, ds_zero]
   rfl
  rw [if_pos c]
  exact ⟨z, g3, g1, g2, by omega, by omega⟩
 ·have hlen : (ds X).length = m + 1 := ds_len_eq hX1 (by omega)
  rw [if_neg c]
  exact ⟨z, g3, g1, g2, by omega, by omega⟩
theorem front_digit : ∀ (n Y : Nat), Y ≤ n → Y ≠ 0 → ∀ t : ByteArray, bt (strOfNums (ds Y) ++ t) ((0 : Nat) : Int) ≠ 48
 | 0, Y, h, h0, t => absurd (by omega) h0
 | n + 1, Y, h, h0, t => by
  by_cases c : Y < 10
  ·have h1 : ds Y = [dg Y] := by rw [ds_pos h0, show Y / 10 = 0 by omega, ds_zero]; rfl
   have hd := dg_in Y
   rw [h1, bt_app, if_pos (by rw [qone_size]; decide), qone_bt _ (by omega) (by omega)]
   unfold dg
   omega
  ·rw [ds_pos h0, str_app, tassoc]
   exact front_digit n (Y / 10) (by omega) (by omega) _
theorem lives_bind : Ev (fun k => (minstrellaw05_lives.f k).bind fun t => some t) true := Ev.bind lives_ev (Ev.now _)
theorem loop_to (a b Y : Nat) (E : Int) (h0 : Y ≠ 0) (h10 : Y % 10 ≠ 0) (hl : (ds Y).length ≤ 17) (ha : a ≤ 10) (hb : b ≤ 25) : ∀ i, i ≤ b →
  Ev (fun k => minstrellaw05_DecBack.l1 k true (a : Int) ((a + (ds Y).length + i : Nat) : Int) (zs a ++ strOfNums (ds Y) ++ zs b) E) true := by
 have hpl := ds_pos_len h0
 have hsz : (zs a ++ strOfNums (ds Y) ++ zs b).size = a + (ds Y).length + b := by rw [app_size, app_size, zs_size, zs_size, str_size]
 intro i
 induction i with
 | zero =>
  intro _
  refine Ev.step (fun k => ?_) lives_bind
  have hlast : bt (zs a ++ strOfNums (ds Y) ++ zs b) ((a + (ds Y).length - 1 : Nat) : Int) = dg Y := by
   have := ds_last h0 (zs b)
   rw [tassoc, bt_app, zs_size, if_neg (by omega), show a + (ds Y).length - 1 - a = (ds Y).length - 1 by omega]
   exact this
  have hdg : dg Y ≠ 48 := by unfold dg; omega
  rw [minstrellaw05_DecBack.l1, if_pos (by omega), wrapB _ (by omega) (by omega), show ((a + (ds Y).length + 0 : Nat) : Int) - 1 = ((a + (ds Y).length - 1 : Nat) : Int) by omega, if_pos (by omega), if_pos (by omega), hlast, if_neg hdg, if_pos rfl, wrapB _ (by omega) (by omega), if_pos (by omega)]
 | succ i ih =>
  intro hi
  refine Ev.step (fun k => ?_) (ih (by omega))
  have hz : bt (zs a ++ strOfNums (ds Y) ++ zs b) ((a + (ds Y).length + i : Nat) : Int) = 48 := by
   rw [bt_app, app_size, zs_size, str_size, if_neg (by omega), show a + (ds Y).length + i - (a + (ds Y).length) = i by omega]
   exact zs_bt b i (by omega)
  rw [minstrellaw05_DecBack.l1, if_pos (by omega), wrapB _ (by omega) (by omega), show ((a + (ds Y).length + (i + 1) : Nat) : Int) - 1 = ((a + (ds Y).length + i : Nat) : Int) by omega, if_pos (by omega), if_pos (by omega), if_pos hz]
theorem loop_from (a b Y : Nat) (E : Int) (h0 : Y ≠ 0) (h10 : Y % 10 ≠ 0) (hl : (ds Y).length ≤ 17) (ha : a ≤ 10) (hb : b ≤ 25) : ∀ d i, i + d = a →
  Ev (fun k => minstrellaw05_DecBack.l0 k true (i : Int) ((a + (ds Y).length + b : Nat) : Int) (zs a ++ strOfNums (ds Y) ++ zs b) E) true := by
 have hpl := ds_pos_len h0
 have hsz : (zs a ++ strOfNums (ds Y) ++ zs b).size = a + (ds Y).length + b := by rw [app_size, app_size, zs_size, zs_size, str_size]
 intro d
 induction d with
 | zero =>
  intro i hi
  obtain rfl : i = a := by omega
  refine Ev.step (f := fun k => minstrellaw05_DecBack.j2 k true (i : Int) ((i + (ds Y).length + b : Nat) : Int) (zs i ++ strOfNums (ds Y) ++ zs b) E) (fun k => ?_) (Ev.step (fun k => ?_) (loop_to i b Y E h0 h10 hl ha hb b (Nat.le_refl _)))
  ·have hne : ¬ bt (zs i ++ strOfNums (ds Y) ++ zs b) (i : Int) = 48 := by
    have := front_digit Y Y (Nat.le_refl _) h0 (zs b)
    rw [tassoc, bt_app, zs_size, if_neg (Nat.lt_irrefl _), Nat.sub_self]
    exact this
   rw [minstrellaw05_DecBack.l0, if_pos (by omega), if_pos (by omega), if_pos (by omega), if_neg hne]
  ·rw [minstrellaw05_DecBack.j2]
 | succ d ih =>
  intro i hi
  refine Ev.step (fun k => ?_) (ih (i + 1) (by omega))
  have hz : bt (zs a ++ strOfNums (ds Y) ++ zs b) (i : Int) = 48 := by
   rw [tassoc, bt_app, zs_size, if_pos (by omega)]
   exact zs_bt a i (by omega)
  rw [minstrellaw05_DecBack.l0, if_pos (by omega), if_pos (by omega), if_pos (by omega), if_pos hz, wrapB _ (by omega) (by omega), show (i : Int) + 1 = ((i + 1 : Nat) : Int) by omega]
theorem ev_one {α : Type} {f : Nat → Option α} {x y : α} (h : Ev f x) (g : Ev f y) : x = y := by
 obtain ⟨K1, h1⟩ := h
 obtain ⟨K2, h2⟩ := g
 exact Option.some.inj ((h1 (K1 + K2) (by omega)).symm.trans (h2 (K1 + K2) (by omega)))
theorem back_fin (a : Nat) (ha : a < 18446744073709551616) (h0 : 0 < rung a) (h1 : rung a < INF) : Ev (fun k => minstrellaw05_DecBack.f k (a : Int)) true := by
 have hI : INF = 9218868437227405312 := rfl
 obtain ⟨n, hn⟩ : ∃ n, n = rung a := ⟨_, rfl⟩
 rw [← hn] at h0 h1
 have hn63 : n < 9223372036854775808 := by omega
 have hrn : rung n = n := Nat.mod_eq_of_lt hn63
 obtain ⟨R, S, D, U, p, q, m, X, hsp, hf, hnf, hg, hm, hX1, hX2, hprint⟩ := print_fin n (by omega) (by omega) (by omega)
 rw [hrn] at hsp
 have hpre : pre n = (⟨#[]⟩ : ByteArray) := by unfold pre; rw [if_neg (by omega)]
 rw [hpre, tnil_left] at hprint
 obtain ⟨m', X', hg', _, _, _, hpick, hstop⟩ := gen_fact hsp h0 hf hnf
 rw [hg] at hg'
 obtain ⟨rfl, rfl⟩ := Prod.mk.inj hg'
 have hnear := gen_nearest hsp h0 hpick hstop
 have hb := exp_bounds hsp h0 h1 hf hnf
 obtain ⟨z, z1, z2, z3, z4, z5⟩ := strip_out m X ((q : Int) - p) hX1 hX2 hm
 obtain ⟨Y, hY⟩ : ∃ Y, Y = strip X := ⟨_, rfl⟩
 have hout : outF (m, X) ((q : Int) - p) = (strOfNums (ds Y), if X = 10 ^ (m + 1) then (q : Int) - p + 1 else (q : Int) - p) := by unfold outF; rw [hY]
 rw [hout] at hprint
 dsimp only at hprint
 rw [← hY] at z1 z2 z3 z4 z5
 obtain ⟨e, he⟩ : ∃ e, e = (if X = 10 ^ (m + 1) then (q : Int) - p + 1 else (q : Int) - p) := ⟨_, rfl⟩
 rw [← he] at hprint z5
 have hpl := ds_pos_len z2
 have hebd : -363 ≤ e ∧ e ≤ 363 := by rw [he]; split <;> omega
 obtain ⟨u, v, hu, hv, hcut⟩ := lay_cut (strOfNums (ds Y)) (ds_all Y) (by rw [str_size]; omega) (by rw [str_size]; omega) e (by omega) (by omega)
 rw [str_size] at hcut
 have hDsz : (zs u ++ strOfNums (ds Y) ++ zs v).size = u + (ds Y).length + v := by rw [app_size, app_size, zs_size, zs_size, str_size]
 have hall : AllDigits (zs u ++ strOfNums (ds Y) ++ zs v) := qalld_app (qalld_app (zs_all u) (ds_all Y)) (zs_all v)
 have hval := dval_mid u v (strOfNums (ds Y))
 rw [ds_val] at hval
 have hlsz : (layF (strOfNums (ds Y)) e).size ≤ 400 := by
  have h4 := ds_small (-e).toNat (by omega)
  have h5 := ds_small e.toNat (by omega)
  have h6 := str_size (ds Y)
  unfold layF mant
  by_cases c1 : e < -7
  ·rw [if_pos c1]
   split <;> simp only [app_size, ByteArray.size_extract, size_dot, size_em] <;> omega
  ·rw [if_neg c1]
   by_cases c2 : 20 < e
   ·rw [if_pos c2]
    split <;> simp only [app_size, ByteArray.size_extract, size_dot, size_ep] <;> omega
   ·rw [if_neg c2]
    by_cases c3 : e < 0
    ·rw [if_pos c3]
     simp only [app_size, size_zd, zs_size]
     omega
    ·rw [if_neg c3]
     split <;> simp only [app_size, ByteArray.size_extract, size_dot, zs_size] <;> omega
 obtain ⟨w, hw, hparse⟩ := parse_of_cut _ _ _ hlsz hall (by omega) (by omega) (by omega) hcut
 rw [hval] at hw
 have hwn : w = n := by
  unfold ReadAs at hw
  have hne : Y * 10 ^ v ≠ 0 := Nat.ne_of_gt (Nat.mul_pos (by omega) (Flo.ten_pos v))
  rw [if_neg (by omega), if_neg (by omega)] at hw
  obtain ⟨x, hx, rfl⟩ := hw
  have hx2 : x = n := by
   refine nearest_one (loN_pos _) (loN_pos _) ?_ hx hnear
   have e2 : 10 ^ v * 10 ^ (e - ((ds Y).length : Nat) + 1 - v).toNat * 10 ^ (-((q : Int) - p - m)).toNat = 10 ^ z * 10 ^ ((q : Int) - p - m).toNat * 10 ^ (-(e - ((ds Y).length : Nat) + 1 - v)).toNat := by
    rw [← Nat.pow_add, ← Nat.pow_add, ← Nat.pow_add, ← Nat.pow_add, show v + (e - ((ds Y).length : Nat) + 1 - v).toNat + (-((q : Int) - p - m)).toNat = z + ((q : Int) - p - m).toNat + (-(e - ((ds Y).length : Nat) + 1 - v)).toNat by omega]
   unfold upN loN
   rw [z1, Nat.mul_assoc Y, Nat.mul_assoc Y, Nat.mul_assoc Y (10 ^ z), Nat.mul_assoc Y, e2]
  omega
 rw [hwn] at hparse
 obtain ⟨r, r', c1, c2, c3, c4⟩ := read_both (layF (strOfNums (ds Y)) e) hlsz
 have hr := ev_one c1 hcut
 rw [hr] at c3 c4
 have hr' := (c4 rfl).1
 rw [← hr'] at c2
 have hloop := loop_from u v Y (e - ((ds Y).length : Nat) + 1 - v) z2 z3 z4 hu hv u 0 (by omega)
 obtain ⟨K1, g1⟩ := rkind2_ev a ha
 have hk := kind_fin (a := a) (by omega) (by omega)
 obtain ⟨K2, g2⟩ := hprint
 obtain ⟨K3, g3⟩ := hparse
 obtain ⟨K4, g4⟩ := c2
 obtain ⟨K5, g5⟩ := hloop
 have hand := andNot_sign a ha
 rw [← hn] at hand
 refine ⟨K1 + K2 + K3 + K4 + K5 + 1, fun k hk2 => ?_⟩
 dsimp only at g1 g2 g3 g4 g5 ⊢
 obtain ⟨k', rfl⟩ : ∃ k', k = k' + 1 := ⟨k - 1, by omega⟩
 have hk3 : ¬ kindV a ≥ 3 := by rw [hk]; split <;> decide
 rw [minstrellaw05_DecBack.f, g1 (k' + 1) (by omega), Option.bind_some, if_neg hk3, hand, g2 (k' + 1) (by omega), Option.bind_some, g3 (k' + 1) (by omega), Option.bind_some]
 dsimp only
 rw [if_pos rfl, minstrellaw05_DecBack.j0, if_neg (by decide), g4 k' (by omega), Option.bind_some]
 dsimp only
 rw [hDsz]
 exact g5 k' (by omega)
theorem back_plus : minstrellaw05_DecBack.f 300 0 = some true := by kernel_rfl
theorem back_minus : minstrellaw05_DecBack.f 300 9223372036854775808 = some true := by kernel_rfl
theorem DecBack : minstrellaw05_DecBack.Pure := by
 intro a0 hwf
 have h1 : 0 ≤ a0 ∧ a0 ≤ 18446744073709551615 := by simpa [Lit.wf, IntKind.min, IntKind.max, IntKind.signed, IntKind.bits] using hwf
 obtain ⟨a, rfl⟩ : ∃ a : Nat, a0 = (a : Int) := ⟨a0.toNat, by omega⟩
 have ha : a < 18446744073709551616 := by omega
 have hI : INF = 9218868437227405312 := rfl
 have hr : rung a = a % 9223372036854775808 := rfl
 by_cases c0 : rung a = 0
 ·rcases (show a = 0 ∨ a = 9223372036854775808 by omega) with rfl | rfl
  ·exact ⟨300, back_plus⟩
  ·exact ⟨300, back_minus⟩
 ·by_cases c1 : rung a < INF
  ·obtain ⟨K, g⟩ := back_fin a ha (by omega) c1
   exact ⟨K, g K (Nat.le_refl _)⟩
  ·obtain ⟨K1, g1⟩ := rkind2_ev a ha
   obtain ⟨K2, g2⟩ := lives_bind
   dsimp only at g1 g2
   have hk : kindV a ≥ 3 := by
    unfold kindV nanB infB
    by_cases d1 : 9218868437227405312 < rung a
    ·rw [if_pos (decide_eq_true d1)]; decide
    ·rw [if_neg (by rw [decide_eq_true_iff]; exact d1), if_neg c0, if_pos (by rw [decide_eq_true_iff]; omega)]; decide
   refine ⟨K1 + K2, ?_⟩
   rw [minstrellaw05_DecBack.f, g1 _ (by omega), Option.bind_some, if_pos hk]
   exact g2 _ (by omega)
end Go.Proofs.YtflcanpajgpghaaDoor.Pure
end
