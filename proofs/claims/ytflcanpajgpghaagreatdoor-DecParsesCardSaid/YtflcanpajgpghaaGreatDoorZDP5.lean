/- A part of the proof of the law that RowDecParses shows: lemmas, and contracts of the calls that it reaches. -/
import Derived.Test.YtflcanpajgpghaaGreatDoorProg
import Derived.Below
import Derived.Deep.Draws
import Derived.Deep.AppendLies
import Derived.Maps.AppendAt
import Derived.OwnWalk
import Derived.Laws.BytesArg
import Derived.Laws.MakeOwn
import Derived.Laws.OwnMore
import Derived.Deep.OwnRows
import Derived.Tactics
import Derived.Lib.ConvBytes
import Derived.Laws.Slices
import Derived.WalkKit
import Derived.KernelRfl
import Derived.RowKit3
import Derived.Deep.LoopGhost
import Derived.Deep.QuietTactic
import Derived.BigQuiet
import Derived.WideLaws
import Derived.Deep.DeepCutAuto
import Derived.Deep.CutBlock
import Derived.Deep.RegionHeld3
import Derived.Laws.Rows
import Derived.Lib.AppendStr
import Derived.ArgAppend
import Derived.Laws.IdiomCopy
import Derived.OrdersHeld
import Derived.Laws.BitsLemmas
import Derived.RowKit
import Derived.Test.YtflcanpajgpghaaGreatDoorZDP0
import Derived.Test.YtflcanpajgpghaaGreatDoorZDP1
import Derived.Test.YtflcanpajgpghaaGreatDoorZDP2
import Derived.Test.YtflcanpajgpghaaGreatDoorZDP3
import Derived.Test.YtflcanpajgpghaaGreatDoorZDP4
set_option linter.unusedVariables false
set_option linter.unusedSimpArgs false
section
namespace Go.Proofs.YtflcanpajgpghaaGreatDoor.Pr
open Go.RowKit Go.Proofs.YtflcanpajgpghaaGreatDoorW.PrintWords Go.Proofs.YtflcanpajgpghaaGreatDoorW.PrintLast Go.Proofs.YtflcanpajgpghaaGreatDoorW.PrintMore
attribute [local go_sem] zXm zXk zXy zXx zXa zQZ zXl zXj
def dec_Print.j0 : Nat → Int → ByteArray → Option (ByteArray)
 | 0,_,_ => none
 | k + 1,x0,x3 => (flo_Kind.f x0).bind fun t623 => (if t623 = 4 then (some (⟨#[110,97,110]⟩ : ByteArray)) else (if t623 = 3 then (if x3.size + 3 ≤ 9223372036854775807 then (some (x3 ++ (⟨#[105,110,102]⟩ : ByteArray))) else (none)) else (if t623 = 0 then (if x3.size + 1 ≤ 9223372036854775807 then (some (x3 ++ (⟨#[48]⟩ : ByteArray))) else (none)) else ((dec_shortest.f k x0).bind fun bt624 => ((dec_laid.f k bt624.1 bt624.2).bind fun t626 => (if x3.size + t626.size ≤ 9223372036854775807 then (some (x3 ++ t626)) else (none)))))))
def dec_Print.f (k : Nat) (a0 : Int) : Option (ByteArray) := if (a0 / 9223372036854775808) = 1 then (dec_Print.j0 k a0 (⟨#[45]⟩ : ByteArray)) else (dec_Print.j0 k a0 (⟨#[]⟩ : ByteArray))
theorem dec_Print.mono_l : ∀ k,(∀ y0 y1,LeO (dec_Print.j0 k y0 y1) (dec_Print.j0 (k + 1) y0 y1))
 | 0 => fun _ _ r h => by simp [dec_Print.j0] at h
 | k + 1 => by
  have ih0 := dec_Print.mono_l k
  ·intro y0 y1
   unfold dec_Print.j0
   repeat' first
   | (with_reducible exact ih0 _ _)
   | (with_reducible exact dec_laid.mono _ _ _)
   | (with_reducible exact dec_shortest.mono _ _)
   | (with_reducible exact LeO.refl _)
   | (with_reducible exact LeO.none _)
   | (with_reducible refine LeO.ite ?_ ?_)
   | (with_reducible refine LeO.bind ?_ (fun _ => ?_))
   | exact ih0 _ _
   | exact dec_laid.mono _ _ _
   | exact dec_shortest.mono _ _
   | exact LeO.none _
   | refine LeO.ite ?_ ?_
   | refine LeO.bind ?_ (fun _ => ?_)
theorem dec_Print.mono : ∀ a0 k,LeO (dec_Print.f k a0) (dec_Print.f (k + 1) a0) := by
 intro a0 k
 have ih0 := dec_Print.mono_l k
 unfold dec_Print.f
 repeat' first
   | (with_reducible exact ih0 _ _)
   | (with_reducible exact dec_laid.mono _ _ _)
   | (with_reducible exact dec_shortest.mono _ _)
   | (with_reducible exact LeO.refl _)
   | (with_reducible exact LeO.none _)
   | (with_reducible refine LeO.ite ?_ ?_)
   | (with_reducible refine LeO.bind ?_ (fun _ => ?_))
   | exact ih0 _ _
   | exact dec_laid.mono _ _ _
   | exact dec_shortest.mono _ _
   | exact LeO.none _
   | refine LeO.ite ?_ ?_
   | refine LeO.bind ?_ (fun _ => ?_)
set_option maxHeartbeats 8000000 in
set_option maxRecDepth 100000 in
theorem dec_Print.calls (k : Nat) (a0 : Int) (r : ByteArray) (w : World) (hG : zXU w) (h : dec_Print.f k a0 = some r) :
  Calls Tryz.prog 8 #[.int .u64 a0] w fun e w' => e = .returned (.string r) ∧ Below w.heap.size w w' := by
 have HG := am hG
 clear hG
 have HB := am (Below.refl w.heap.size w)
 have H : (if (a0 / 9223372036854775808) = 1 then (dec_Print.j0 k a0 (⟨#[45]⟩ : ByteArray)) else (dec_Print.j0 k a0 (⟨#[]⟩ : ByteArray))) = some r := h
 clear h
 have HC2 := am H
 clear H
 go_enter Tryz.func8,Tryz.ntmps8
 go_upto_if 6 with (fail)
 go_cut [3] (fun v3 wc => ∃ (kq : Nat) (x3_1 : ByteArray),v3 = .string x3_1 ∧ Aside0 (dec_Print.j0 kq a0 x3_1 = some r) ∧ Aside0 (kq ≤ k) ∧ Aside0 (Below w.heap.size w wc))
 case first =>
  have H := HC2.out
  clear HC2
  by_cases c3 : (a0 / 9223372036854775808) = 1
  ·rw [if_pos c3] at H
   have c3b0 : ((a0 / 9223372036854775808) == 1) = true := beq_iff_eq.mpr c3
   have c3b1 : ((a0 / 9223372036854775808) != 1) = false := bne_eq_false_iff_eq.mpr c3
   clear c3
   (first | rw [c3b0] | (simp only [i64_w,i32_w];rw [c3b0]) | rw [c3b1] | (simp only [i64_w,i32_w];rw [c3b1]) | skip)
   have H' := am H
   clear H
   go_wp2
   go_meet
   case rel => exact ⟨_,((⟨#[45]⟩ : ByteArray)),(by first | rfl | (simp;done) | (simp [*];done)),H',⟨by first | omega | exact Nat.le_refl _⟩,⟨pB⟩⟩
  ·rw [if_neg c3] at H
   have c3b0 : ((a0 / 9223372036854775808) == 1) = false := beq_eq_false_iff_ne.mpr c3
   have c3b1 : ((a0 / 9223372036854775808) != 1) = true := bne_iff_ne.mpr c3
   (first | rw [c3b0] | (simp only [i64_w,i32_w];rw [c3b0]) | rw [c3b1] | (simp only [i64_w,i32_w];rw [c3b1]) | skip)
   have H' := am H
   clear H
   go_wp2
   go_meet
   case rel => exact ⟨_,((⟨#[]⟩ : ByteArray)),(by first | rfl | (simp;done) | (simp [*];done)),H',⟨by first | omega | exact Nat.le_refl _⟩,⟨pB⟩⟩
 case rest =>
  clear HC2
  try clear p2
  try clear c3
  try clear c3b0
  try clear c3b1
  obtain ⟨kq,x3_1,rfl,HA,HJ1,HB⟩ := hcut
  cases kq with
  | zero => exact absurd HA.out (by simp [dec_Print.j0])
  | succ kj1 =>
   have H := HA.out
   clear HA
   simp only [dec_Print.j0] at H
   replace H := Option.bind_eq_some_iff.mp H
   obtain ⟨t623,A40,H⟩ := H
   try dsimp only at H
   have A4 := am A40
   clear A40
   by_cases c5 : t623 = 4
   ·rw [if_pos c5] at H
    have c5b0 : (t623 == 4) = true := beq_iff_eq.mpr c5
    have c5b1 : (t623 != 4) = false := bne_eq_false_iff_eq.mpr c5
    clear c5
    obtain rfl := Option.some.inj H
    go_wp2_with (first | ((with_reducible refine zQe (f := 14) rfl ?_);refine zQr (some 8) rfl rfl Tryz.func14 (by kernel_rfl) rfl #[.int .u64 a0] rfl pM ?_;(with_reducible refine (flo_Kind.calls a0 t623 _ A4.out).mono ?_);rintro e w' ⟨rfl,⟨nd,rfl⟩⟩;refine ⟨_,rfl,?_⟩))
    go_ret
    exact ⟨pE,pB⟩
   ·rw [if_neg c5] at H
    have c5b0 : (t623 == 4) = false := beq_eq_false_iff_ne.mpr c5
    have c5b1 : (t623 != 4) = true := bne_iff_ne.mpr c5
    by_cases c6 : t623 = 3
    ·rw [if_pos c6] at H
     have c6b0 : (t623 == 3) = true := beq_iff_eq.mpr c6
     have c6b1 : (t623 != 3) = false := bne_eq_false_iff_eq.mpr c6
     clear c6
     by_cases c7 : x3_1.size + 3 ≤ 9223372036854775807
     ·rw [if_pos c7] at H
      have c7b0 := eq_true c7
      have c7b1 : decide (x3_1.size + 3 ≤ 9223372036854775807) = true := decide_eq_true c7
      try have c7b2 : (9223372036854775807 < x3_1.size + 3) = False := eq_false (Nat.not_lt.2 c7)
      obtain rfl := Option.some.inj H
      go_wp2_with (first | ((with_reducible refine zQe (f := 14) rfl ?_);refine zQr (some 8) rfl rfl Tryz.func14 (by kernel_rfl) rfl #[.int .u64 a0] rfl pM ?_;(with_reducible refine (flo_Kind.calls a0 t623 _ A4.out).mono ?_);rintro e w' ⟨rfl,⟨nd,rfl⟩⟩;refine ⟨_,rfl,?_⟩))
      go_ret
      exact ⟨pE,pB⟩
     ·rw [if_neg c7] at H
      exact absurd H (by simp)
    ·rw [if_neg c6] at H
     have c6b0 : (t623 == 3) = false := beq_eq_false_iff_ne.mpr c6
     have c6b1 : (t623 != 3) = true := bne_iff_ne.mpr c6
     by_cases c8 : t623 = 0
     ·rw [if_pos c8] at H
      have c8b0 : (t623 == 0) = true := beq_iff_eq.mpr c8
      have c8b1 : (t623 != 0) = false := bne_eq_false_iff_eq.mpr c8
      clear c8
      by_cases c9 : x3_1.size + 1 ≤ 9223372036854775807
      ·rw [if_pos c9] at H
       have c9b0 := eq_true c9
       have c9b1 : decide (x3_1.size + 1 ≤ 9223372036854775807) = true := decide_eq_true c9
       try have c9b2 : (9223372036854775807 < x3_1.size + 1) = False := eq_false (Nat.not_lt.2 c9)
       obtain rfl := Option.some.inj H
       go_wp2_with (first | ((with_reducible refine zQe (f := 14) rfl ?_);refine zQr (some 8) rfl rfl Tryz.func14 (by kernel_rfl) rfl #[.int .u64 a0] rfl pM ?_;(with_reducible refine (flo_Kind.calls a0 t623 _ A4.out).mono ?_);rintro e w' ⟨rfl,⟨nd,rfl⟩⟩;refine ⟨_,rfl,?_⟩))
       go_ret
       exact ⟨pE,pB⟩
      ·rw [if_neg c9] at H
       exact absurd H (by simp)
     ·rw [if_neg c8] at H
      have c8b0 : (t623 == 0) = false := beq_eq_false_iff_ne.mpr c8
      have c8b1 : (t623 != 0) = true := bne_iff_ne.mpr c8
      replace H := Option.bind_eq_some_iff.mp H
      obtain ⟨⟨t624,t625⟩,A100,H⟩ := H
      try dsimp only at H
      have A10 := am A100
      clear A100
      replace H := Option.bind_eq_some_iff.mp H
      obtain ⟨t626,A110,H⟩ := H
      try dsimp only at H
      have A11 := am A110
      clear A110
      by_cases c12 : x3_1.size + t626.size ≤ 9223372036854775807
      ·rw [if_pos c12] at H
       have c12b0 := eq_true c12
       have c12b1 : decide (x3_1.size + t626.size ≤ 9223372036854775807) = true := decide_eq_true c12
       try have c12b2 : (9223372036854775807 < x3_1.size + t626.size) = False := eq_false (Nat.not_lt.2 c12)
       obtain rfl := Option.some.inj H
       go_wp2_with (first | ((with_reducible refine zQe (f := 14) rfl ?_);refine zQr (some 8) rfl rfl Tryz.func14 (by kernel_rfl) rfl #[.int .u64 a0] rfl pM ?_;(with_reducible refine (flo_Kind.calls a0 t623 _ A4.out).mono ?_);rintro e w' ⟨rfl,⟨nd,rfl⟩⟩;refine ⟨_,rfl,?_⟩) | ((with_reducible refine zQe (f := 16) rfl ?_);refine zQr (some 21) rfl rfl Tryz.func16 (by kernel_rfl) rfl #[.int .u64 a0] rfl pM ?_;(with_reducible refine (dec_shortest.calls kj1 a0 t624 t625 _ A10.out).mono ?_);rintro e w13 ⟨rfl,hb⟩;refine ⟨_,rfl,?_⟩;replace HB := am (zQf pB hb);(try clear hb)) | ((with_reducible refine zQe (f := 15) rfl ?_);refine zQr (some 24) rfl rfl Tryz.func15 (by kernel_rfl) rfl #[.string t624,.int .i64 t625] rfl pM ?_;(with_reducible refine (dec_laid.calls kj1 t624 t625 t626 _ ?side1 A11.out).mono ?_);(case side1 => exact pG);rintro e w14 ⟨rfl,hb⟩;refine ⟨_,rfl,?_⟩;replace HB := am (zQf pB hb);(try clear hb)))
       go_ret
       exact ⟨pE,pB⟩
      ·rw [if_neg c12] at H
       exact absurd H (by simp)
def minstrellaw05_lives.f (k : Nat)  : Option (Bool) := (dec_Parse.f k (⟨#[49,46,53,48,101,49]⟩ : ByteArray)).bind fun bt627 => (if bt627.1 = 4624633867356078080 then (if bt627.2 = 0 then ((dec_Print.f k bt627.1).bind fun t629 => (some (t629.toList == ([49,53] : List UInt8)))) else (none)) else (none))
theorem minstrellaw05_lives.mono : ∀ k,LeO (minstrellaw05_lives.f k ) (minstrellaw05_lives.f (k + 1) ) := by
 intro  k
 unfold minstrellaw05_lives.f
 repeat' first
   | (with_reducible exact dec_Parse.mono _ _)
   | (with_reducible exact dec_Print.mono _ _)
   | (with_reducible exact LeO.refl _)
   | (with_reducible exact LeO.none _)
   | (with_reducible refine LeO.ite ?_ ?_)
   | (with_reducible refine LeO.bind ?_ (fun _ => ?_))
   | exact dec_Parse.mono _ _
   | exact dec_Print.mono _ _
   | exact LeO.none _
   | refine LeO.ite ?_ ?_
   | refine LeO.bind ?_ (fun _ => ?_)
set_option maxHeartbeats 8000000 in
set_option maxRecDepth 100000 in
theorem minstrellaw05_lives.calls (k : Nat)  (r : Bool) (w : World) (hG : zXU w) (h : minstrellaw05_lives.f k  = some r) :
  Calls Tryz.prog 7 #[] w fun e w' => e = .returned (.bool r) ∧ Below w.heap.size w w' := by
 have HG := am hG
 clear hG
 have HB := am (Below.refl w.heap.size w)
 have H : ((dec_Parse.f k (⟨#[49,46,53,48,101,49]⟩ : ByteArray)).bind fun bt627 => (if bt627.1 = 4624633867356078080 then (if bt627.2 = 0 then ((dec_Print.f k bt627.1).bind fun t629 => (some (t629.toList == ([49,53] : List UInt8)))) else (none)) else (none))) = some r := h
 clear h
 replace H := Option.bind_eq_some_iff.mp H
 obtain ⟨⟨t627,t628⟩,A10,H⟩ := H
 try dsimp only at H
 have A1 := am A10
 clear A10
 by_cases c2 : t627 = 4624633867356078080
 ·rw [if_pos c2] at H
  have c2b0 : (t627 == 4624633867356078080) = true := beq_iff_eq.mpr c2
  have c2b1 : (t627 != 4624633867356078080) = false := bne_eq_false_iff_eq.mpr c2
  clear c2
  by_cases c3 : t628 = 0
  ·rw [if_pos c3] at H
   have c3b0 : (t628 == 0) = true := beq_iff_eq.mpr c3
   have c3b1 : (t628 != 0) = false := bne_eq_false_iff_eq.mpr c3
   clear c3
   replace H := Option.bind_eq_some_iff.mp H
   obtain ⟨t629,A40,H⟩ := H
   try dsimp only at H
   have A4 := am A40
   clear A40
   obtain rfl := Option.some.inj H
   go_enter Tryz.func7,Tryz.ntmps7
   go_wp2_with (first | ((with_reducible refine zQe (f := 5) rfl ?_);refine zQr (some 4) rfl rfl Tryz.func5 (by kernel_rfl) rfl #[.string (⟨#[49,46,53,48,101,49]⟩ : ByteArray)] rfl pM ?_;(with_reducible refine (dec_Parse.calls k (⟨#[49,46,53,48,101,49]⟩ : ByteArray) t627 t628 _ A1.out).mono ?_);rintro e w5 ⟨rfl,hb⟩;refine ⟨_,rfl,?_⟩;replace HB := am (zQf pB hb);(try clear hb)) | (go_at_call 8;(with_reducible refine (dec_Print.calls k t627 t629 _ ?side1 A4.out).mono ?_);(case side1 => exact pG);rintro e w6 ⟨rfl,hb⟩;replace HB := am (zQf pB hb);(try clear hb)))
   go_ret
   exact ⟨pE,pB⟩
  ·rw [if_neg c3] at H
   exact absurd H (by simp)
 ·rw [if_neg c2] at H
  exact absurd H (by simp)
def minstrellaw05_DecParses.f (k : Nat) (a0 : ByteArray) : Option (Bool) := (dec_Parse.f k a0).bind fun bt630 => ((r5_Parse.f k a0).bind fun bt632 => (if bt630.1 = bt632.1 then (if bt630.2 = bt632.2 then ((minstrellaw05_lives.f k).bind fun t634 => (some t634)) else (none)) else (none)))
set_option maxHeartbeats 8000000 in
set_option maxRecDepth 100000 in
theorem minstrellaw05_DecParses.calls (k : Nat) (a0 : ByteArray) (r : Bool) (w : World) (hG : zXU w) (h : minstrellaw05_DecParses.f k a0 = some r) :
  Calls Tryz.prog 3 #[.string a0] w fun e w' => e = .returned (.bool r) ∧ Below w.heap.size w w' := by
 have HG := am hG
 clear hG
 have HB := am (Below.refl w.heap.size w)
 have H : ((dec_Parse.f k a0).bind fun bt630 => ((r5_Parse.f k a0).bind fun bt632 => (if bt630.1 = bt632.1 then (if bt630.2 = bt632.2 then ((minstrellaw05_lives.f k).bind fun t634 => (some t634)) else (none)) else (none)))) = some r := h
 clear h
 replace H := Option.bind_eq_some_iff.mp H
 obtain ⟨⟨t630,t631⟩,A20,H⟩ := H
 try dsimp only at H
 have A2 := am A20
 clear A20
 replace H := Option.bind_eq_some_iff.mp H
 obtain ⟨⟨t632,t633⟩,A30,H⟩ := H
 try dsimp only at H
 have A3 := am A30
 clear A30
 by_cases c4 : t630 = t632
 ·rw [if_pos c4] at H
  have c4b0 : (t630 == t632) = true := beq_iff_eq.mpr c4
  have c4b1 : (t630 != t632) = false := bne_eq_false_iff_eq.mpr c4
  clear c4
  by_cases c5 : t631 = t633
  ·rw [if_pos c5] at H
   have c5b0 : (t631 == t633) = true := beq_iff_eq.mpr c5
   have c5b1 : (t631 != t633) = false := bne_eq_false_iff_eq.mpr c5
   clear c5
   replace H := Option.bind_eq_some_iff.mp H
   obtain ⟨t634,A60,H⟩ := H
   try dsimp only at H
   have A6 := am A60
   clear A60
   obtain rfl := Option.some.inj H
   go_enter Tryz.func3,Tryz.ntmps3
   go_wp2_with (first | ((with_reducible refine zQe (f := 5) rfl ?_);refine zQr (some 9) rfl rfl Tryz.func5 (by kernel_rfl) rfl #[.string a0] rfl pM ?_;(with_reducible refine (dec_Parse.calls k a0 t630 t631 _ A2.out).mono ?_);rintro e w7 ⟨rfl,hb⟩;refine ⟨_,rfl,?_⟩;replace HB := am (zQf pB hb);(try clear hb)) | ((with_reducible refine zQe (f := 6) rfl ?_);refine zQr (some 14) rfl rfl Tryz.func6 (by kernel_rfl) rfl #[.string a0] rfl pM ?_;(with_reducible refine (r5_Parse.calls k a0 t632 t633 _ A3.out).mono ?_);rintro e w8 ⟨rfl,hb⟩;refine ⟨_,rfl,?_⟩;replace HB := am (zQf pB hb);(try clear hb)) | (go_at_call 7;(with_reducible refine (minstrellaw05_lives.calls k  t634 _ ?side1 A6.out).mono ?_);(case side1 => exact pG);rintro e w9 ⟨rfl,hb⟩;replace HB := am (zQf pB hb)))
   go_ret
   exact ⟨pE,pB⟩
  ·rw [if_neg c5] at H
   exact absurd H (by simp)
 ·rw [if_neg c4] at H
  exact absurd H (by simp)
def minstrellaw05_DecParses.Pure : Prop := ∀ (a0 : ByteArray),a0.size ≤ 140737488351232 → ∃ k,minstrellaw05_DecParses.f k a0 = some true
end Go.Proofs.YtflcanpajgpghaaGreatDoor.Pr
end
section
namespace Go.Proofs.YtflcanpajgpghaaGreatDoor.Pure
open Go.RowKit Go.Proofs.YtflcanpajgpghaaGreatDoor.Pr Go.Proofs.YtflcanpajgpghaaGreatDoorW.PrintWords Go.Proofs.YtflcanpajgpghaaGreatDoorW.PrintLast Go.Proofs.YtflcanpajgpghaaGreatDoorW.PrintMore
def toB (x : Nat) : List Int := if x = 0 then [] else ((x % 4294967296 : Nat) : Int) :: toB (x / 4294967296)
termination_by x
decreasing_by omega
theorem zXu : toB 0 = [] := by rw [toB];rfl
theorem zYt {x : Nat} (h : x ≠ 0) : toB x = ((x % 4294967296 : Nat) : Int) :: toB (x / 4294967296) := by rw [toB,if_neg h]
def valB : List Int → Nat
 | [] => 0
 | a :: l => a.toNat + 4294967296 * valB l
def Parts (l : List Int) : Prop := ∀ x ∈ l,0 ≤ x ∧ x < 4294967296
theorem zYd (x : Nat) : valB (toB x) = x := by
 induction x using Nat.strongRecOn with
 | _ x ih =>
  by_cases h : x = 0
  ·subst h;rw [zXu];rfl
  ·rw [zYt h,valB,ih (x / 4294967296) (by omega),Int.toNat_natCast]
   omega
theorem zXN (x : Nat) : Parts (toB x) := by
 induction x using Nat.strongRecOn with
 | _ x ih =>
  by_cases h : x = 0
  ·subst h;rw [zXu];intro y hy;cases hy
  ·rw [zYt h]
   intro y hy
   rcases List.mem_cons.1 hy with rfl | hy
   ·omega
   ·exact ih (x / 4294967296) (by omega) y hy
theorem val_append (l m : List Int) : valB (l ++ m) = valB l + 4294967296 ^ l.length * valB m := by
 induction l with
 | nil => simp [valB]
 | cons a l ih =>
  rw [List.cons_append,valB,valB,ih,List.length_cons,Nat.pow_succ,Nat.mul_add,← Nat.mul_assoc,Nat.mul_comm 4294967296 (4294967296 ^ l.length)]
  omega
theorem zKR {l : List Int} (h : Parts l) : valB l < 4294967296 ^ l.length := by
 induction l with
 | nil => simp [valB]
 | cons a l ih =>
  have h1 := ih (fun x hx => h x (List.mem_cons_of_mem _ hx))
  have h2 := h a (List.mem_cons_self ..)
  rw [valB,List.length_cons,Nat.pow_succ]
  omega
theorem toB_val {l : List Int} (h : Parts l) (hl : l = [] ∨ l.getLast? ≠ some 0) : toB (valB l) = l := by
 induction l with
 | nil => exact zXu
 | cons a l ih =>
  have h2 := h a (List.mem_cons_self ..)
  have hp : Parts l := fun x hx => h x (List.mem_cons_of_mem _ hx)
  have hlast : (a :: l).getLast? ≠ some 0 := hl.resolve_left (by simp)
  have hne : valB (a :: l) ≠ 0 := by
   intro h0
   rw [valB] at h0
   by_cases hn : l = []
   ·subst hn
    simp at hlast
    omega
   ·have := ih hp (.inr (by
     cases l with
     | nil => exact absurd rfl hn
     | cons b l => rwa [List.getLast?_cons_cons] at hlast))
    have h3 : valB l = 0 := by omega
    rw [h3,zXu] at this
    exact hn this.symm
  rw [zYt hne]
  have e1 : (valB (a :: l) % 4294967296 : Nat) = a.toNat := by rw [valB];omega
  have e2 : valB (a :: l) / 4294967296 = valB l := by rw [valB];omega
  rw [e1,e2,ih hp (by
   by_cases hn : l = []
   ·exact .inl hn
   ·refine .inr ?_
    cases l with
    | nil => exact absurd rfl hn
    | cons b l => rwa [List.getLast?_cons_cons] at hlast)]
  congr 1
  omega
theorem wrapB (n : Int) (h0 : -9223372036854775808 ≤ n) (h1 : n ≤ 9223372036854775807) : wrap64 n = n := by unfold wrap64;omega
theorem zYG {l m : List Int} (h : Parts l) (g : Parts m) : Parts (l ++ m) := fun x hx => (List.mem_append.1 hx).elim (h x) (g x)
theorem zWz (m : List Int) (a : Int) : rd (m ++ [a]) (m.length : Int) = a := by
 unfold rd
 rw [Int.toNat_natCast,List.getD_eq_getElem?_getD,List.getElem?_append_right (Nat.le_refl _),Nat.sub_self]
 rfl
theorem zWs : ∀ (n : Nat) (l : List Int),l.length = n → Parts l → n ≤ 4611686018427387904 → Ev (fun k => b_trim.l0 k l) (toB (valB l))
 | 0,l,hn,hp,hb => by
  obtain rfl := List.eq_nil_of_length_eq_zero hn
  refine Ev.step (f := fun k => some []) (fun k => ?_) (by rw [show valB [] = 0 from rfl,zXu];exact Ev.now _)
  rw [b_trim.l0,if_neg (by simp)]
 | n + 1,l,hn,hp,hb => by
  obtain ⟨m,a,rfl⟩ : ∃ m a,l = m ++ [a] := ⟨l.dropLast,l.getLast (by intro h;rw [h] at hn;cases hn),(List.dropLast_concat_getLast _).symm⟩
  have hm : m.length = n := by rw [List.length_append,List.length_singleton] at hn;omega
  have hlen : (((m ++ [a]).length : Nat) : Int) = (m.length : Int) + 1 := by rw [List.length_append,List.length_singleton];omega
  have hw : wrap64 (((m ++ [a]).length : Int) - 1) = (m.length : Int) := by rw [hlen,wrapB _ (by omega) (by omega)];omega
  have hpm : Parts m := fun x hx => hp x (List.mem_append_left _ hx)
  have ha := hp a (List.mem_append_right _ (List.mem_singleton.2 rfl))
  by_cases h0 : a = 0
  ·have ih := zWs n m hm hpm (by omega)
   have hv : valB (m ++ [a]) = valB m := by rw [val_append,h0];simp [valB]
   rw [hv]
   refine Ev.step (fun k => ?_) ih
   rw [b_trim.l0,if_pos (by omega),hw,if_pos (by omega),if_pos (by omega),zWz,if_pos h0,if_pos (by omega),Int.toNat_natCast,List.take_left']
   rfl
  ·refine Ev.step (f := fun k => some (m ++ [a])) (fun k => ?_) ?_
   ·rw [b_trim.l0,if_pos (by omega),hw,if_pos (by omega),if_pos (by omega),zWz,if_neg h0]
   ·rw [toB_val hp (.inr (by rw [List.getLast?_append];simp;exact h0))]
    exact Ev.now _
theorem mul_small {x n c : Nat} (hx : x < 4294967296) (hn : n < 4294967296) (hc : c < 4294967296) : c + x * n < 18446744073709551616 ∧ (c + x * n) / 4294967296 < 4294967296 := by
 have h : x * n ≤ 4294967295 * 4294967295 := Nat.mul_le_mul (by omega) (by omega)
 have h2 : (4294967295 : Nat) * 4294967295 = 18446744065119617025 := rfl
 omega
theorem u64_in (n : Nat) (h : n < 18446744073709551616) : IntKind.u64.wrap (n : Int) = (n : Int) := by
 unfold IntKind.wrap
 simp [IntKind.bits,IntKind.signed]
 omega
theorem zWN {l : List Int} {i : Nat} (h : i < l.length) : valB (l.drop i) = (l.getD i 0).toNat + 4294967296 * valB (l.drop (i + 1)) := by
 rw [List.drop_eq_getElem_cons h,valB,List.getD_eq_getElem?_getD,List.getElem?_eq_getElem h]
 rfl
theorem zKl (l : List Int) (n : Nat) (hn : n < 4294967296) (hl : l.length ≤ 1048576) (hp : Parts l) : ∀ (d i : Nat) (acc : List Int) (c : Nat),i + d = l.length → acc.length = i → Parts acc → c < 4294967296 →
  Ev (fun k => b_times.l0 k (n : Int) acc (c : Int) l (l.length : Int) (i : Int)) (toB (valB acc + 4294967296 ^ i * (valB (l.drop i) * n + c)))
 | 0,i,acc,c,hi,ha,hpa,hc => by
  have hd : l.drop i = [] := List.drop_eq_nil_of_le (by omega)
  have hv : valB acc + 4294967296 ^ i * (valB (l.drop i) * n + c) = valB (acc ++ [(c : Int) % 4294967296]) := by
   rw [hd,val_append,ha]
   simp only [valB,Nat.zero_mul,Nat.zero_add,Nat.mul_zero,Nat.add_zero]
   congr 2
   omega
  rw [hv]
  have ht := zWs (acc ++ [(c : Int) % 4294967296]).length (acc ++ [(c : Int) % 4294967296]) rfl (zYG hpa (fun x hx => by rw [List.mem_singleton.1 hx];omega)) (by rw [List.length_append,List.length_singleton];omega)
  have hb : Ev (fun k => (b_trim.f k (acc ++ [(c : Int) % 4294967296])).bind fun t => some t) (toB (valB (acc ++ [(c : Int) % 4294967296]))) := Ev.bind ht (Ev.now _)
  refine Ev.step (fun k => ?_) hb
  rw [b_times.l0,if_neg (by omega),if_pos (by omega)]
 | d + 1,i,acc,c,hi,ha,hpa,hc => by
  have hlt : i < l.length := by omega
  obtain ⟨x,hx,hx2⟩ : ∃ x : Nat,l.getD i 0 = (x : Int) ∧ x < 4294967296 := by
   have := hp (l.getD i 0) (by rw [List.getD_eq_getElem?_getD,List.getElem?_eq_getElem hlt];exact List.getElem_mem hlt)
   exact ⟨(l.getD i 0).toNat,by omega,by omega⟩
  have hrd : rd l (i : Int) = (x : Int) := by unfold rd;rw [Int.toNat_natCast];exact hx
  obtain ⟨hs1,hs2⟩ := mul_small hx2 hn hc
  have hxn : x * n < 18446744073709551616 := by omega
  have he : IntKind.u64.wrap ((c : Int) + (IntKind.u64.wrap ((IntKind.u64.wrap (rd l (i : Int))) * (IntKind.u64.wrap ((n : Nat) : Int))))) = ((c + x * n : Nat) : Int) := by
   rw [hrd,u64_in x (by omega),u64_in n (by omega),show ((x : Int) * (n : Int)) = ((x * n : Nat) : Int) by push_cast;rfl,u64_in _ hxn,show ((c : Int) + ((x * n : Nat) : Int)) = ((c + x * n : Nat) : Int) by push_cast;rfl,u64_in _ hs1]
  have ih := zKl l n hn hl hp d (i + 1) (acc ++ [(((c + x * n) % 4294967296 : Nat) : Int)]) ((c + x * n) / 4294967296) (by omega) (by rw [List.length_append,List.length_singleton];omega) (zYG hpa (fun y hy => by rw [List.mem_singleton.1 hy];omega)) hs2
  have hv : valB acc + 4294967296 ^ i * (valB (l.drop i) * n + c) = valB (acc ++ [(((c + x * n) % 4294967296 : Nat) : Int)]) + 4294967296 ^ (i + 1) * (valB (l.drop (i + 1)) * n + (c + x * n) / 4294967296) := by
   rw [val_append,ha,zWN hlt,hx,Int.toNat_natCast,Nat.pow_succ,Nat.mul_assoc,Nat.add_assoc,← Nat.mul_add]
   simp only [valB,Nat.mul_zero,Nat.add_zero,Int.toNat_natCast]
   congr 2
   rw [Nat.add_mul,Nat.mul_assoc,Nat.mul_add]
   generalize valB (l.drop (i + 1)) * n = v
   have := Nat.mod_add_div (c + x * n) 4294967296
   omega
  rw [hv]
  refine Ev.step (fun k => ?_) ih
  rw [b_times.l0,if_pos (by omega),if_pos (by omega),if_pos (by omega),if_pos (by omega),he,wrapB _ (by omega) (by omega)]
  simp only [Int.natCast_emod,Int.natCast_ediv,Int.natCast_add,Int.natCast_one]
  rfl
theorem zZz (x n m : Nat) (hn : n < 4294967296) (hm : m < 4294967296) (hl : (toB x).length ≤ 1048576) : Ev (fun k => b_times.f k (toB x) (n : Int) (m : Int)) (toB (x * n + m)) := by
 have h := zKl (toB x) n hn hl (zXN x) (toB x).length 0 [] m (by omega) rfl (fun y hy => by cases hy) hm
 rw [List.drop_zero,zYd,Nat.pow_zero,Nat.one_mul] at h
 have e : valB [] + (x * n + m) = x * n + m := by simp [valB]
 rw [e] at h
 refine Ev.congr (fun k => ?_) h
 unfold b_times.f
 rw [wrapB _ (by omega) (by omega),if_pos (by omega),if_pos (by omega),u64_in m (by omega)]
 rfl
theorem zZk : ∀ (L x : Nat),x < 4294967296 ^ L → (toB x).length ≤ L
 | 0,x,h => by
  have : x = 0 := by rw [Nat.pow_zero] at h;omega
  rw [this,zXu];exact Nat.le_refl _
 | L + 1,x,h => by
  by_cases h0 : x = 0
  ·rw [h0,zXu];exact Nat.zero_le _
  ·rw [zYt h0,List.length_cons]
   have : x / 4294967296 < 4294967296 ^ L := by
    rw [Nat.pow_succ] at h
    exact Nat.div_lt_of_lt_mul (by rw [Nat.mul_comm];exact h)
   have := zZk L _ this
   omega
theorem tens1 (n : Nat) (hn : n ≤ 1048576) (L : Nat) (hL : L ≤ 1048576) : ∀ (d j x : Nat),j + d = n → x * 10 ^ d < 4294967296 ^ L → Ev (fun k => b_tens.l1 k (toB x) (n : Int) (j : Int)) (toB (x * 10 ^ d))
 | 0,j,x,hj,hx => by
  rw [Nat.pow_zero,Nat.mul_one]
  refine Ev.step (f := fun k => some (toB x)) (fun k => ?_) (Ev.now _)
  rw [b_tens.l1,if_neg (by omega)]
 | d + 1,j,x,hj,hx => by
  have h1 : x * 10 * 10 ^ d = x * 10 ^ (d + 1) := by rw [Nat.pow_succ,Nat.mul_assoc,Nat.mul_comm 10]
  have hxl : x < 4294967296 ^ L := Nat.lt_of_le_of_lt (Nat.le_mul_of_pos_right _ (Nat.pow_pos (by decide))) hx
  have ih := tens1 n hn L hL d (j + 1) (x * 10) (by omega) (by rw [h1];exact hx)
  rw [h1] at ih
  have ht := zZz x 10 0 (by decide) (by decide) (Nat.le_trans (zZk L x hxl) hL)
  rw [Nat.add_zero] at ht
  have hb : Ev (fun k => (b_times.f k (toB x) 10 0).bind fun t => b_tens.l1 k t (n : Int) ((j + 1 : Nat) : Int)) (toB (x * 10 ^ (d + 1))) := Ev.bind ht ih
  refine Ev.step (fun k => ?_) hb
  rw [b_tens.l1,if_pos (by omega),wrapB _ (by omega) (by omega)]
  rfl
theorem tens0 (L : Nat) (hL : L ≤ 1048576) : ∀ (n x : Nat),n ≤ 1048576 → x * 10 ^ n < 4294967296 ^ L → Ev (fun k => b_tens.l0 k (toB x) (n : Int)) (toB (x * 10 ^ n)) := by
 intro n
 induction n using Nat.strongRecOn with
 | _ n ih =>
  intro x hn hx
  by_cases h9 : 9 ≤ n
  ·obtain ⟨m,rfl⟩ := Nat.exists_eq_add_of_le h9
   have h1 : x * 1000000000 * 10 ^ m = x * 10 ^ (9 + m) := by rw [Nat.pow_add,← Nat.mul_assoc]
   have hxl : x < 4294967296 ^ L := Nat.lt_of_le_of_lt (Nat.le_mul_of_pos_right _ (Nat.pow_pos (by decide))) hx
   have g := ih m (by omega) (x * 1000000000) (by omega) (by rw [h1];exact hx)
   rw [h1] at g
   have ht := zZz x 1000000000 0 (by decide) (by decide) (Nat.le_trans (zZk L x hxl) hL)
   rw [Nat.add_zero] at ht
   have hb : Ev (fun k => (b_times.f k (toB x) 1000000000 0).bind fun t => b_tens.l0 k t (m : Int)) (toB (x * 10 ^ (9 + m))) := Ev.bind ht g
   refine Ev.step (fun k => ?_) hb
   rw [b_tens.l0,if_pos (by omega),wrapB _ (by omega) (by omega),show (((9 + m : Nat) : Int) - 9) = (m : Int) by omega]
  ·have g := tens1 n hn L hL n 0 x (by omega) hx
   refine Ev.step (fun k => ?_) g
   rw [b_tens.l0,if_neg (by omega)]
   rfl
theorem bitLen_spec : ∀ (x : Nat),x ≠ 0 → x < 2 ^ 64 → 1 ≤ Lib.bitLen x ∧ 2 ^ (Lib.bitLen x - 1) ≤ x ∧ x < 2 ^ (Lib.bitLen x) := by
 intro x
 induction x using Nat.strongRecOn with
 | _ x ih =>
  intro h0 h
  rw [Lib.bitLen_half x h0 h]
  by_cases h1 : x / 2 = 0
  ·obtain rfl : x = 1 := by omega
   decide
  ·obtain ⟨c,a,b⟩ := ih (x / 2) (by omega) h1 (by omega)
   obtain ⟨n,hn⟩ : ∃ n,Lib.bitLen (x / 2) = n + 1 := ⟨_,(Nat.sub_add_cancel c).symm⟩
   rw [hn] at a b ⊢
   rw [Nat.add_sub_cancel] at a
   refine ⟨by omega,?_,?_⟩
   ·rw [show 1 + (n + 1) - 1 = n + 1 by omega,Nat.pow_succ];omega
   ·rw [show 1 + (n + 1) = (n + 1) + 1 by omega,Nat.pow_succ 2 (n + 1)];omega
def LenIs (x L : Nat) : Prop := (x = 0 → L = 0) ∧ (x ≠ 0 → 1 ≤ L ∧ 2 ^ (L - 1) ≤ x ∧ x < 2 ^ L)
theorem lenIs_lt {x L : Nat} (h : LenIs x L) : x < 2 ^ L := by
 by_cases h0 : x = 0
 ·rw [h0];exact Nat.two_pow_pos _
 ·exact (h.2 h0).2.2
theorem zYK (n : Nat) : (4294967296 : Nat) ^ n = 2 ^ (32 * n) := by rw [Nat.pow_mul]
theorem base_pos (n : Nat) : 0 < (4294967296 : Nat) ^ n := Nat.pow_pos (by decide)
theorem toB_last {x : Nat} (h : x ≠ 0) : ∃ (m : List Int) (a : Nat),toB x = m ++ [(a : Int)] ∧ 0 < a ∧ a < 4294967296 := by
 induction x using Nat.strongRecOn with
 | _ x ih =>
  rw [zYt h]
  by_cases h1 : x / 4294967296 = 0
  ·rw [h1,zXu]
   exact ⟨[],x % 4294967296,rfl,by omega,by omega⟩
  ·obtain ⟨m,a,e,h2,h3⟩ := ih (x / 4294967296) (by omega) h1
   exact ⟨_ :: m,a,by rw [e];rfl,h2,h3⟩
theorem zKU {x : Nat} (h : x ≠ 0) : ∃ (m : List Int) (a : Nat),toB x = m ++ [(a : Int)] ∧ 0 < a ∧ a < 4294967296 ∧ x = valB m + 4294967296 ^ m.length * a ∧ valB m < 4294967296 ^ m.length := by
 obtain ⟨m,a,e,h1,h2⟩ := toB_last h
 refine ⟨m,a,e,h1,h2,?_,?_⟩
 ·have := zYd x
  rw [e,val_append] at this
  rw [← this]
  simp [valB]
 ·have hp := zXN x
  rw [e] at hp
  exact zKR fun y hy => hp y (List.mem_append_left _ hy)
theorem len_ev (x : Nat) (hl : (toB x).length ≤ 1048576) : ∃ L : Nat,b_len.f (toB x) = some (L : Int) ∧ LenIs x L ∧ L ≤ 32 * (toB x).length := by
 by_cases h0 : x = 0
 ·subst h0
  refine ⟨0,?_,⟨fun _ => rfl,fun h => absurd rfl h⟩,by omega⟩
  rw [zXu]
  rfl
 ·obtain ⟨m,a,e,h1,h2,hx,hm⟩ := zKU h0
  obtain ⟨b1,b2,b3⟩ := bitLen_spec a (by omega) (by omega)
  have b4 := Lib.bitLen_le a 32 (by omega) (by omega)
  refine ⟨32 * m.length + Lib.bitLen a,?_,⟨fun h => absurd h h0,fun _ => ⟨by omega,?_,?_⟩⟩,?_⟩
  ·have hlen : (((toB x).length : Nat) : Int) = (m.length : Int) + 1 := by rw [e,List.length_append,List.length_singleton];omega
   have hml : m.length < 1048576 := by rw [e,List.length_append,List.length_singleton] at hl;omega
   unfold b_len.f
   rw [hlen,if_neg (by omega),wrapB _ (by omega) (by omega),if_pos (by omega),if_pos (by omega),show ((m.length : Int) + 1 - 1) = (m.length : Int) by omega,e,zWz]
   unfold bits_Len32.f
   rw [if_pos (by omega),Option.bind_some,Int.toNat_natCast,wrapB (32 * _) (by omega) (by omega),wrapB _ (by omega) (by omega)]
   congr 1
  ·rw [show 32 * m.length + Lib.bitLen a - 1 = 32 * m.length + (Lib.bitLen a - 1) by omega,Nat.pow_add,← zYK]
   have := Nat.mul_le_mul_left (4294967296 ^ m.length) b2
   omega
  ·rw [Nat.pow_add,← zYK]
   have := Nat.mul_le_mul_left (4294967296 ^ m.length) b3
   rw [Nat.mul_succ] at this
   omega
  ·rw [e,List.length_append,List.length_singleton];omega
theorem zKk {x y : Nat} (h : (toB x).length < (toB y).length) : x < y := by
 have h1 : x < 4294967296 ^ (toB x).length := by
  have := zKR (zXN x)
  rwa [zYd] at this
 have hy : y ≠ 0 := by intro h0;rw [h0,zXu] at h;exact absurd h (Nat.not_lt_zero _)
 obtain ⟨m,a,e,h2,h3,h4,h5⟩ := zKU hy
 rw [e,List.length_append,List.length_singleton] at h
 have h6 : 4294967296 ^ (toB x).length ≤ 4294967296 ^ m.length := Nat.pow_le_pow_right (by decide) (by omega)
 have h7 : 4294967296 ^ m.length * 1 ≤ 4294967296 ^ m.length * a := Nat.mul_le_mul_left _ h2
 omega
theorem zKG {x y : Nat} (h : x ≤ y) : (toB x).length ≤ (toB y).length := by
 apply Nat.le_of_not_lt
 intro hlt
 have := zKk hlt
 omega
theorem zWM {l : List Int} {i : Nat} (h : i < l.length) : valB (l.take (i + 1)) = valB (l.take i) + 4294967296 ^ i * (l.getD i 0).toNat := by
 rw [List.take_succ_eq_append_getElem h,val_append,List.length_take,Nat.min_eq_left (Nat.le_of_lt h),List.getD_eq_getElem?_getD,List.getElem?_eq_getElem h]
 simp [valB]
theorem zZD {l : List Int} (hp : Parts l) {i : Nat} (h : i ≤ l.length) : valB (l.take i) < 4294967296 ^ i := by
 have := zKR (l := l.take i) (fun x hx => hp x (List.mem_of_mem_take hx))
 rwa [List.length_take,Nat.min_eq_left h] at this
theorem getD_in {l : List Int} (hp : Parts l) {i : Nat} (h : i < l.length) : ∃ a : Nat,l.getD i 0 = (a : Int) ∧ a < 4294967296 := by
 have := hp (l.getD i 0) (by rw [List.getD_eq_getElem?_getD,List.getElem?_eq_getElem h];exact List.getElem_mem h)
 exact ⟨(l.getD i 0).toNat,by omega,by omega⟩
theorem zXY (l : List Int) (i : Nat) : rd l (i : Int) = l.getD i 0 := by unfold rd;rw [Int.toNat_natCast]
theorem cmp_loop (l m : List Int) (hp : Parts l) (hm : Parts m) (hlen : l.length = m.length) (hb : l.length ≤ 1048576) : ∀ i,i ≤ l.length →
  ∃ c : Int,Ev (fun k => b_cmp.l0 k l m ((i : Int) - 1)) c ∧ (c < 0 ↔ valB (l.take i) < valB (m.take i)) ∧ (c = 0 ↔ valB (l.take i) = valB (m.take i))
 | 0,_ => by
  refine ⟨0,Ev.step (f := fun _ => some 0) (fun k => ?_) (Ev.now _),by simp [valB],by simp [valB]⟩
  rw [b_cmp.l0,if_neg (by omega)]
 | i + 1,hi => by
  obtain ⟨a,ha,ha2⟩ := getD_in hp (i := i) (by omega)
  obtain ⟨b,hb',hb2⟩ := getD_in hm (i := i) (by omega)
  have ha3 : (l.getD i 0).toNat = a := by rw [ha];rfl
  have hb3 : (m.getD i 0).toNat = b := by rw [hb'];rfl
  have e1 := zWM (l := l) (i := i) (by omega)
  have e2 := zWM (l := m) (i := i) (by omega)
  have t1 := zZD hp (i := i) (by omega)
  have t2 := zZD hm (i := i) (by omega)
  rw [ha3] at e1
  rw [hb3] at e2
  have hk : ((i + 1 : Nat) : Int) - 1 = (i : Int) := by omega
  rw [hk,e1,e2]
  obtain ⟨P,hP⟩ : ∃ P,P = 4294967296 ^ i := ⟨_,rfl⟩
  rw [← hP] at t1 t2 ⊢
  by_cases hab : a = b
  ·obtain ⟨c,hc,c1,c2⟩ := cmp_loop l m hp hm hlen hb i (by omega)
   refine ⟨c,Ev.step (fun k => ?_) hc,?_,?_⟩
   ·rw [b_cmp.l0,if_pos (by omega),if_pos (by omega),if_pos (by omega),if_pos (by omega),zXY,zXY,if_pos (by rw [ha,hb',hab]),wrapB _ (by omega) (by omega)]
   ·rw [c1,hab];omega
   ·rw [c2,hab];omega
  ·by_cases hlt : a < b
   ·refine ⟨-1,Ev.step (f := fun _ => some (-1)) (fun k => ?_) (Ev.now _),?_,?_⟩
    ·rw [b_cmp.l0,if_pos (by omega),if_pos (by omega),if_pos (by omega),if_pos (by omega),zXY,zXY,if_neg (by rw [ha,hb'];omega),if_pos (by rw [ha,hb'];omega)]
    ·have : P * (a + 1) ≤ P * b := Nat.mul_le_mul_left _ hlt
     rw [Nat.mul_succ] at this
     omega
    ·have : P * (a + 1) ≤ P * b := Nat.mul_le_mul_left _ hlt
     rw [Nat.mul_succ] at this
     omega
   ·have hlt' : b < a := by omega
    refine ⟨1,Ev.step (f := fun _ => some 1) (fun k => ?_) (Ev.now _),?_,?_⟩
    ·rw [b_cmp.l0,if_pos (by omega),if_pos (by omega),if_pos (by omega),if_pos (by omega),zXY,zXY,if_neg (by rw [ha,hb'];omega),if_neg (by rw [ha,hb'];omega)]
    ·have : P * (b + 1) ≤ P * a := Nat.mul_le_mul_left _ hlt'
     rw [Nat.mul_succ] at this
     omega
    ·have : P * (b + 1) ≤ P * a := Nat.mul_le_mul_left _ hlt'
     rw [Nat.mul_succ] at this
     omega
theorem cmp_ev (x y : Nat) (hx : (toB x).length ≤ 1048576) (hy : (toB y).length ≤ 1048576) : ∃ c : Int,Ev (fun k => b_cmp.f k (toB x) (toB y)) c ∧ (c < 0 ↔ x < y) ∧ (c = 0 ↔ x = y) := by
 by_cases h : (toB x).length = (toB y).length
 ·obtain ⟨c,hc,c1,c2⟩ := cmp_loop (toB x) (toB y) (zXN x) (zXN y) h hx (toB x).length (Nat.le_refl _)
  rw [List.take_length,h,List.take_length,zYd,zYd] at c1 c2
  refine ⟨c,Ev.congr (fun k => ?_) hc,c1,c2⟩
  unfold b_cmp.f
  rw [if_pos (by rw [h]),wrapB _ (by omega) (by omega)]
 ·refine ⟨((toB x).length : Int) - ((toB y).length : Int),Ev.congr (f := fun _ => some (((toB x).length : Int) - ((toB y).length : Int))) (fun k => ?_) (Ev.now _),?_,?_⟩
  ·unfold b_cmp.f
   rw [if_neg (by omega),wrapB _ (by omega) (by omega)]
  ·constructor
   ·intro hc;exact zKk (by omega)
   ·intro hxy
    have := zKG (Nat.le_of_lt hxy)
    omega
  ·constructor
   ·intro hc;omega
   ·intro hxy;rw [hxy] at h;exact absurd rfl h
theorem zKV {x : Nat} (h : x ≠ 0) : ∀ q,toB (x * 4294967296 ^ q) = List.replicate q 0 ++ toB x
 | 0 => by rw [Nat.pow_zero,Nat.mul_one];rfl
 | q + 1 => by
  have h1 : x * 4294967296 ^ q ≠ 0 := Nat.mul_ne_zero h (Nat.ne_of_gt (base_pos q))
  have h2 : x * 4294967296 ^ (q + 1) = x * 4294967296 ^ q * 4294967296 := by rw [Nat.pow_succ,Nat.mul_assoc]
  rw [h2,zYt (Nat.mul_ne_zero h1 (by decide)),Nat.mul_mod_left,Nat.mul_div_cancel _ (by decide),zKV h q]
  rfl
theorem shl_u32 (n : Nat) (h : n < 32) : shl .u32 1 (n : Int) = ((2 ^ n : Nat) : Int) := by
 unfold shl
 rw [Int.toNat_natCast,show IntKind.u32.bits = 32 from rfl,Nat.min_eq_left (Nat.le_of_lt h),Int.one_mul]
 have : (2 : Nat) ^ n < 2 ^ 32 := Nat.pow_lt_pow_right (by decide) h
 have e : ((2 : Int) ^ n) = ((2 ^ n : Nat) : Int) := by push_cast;rfl
 rw [e]
 generalize (2 : Nat) ^ n = z at this
 unfold IntKind.wrap
 simp [IntKind.bits,IntKind.signed]
 omega
theorem up_ev (x n : Nat) (h : x ≠ 0 ∨ n < 32) (hl : (toB x).length + n / 32 ≤ 1048000) : Ev (fun k => b_up.f k (toB x) (n : Int)) (toB (x * 2 ^ n)) := by
 have hq : Int.tdiv (n : Int) 32 = ((n / 32 : Nat) : Int) := by rw [Int.tdiv_eq_ediv_of_nonneg (by omega)];omega
 have hr : Int.tmod (n : Int) 32 = ((n % 32 : Nat) : Int) := by rw [Int.tmod_eq_emod_of_nonneg (by omega)];omega
 have hlt : 2 ^ (n % 32) < 4294967296 := Nat.lt_of_lt_of_le (Nat.pow_lt_pow_right (by decide) (Nat.mod_lt n (by decide : 0 < 32))) (Nat.le_refl _)
 have ht := zZz x (2 ^ (n % 32)) 0 hlt (by decide) (by omega)
 rw [Nat.add_zero] at ht
 have hx2 : x * 2 ^ n = x * 2 ^ (n % 32) * 4294967296 ^ (n / 32) := by
  rw [zYK,Nat.mul_assoc,← Nat.pow_add]
  congr 2
  omega
 have hlen2 : (toB (x * 2 ^ (n % 32))).length ≤ (toB x).length + 1 := by
  refine zZk _ _ ?_
  have h1 : x < 4294967296 ^ (toB x).length := by
   have := zKR (zXN x)
   rwa [zYd] at this
  rw [Nat.pow_succ]
  exact Nat.mul_lt_mul_of_lt_of_lt h1 hlt
 have hres : toB (x * 2 ^ n) = List.replicate (n / 32) 0 ++ toB (x * 2 ^ (n % 32)) := by
  rw [hx2]
  by_cases h0 : x = 0
  ·subst h0
   have : n / 32 = 0 := by omega
   rw [this,Nat.zero_mul,Nat.zero_mul,zXu]
   rfl
  ·exact zKV (Nat.mul_ne_zero h0 (Nat.ne_of_gt (Nat.two_pow_pos _))) _
 rw [hres]
 have hb : Ev (fun k => (b_times.f k (toB x) ((2 ^ (n % 32) : Nat) : Int) 0).bind fun t => some (List.replicate (n / 32) 0 ++ t)) (List.replicate (n / 32) 0 ++ toB (x * 2 ^ (n % 32))) := Ev.bind ht (Ev.now _)
 refine Ev.congr (fun k => ?_) hb
 unfold b_up.f
 rw [hq,hr,wrapB ((n / 32 : Nat) : Int) (by omega) (by omega),wrapB (((n / 32 : Nat) : Int) + ((toB x).length : Int)) (by omega) (by omega),wrapB _ (by omega) (by omega),if_pos (by omega),if_pos (by omega),if_pos (by omega),Option.bind_some,Int.toNat_natCast,if_pos (by rw [List.length_replicate];omega),Option.bind_some,if_pos (by rw [List.length_append,List.length_replicate];omega),if_pos (by omega),shl_u32 _ (Nat.mod_lt _ (by decide)),
  List.drop_left' (List.length_replicate ..),List.take_left' (List.length_replicate ..)]
 cases hk : b_times.f k (toB x) ((2 ^ (n % 32) : Nat) : Int) 0 with
 | none => rfl
 | some t =>
  rw [Option.bind_some,Option.bind_some]
  have hk2 : t = toB (x * 2 ^ (n % 32)) := by
   obtain ⟨K,hK⟩ := ht
   have h1 := hK (max K k) (Nat.le_max_left ..)
   have h2 : b_times.f (max K k) (toB x) ((2 ^ (n % 32) : Nat) : Int) 0 = some t := by
    have : ∀ d,b_times.f (k + d) (toB x) ((2 ^ (n % 32) : Nat) : Int) 0 = some t := by
     intro d
     induction d with
     | zero => exact hk
     | succ d ih => exact b_times.mono _ _ _ _ _ ih
    have h3 := this (max K k - k)
    rwa [show k + (max K k - k) = max K k by omega] at h3
   have h3 : b_times.f (max K k) (toB x) ((2 ^ (n % 32) : Nat) : Int) 0 = some (toB (x * 2 ^ (n % 32))) := h1
   exact Option.some.inj (h2.symm.trans h3)
  unfold slices_Concat.f
  rw [if_pos (by simp [List.flatten];rw [hk2];omega)]
  simp [List.flatten]
theorem u64_neg (z : Int) (h : -9223372036854775808 ≤ z) (h1 : z < 0) : IntKind.u64.wrap z = z + 18446744073709551616 := by
 unfold IntKind.wrap
 simp [IntKind.bits,IntKind.signed]
 omega
theorem zKS (l : List Int) (i : Nat) (hp : Parts l) : ∃ b : Nat,b < 4294967296 ∧ valB (l.drop i) = b + 4294967296 * valB (l.drop (i + 1)) ∧ (i < l.length → rd l (i : Int) = (b : Int)) ∧ (l.length ≤ i → b = 0) := by
 by_cases h : i < l.length
 ·obtain ⟨b,hb,hb2⟩ := getD_in hp h
  refine ⟨b,hb2,?_,fun _ => by rw [zXY,hb],fun h2 => by omega⟩
  rw [zWN h,hb,Int.toNat_natCast]
 ·rw [List.drop_eq_nil_of_le (by omega),List.drop_eq_nil_of_le (by omega)]
  exact ⟨0,by decide,rfl,fun h2 => absurd h2 h,fun _ => rfl⟩
theorem zKt (l m : List Int) (hp : Parts l) (hm : Parts m) (hl : l.length ≤ 1048576) (hml : m.length ≤ 1048576) : ∀ (d i : Nat) (acc : List Int) (c : Nat),i + d = l.length → acc.length = i → Parts acc → c ≤ 1 → valB (m.drop i) + c ≤ valB (l.drop i) →
  Ev (fun k => b_minus.l0 k m acc (c : Int) l (l.length : Int) (i : Int)) (toB (valB acc + 4294967296 ^ i * (valB (l.drop i) - valB (m.drop i) - c)))
 | 0,i,acc,c,hi,ha,hpa,hc,hle => by
  have hd : l.drop i = [] := List.drop_eq_nil_of_le (by omega)
  rw [hd] at hle ⊢
  have e : valB ([] : List Int) - valB (m.drop i) - c = 0 := by simp [valB]
  rw [e,Nat.mul_zero,Nat.add_zero]
  have ht := zWs acc.length acc rfl hpa (by omega)
  have hb : Ev (fun k => (b_trim.f k acc).bind fun t => some t) (toB (valB acc)) := Ev.bind ht (Ev.now _)
  refine Ev.step (fun k => ?_) hb
  rw [b_minus.l0,if_neg (by omega)]
 | d + 1,i,acc,c,hi,ha,hpa,hc,hle => by
  obtain ⟨a,ha2,hL,hra,_⟩ := zKS l i hp
  obtain ⟨b,hb2,hM,hrb,hb0⟩ := zKS m i hm
  have hra := hra (by omega)
  obtain ⟨L,hLe⟩ : ∃ L,L = valB (l.drop (i + 1)) := ⟨_,rfl⟩
  obtain ⟨M,hMe⟩ : ∃ M,M = valB (m.drop (i + 1)) := ⟨_,rfl⟩
  rw [hL,hM,← hLe,← hMe] at hle ⊢
  obtain ⟨e,c',he,hc',hwe,hwc⟩ : ∃ e c' : Nat,(e + b + c = a + 4294967296 * c' ∧ e < 4294967296) ∧ c' ≤ 1 ∧ (IntKind.u64.wrap ((a : Int) - ((c : Int) + (b : Int)))) % 4294967296 = (e : Int) ∧ (IntKind.u64.wrap ((a : Int) - ((c : Int) + (b : Int)))) / 9223372036854775808 = (c' : Int) := by
   by_cases h : b + c ≤ a
   ·refine ⟨a - b - c,0,⟨by omega,by omega⟩,by omega,?_,?_⟩
    ·rw [show ((a : Int) - ((c : Int) + (b : Int))) = ((a - b - c : Nat) : Int) by omega,u64_in _ (by omega)];omega
    ·rw [show ((a : Int) - ((c : Int) + (b : Int))) = ((a - b - c : Nat) : Int) by omega,u64_in _ (by omega)];omega
   ·refine ⟨a + 4294967296 - b - c,1,⟨by omega,by omega⟩,by omega,?_,?_⟩
    ·rw [u64_neg _ (by omega) (by omega)];omega
    ·rw [u64_neg _ (by omega) (by omega)];omega
  have hle2 : M + c' ≤ L := by omega
  have ih := zKt l m hp hm hl hml d (i + 1) (acc ++ [(e : Int)]) c' (by omega) (by rw [List.length_append,List.length_singleton];omega) (zYG hpa (fun y hy => by rw [List.mem_singleton.1 hy];omega)) hc' (by rw [← hLe,← hMe];exact hle2)
  rw [← hLe,← hMe] at ih
  have hv : valB acc + 4294967296 ^ i * (a + 4294967296 * L - (b + 4294967296 * M) - c) = valB (acc ++ [(e : Int)]) + 4294967296 ^ (i + 1) * (L - M - c') := by
   rw [val_append,ha,Nat.pow_succ,Nat.mul_assoc,Nat.add_assoc,← Nat.mul_add]
   simp only [valB,Nat.mul_zero,Nat.add_zero,Int.toNat_natCast]
   congr 2
   omega
  rw [hv]
  refine Ev.step (fun k => ?_) ih
  by_cases hi2 : i < m.length
  ·have hrb := hrb hi2
   rw [b_minus.l0,if_pos (by omega),if_pos (by omega),if_pos (by omega),if_pos (by omega),if_pos (by omega),hra,hrb,u64_in a (by omega),u64_in b (by omega),show ((c : Int) + (b : Int)) = ((c + b : Nat) : Int) by push_cast;rfl,u64_in (c + b) (by omega),show ((c + b : Nat) : Int) = ((c : Int) + (b : Int)) by push_cast;rfl,hwe,hwc,wrapB _ (by omega) (by omega)]
   rfl
  ·have hb0 := hb0 (by omega)
   subst hb0
   rw [show ((c : Int) + ((0 : Nat) : Int)) = (c : Int) by omega] at hwe hwc
   rw [b_minus.l0,if_pos (by omega),if_pos (by omega),if_pos (by omega),if_neg (by omega),if_pos (by omega),hra,u64_in a (by omega),hwe,hwc,wrapB _ (by omega) (by omega)]
   rfl
theorem minus_ev (x y : Nat) (h : y ≤ x) (hl : (toB x).length ≤ 1048576) : Ev (fun k => b_minus.f k (toB x) (toB y)) (toB (x - y)) := by
 have hy := zKG h
 have g := zKt (toB x) (toB y) (zXN x) (zXN y) hl (by omega) (toB x).length 0 [] 0 (by omega) rfl (fun y hy => by cases hy) (by omega) (by rw [List.drop_zero,List.drop_zero,zYd,zYd];omega)
 rw [List.drop_zero,List.drop_zero,zYd,zYd,Nat.pow_zero,Nat.one_mul] at g
 have e : valB [] + (x - y - 0) = x - y := by simp [valB]
 rw [e] at g
 refine Ev.congr (fun k => ?_) g
 unfold b_minus.f
 rw [if_pos (by omega),if_pos (by omega)]
 rfl
theorem zYz (a b : Nat) (ha : a < 18446744073709551616) (hb : b < 18446744073709551616) : Go.bits .or .u64 (a : Int) (b : Int) = ((a ||| b : Nat) : Int) := by
 have hlt : a ||| b < 2 ^ 64 := Nat.or_lt_two_pow ha hb
 unfold Go.bits
 rw [show IntKind.u64.bits = 64 from rfl]
 simp only [BitVec.toNat_or]
 have e2 : (BitVec.ofInt 64 (a : Int)).toNat = a := by rw [BitVec.ofInt_natCast,BitVec.toNat_ofNat,Nat.mod_eq_of_lt ha]
 have e3 : (BitVec.ofInt 64 (b : Int)).toNat = b := by rw [BitVec.ofInt_natCast,BitVec.toNat_ofNat,Nat.mod_eq_of_lt hb]
 rw [e2,e3]
 exact u64_in _ hlt
theorem zYH (a b : Nat) (ha : a < 18446744073709551616) (hb : b < 18446744073709551616) : Go.bits .and .u64 (a : Int) (b : Int) = ((a &&& b : Nat) : Int) := by
 have hlt : a &&& b < 2 ^ 64 := Nat.and_lt_two_pow _ hb
 unfold Go.bits
 rw [show IntKind.u64.bits = 64 from rfl]
 simp only [BitVec.toNat_and]
 have e2 : (BitVec.ofInt 64 (a : Int)).toNat = a := by rw [BitVec.ofInt_natCast,BitVec.toNat_ofNat,Nat.mod_eq_of_lt ha]
 have e3 : (BitVec.ofInt 64 (b : Int)).toNat = b := by rw [BitVec.ofInt_natCast,BitVec.toNat_ofNat,Nat.mod_eq_of_lt hb]
 rw [e2,e3]
 exact u64_in _ hlt
theorem zZh (x n : Nat) (h : n ≤ 64) : shl .u64 (x : Int) (n : Int) = ((x * 2 ^ n % 2 ^ 64 : Nat) : Int) := by
 unfold shl
 rw [Int.toNat_natCast,show IntKind.u64.bits = 64 from rfl,Nat.min_eq_left h]
 have e : ((x : Int) * (2 : Int) ^ n) = ((x * 2 ^ n : Nat) : Int) := by push_cast;rfl
 rw [e]
 generalize x * 2 ^ n = z
 unfold IntKind.wrap
 simp [IntKind.bits,IntKind.signed]
theorem shr_u64 (x n : Nat) (h : n ≤ 64) : shr .u64 (x : Int) (n : Int) = ((x / 2 ^ n : Nat) : Int) := by
 unfold shr
 rw [Int.toNat_natCast,show IntKind.u64.bits = 64 from rfl,Nat.min_eq_left h]
 push_cast
 rfl
theorem or_bit (t i : Nat) : (2 ^ (i + 1) * t ||| 2 ^ i) = 2 ^ (i + 1) * t + 2 ^ i := by
 rw [Nat.two_pow_add_eq_or_of_lt (by rw [Nat.pow_succ];have := Nat.two_pow_pos i;omega)]
theorem zWt (r : Nat) : decide (((toB r).length : Int) > 0) = decide (r ≠ 0) := by
 by_cases h : r = 0
 ·subst h;rw [zXu];rfl
 ·rw [zYt h,List.length_cons]
  rw [decide_eq_true (by omega),decide_eq_true h]
theorem zKM (b : Nat) (hb : b ≠ 0) (hlb : (toB b).length ≤ 500000) : ∀ (i r t : Nat),i ≤ 64 → r < b * 2 ^ i → (toB r).length ≤ 1000000 → 2 ^ i * t < 2 ^ 64 →
  Ev (fun k => b_by.l0 k (toB r) (toB b) ((2 ^ i * t : Nat) : Int) ((i : Int) - 1)) (((2 ^ i * t + r / b : Nat) : Int),decide (r % b ≠ 0))
 | 0,r,t,_,hr,_,_ => by
  rw [Nat.pow_zero,Nat.mul_one] at hr
  refine Ev.step (f := fun _ => some (((2 ^ 0 * t + r / b : Nat) : Int),decide (r % b ≠ 0))) (fun k => ?_) (Ev.now _)
  rw [b_by.l0,if_neg (by omega),zWt,Nat.div_eq_of_lt hr,Nat.mod_eq_of_lt hr,Nat.add_zero]
 | i + 1,r,t,hi,hr,hlr,ht => by
  obtain ⟨lr,hlr1,hlr2,hlr3⟩ := len_ev r (by omega)
  obtain ⟨lb,hlb1,hlb2,hlb3⟩ := len_ev b (by omega)
  obtain ⟨g1,g2,g3⟩ := hlb2.2 hb
  have hk : ((i + 1 : Nat) : Int) - 1 = (i : Int) := by omega
  have hp2 : 2 ^ (i + 1) * t = 2 ^ i * (2 * t) := by rw [Nat.pow_succ,Nat.mul_assoc]
  have hpow : b * 2 ^ (i + 1) = b * 2 ^ i + b * 2 ^ i := by rw [Nat.pow_succ,← Nat.mul_assoc,Nat.mul_two]
  by_cases hskip : lr < lb + i
  ·have hlt : r < b * 2 ^ i := by
    have h1 := lenIs_lt hlr2
    have h2 : 2 ^ lr ≤ 2 ^ (lb - 1 + i) := Nat.pow_le_pow_right (by decide) (by omega)
    rw [Nat.pow_add] at h2
    have h3 : 2 ^ (lb - 1) * 2 ^ i ≤ b * 2 ^ i := Nat.mul_le_mul_right _ g2
    omega
   have ih := zKM b hb hlb i r (2 * t) (by omega) hlt hlr (by rw [← hp2];exact ht)
   rw [← hp2] at ih
   refine Ev.step (fun k => ?_) ih
   rw [hk,b_by.l0,if_pos (by omega),hlr1,Option.bind_some,hlb1,Option.bind_some,wrapB _ (by omega) (by omega),if_pos (by omega),wrapB _ (by omega) (by omega)]
  ·have hup := up_ev b i (.inl hb) (by omega)
   have hlu : (toB (b * 2 ^ i)).length ≤ 1000003 := by
    have h1 : b < 4294967296 ^ (toB b).length := by
     have := zKR (zXN b)
     rwa [zYd] at this
    have h2 : (toB (b * 2 ^ i)).length ≤ (toB b).length + 2 := by
     refine zZk _ _ ?_
     rw [Nat.pow_add,zYK 2]
     refine Nat.mul_lt_mul_of_lt_of_le h1 (Nat.pow_le_pow_right (by decide) (by omega)) (Nat.two_pow_pos _)
    omega
   obtain ⟨c,hc,c1,c2⟩ := cmp_ev r (b * 2 ^ i) (by omega) (by omega)
   by_cases hge : b * 2 ^ i ≤ r
   ·have hcge : c ≥ 0 := by omega
    have hm := minus_ev r (b * 2 ^ i) hge (by omega)
    have hr' : r - b * 2 ^ i < b * 2 ^ i := by omega
    have hor : 2 ^ (i + 1) * t + 2 ^ i = 2 ^ i * (2 * t + 1) := by rw [hp2,Nat.mul_succ]
    have hsum : 2 ^ i * (2 * t + 1) < 2 ^ 64 := by
     obtain ⟨j,hj⟩ : ∃ j,64 = (i + 1) + j := ⟨64 - (i + 1),by omega⟩
     have e64 : (2 : Nat) ^ 64 = 2 ^ (i + 1) * 2 ^ j := by rw [← Nat.pow_add,← hj]
     have ht2 : t < 2 ^ j := by
      rw [e64] at ht
      exact Nat.lt_of_mul_lt_mul_left ht
     have h5 : 2 ^ (i + 1) * (t + 1) ≤ 2 ^ (i + 1) * 2 ^ j := Nat.mul_le_mul_left _ ht2
     rw [Nat.mul_succ,← e64] at h5
     have h6 : 2 ^ i < 2 ^ (i + 1) := Nat.pow_lt_pow_right (by decide) (by omega)
     rw [← hor]
     omega
    have ih := zKM b hb hlb i (r - b * 2 ^ i) (2 * t + 1) (by omega) hr' (Nat.le_trans (zKG (Nat.sub_le ..)) hlr) hsum
    have hdiv : r / b = 2 ^ i + (r - b * 2 ^ i) / b := by
     have : r = (r - b * 2 ^ i) + b * 2 ^ i := by omega
     have h7 := Nat.add_mul_div_left (r - b * 2 ^ i) (2 ^ i) (Nat.pos_of_ne_zero hb)
     rw [← this] at h7
     omega
    have hmod : r % b = (r - b * 2 ^ i) % b := by
     have : r = (r - b * 2 ^ i) + b * 2 ^ i := by omega
     have h7 := Nat.add_mul_mod_self_left (r - b * 2 ^ i) b (2 ^ i)
     rw [← this] at h7
     exact h7
    have hres : 2 ^ (i + 1) * t + r / b = 2 ^ i * (2 * t + 1) + (r - b * 2 ^ i) / b := by rw [hdiv,← hor];omega
    rw [hres,hmod]
    have hq : Go.bits .or .u64 ((2 ^ (i + 1) * t : Nat) : Int) (shl .u64 1 (i : Int)) = ((2 ^ i * (2 * t + 1) : Nat) : Int) := by
     have h8 : (2 : Nat) ^ i < 2 ^ 64 := Nat.pow_lt_pow_right (by decide) (by omega)
     have h9 := zZh 1 i (by omega)
     rw [Nat.one_mul,Nat.mod_eq_of_lt h8] at h9
     have h10 : shl .u64 1 (i : Int) = ((2 ^ i : Nat) : Int) := h9
     rw [h10,zYz _ _ ht h8,or_bit,hor]
    have hb1 : Ev (fun k => (b_up.f k (toB b) (i : Int)).bind fun u => (b_cmp.f k (toB r) u).bind fun c => if c ≥ 0 then (b_minus.f k (toB r) u).bind fun m => (if (0 : Int) ≤ (i : Int) then b_by.l0 k m (toB b) ((2 ^ i * (2 * t + 1) : Nat) : Int) ((i : Int) - 1) else none) else b_by.l0 k (toB r) (toB b) ((2 ^ (i + 1) * t : Nat) : Int) ((i : Int) - 1)) _ :=
     Ev.bind hup (Ev.bind hc (Ev.congr (fun k => if_pos hcge) (Ev.bind hm (Ev.congr (fun k => if_pos (by omega)) ih))))
    refine Ev.step (fun k => ?_) hb1
    rw [hk,b_by.l0,if_pos (by omega),hlr1,Option.bind_some,hlb1,Option.bind_some,wrapB _ (by omega) (by omega),if_neg (by omega),wrapB _ (by omega) (by omega),hq]
   ·have hlt : r < b * 2 ^ i := by omega
    have hcl : ¬ c ≥ 0 := by omega
    have ih := zKM b hb hlb i r (2 * t) (by omega) hlt hlr (by rw [← hp2];exact ht)
    rw [← hp2] at ih
    have hb1 : Ev (fun k => (b_up.f k (toB b) (i : Int)).bind fun u => (b_cmp.f k (toB r) u).bind fun c => if c ≥ 0 then (b_minus.f k (toB r) u).bind fun m => (if (0 : Int) ≤ (i : Int) then b_by.l0 k m (toB b) (Go.bits .or .u64 ((2 ^ (i + 1) * t : Nat) : Int) (shl .u64 1 (i : Int))) ((i : Int) - 1) else none) else b_by.l0 k (toB r) (toB b) ((2 ^ (i + 1) * t : Nat) : Int) ((i : Int) - 1)) _ :=
     Ev.bind hup (Ev.bind hc (Ev.congr (fun k => if_neg hcl) ih))
    refine Ev.step (fun k => ?_) hb1
    rw [hk,b_by.l0,if_pos (by omega),hlr1,Option.bind_some,hlb1,Option.bind_some,wrapB _ (by omega) (by omega),if_neg (by omega),wrapB _ (by omega) (by omega)]
theorem by_ev (a b : Nat) (hb : b ≠ 0) (hlb : (toB b).length ≤ 500000) (hla : (toB a).length ≤ 1000000) (h : a < b * 2 ^ 64) : Ev (fun k => b_by.f k (toB a) (toB b)) (((a / b : Nat) : Int),decide (a % b ≠ 0)) := by
 have g := zKM b hb hlb 64 a 0 (Nat.le_refl _) h hla (by rw [Nat.mul_zero];exact Nat.two_pow_pos _)
 rw [Nat.mul_zero,Nat.zero_add] at g
 refine Ev.congr (fun k => ?_) g
 rfl
end Go.Proofs.YtflcanpajgpghaaGreatDoor.Pure
end
section
namespace Go.Proofs.YtflcanpajgpghaaGreatDoor.Flo
open Go Ieee
def mid (w : Nat) : Nat := units w + units (w + 1)
def kE : Nat := 1075
def K : Nat := 2 ^ kE
def Above (A B w : Nat) : Prop := w = 0 ∨ mid (w - 1) * B < A * K ∨ (mid (w - 1) * B = A * K ∧ w % 2 = 0)
def Under (A B w : Nat) : Prop := A * K < mid w * B ∨ (A * K = mid w * B ∧ w % 2 = 0)
def zXD (A B w : Nat) : Prop := Above A B w ∧ Under A B w
theorem zKj (w : Nat) : units w < units (w + 1) := zYq (Nat.lt_succ_self w)
theorem zKF {v w : Nat} (h : v < w) : mid v < mid w := by
 unfold mid
 have h1 := zYq h
 have h2 : units (v + 1) < units (w + 1) := zYq (by omega)
 omega
theorem zKs {A B A' B' v w : Nat} (hB : 0 < B) (hB' : 0 < B') (h : A * B' ≤ A' * B) (hv : zXD A B v) (hw : zXD A' B' w) : v ≤ w := by
 apply Nat.le_of_not_lt
 intro hlt
 have hm : mid w ≤ mid (v - 1) := by
  rcases Nat.lt_or_eq_of_le (show w ≤ v - 1 by omega) with h1 | h1
  ·exact Nat.le_of_lt (zKF h1)
  ·rw [h1];exact Nat.le_refl _
 have ha : mid (v - 1) * B ≤ A * K ∧ (mid (v - 1) * B = A * K → v % 2 = 0) := by
  rcases hv.1 with h1 | h1 | h1
  ·omega
  ·exact ⟨Nat.le_of_lt h1,fun e => by omega⟩
  ·exact ⟨Nat.le_of_eq h1.1,fun _ => h1.2⟩
 have hu : A' * K ≤ mid w * B' ∧ (A' * K = mid w * B' → w % 2 = 0) := by
  rcases hw.2 with h1 | h1
  ·exact ⟨Nat.le_of_lt h1,fun e => by omega⟩
  ·exact ⟨Nat.le_of_eq h1.1,fun _ => h1.2⟩
 have c1 : mid (v - 1) * B * B' ≤ A * K * B' := Nat.mul_le_mul_right _ ha.1
 have c2 : A * K * B' ≤ A' * K * B := by
  have := Nat.mul_le_mul_right K h
  rw [Nat.mul_right_comm A K B',Nat.mul_right_comm A' K B]
  exact this
 have c3 : A' * K * B ≤ mid w * B' * B := Nat.mul_le_mul_right _ hu.1
 have c4 : mid w * B' * B ≤ mid (v - 1) * B' * B := Nat.mul_le_mul_right _ (Nat.mul_le_mul_right _ hm)
 have c5 : mid (v - 1) * B' * B = mid (v - 1) * B * B' := Nat.mul_right_comm _ _ _
 have e1 : mid (v - 1) * B * B' = A * K * B' := by omega
 have e2 : A' * K * B = mid w * B' * B := by omega
 have e3 : mid w * B' * B = mid (v - 1) * B' * B := by omega
 have f1 : mid (v - 1) * B = A * K := Nat.eq_of_mul_eq_mul_right hB' e1
 have f2 : A' * K = mid w * B' := Nat.eq_of_mul_eq_mul_right hB e2
 have f3 : mid w = mid (v - 1) := Nat.eq_of_mul_eq_mul_right hB' (Nat.eq_of_mul_eq_mul_right hB e3)
 have g1 := ha.2 f1
 have g2 := hu.2 f2
 have : w = v - 1 := by
  rcases Nat.lt_trichotomy w (v - 1) with k | k | k
  ·have := zKF k;omega
  ·exact k
  ·have := zKF k;omega
 omega
theorem zWD {A B A' B' v w : Nat} (hB : 0 < B) (hB' : 0 < B') (h : A * B' = A' * B) (hv : zXD A B v) (hw : zXD A' B' w) : v = w :=
 Nat.le_antisymm (zKs hB hB' (Nat.le_of_eq h) hv hw) (zKs hB' hB (Nat.le_of_eq h.symm) hw hv)
theorem pow_step (c j : Nat) : (c + 0) * 2 ^ (j + 1) = (c * 2) * 2 ^ j := by rw [Nat.add_zero,Nat.pow_succ,Nat.mul_comm (2 ^ j) 2,Nat.mul_assoc]
theorem units_low {r : Nat} (h : r < 4503599627370496) : units r = r := by unfold units;rw [if_pos h]
theorem units_high {r : Nat} (h : ¬ r < 4503599627370496) : units r = (4503599627370496 + r % 4503599627370496) * 2 ^ (r / 4503599627370496 - 1) := by unfold units;rw [if_neg h]
theorem units_of (j q : Nat) (h1 : q ≤ 9007199254740992) (h2 : j = 0 ∨ 4503599627370496 ≤ q) : units (j * 4503599627370496 + q) = q * 2 ^ j := by
 by_cases hq : q < 4503599627370496
 ·obtain rfl : j = 0 := by omega
  rw [units_low (by omega)]
  omega
 ·rw [units_high (by omega)]
  by_cases he : q = 9007199254740992
  ·have e1 : (j * 4503599627370496 + q) % 4503599627370496 = 0 := by omega
   have e2 : (j * 4503599627370496 + q) / 4503599627370496 - 1 = j + 1 := by omega
   have e3 : 4503599627370496 * 2 = q := by omega
   rw [e1,e2,pow_step,e3]
  ·have e1 : 4503599627370496 + (j * 4503599627370496 + q) % 4503599627370496 = q := by omega
   have e2 : (j * 4503599627370496 + q) / 4503599627370496 - 1 = j := by omega
   rw [e1,e2]
theorem nearest_of {A B j q : Nat} (hB : 0 < B) (h1 : q < 9007199254740992) (h2 : j = 0 ∨ 4503599627370496 ≤ q) (lo : 2 * q * (2 ^ j * B) ≤ A * K) (hi : A * K < 2 * (q + 1) * (2 ^ j * B)) :
  zXD A B (j * 4503599627370496 + if (2 * q + 1) * (2 ^ j * B) < A * K ∨ ((2 * q + 1) * (2 ^ j * B) = A * K ∧ q % 2 = 1) then q + 1 else q) := by
 have u0 := units_of j q (by omega) h2
 have u1 := units_of j (q + 1) (by omega) (by omega)
 have hmid : mid (j * 4503599627370496 + q) * B = (2 * q + 1) * (2 ^ j * B) := by
  unfold mid
  rw [Nat.add_assoc,u0,u1,← Nat.add_mul,← Nat.mul_assoc]
  congr 2
  omega
 have hK : ∃ a,a = A * K := ⟨_,rfl⟩
 obtain ⟨a,ha⟩ := hK
 obtain ⟨c,hc⟩ : ∃ c,c = 2 ^ j * B := ⟨_,rfl⟩
 rw [← ha,← hc] at lo hi
 rw [← hc] at hmid
 rw [← ha,← hc]
 have q0 : units (j * 4503599627370496 + q) * B = q * c := by rw [u0,hc,Nat.mul_assoc]
 have q1 : units (j * 4503599627370496 + (q + 1)) * B = (q + 1) * c := by rw [u1,hc,Nat.mul_assoc]
 by_cases hup : (2 * q + 1) * c < a ∨ ((2 * q + 1) * c = a ∧ q % 2 = 1)
 ·rw [if_pos hup]
  have hw : j * 4503599627370496 + (q + 1) - 1 = j * 4503599627370496 + q := by omega
  refine ⟨.inr ?_,.inl ?_⟩
  ·rw [hw,hmid,← ha]
   rcases hup with g | g
   ·exact .inl g
   ·exact .inr ⟨g.1,by omega⟩
  ·rw [← ha]
   refine Nat.lt_of_lt_of_le hi ?_
   unfold mid
   have h3 := zKj (j * 4503599627370496 + (q + 1))
   have h4 : units (j * 4503599627370496 + (q + 1)) * B ≤ units (j * 4503599627370496 + (q + 1) + 1) * B := Nat.mul_le_mul_right _ (Nat.le_of_lt h3)
   rw [Nat.add_mul,q1]
   rw [q1] at h4
   have h5 : 2 * (q + 1) * c = (q + 1) * c + (q + 1) * c := by rw [Nat.mul_assoc,Nat.two_mul]
   omega
 ·rw [if_neg hup]
  have g1 : a ≤ (2 * q + 1) * c := Nat.le_of_not_lt fun g => hup (.inl g)
  refine ⟨?_,?_⟩
  ·by_cases h0 : j * 4503599627370496 + q = 0
   ·exact .inl h0
   ·refine .inr (.inl ?_)
    rw [← ha]
    refine Nat.lt_of_lt_of_le ?_ lo
    unfold mid
    have h3 := zKj (j * 4503599627370496 + q - 1)
    rw [show j * 4503599627370496 + q - 1 + 1 = j * 4503599627370496 + q by omega] at h3 ⊢
    have h4 : units (j * 4503599627370496 + q - 1) * B < units (j * 4503599627370496 + q) * B := Nat.mul_lt_mul_of_pos_right h3 hB
    rw [Nat.add_mul,q0]
    rw [q0] at h4
    have h5 : 2 * q * c = q * c + q * c := by rw [Nat.mul_assoc,Nat.two_mul]
    omega
  ·unfold Under
   rw [← ha,hmid]
   rcases Nat.lt_or_eq_of_le g1 with g | g
   ·exact .inl g
   ·refine .inr ⟨g,?_⟩
    have : ¬ q % 2 = 1 := fun k => hup (.inr ⟨g.symm,k⟩)
    omega
theorem K_exp : ∃ E : Nat,E = 1075 ∧ K = 2 ^ E := ⟨kE,rfl,rfl⟩
theorem K_pos : 0 < K := by
 obtain ⟨E,_,h⟩ := K_exp
 rw [h]
 exact Nat.two_pow_pos E
theorem zZY {A B P M Q R n j : Nat} (hB : 0 < B) (hP : 0 < P) (hM : 0 < M) (hn : 1 ≤ n) (hK : K * (M * 2 ^ n) = 2 ^ (j + 1) * P)
  (hA : A * P = Q * (B * M) + R) (hR : R < B * M) (h1 : Q / 2 ^ n < 9007199254740992) (h2 : j = 0 ∨ 4503599627370496 ≤ Q / 2 ^ n) :
  zXD A B (j * 4503599627370496 + if 2 ^ (n - 1) < Q % 2 ^ n ∨ (Q % 2 ^ n = 2 ^ (n - 1) ∧ (0 < R ∨ Q / 2 ^ n % 2 = 1)) then Q / 2 ^ n + 1 else Q / 2 ^ n) := by
 obtain ⟨m,rfl⟩ : ∃ m,n = m + 1 := ⟨n - 1,by omega⟩
 rw [Nat.add_sub_cancel]
 have hT : 0 < 2 ^ m := Nat.two_pow_pos m
 have hS : (2 : Nat) ^ (m + 1) = 2 * 2 ^ m := by rw [Nat.pow_succ,Nat.mul_comm]
 rw [hS] at hK h1 h2 ⊢
 obtain ⟨T,hTT⟩ : ∃ T,T = 2 ^ m := ⟨_,rfl⟩
 rw [← hTT] at hK h1 h2 hT ⊢
 obtain ⟨C,hC⟩ : ∃ C,C = B * M := ⟨_,rfl⟩
 have hC0 : 0 < C := by rw [hC];exact Nat.mul_pos hB hM
 rw [← hC] at hA hR
 have hQ := Nat.div_add_mod Q (2 * T)
 have hr : Q % (2 * T) < 2 * T := Nat.mod_lt _ (by omega)
 obtain ⟨q,hq⟩ : ∃ q,q = Q / (2 * T) := ⟨_,rfl⟩
 obtain ⟨r,hrr⟩ : ∃ r,r = Q % (2 * T) := ⟨_,rfl⟩
 rw [← hq] at h1 h2
 rw [← hq,← hrr] at hQ ⊢
 rw [← hrr] at hr
 have key : ∀ c,c * (2 ^ j * B) * P = c * T * C * K := by
  intro c
  have e1 : 2 * (c * (2 ^ j * B) * P) = 2 * (c * T * C * K) := by
   have g1 : 2 * (c * (2 ^ j * B) * P) = c * B * (2 ^ (j + 1) * P) := by
    rw [Nat.pow_succ]
    simp only [Nat.mul_assoc,Nat.mul_comm,Nat.mul_left_comm]
   rw [g1,← hK,hC]
   simp only [Nat.mul_assoc,Nat.mul_comm,Nat.mul_left_comm]
  omega
 have keyA : A * K * P = (Q * C + R) * K := by rw [← hA];simp only [Nat.mul_assoc,Nat.mul_comm,Nat.mul_left_comm]
 have hlt : ∀ c,c * (2 ^ j * B) < A * K ↔ c * T * C < Q * C + R := by
  intro c
  rw [← Nat.mul_lt_mul_right hP,key,keyA,Nat.mul_lt_mul_right K_pos]
 have hgt : ∀ c,A * K < c * (2 ^ j * B) ↔ Q * C + R < c * T * C := by
  intro c
  rw [← Nat.mul_lt_mul_right hP,key,keyA,Nat.mul_lt_mul_right K_pos]
 have heq : ∀ c,c * (2 ^ j * B) = A * K ↔ c * T * C = Q * C + R := by
  intro c
  have a := hlt c
  have b := hgt c
  omega
 have hle : ∀ c,c * (2 ^ j * B) ≤ A * K ↔ c * T * C ≤ Q * C + R := by
  intro c
  have b := hgt c
  omega
 have cQ : ∀ x,x ≤ Q → x * C ≤ Q * C + R := fun x h => Nat.le_trans (Nat.mul_le_mul_right C h) (Nat.le_add_right _ _)
 have cG : ∀ x,Q < x → Q * C + R < x * C := fun x h => by
  have := Nat.mul_le_mul_right C (show Q + 1 ≤ x from h)
  rw [Nat.add_mul,Nat.one_mul] at this
  omega
 have e2 : 2 * q * T + r = Q := by rw [Nat.mul_assoc,Nat.mul_comm q T,← Nat.mul_assoc];exact hQ
 have e3 : 2 * (q + 1) * T = 2 * q * T + 2 * T := by rw [Nat.mul_add,Nat.add_mul]
 have e4 : (2 * q + 1) * T = 2 * q * T + T := by rw [Nat.add_mul,Nat.one_mul]
 have g2 : 2 * q * T ≤ Q := by clear hlt hgt heq hle key keyA hA hK;omega
 have g3 : Q < 2 * (q + 1) * T := by clear hlt hgt heq hle key keyA hA hK;omega
 have hmain := nearest_of (A := A) (B := B) (j := j) (q := q) hB h1 h2 ((hle _).2 (cQ _ g2)) ((hgt _).2 (cG _ g3))
 have hcond : ((2 * q + 1) * (2 ^ j * B) < A * K ∨ ((2 * q + 1) * (2 ^ j * B) = A * K ∧ q % 2 = 1)) ↔ (T < r ∨ (r = T ∧ (0 < R ∨ q % 2 = 1))) := by
  rw [hlt,heq]
  rcases Nat.lt_trichotomy T r with h | h | h
  ·have := Nat.mul_le_mul_right C (show (2 * q + 1) * T + 1 ≤ Q by omega)
   rw [Nat.add_mul _ 1,Nat.one_mul] at this
   exact ⟨fun _ => .inl h,fun _ => .inl (by omega)⟩
  ·have : (2 * q + 1) * T = Q := by omega
   rw [this]
   omega
  ·have := cG ((2 * q + 1) * T) (by omega)
   omega
 simp only [hcond] at hmain
 exact hmain
theorem zZp {A B : Nat} (h : A * K < B) : zXD A B 0 := by
 refine ⟨.inl rfl,.inl ?_⟩
 have : mid 0 = 1 := by rfl
 rw [this,Nat.one_mul]
 exact h
def INF : Nat := 9218868437227405312
def upN (D : Nat) (e : Int) : Nat := D * 10 ^ e.toNat
def loN (e : Int) : Nat := 10 ^ (-e).toNat
def zZx (D : Nat) (e : Int) (w : Nat) : Prop :=
 if D = 0 ∨ e < -1000 then w = 0 else if 400 < e then w = INF else ∃ v,zXD (upN D e) (loN e) v ∧ w = min v INF
theorem loN_pos (e : Int) : 0 < loN e := Nat.pow_pos (by decide)
theorem readAs_one {D : Nat} {e : Int} {v w : Nat} (hv : zZx D e v) (hw : zZx D e w) : v = w := by
 unfold zZx at hv hw
 by_cases h1 : D = 0 ∨ e < -1000
 ·rw [if_pos h1] at hv hw;rw [hv,hw]
 ·rw [if_neg h1] at hv hw
  by_cases h2 : 400 < e
  ·rw [if_pos h2] at hv hw;rw [hv,hw]
  ·rw [if_neg h2] at hv hw
   obtain ⟨a,ha,rfl⟩ := hv
   obtain ⟨b,hb,rfl⟩ := hw
   rw [zWD (loN_pos e) (loN_pos e) rfl ha hb]
end Go.Proofs.YtflcanpajgpghaaGreatDoor.Flo
end
section
namespace Go.Proofs.YtflcanpajgpghaaGreatDoor.Pure
open Go.RowKit Go.Proofs.YtflcanpajgpghaaGreatDoor.Pr Go.Proofs.YtflcanpajgpghaaGreatDoorW.PrintWords Go.Proofs.YtflcanpajgpghaaGreatDoorW.PrintLast Go.Proofs.YtflcanpajgpghaaGreatDoorW.PrintMore Go.Proofs.YtflcanpajgpghaaGreatDoor.Flo
def rnd (q n : Nat) : Nat := if 2 ^ (n - 1) < q % 2 ^ n ∨ (q % 2 ^ n = 2 ^ (n - 1) ∧ q / 2 ^ n % 2 = 1) then q / 2 ^ n + 1 else q / 2 ^ n
theorem mask_eq (n : Nat) (h : n ≤ 64) : IntKind.u64.wrap ((shl .u64 1 (n : Int)) - 1) = ((2 ^ n - 1 : Nat) : Int) := by
 have h9 := zZh 1 n h
 rw [Nat.one_mul] at h9
 have h9 : shl .u64 1 (n : Int) = ((2 ^ n % 2 ^ 64 : Nat) : Int) := h9
 rw [h9]
 by_cases he : n = 64
 ·subst he
  rw [Nat.mod_self]
  rfl
 ·have h8 : (2 : Nat) ^ n < 2 ^ 64 := Nat.pow_lt_pow_right (by decide) (by omega)
  have h7 := Nat.two_pow_pos n
  rw [Nat.mod_eq_of_lt h8,show (((2 ^ n : Nat) : Int) - 1) = ((2 ^ n - 1 : Nat) : Int) by omega,u64_in _ (by omega)]
theorem shifted_ev (q n : Nat) (hq : q < 2 ^ 64) (hn : 1 ≤ n) (hn2 : n ≤ 64) : flo_shifted.f (q : Int) false (n : Int) = some ((rnd q n : Nat) : Int) := by
 have hm : Go.bits .and .u64 (q : Int) (IntKind.u64.wrap ((shl .u64 1 (n : Int)) - 1)) = ((q % 2 ^ n : Nat) : Int) := by
  rw [mask_eq n hn2,zYH _ _ hq (by have := Nat.pow_le_pow_right (show 0 < 2 by decide) hn2;have := Nat.two_pow_pos n;omega),Nat.and_two_pow_sub_one_eq_mod]
 have h8 : (2 : Nat) ^ (n - 1) < 2 ^ 64 := Nat.pow_lt_pow_right (by decide) (by omega)
 have hmid : shl .u64 1 (((n - 1 : Nat) : Int)) = ((2 ^ (n - 1) : Nat) : Int) := by
  have h9 := zZh 1 (n - 1) (by omega)
  rw [Nat.one_mul,Nat.mod_eq_of_lt h8] at h9
  exact h9
 have hsr := shr_u64 q n hn2
 have hdl : q / 2 ^ n < 2 ^ 64 := Nat.lt_of_le_of_lt (Nat.div_le_self ..) hq
 have hlow : Go.bits .and .u64 ((q / 2 ^ n : Nat) : Int) 1 = ((q / 2 ^ n % 2 : Nat) : Int) := by
  have := zYH (q / 2 ^ n) 1 hdl (by decide)
  rw [show (1 : Nat) = 2 ^ 1 - 1 from rfl,Nat.and_two_pow_sub_one_eq_mod] at this
  exact this
 have h2 : (2 : Nat) ≤ 2 ^ n := by
  have := Nat.pow_le_pow_right (show 0 < 2 by decide) hn
  omega
 have hd2 : q / 2 ^ n + 1 < 18446744073709551616 := by
  have : q / 2 ^ n ≤ q / 2 := Nat.div_le_div_left h2 (by decide)
  omega
 have hinc : IntKind.u64.wrap (((q / 2 ^ n : Nat) : Int) + 1) = ((q / 2 ^ n + 1 : Nat) : Int) := by
  rw [show (((q / 2 ^ n : Nat) : Int) + 1) = ((q / 2 ^ n + 1 : Nat) : Int) by push_cast;rfl,u64_in _ hd2]
 unfold flo_shifted.f
 rw [if_pos (by omega),if_neg (by omega),wrapB _ (by omega) (by omega),if_pos (by omega),hm,show ((n : Int) - 1) = ((n - 1 : Nat) : Int) by omega,hmid,hsr,hlow,hinc]
 unfold rnd
 obtain ⟨x,hx⟩ : ∃ x,x = q % 2 ^ n := ⟨_,rfl⟩
 obtain ⟨y,hy⟩ : ∃ y,y = 2 ^ (n - 1) := ⟨_,rfl⟩
 obtain ⟨z,hz⟩ : ∃ z,z = q / 2 ^ n := ⟨_,rfl⟩
 rw [← hx,← hy,← hz]
 by_cases c1 : y < x
 ·rw [if_pos (by omega),if_pos (.inl c1)]
 ·rw [if_neg (by omega)]
  by_cases c2 : x = y
  ·rw [if_pos (by omega),if_neg (by decide)]
   by_cases c3 : z % 2 = 1
   ·rw [if_pos (by omega),if_pos (.inr ⟨c2,c3⟩)]
   ·rw [if_neg (by omega),if_neg (by omega)]
  ·rw [if_neg (by omega),if_neg (by omega)]
theorem zWC (a b : Nat) (h : b < 4503599627370496) (ha : a < 4096) : Go.bits .or .u64 ((a * 4503599627370496 : Nat) : Int) (b : Int) = ((a * 4503599627370496 + b : Nat) : Int) := by
 rw [zYz _ _ (by omega) (by omega)]
 have := Nat.two_pow_add_eq_or_of_lt (i := 52) h a
 rw [Nat.mul_comm a,show (4503599627370496 : Nat) = 2 ^ 52 from rfl,this]
theorem zYg (a : Nat) (h : a < 18446744073709551616) : Go.bits .or .u64 0 (a : Int) = (a : Int) := by
 have := zYz 0 a (by decide) h
 rw [Nat.zero_or] at this
 exact this
theorem and_frac (a : Nat) (h : a < 18446744073709551616) : Go.bits .and .u64 (a : Int) 4503599627370495 = ((a % 4503599627370496 : Nat) : Int) := by
 have := zYH a 4503599627370495 h (by decide)
 rw [show (4503599627370495 : Nat) = 2 ^ 52 - 1 from rfl,Nat.and_two_pow_sub_one_eq_mod] at this
 exact this
theorem join_ev (e : Int) (n j R : Nat) (hj : (j : Int) = e + n + 1074) (hb : j ≤ 100000) (hn : n ≤ 100000) (hR : R ≤ 9007199254740992) (h2 : j = 0 ∨ 4503599627370496 ≤ R) :
  Ev (fun k => flo_Make.j2 k e (R : Int) 0 (n : Int)) ((min (j * 4503599627370496 + R) INF : Nat) : Int) := by
 unfold INF
 by_cases hbig : R = 9007199254740992
 ·subst hbig
  have hw : wrap64 (wrap64 (e + n) + 1) = (j : Int) - 1073 := by rw [wrapB (e + n) (by omega) (by omega),wrapB _ (by omega) (by omega)];omega
  refine Ev.step (f := fun k => flo_Make.j3 k ((j : Int) - 1073) 4503599627370496 0) (fun k => ?_) (Ev.step (f := fun _ => some ((min (j * 4503599627370496 + 9007199254740992) 9218868437227405312 : Nat) : Int)) (fun k => ?_) (Ev.now _))
  ·rw [flo_Make.j2,if_pos (by rfl),hw]
  ·rw [flo_Make.j3,if_neg (by omega)]
   by_cases ho : (j : Int) - 1073 > 971
   ·rw [if_pos ho,Nat.min_eq_right (by omega)]
    have := zYg 9218868437227405312 (by decide)
    exact congrArg some this
   ·rw [if_neg ho,if_neg (by omega),wrapB _ (by omega) (by omega),Nat.min_eq_left (by omega)]
    have h1 : IntKind.u64.wrap ((j : Int) - 1073 + 1075) = ((j + 2 : Nat) : Int) := by rw [show ((j : Int) - 1073 + 1075) = ((j + 2 : Nat) : Int) by omega,u64_in _ (by omega)]
    have h3 : IntKind.u64.wrap (((j + 2 : Nat) : Int) * 4503599627370496) = (((j + 2) * 4503599627370496 : Nat) : Int) := by rw [show (((j + 2 : Nat) : Int) * 4503599627370496) = (((j + 2) * 4503599627370496 : Nat) : Int) by omega,u64_in _ (by omega)]
    have h4 := and_frac 4503599627370496 (by decide)
    rw [Nat.mod_self] at h4
    have h4 : Go.bits .and .u64 4503599627370496 4503599627370495 = ((0 : Nat) : Int) := h4
    rw [h1,h3,zYg _ (by omega),h4,zWC _ _ (by decide) (by omega)]
    exact congrArg (fun z : Nat => some (z : Int)) (by omega)
 ·have hw : wrap64 (e + n) = (j : Int) - 1074 := by rw [wrapB (e + n) (by omega) (by omega)];omega
  refine Ev.step (f := fun k => flo_Make.j3 k ((j : Int) - 1074) (R : Int) 0) (fun k => ?_) (Ev.step (f := fun _ => some ((min (j * 4503599627370496 + R) 9218868437227405312 : Nat) : Int)) (fun k => ?_) (Ev.now _))
  ·rw [flo_Make.j2,if_neg (by omega),hw]
  ·by_cases h0 : R = 0
   ·subst h0
    obtain rfl : j = 0 := by omega
    rw [flo_Make.j3,if_pos (by rfl)]
    rfl
   ·rw [flo_Make.j3,if_neg (by omega)]
    by_cases ho : (j : Int) - 1074 > 971
    ·rw [if_pos ho,Nat.min_eq_right (by omega)]
     have := zYg 9218868437227405312 (by decide)
     exact congrArg some this
    ·rw [if_neg ho,Nat.min_eq_left (by omega)]
     by_cases hs : R < 4503599627370496
     ·obtain rfl : j = 0 := by omega
      rw [if_pos (by omega),zYg _ (by omega),Nat.zero_mul,Nat.zero_add]
     ·rw [if_neg (by omega),wrapB _ (by omega) (by omega)]
      have h1 : IntKind.u64.wrap ((j : Int) - 1074 + 1075) = ((j + 1 : Nat) : Int) := by rw [show ((j : Int) - 1074 + 1075) = ((j + 1 : Nat) : Int) by omega,u64_in _ (by omega)]
      have h3 : IntKind.u64.wrap (((j + 1 : Nat) : Int) * 4503599627370496) = (((j + 1) * 4503599627370496 : Nat) : Int) := by rw [show (((j + 1 : Nat) : Int) * 4503599627370496) = (((j + 1) * 4503599627370496 : Nat) : Int) by omega,u64_in _ (by omega)]
      rw [h1,h3,zYg _ (by omega),and_frac _ (by omega),zWC _ _ (by omega) (by omega)]
      exact congrArg (fun z : Nat => some (z : Int)) (by omega)
theorem zKw {q L n : Nat} (h : q < 2 ^ L) (hn : L ≤ n + 53) : q / 2 ^ n < 9007199254740992 := by
 rw [Nat.div_lt_iff_lt_mul (Nat.two_pow_pos n),show (9007199254740992 : Nat) = 2 ^ 53 from rfl,← Nat.pow_add]
 exact Nat.lt_of_lt_of_le h (Nat.pow_le_pow_right (by decide) (by omega))
theorem zKu {q L n : Nat} (h : 2 ^ (L - 1) ≤ q) (hn : L = n + 53) : 4503599627370496 ≤ q / 2 ^ n := by
 rw [Nat.le_div_iff_mul_le (Nat.two_pow_pos n),show (4503599627370496 : Nat) = 2 ^ 52 from rfl,← Nat.pow_add]
 exact Nat.le_trans (Nat.pow_le_pow_right (by decide) (by omega)) h
theorem rnd_bounds (q n : Nat) : q / 2 ^ n ≤ rnd q n ∧ rnd q n ≤ q / 2 ^ n + 1 := by
 unfold rnd
 by_cases h : 2 ^ (n - 1) < q % 2 ^ n ∨ (q % 2 ^ n = 2 ^ (n - 1) ∧ q / 2 ^ n % 2 = 1)
 ·rw [if_pos h];omega
 ·rw [if_neg h];omega
theorem make_ev (q : Nat) (e : Int) (n j L : Nat) (hL : L = Lib.bitLen q) (hq : 2 ^ 62 ≤ q) (hq2 : q < 2 ^ 64) (he : -8000 ≤ e) (he2 : e ≤ 8000) (hn1 : L ≤ n + 53) (hn2 : -1074 - e ≤ n) (hn3 : n + 53 = L ∨ (n : Int) = -1074 - e) (hj : (j : Int) = e + n + 1074) :
  Ev (fun k => flo_Make.f k false e (q : Int) false) ((if 64 < n then 0 else min (j * 4503599627370496 + rnd q n) INF : Nat) : Int) := by
 obtain ⟨b1,b2,b3⟩ := bitLen_spec q (by omega) hq2
 rw [← hL] at b1 b2 b3
 have hL63 : 63 ≤ L := by
  apply Nat.le_of_not_lt
  intro hlt
  have : 2 ^ L ≤ 2 ^ 62 := Nat.pow_le_pow_right (by decide) (by omega)
  omega
 have hL64 : L ≤ 64 := by
  apply Nat.le_of_not_lt
  intro hlt
  have : (2 : Nat) ^ 64 ≤ 2 ^ (L - 1) := Nat.pow_le_pow_right (by decide) (by omega)
  omega
 have hlen : bits_Len64.f (q : Int) = some (L : Int) := by
  unfold bits_Len64.f
  rw [if_pos (by omega),Int.toNat_natCast,hL]
 have hclamp : mn (mx e (-1048576)) 1048576 = e := by unfold mn mx;omega
 have hmx : mx (wrap64 ((wrap64 ((L : Int) - 52)) - 1)) (wrap64 ((-1074) - e)) = (n : Int) := by
  rw [wrapB ((L : Int) - 52) (by omega) (by omega),wrapB _ (by omega) (by omega),wrapB _ (by omega) (by omega)]
  unfold mx
  omega
 have hj1 : ∀ (t : Int) (r : Int),flo_shifted.f (q : Int) false (n : Int) = some t → Ev (fun k => flo_Make.j2 k e t 0 (n : Int)) r → Ev (fun k => flo_Make.f k false e (q : Int) false) r := by
  intro t r ht hr
  refine Ev.congr (f := fun k => flo_Make.j0 k e (q : Int) false 0) (fun k => ?_) (Ev.step (f := fun k => flo_Make.j1 k e (q : Int) false 0) (fun k => ?_) (Ev.step (fun k => ?_) hr))
  ·unfold flo_Make.f
   rw [if_neg (by decide)]
  ·rw [flo_Make.j0,if_neg (by omega),hclamp]
  ·rw [flo_Make.j1,hlen,Option.bind_some,hmx,if_pos (by omega),ht,Option.bind_some]
 by_cases h64 : 64 < n
 ·rw [if_pos h64]
  refine hj1 0 _ ?_ ?_
  ·unfold flo_shifted.f
   rw [if_pos (by omega),if_pos (by omega)]
  ·have h0 : j = 0 := by omega
   have := join_ev e n j 0 hj (by omega) (by omega) (by omega) (.inl h0)
   rw [h0] at this
   exact this
 ·rw [if_neg h64]
  refine hj1 _ _ (shifted_ev q n hq2 (by omega) (by omega)) ?_
  have h5 := zKw b3 hn1
  have h6 := rnd_bounds q n
  refine join_ev e n j (rnd q n) hj (by omega) (by omega) (by omega) ?_
  rcases hn3 with h | h
  ·have := zKu b2 h.symm
   exact .inr (by omega)
  ·exact .inl (by omega)
theorem or_one (Q : Nat) : Q ||| 1 = 2 * (Q / 2) + 1 := by
 have h := Nat.two_pow_add_eq_or_of_lt (i := 1) (b := 1) (by decide) (Q / 2)
 rw [Nat.pow_one] at h
 rcases Nat.mod_two_eq_zero_or_one Q with h2 | h2
 ·rw [h,show 2 * (Q / 2) = Q by omega]
 ·have e : Q = 2 * (Q / 2) ||| 1 := by rw [← h];omega
  rw [h]
  have : Q ||| 1 = (2 * (Q / 2) ||| 1) ||| 1 := by rw [← e]
  rw [this,Nat.or_assoc,Nat.or_self]
def stick (Q R : Nat) : Nat := if 0 < R then Q ||| 1 else Q
theorem rnd_stick (Q R n : Nat) (hn : 2 ≤ n) : stick Q R / 2 ^ n = Q / 2 ^ n ∧ rnd (stick Q R) n = if 2 ^ (n - 1) < Q % 2 ^ n ∨ (Q % 2 ^ n = 2 ^ (n - 1) ∧ (0 < R ∨ Q / 2 ^ n % 2 = 1)) then Q / 2 ^ n + 1 else Q / 2 ^ n := by
 unfold stick
 by_cases hR : 0 < R
 ·rw [if_pos hR,or_one]
  obtain ⟨m,rfl⟩ : ∃ m,n = m + 2 := ⟨n - 2,by omega⟩
  unfold rnd
  rw [show m + 2 - 1 = m + 1 by omega]
  have e1 : (2 : Nat) ^ (m + 1) = 2 * 2 ^ m := by rw [Nat.pow_succ,Nat.mul_comm]
  have e2 : (2 : Nat) ^ (m + 2) = 4 * 2 ^ m := by rw [show m + 2 = m + 1 + 1 from rfl,Nat.pow_succ,e1];omega
  rw [e1,e2]
  have hT := Nat.two_pow_pos m
  obtain ⟨T,hTT⟩ : ∃ T,T = 2 ^ m := ⟨_,rfl⟩
  rw [← hTT] at hT ⊢
  have hdm := Nat.div_add_mod Q (4 * T)
  have hlt := Nat.mod_lt Q (show 0 < 4 * T by omega)
  obtain ⟨z,hz⟩ : ∃ z,z = Q / (4 * T) := ⟨_,rfl⟩
  obtain ⟨r,hr⟩ : ∃ r,r = Q % (4 * T) := ⟨_,rfl⟩
  rw [← hz,← hr] at hdm
  rw [← hr] at hlt
  have hzz : 4 * T * z = 2 * (2 * (T * z)) := by rw [show 4 * T * z = 4 * (T * z) from Nat.mul_assoc ..];omega
  have hq : 2 * (Q / 2) + 1 = (2 * (r / 2) + 1) + 4 * T * z := by omega
  have hr2 : 2 * (r / 2) + 1 < 4 * T := by omega
  have d1 : (2 * (Q / 2) + 1) / (4 * T) = z := by rw [hq,Nat.add_mul_div_left _ _ (by omega),Nat.div_eq_of_lt hr2,Nat.zero_add]
  have d2 : (2 * (Q / 2) + 1) % (4 * T) = 2 * (r / 2) + 1 := by rw [hq,Nat.add_mul_mod_self_left,Nat.mod_eq_of_lt hr2]
  rw [d1,d2,← hz,← hr]
  refine ⟨rfl,?_⟩
  by_cases c : 2 * T < 2 * (r / 2) + 1 ∨ (2 * (r / 2) + 1 = 2 * T ∧ z % 2 = 1)
  ·rw [if_pos c,if_pos (by omega)]
  ·rw [if_neg c,if_neg (by omega)]
 ·rw [if_neg hR]
  refine ⟨rfl,?_⟩
  unfold rnd
  by_cases c : 2 ^ (n - 1) < Q % 2 ^ n ∨ (Q % 2 ^ n = 2 ^ (n - 1) ∧ Q / 2 ^ n % 2 = 1)
  ·rw [if_pos c,if_pos (by omega)]
  ·rw [if_neg c,if_neg (by omega)]
theorem zKX (Q R : Nat) (h1 : 2 ^ 62 ≤ Q) (h2 : Q < 2 ^ 64) : 2 ^ 62 ≤ stick Q R ∧ stick Q R < 2 ^ 64 := by
 unfold stick
 by_cases hR : 0 < R
 ·rw [if_pos hR,or_one];omega
 ·rw [if_neg hR];exact ⟨h1,h2⟩
theorem word_ev {A B P M Q R : Nat} {e : Int} (hB : 0 < B) (hP : 0 < P) (hM : 0 < M) (hA : A * P = Q * (B * M) + R) (hR : R < B * M) (hQ1 : 2 ^ 62 ≤ Q) (hQ2 : Q < 2 ^ 64) (he : -8000 ≤ e) (he2 : e ≤ 8000)
  (hK : ∀ n j : Nat,(j : Int) = e + n + 1074 → K * (M * 2 ^ n) = 2 ^ (j + 1) * P) :
  ∃ v,zXD A B v ∧ Ev (fun k => flo_Make.f k false e ((stick Q R : Nat) : Int) false) ((min v INF : Nat) : Int) := by
 obtain ⟨s1,s2⟩ := zKX Q R hQ1 hQ2
 obtain ⟨L,hL⟩ : ∃ L,L = Lib.bitLen (stick Q R) := ⟨_,rfl⟩
 obtain ⟨b1,b2,b3⟩ := bitLen_spec (stick Q R) (by omega) s2
 rw [← hL] at b1 b2 b3
 have hL63 : 63 ≤ L := by
  apply Nat.le_of_not_lt
  intro hlt
  have : 2 ^ L ≤ 2 ^ 62 := Nat.pow_le_pow_right (by decide) (by omega)
  omega
 have hL64 : L ≤ 64 := by
  apply Nat.le_of_not_lt
  intro hlt
  have : (2 : Nat) ^ 64 ≤ 2 ^ (L - 1) := Nat.pow_le_pow_right (by decide) (by omega)
  omega
 obtain ⟨n,hn1,hn2,hn3⟩ : ∃ n : Nat,L ≤ n + 53 ∧ -1074 - e ≤ n ∧ (n + 53 = L ∨ (n : Int) = -1074 - e) := by
  by_cases h : -1074 - e ≤ ((L - 53 : Nat) : Int)
  ·exact ⟨L - 53,by omega,h,.inl (by omega)⟩
  ·exact ⟨(-1074 - e).toNat,by omega,by omega,.inr (by omega)⟩
 obtain ⟨j,hj⟩ : ∃ j : Nat,(j : Int) = e + n + 1074 := ⟨(e + n + 1074).toNat,by omega⟩
 have hmk := make_ev (stick Q R) e n j L hL s1 s2 he he2 hn1 hn2 hn3 hj
 have hKK := hK n j hj
 obtain ⟨t1,t2⟩ := rnd_stick Q R n (by omega)
 by_cases h64 : 64 < n
 ·rw [if_pos h64] at hmk
  refine ⟨0,zZp ?_,?_⟩
  ·have h0 : j = 0 := by omega
   rw [h0,Nat.zero_add,Nat.pow_one] at hKK
   have c1 : A * P < 2 ^ 64 * (B * M) := by
    have := Nat.mul_le_mul_right (B * M) (show Q + 1 ≤ 2 ^ 64 from hQ2)
    rw [Nat.add_mul,Nat.one_mul] at this
    omega
   have c2 : A * P * (K * 2 ^ n) < 2 ^ 64 * (B * M) * (K * 2 ^ n) := Nat.mul_lt_mul_of_pos_right c1 (Nat.mul_pos K_pos (Nat.two_pow_pos n))
   have c3 : 2 ^ 64 * (B * M) * (K * 2 ^ n) = 2 ^ 65 * B * P := by
    have : 2 ^ 64 * (B * M) * (K * 2 ^ n) = 2 ^ 64 * B * (K * (M * 2 ^ n)) := by simp only [Nat.mul_assoc,Nat.mul_comm,Nat.mul_left_comm]
    rw [this,hKK,show (2 : Nat) ^ 65 = 2 ^ 64 * 2 from rfl]
    simp only [Nat.mul_assoc,Nat.mul_comm,Nat.mul_left_comm]
   have c4 : A * P * (K * 2 ^ n) = A * K * 2 ^ n * P := by simp only [Nat.mul_assoc,Nat.mul_comm,Nat.mul_left_comm]
   rw [c3,c4] at c2
   have c5 := Nat.lt_of_mul_lt_mul_right c2
   have c6 : A * K * 2 ^ 65 ≤ A * K * 2 ^ n := Nat.mul_le_mul_left _ (Nat.pow_le_pow_right (by decide) h64)
   have c7 : A * K * 2 ^ 65 < 2 ^ 65 * B := Nat.lt_of_le_of_lt c6 c5
   rw [Nat.mul_comm _ (2 ^ 65)] at c7
   exact Nat.lt_of_mul_lt_mul_left c7
  ·exact hmk
 ·rw [if_neg h64,t2] at hmk
  have h5 := zKw b3 hn1
  rw [t1] at h5
  refine ⟨_,zZY hB hP hM (by omega) hKK hA hR h5 ?_,hmk⟩
  rcases hn3 with h | h
  ·have := zKu b2 h.symm
   rw [t1] at this
   exact .inr this
  ·exact .inl (by omega)
theorem zZa {x m : Nat} (h : x < 2 ^ m) : (toB x).length ≤ m / 32 + 1 := by
 refine zZk _ _ (Nat.lt_of_lt_of_le h ?_)
 rw [zYK]
 exact Nat.pow_le_pow_right (by decide) (by omega)
theorem zYS (n : Nat) : 10 ^ n < 2 ^ (4 * n + 1) := by
 have h1 : 10 ^ n ≤ 16 ^ n := Nat.pow_le_pow_left (by decide) n
 have h2 : (16 : Nat) ^ n = 2 ^ (4 * n) := by rw [Nat.pow_mul]
 have h3 : (2 : Nat) ^ (4 * n) < 2 ^ (4 * n + 1) := Nat.pow_lt_pow_right (by decide) (by omega)
 omega
theorem tens_ev (x n m : Nat) (hn : n ≤ 100000) (hm : m ≤ 1000000) (h : x * 10 ^ n < 2 ^ m) : Ev (fun k => b_tens.f k (toB x) (n : Int)) (toB (x * 10 ^ n)) := by
 refine tens0 (m / 32 + 1) (by omega) n x (by omega) (Nat.lt_of_lt_of_le h ?_)
 rw [zYK]
 exact Nat.pow_le_pow_right (by decide) (by omega)
theorem zWA {A B la lb u v : Nat} (hA : A ≠ 0) (hB : B ≠ 0) (ha : LenIs A la) (hb : LenIs B lb) (h : la + u = 63 + lb + v) : 2 ^ 62 ≤ A * 2 ^ u / (B * 2 ^ v) ∧ A * 2 ^ u < B * 2 ^ v * 2 ^ 64 := by
 obtain ⟨a1,a2,a3⟩ := ha.2 hA
 obtain ⟨b1,b2,b3⟩ := hb.2 hB
 have hpos : 0 < B * 2 ^ v := Nat.mul_pos (Nat.pos_of_ne_zero hB) (Nat.two_pow_pos v)
 constructor
 ·rw [Nat.le_div_iff_mul_le hpos]
  have h1 : 2 ^ 62 * (B * 2 ^ v) ≤ 2 ^ 62 * (2 ^ lb * 2 ^ v) := Nat.mul_le_mul_left _ (Nat.mul_le_mul_right _ (Nat.le_of_lt b3))
  have h2 : 2 ^ 62 * (2 ^ lb * 2 ^ v) = 2 ^ (la - 1) * 2 ^ u := by
   rw [← Nat.pow_add,← Nat.pow_add,← Nat.pow_add]
   congr 1
   omega
  have h3 : 2 ^ (la - 1) * 2 ^ u ≤ A * 2 ^ u := Nat.mul_le_mul_right _ a2
  omega
 ·have h1 : A * 2 ^ u < 2 ^ la * 2 ^ u := Nat.mul_lt_mul_of_pos_right a3 (Nat.two_pow_pos u)
  have h2 : 2 ^ la * 2 ^ u = 2 ^ (lb - 1) * 2 ^ v * 2 ^ 64 := by
   rw [← Nat.pow_add,← Nat.pow_add,← Nat.pow_add]
   congr 1
   omega
  have h3 : 2 ^ (lb - 1) * 2 ^ v * 2 ^ 64 ≤ B * 2 ^ v * 2 ^ 64 := Nat.mul_le_mul_right _ (Nat.mul_le_mul_right _ b2)
  omega
theorem zWJ (e : Int) (u v n j : Nat) (hj : (j : Int) = e + n + 1074) (he : e = (v : Int) - u) : K * (2 ^ v * 2 ^ n) = 2 ^ (j + 1) * 2 ^ u := by
 obtain ⟨E,hE,hKE⟩ := K_exp
 rw [hKE,← Nat.pow_add,← Nat.pow_add,← Nat.pow_add,show E + (v + n) = j + 1 + u by omega]
theorem up_len {x m u : Nat} (h : x < 2 ^ m) : (toB (x * 2 ^ u)).length ≤ (m + u) / 32 + 1 := by
 refine zZa ?_
 rw [Nat.pow_add]
 exact Nat.mul_lt_mul_of_pos_right h (Nat.two_pow_pos u)
theorem quot_ev (A B m : Nat) (hA : A ≠ 0) (hB : B ≠ 0) (hm : m ≤ 6000) (hAm : A < 2 ^ m) (hBm : B < 2 ^ m) :
  ∃ v,zXD A B v ∧ Ev (fun k => dec_nearest.j2 k (toB A) (toB B)) ((min v INF : Nat) : Int) := by
 have lA := zZa hAm
 have lB := zZa hBm
 obtain ⟨la,hla,hla2,hla3⟩ := len_ev A (by omega)
 obtain ⟨lb,hlb,hlb2,hlb3⟩ := len_ev B (by omega)
 have hla' : la ≤ m := by
  apply Nat.le_of_not_lt
  intro hlt
  have h1 := (hla2.2 hA).2.1
  have : 2 ^ m ≤ 2 ^ (la - 1) := Nat.pow_le_pow_right (by decide) (by omega)
  omega
 have hlb' : lb ≤ m := by
  apply Nat.le_of_not_lt
  intro hlt
  have h1 := (hlb2.2 hB).2.1
  have : 2 ^ m ≤ 2 ^ (lb - 1) := Nat.pow_le_pow_right (by decide) (by omega)
  omega
 obtain ⟨u,v,hu0,huv,hupv⟩ : ∃ u v : Nat,(u = 0 ∨ v = 0) ∧ la + u = 63 + lb + v ∧ (63 - ((la : Int) - lb)) = (u : Int) - v := by
  by_cases h : la ≤ 63 + lb
  ·exact ⟨63 + lb - la,0,.inr rfl,by omega,by omega⟩
  ·exact ⟨0,la - 63 - lb,.inl rfl,by omega,by omega⟩
 obtain ⟨q1,q2⟩ := zWA hA hB hla2 hlb2 huv
 have hpos : 0 < B * 2 ^ v := Nat.mul_pos (Nat.pos_of_ne_zero hB) (Nat.two_pow_pos v)
 have hq3 : A * 2 ^ u / (B * 2 ^ v) < 2 ^ 64 := by
  rw [Nat.div_lt_iff_lt_mul hpos,Nat.mul_comm (2 ^ 64)]
  exact q2
 obtain ⟨w,hw,hwe⟩ := word_ev (A := A) (B := B) (P := 2 ^ u) (M := 2 ^ v) (Q := A * 2 ^ u / (B * 2 ^ v)) (R := A * 2 ^ u % (B * 2 ^ v)) (e := (v : Int) - u) (Nat.pos_of_ne_zero hB) (Nat.two_pow_pos u) (Nat.two_pow_pos v)
  (by rw [Nat.mul_comm (A * 2 ^ u / (B * 2 ^ v))];exact (Nat.div_add_mod ..).symm) (Nat.mod_lt _ hpos) q1 hq3 (by omega) (by omega) (fun n j hj => zWJ _ u v n j hj rfl)
 refine ⟨w,hw,?_⟩
 have lA2 : (toB (A * 2 ^ u)).length ≤ 1000000 := by have := up_len (u := u) hAm;omega
 have lB2 : (toB (B * 2 ^ v)).length ≤ 500000 := by have := up_len (u := v) hBm;omega
 have hby := by_ev (A * 2 ^ u) (B * 2 ^ v) (by omega) lB2 lA2 q2
 have hj3 : Ev (fun k => dec_nearest.j3 k (toB (A * 2 ^ u)) (toB (B * 2 ^ v)) ((u : Int) - v)) ((min w INF : Nat) : Int) := by
  have hwr : wrap64 (-((u : Int) - v)) = (v : Int) - u := by rw [wrapB _ (by omega) (by omega)];omega
  refine Ev.step (fun k => ?_) (Ev.bind hby (f := fun k bt => if bt.2 = true then ((flo_Make.f k false ((v : Int) - u) (Go.bits .or .u64 bt.1 1) false).bind fun t => some t) else ((flo_Make.f k false ((v : Int) - u) bt.1 false).bind fun t => some t)) ?_)
  ·rw [dec_nearest.j3,hwr]
  ·by_cases hR : A * 2 ^ u % (B * 2 ^ v) ≠ 0
   ·have hor : Go.bits .or .u64 ((A * 2 ^ u / (B * 2 ^ v) : Nat) : Int) 1 = ((stick (A * 2 ^ u / (B * 2 ^ v)) (A * 2 ^ u % (B * 2 ^ v)) : Nat) : Int) := by
     unfold stick
     rw [if_pos (Nat.pos_of_ne_zero hR)]
     exact zYz _ 1 hq3 (by decide)
    refine Ev.congr (fun k => ?_) (Ev.bind hwe (Ev.now _))
    simp only [decide_eq_true hR,if_true]
    rw [hor]
   ·have hor : ((A * 2 ^ u / (B * 2 ^ v) : Nat) : Int) = ((stick (A * 2 ^ u / (B * 2 ^ v)) (A * 2 ^ u % (B * 2 ^ v)) : Nat) : Int) := by
     unfold stick
     rw [if_neg (by omega)]
    refine Ev.congr (fun k => ?_) (Ev.bind hwe (Ev.now _))
    simp only [decide_eq_false hR]
    rw [hor]
    rfl
 have hup : wrap64 (63 - wrap64 ((la : Int) - (lb : Int))) = (u : Int) - v := by rw [wrapB ((la : Int) - lb) (by omega) (by omega),wrapB _ (by omega) (by omega)];exact hupv
 by_cases hvu : (u : Int) - v ≥ 0
 ·have hv0 : v = 0 := by omega
  subst hv0
  have huu := up_ev A u (.inl hA) (by omega)
  rw [Nat.pow_zero,Nat.mul_one] at hj3
  refine Ev.step (fun k => ?_) (Ev.bind huu (f := fun k t => dec_nearest.j3 k t (toB B) ((u : Int) - (0 : Nat))) hj3)
  rw [dec_nearest.j2,hla,Option.bind_some,hlb,Option.bind_some,hup,if_pos hvu,show ((u : Int) - (0 : Nat)) = (u : Int) by omega]
 ·have hu00 : u = 0 := by omega
  subst hu00
  have huu := up_ev B v (.inl hB) (by omega)
  rw [Nat.pow_zero,Nat.mul_one] at hj3
  refine Ev.step (fun k => ?_) (Ev.bind huu (f := fun k t => dec_nearest.j3 k (toB A) t (((0 : Nat) : Int) - v)) hj3)
  rw [dec_nearest.j2,hla,Option.bind_some,hlb,Option.bind_some,hup,if_neg hvu,wrapB _ (by omega) (by omega),show (-(((0 : Nat) : Int) - (v : Int))) = (v : Int) by omega]
theorem far_ev : Ev (fun k => flo_Make.f k false 9999 1 false) ((INF : Nat) : Int) := Ev.of (k := 8) (fun k => flo_Make.mono _ _ _ _ _) (by kernel_rfl)
theorem after_ev (D m : Nat) (e : Int) (hm : m ≤ 1700) (hD : D < 2 ^ m) (he : -100000 ≤ e) (he2 : e ≤ 100000) (s : ByteArray) : ∃ w,zZx D e w ∧ Ev (fun k => if ((toB D).length : Int) = 0 then dec_nearest.j1 k (toB D) true s e else dec_nearest.j1 k (toB D) (decide (e < (-1000))) s e) ((w : Nat) : Int) := by
 unfold zZx
 by_cases h1 : D = 0 ∨ e < -1000
 ·refine ⟨0,by rw [if_pos h1],?_⟩
  have hz : Ev (fun k => dec_nearest.j1 k (toB D) true s e) ((0 : Nat) : Int) := Ev.step (f := fun _ => some 0) (fun k => by rw [dec_nearest.j1,if_pos rfl]) (Ev.now _)
  by_cases h0 : ((toB D).length : Int) = 0
  ·simp only [if_pos h0];exact hz
  ·have hD0 : D ≠ 0 := by intro h;rw [h,zXu] at h0;exact h0 rfl
   have he3 : e < -1000 := h1.resolve_left hD0
   simp only [if_neg h0,decide_eq_true he3]
   exact hz
 ·have hD0 : D ≠ 0 := fun h => h1 (.inl h)
  have he3 : ¬ e < -1000 := fun h => h1 (.inr h)
  have hlen : ¬ ((toB D).length : Int) = 0 := by rw [zYt hD0,List.length_cons];omega
  by_cases h2 : 400 < e
  ·refine ⟨INF,by rw [if_neg h1,if_pos h2],?_⟩
   simp only [if_neg hlen,decide_eq_false he3]
   refine Ev.step (fun k => ?_) (Ev.bind far_ev (Ev.now _))
   rw [dec_nearest.j1,if_neg (by decide),if_pos h2]
  ·have hone : toB 1 = [1] := by rw [zYt (by decide)];show (1 : Int) :: toB 0 = [1];rw [zXu]
   by_cases h3 : e ≥ 0
   ·obtain ⟨n,rfl⟩ := Int.eq_ofNat_of_zero_le h3
    have hb : D * 10 ^ n < 2 ^ (m + (4 * n + 1)) := by
     rw [Nat.pow_add]
     exact Nat.mul_lt_mul'' hD (zYS n)
    have ht := tens_ev D n (m + (4 * n + 1)) (by omega) (by omega) hb
    obtain ⟨v,hv,hve⟩ := quot_ev (D * 10 ^ n) 1 (m + (4 * n + 1)) (Nat.mul_ne_zero hD0 (Nat.ne_of_gt (Nat.pow_pos (by decide)))) (by decide) (by omega) hb (Nat.one_lt_two_pow (by omega))
    refine ⟨min v INF,?_,?_⟩
    ·rw [if_neg h1,if_neg h2]
     refine ⟨v,?_,rfl⟩
     unfold upN loN
     rw [show (-(n : Int)).toNat = 0 by omega,Nat.pow_zero,Int.toNat_natCast]
     exact hv
    ·simp only [if_neg hlen,decide_eq_false he3]
     rw [hone] at hve
     refine Ev.step (fun k => ?_) (Ev.bind ht (f := fun k t => dec_nearest.j2 k t [1]) hve)
     rw [dec_nearest.j1,if_neg (by decide),if_neg h2,Option.bind_some,if_pos h3]
   ·obtain ⟨n,hn⟩ := Int.eq_ofNat_of_zero_le (show 0 ≤ -e by omega)
    have hb : 1 * 10 ^ n < 2 ^ (4 * n + 1) := by rw [Nat.one_mul];exact zYS n
    have ht := tens_ev 1 n (4 * n + 1) (by omega) (by omega) hb
    rw [Nat.one_mul] at ht hb
    have hDm : D < 2 ^ (m + (4 * n + 1)) := Nat.lt_of_lt_of_le hD (Nat.pow_le_pow_right (by decide) (by omega))
    have hBm : 10 ^ n < 2 ^ (m + (4 * n + 1)) := Nat.lt_of_lt_of_le hb (Nat.pow_le_pow_right (by decide) (by omega))
    obtain ⟨v,hv,hve⟩ := quot_ev D (10 ^ n) (m + (4 * n + 1)) hD0 (Nat.ne_of_gt (Nat.pow_pos (by decide))) (by omega) hDm hBm
    refine ⟨min v INF,?_,?_⟩
    ·rw [if_neg h1,if_neg h2]
     refine ⟨v,?_,rfl⟩
     unfold upN loN
     rw [show e.toNat = 0 by omega,show (-e).toNat = n by omega,Nat.pow_zero,Nat.mul_one]
     exact hv
    ·simp only [if_neg hlen,decide_eq_false he3]
     rw [hone] at ht
     refine Ev.step (fun k => ?_) (Ev.bind ht (f := fun k t => dec_nearest.j2 k (toB D) t) hve)
     rw [dec_nearest.j1,if_neg (by decide),if_neg h2,Option.bind_some,if_neg h3,wrapB _ (by omega) (by omega),hn]
def dval (s : ByteArray) : Nat → Nat
 | 0 => 0
 | i + 1 => dval s i * 10 + (bt s (i : Int) - 48).toNat
def zXI (s : ByteArray) : Prop := ∀ i : Nat,i < s.size → 48 ≤ bt s (i : Int) ∧ bt s (i : Int) ≤ 57
theorem zZV (s : ByteArray) (h : zXI s) : ∀ i,i ≤ s.size → dval s i < 10 ^ i
 | 0,_ => by simp [dval]
 | i + 1,hi => by
  have ih := zZV s h i (by omega)
  have := h i (by omega)
  rw [dval,Nat.pow_succ]
  omega
theorem zZW (s : ByteArray) (e : Int) (hs : zXI s) (hsz : s.size ≤ 400) (w : Int) (hend : Ev (fun k => if ((toB (dval s s.size)).length : Int) = 0 then dec_nearest.j1 k (toB (dval s s.size)) true s e else dec_nearest.j1 k (toB (dval s s.size)) (decide (e < (-1000))) s e) w) : ∀ d i : Nat,i + d = s.size →
  Ev (fun k => dec_nearest.l0 k (toB (dval s i)) (s.size : Int) (i : Int) s e) w
 | 0,i,hi => by
  obtain rfl : i = s.size := by omega
  refine Ev.step (fun k => ?_) hend
  rw [dec_nearest.l0,if_neg (by omega)]
 | d + 1,i,hi => by
  have ih := zZW s e hs hsz w hend d (i + 1) (by omega)
  have hb := hs i (by omega)
  have hl : (toB (dval s i)).length ≤ 1048576 := by
   have := zZa (Nat.lt_trans (zZV s hs i (by omega)) (zYS i))
   omega
  have ht := zZz (dval s i) 10 (bt s (i : Int) - 48).toNat (by decide) (by omega) hl
  have hbt : (bt s (i : Int) - 48) % 256 = (((bt s (i : Int) - 48).toNat : Nat) : Int) := by omega
  refine Ev.step (fun k => ?_) (Ev.bind ht (f := fun k t => dec_nearest.l0 k t (s.size : Int) ((i + 1 : Nat) : Int) s e) ih)
  rw [dec_nearest.l0,if_pos (by omega),if_pos (by omega),if_pos (by omega),hbt,wrapB _ (by omega) (by omega)]
  rfl
theorem nearest_ev (s : ByteArray) (e : Int) (hs : zXI s) (hsz : s.size ≤ 400) (he : -100000 ≤ e) (he2 : e ≤ 100000) : ∃ w,zZx (dval s s.size) e w ∧ Ev (fun k => dec_nearest.f k s e) ((w : Nat) : Int) := by
 have hbig : dval s s.size < 2 ^ (4 * s.size + 1) := Nat.lt_trans (zZV s hs s.size (Nat.le_refl _)) (zYS s.size)
 obtain ⟨w,hw,hwe⟩ := after_ev (dval s s.size) (4 * s.size + 1) e (by omega) hbig he he2 s
 refine ⟨w,hw,?_⟩
 have h := zZW s e hs hsz _ hwe s.size 0 (by omega)
 refine Ev.congr (fun k => ?_) h
 unfold dec_nearest.f dval
 rw [zXu]
 rfl
abbrev bytes (s : ByteArray) : List UInt8 := s.data.toList
theorem zQY (s : ByteArray) : (bytes s).length = s.size := Array.length_toList
theorem ba_ext {a b : ByteArray} (h : bytes a = bytes b) : a = b := by
 cases a;cases b
 congr 1
 exact Array.toList_inj.1 h
theorem zYE (s : ByteArray) : s.toList = bytes s := Go.ByteArray.toList_eq s
theorem zXv (s : ByteArray) (a b : Nat) : bytes (s.extract a b) = ((bytes s).take b).drop a := by
 unfold bytes
 rw [ByteArray.data_extract,Array.toList_extract,List.extract_eq_take_drop,List.drop_take]
theorem bytes_append (a b : ByteArray) : bytes (a ++ b) = bytes a ++ bytes b := by
 unfold bytes
 rw [ByteArray.data_append,Array.toList_append]
theorem zZw (s : ByteArray) (k : Nat) : bt s (k : Int) = (((bytes s)[k]?).map fun b => (b.toNat : Int)).getD 0 := by
 unfold bt
 rw [Int.toNat_natCast]
 by_cases h : k < s.size
 ·rw [dif_pos h]
  unfold bytes
  rw [List.getElem?_eq_getElem (by rw [zQY];exact h)]
  rfl
 ·rw [dif_neg h,List.getElem?_eq_none (by rw [zQY];omega)]
  rfl
theorem bt_app (a b : ByteArray) (k : Nat) : bt (a ++ b) (k : Int) = if k < a.size then bt a (k : Int) else bt b ((k - a.size : Nat) : Int) := by
 rw [zZw,bytes_append]
 by_cases h : k < a.size
 ·rw [if_pos h,List.getElem?_append_left (by rw [zQY];exact h),zZw]
 ·rw [if_neg h,List.getElem?_append_right (by rw [zQY];omega),zQY,zZw]
def suf (s : ByteArray) (a : Nat) : ByteArray := s.extract a s.size
theorem zXZ (s : ByteArray) (a : Nat) : (suf s a).size = s.size - a := by
 have := zQY (suf s a)
 unfold suf at this ⊢
 rw [zXv,List.length_drop,List.length_take,zQY,Nat.min_self] at this
 exact this.symm
theorem zYi (s : ByteArray) (a : Nat) : bytes (suf s a) = (bytes s).drop a := by
 unfold suf
 rw [zXv,List.take_of_length_le (by rw [zQY];exact Nat.le_refl _)]
theorem suf_suf (s : ByteArray) (a b : Nat) : (suf s a).extract b (suf s a).size = suf s (a + b) := by
 refine ba_ext ?_
 rw [show (suf s a).extract b (suf s a).size = suf (suf s a) b from rfl,zYi,zYi,zYi,List.drop_drop]
theorem suf_zero (s : ByteArray) : suf s 0 = s := ba_ext (by rw [zYi,List.drop_zero])
theorem suf_mid (s : ByteArray) (a b c : Nat) : (suf s a).extract b c = s.extract (a + b) (a + c) := by
 refine ba_ext ?_
 rw [zXv,zYi,zXv,List.take_drop,List.drop_drop]
theorem bt_suf (s : ByteArray) (a i : Nat) : bt (suf s a) (i : Int) = bt s ((a + i : Nat) : Int) := by
 rw [zZw,zYi,List.getElem?_drop,zZw]
theorem ext_size (s : ByteArray) (a b : Nat) (h : b ≤ s.size) : (s.extract a b).size = b - a := by
 have := zQY (s.extract a b)
 rw [zXv,List.length_drop,List.length_take,zQY,Nat.min_eq_left h] at this
 exact this.symm
theorem bt_ext (s : ByteArray) (a b i : Nat) (h : a + i < b) : bt (s.extract a b) (i : Int) = bt s ((a + i : Nat) : Int) := by
 rw [zZw,zXv,List.getElem?_drop,List.getElem?_take_of_lt h,zZw]
theorem zYn (s : ByteArray) : s.toList = ([] : List UInt8) ↔ s.size = 0 := by
 rw [zYE]
 constructor
 ·intro h;rw [← zQY,h];rfl
 ·intro h;exact List.eq_nil_of_length_eq_zero (by rw [zQY];exact h)
def Dg (s : ByteArray) (i : Nat) : Prop := i < s.size ∧ 48 ≤ bt s (i : Int) ∧ bt s (i : Int) ≤ 57
instance (s : ByteArray) (i : Nat) : Decidable (Dg s i) := by unfold Dg;exact inferInstance
def DE (s : ByteArray) (i j : Nat) : Prop := i ≤ j ∧ j ≤ s.size ∧ (∀ t,i ≤ t → t < j → Dg s t) ∧ ¬ Dg s j
theorem zKQ (s : ByteArray) : ∀ (n i : Nat),i + n = s.size → ∃ j,DE s i j
 | 0,i,h => ⟨i,Nat.le_refl _,by omega,fun t h1 h2 => by omega,fun g => by have := g.1;omega⟩
 | n + 1,i,h => by
  by_cases g : Dg s i
  ·obtain ⟨j,h1,h2,h3,h4⟩ := zKQ s n (i + 1) (by omega)
   refine ⟨j,by omega,h2,fun t t1 t2 => ?_,h4⟩
   by_cases e : t = i
   ·rw [e];exact g
   ·exact h3 t (by omega) t2
  ·exact ⟨i,Nat.le_refl _,by omega,fun t h1 h2 => by omega,g⟩
theorem zZv (s : ByteArray) (a j : Nat) (hsz : s.size ≤ 1000000) (h : DE s a j) : ∀ d i : Nat,a ≤ i → i + d = j → Ev (fun k => dec_digits.l0 k (suf s a) ((suf s a).size : Int) ((i - a : Nat) : Int)) ((j - a : Nat) : Int)
 | 0,i,ha,hi => by
  obtain rfl : i = j := by omega
  have hs := zXZ s a
  have h2 := h.2.1
  by_cases he : i = s.size
  ·refine Ev.step (f := fun _ => some ((i - a : Nat) : Int)) (fun k => ?_) (Ev.now _)
   rw [dec_digits.l0,if_neg (by omega),hs,he]
  ·have hnd : ¬ (48 ≤ bt s (i : Int) ∧ bt s (i : Int) ≤ 57) := fun g => h.2.2.2 ⟨by omega,g⟩
   refine Ev.step (f := fun _ => some ((i - a : Nat) : Int)) (fun k => ?_) (Ev.now _)
   rw [dec_digits.l0,if_pos (by omega),if_pos (by omega),if_pos (by omega),bt_suf,show a + (i - a) = i by omega]
   by_cases c : bt s (i : Int) < 48
   ·rw [if_pos c]
   ·rw [if_neg c,if_pos (by omega)]
 | d + 1,i,ha,hi => by
  have ih := zZv s a j hsz h d (i + 1) (by omega) (by omega)
  have hg := h.2.2.1 i ha (by omega)
  have hs := zXZ s a
  have h2 := h.2.1
  have h3 := hg.1
  refine Ev.step (fun k => ?_) ih
  rw [dec_digits.l0,if_pos (by omega),if_pos (by omega),if_pos (by omega),bt_suf,show a + (i - a) = i by omega,if_neg (by have := hg.2.1;omega),if_neg (by have := hg.2.2;omega),wrapB _ (by omega) (by omega),show (((i - a : Nat) : Int) + 1) = ((i + 1 - a : Nat) : Int) by omega]
theorem zWB (s : ByteArray) (a j : Nat) (hsz : s.size ≤ 1000000) (h : DE s a j) : Ev (fun k => dec_digits.f k (suf s a)) ((j - a : Nat) : Int) := by
 have g := zZv s a j hsz h (j - a) a (Nat.le_refl _) (by have := h.1;omega)
 rw [Nat.sub_self] at g
 exact g
def efold (s : ByteArray) : Nat → Nat → Nat → Nat
 | 0,a,e => e
 | n + 1,a,e => efold s n (a + 1) (min (10 * e + (bt s (a : Int) - 48).toNat) 9999)
theorem zKI (s : ByteArray) : ∀ n a e,e ≤ 9999 → efold s n a e ≤ 9999
 | 0,a,e,h => h
 | n + 1,a,e,h => zKI s n (a + 1) _ (Nat.min_le_right ..)
def efrom (s : ByteArray) (a : Nat) : Nat := efold s (s.size - a) a 0
theorem exp_loop (s : ByteArray) (a : Nat) (hsz : s.size ≤ 1000000) (x8 x : Int) (d : ByteArray) (h8 : x8 = 1 ∨ x8 = -1) (hx : -1000000 ≤ x ∧ x ≤ 1000000) (hd : ∀ t,a ≤ t → t < s.size → Dg s t) : ∀ n i e : Nat,a ≤ i → i + n = s.size → e ≤ 9999 →
  Ev (fun k => dec_cut.l0 k (suf s a) x8 (e : Int) ((suf s a).size : Int) ((i - a : Nat) : Int) d x) (d,x + x8 * (efold s n i e : Nat),true)
 | 0,i,e,ha,hi,he => by
  have hs := zXZ s a
  have hw : wrap64 (x + wrap64 (x8 * (e : Int))) = x + x8 * (efold s 0 i e : Nat) := by
   show _ = x + x8 * (e : Int)
   rcases h8 with h | h
   ·rw [h,wrapB (1 * (e : Int)) (by omega) (by omega),wrapB _ (by omega) (by omega)]
   ·rw [h,wrapB (-1 * (e : Int)) (by omega) (by omega),wrapB _ (by omega) (by omega)]
  refine Ev.step (f := fun _ => some (d,x + x8 * (efold s 0 i e : Nat),true)) (fun k => ?_) (Ev.now _)
  rw [dec_cut.l0,if_neg (by omega),hw]
 | n + 1,i,e,ha,hi,he => by
  have hs := zXZ s a
  have hg := hd i ha (by omega)
  have g1 := hg.2.1
  have g2 := hg.2.2
  have ih := exp_loop s a hsz x8 x d h8 hx hd n (i + 1) (min (10 * e + (bt s (i : Int) - 48).toNat) 9999) (by omega) (by omega) (Nat.min_le_right ..)
  refine Ev.step (fun k => ?_) ih
  have hb : (bt s (i : Int) - 48) % 256 = bt s (i : Int) - 48 := by omega
  have hm : mn (wrap64 ((wrap64 (10 * (e : Int))) + (bt s (i : Int) - 48))) 9999 = ((min (10 * e + (bt s (i : Int) - 48).toNat) 9999 : Nat) : Int) := by
   rw [wrapB (10 * (e : Int)) (by omega) (by omega),wrapB _ (by omega) (by omega)]
   unfold mn
   omega
  rw [dec_cut.l0,if_pos (by omega),if_pos (by omega),if_pos (by omega),bt_suf,show a + (i - a) = i by omega,hb,hm,wrapB _ (by omega) (by omega),show (((i - a : Nat) : Int) + 1) = ((i + 1 - a : Nat) : Int) by omega]
theorem exp_ev (s : ByteArray) (a j : Nat) (hsz : s.size ≤ 1000000) (ha : a ≤ s.size) (x8 x : Int) (d : ByteArray) (h8 : x8 = 1 ∨ x8 = -1) (hx : -1000000 ≤ x ∧ x ≤ 1000000) (h : DE s a j) :
  Ev (fun k => dec_cut.j3 k (suf s a) x8 d x) (if a = s.size ∨ j ≠ s.size then (d,x,false) else (d,x + x8 * (efrom s a : Nat),true)) := by
 have hs := zXZ s a
 by_cases h0 : a = s.size
 ·rw [if_pos (.inl h0)]
  refine Ev.step (fun k => ?_) (Ev.step (f := fun _ => some (d,x,false)) (g := fun k => dec_cut.j4 k (suf s a) x8 true d x) (fun k => ?_) (Ev.now _))
  ·rw [dec_cut.j3,if_pos ((zYn _).2 (by omega))]
  ·rw [dec_cut.j4,if_pos rfl]
 ·have hdg := zWB s a j hsz h
  have h1 := h.1
  have h2 := h.2.1
  by_cases hj : j = s.size
  ·rw [if_neg (by omega)]
   have hl := exp_loop s a hsz x8 x d h8 hx (fun t t1 t2 => h.2.2.1 t t1 (by omega)) (s.size - a) a 0 (Nat.le_refl _) (by omega) (by omega)
   rw [Nat.sub_self] at hl
   have h4 : Ev (fun k => dec_cut.j4 k (suf s a) x8 (((j - a : Nat) : Int) != ((suf s a).size : Int)) d x) (d,x + x8 * (efrom s a : Nat),true) := by
    refine Ev.step (fun k => ?_) hl
    rw [dec_cut.j4,if_neg (by rw [hs,hj];simp)]
    rfl
   refine Ev.step (fun k => ?_) (Ev.bind hdg (f := fun k t => dec_cut.j4 k (suf s a) x8 (t != ((suf s a).size : Int)) d x) h4)
   rw [dec_cut.j3,if_neg (fun c => by have := (zYn _).1 c;omega)]
  ·rw [if_pos (.inr hj)]
   have h4 : Ev (fun k => dec_cut.j4 k (suf s a) x8 (((j - a : Nat) : Int) != ((suf s a).size : Int)) d x) (d,x,false) := by
    refine Ev.step (f := fun _ => some (d,x,false)) (fun k => ?_) (Ev.now _)
    rw [dec_cut.j4,if_pos (by rw [hs];exact bne_iff_ne.2 (by omega))]
   refine Ev.step (fun k => ?_) (Ev.bind hdg (f := fun k t => dec_cut.j4 k (suf s a) x8 (t != ((suf s a).size : Int)) d x) h4)
   rw [dec_cut.j3,if_neg (fun c => by have := (zYn _).1 c;omega)]
theorem zYM (s : ByteArray) (a : Nat) : (suf s a).extract 1 (suf s a).size = suf s (a + 1) := suf_suf s a 1
theorem zYO (s : ByteArray) (a : Nat) : bt (suf s a) 0 = bt s (a : Int) := bt_suf s a 0
theorem zZf (s : ByteArray) (a : Nat) (hsz : s.size ≤ 1000000) (ha : a ≤ s.size) (x : Int) (d : ByteArray) (r : ByteArray × Int × Bool)
  (h0 : a = s.size → r = (d,x,true))
  (h1 : a < s.size → bt s (a : Int) ≠ 101 → bt s (a : Int) ≠ 69 → r = (d,x,false))
  (h2 : a < s.size → (bt s (a : Int) = 101 ∨ bt s (a : Int) = 69) → a + 1 < s.size → bt s ((a + 1 : Nat) : Int) = 45 → Ev (fun k => dec_cut.j3 k (suf s (a + 2)) (-1) d x) r)
  (h3 : a < s.size → (bt s (a : Int) = 101 ∨ bt s (a : Int) = 69) → a + 1 < s.size → bt s ((a + 1 : Nat) : Int) = 43 → Ev (fun k => dec_cut.j3 k (suf s (a + 2)) 1 d x) r)
  (h4 : a < s.size → (bt s (a : Int) = 101 ∨ bt s (a : Int) = 69) → (a + 1 = s.size ∨ (bt s ((a + 1 : Nat) : Int) ≠ 43 ∧ bt s ((a + 1 : Nat) : Int) ≠ 45)) → Ev (fun k => dec_cut.j3 k (suf s (a + 1)) 1 d x) r) :
  Ev (fun k => dec_cut.j0 k (suf s a) d x) r := by
 have hs := zXZ s a
 have hs1 := zXZ s (a + 1)
 by_cases c0 : a = s.size
 ·rw [h0 c0]
  refine Ev.step (f := fun _ => some (d,x,true)) (fun k => ?_) (Ev.now _)
  rw [dec_cut.j0,if_pos ((zYn _).2 (by omega))]
 ·have hlt : a < s.size := by omega
  by_cases ce : bt s (a : Int) = 101 ∨ bt s (a : Int) = 69
  ·
   have hj1 : Ev (fun k => dec_cut.j1 k (suf s a) false d x) r := by
    by_cases c1 : a + 1 = s.size
    ·have g := h4 hlt ce (.inl c1)
     refine Ev.step (fun k => ?_) (Ev.step (g := fun k => dec_cut.j2 k (suf s (a + 1)) 1 false d x) (fun k => ?_) g)
     ·rw [dec_cut.j1,if_neg (by decide),if_pos (by omega),zYM,if_pos ((zYn _).2 (by omega))]
     ·rw [dec_cut.j2,if_neg (by decide)]
    ·have hlt1 : a + 1 < s.size := by omega
     by_cases c2 : bt s ((a + 1 : Nat) : Int) = 43
     ·have g := h3 hlt ce hlt1 c2
      refine Ev.step (fun k => ?_) (Ev.step (g := fun k => dec_cut.j2 k (suf s (a + 1)) 1 true d x) (fun k => ?_) g)
      ·rw [dec_cut.j1,if_neg (by decide),if_pos (by omega),zYM,if_neg (fun c => by have := (zYn _).1 c;omega),if_pos (by omega),zYO,if_pos c2]
      ·rw [dec_cut.j2,if_pos rfl,if_pos (by omega),zYO,if_neg (by rw [c2];decide),if_pos (by omega),zYM]
     ·by_cases c3 : bt s ((a + 1 : Nat) : Int) = 45
      ·have g := h2 hlt ce hlt1 c3
       refine Ev.step (fun k => ?_) (Ev.step (g := fun k => dec_cut.j2 k (suf s (a + 1)) 1 true d x) (fun k => ?_) g)
       ·rw [dec_cut.j1,if_neg (by decide),if_pos (by omega),zYM,if_neg (fun c => by have := (zYn _).1 c;omega),if_pos (by omega),zYO,if_neg c2,c3]
        rfl
       ·rw [dec_cut.j2,if_pos rfl,if_pos (by omega),zYO,if_pos c3,if_pos (by omega),zYM]
      ·have g := h4 hlt ce (.inr ⟨c2,c3⟩)
       refine Ev.step (fun k => ?_) (Ev.step (g := fun k => dec_cut.j2 k (suf s (a + 1)) 1 false d x) (fun k => ?_) g)
       ·rw [dec_cut.j1,if_neg (by decide),if_pos (by omega),zYM,if_neg (fun c => by have := (zYn _).1 c;omega),if_pos (by omega),zYO,if_neg c2,beq_eq_false_iff_ne.2 c3]
       ·rw [dec_cut.j2,if_neg (by decide)]
   refine Ev.step (fun k => ?_) hj1
   rw [dec_cut.j0,if_neg (fun c => by have := (zYn _).1 c;omega),if_pos (by omega),zYO]
   rcases ce with c | c
   ·rw [if_pos c]
   ·rw [if_neg (by rw [c];decide),c]
    rfl
  ·have c1 : bt s (a : Int) ≠ 101 := fun c => ce (.inl c)
   have c2 : bt s (a : Int) ≠ 69 := fun c => ce (.inr c)
   rw [h1 hlt c1 c2]
   refine Ev.step (fun k => ?_) (Ev.step (f := fun _ => some (d,x,false)) (g := fun k => dec_cut.j1 k (suf s a) true d x) (fun k => ?_) (Ev.now _))
   ·rw [dec_cut.j0,if_neg (fun c => by have := (zYn _).1 c;omega),if_pos (by omega),zYO,if_neg c1,bne_iff_ne.2 c2]
   ·rw [dec_cut.j1,if_pos rfl]
theorem dot_prefix (s : ByteArray) (a : Nat) : strings_HasPrefix.f (suf s a) (⟨#[46]⟩ : ByteArray) = some (decide (a < s.size ∧ bt s (a : Int) = 46)) := by
 have hs := zXZ s a
 unfold strings_HasPrefix.f stringslite_HasPrefix.f
 rw [show (((⟨#[46]⟩ : ByteArray).size : Nat) : Int) = 1 from rfl]
 by_cases h : a < s.size
 ·rw [if_pos (by omega),if_pos (by omega),if_pos (by omega),Option.bind_some,zYE,zYE,show ((1 : Int)).toNat = 1 from rfl,zXv,List.drop_zero,zYi]
  obtain ⟨b,l,hb⟩ : ∃ b l,(bytes s).drop a = b :: l := by
   cases hd : (bytes s).drop a with
   | nil => have := congrArg List.length hd;rw [List.length_drop,zQY] at this;simp at this;omega
   | cons b l => exact ⟨b,l,rfl⟩
  have hbt : bt s (a : Int) = (b.toNat : Int) := by
   rw [zZw,show (bytes s)[a]? = some b by
    have := List.getElem?_drop (xs := bytes s) (i := a) (j := 0)
    rw [hb] at this
    simpa using this.symm]
   rfl
  rw [hb,hbt]
  show some (([b] : List UInt8) == [46]) = _
  congr 1
  by_cases e : b = 46
  ·subst e;simp [h]
  ·rw [decide_eq_false (by
    rintro ⟨_,c⟩
    exact e (UInt8.toNat_inj.1 (by show b.toNat = 46;omega)))]
   exact beq_eq_false_iff_ne.2 (fun c => e (by injection c))
 ·rw [if_neg (by omega),Option.bind_some,decide_eq_false (fun c => h c.1)]
theorem cut_ev (s : ByteArray) (n m : Nat) (hsz : s.size ≤ 1000000) (hn : DE s 0 n) (r : ByteArray × Int × Bool)
  (hr0 : n = 0 → r = (s.extract 0 0,0,false))
  (h1 : n ≠ 0 → n < s.size → bt s (n : Int) = 46 → DE s (n + 1) m ∧ (m = n + 1 → r = (s.extract 0 n,0,false)) ∧ (m ≠ n + 1 → Ev (fun k => dec_cut.j0 k (suf s m) (s.extract 0 n ++ s.extract (n + 1) m) (-((m - n - 1 : Nat) : Int))) r))
  (h2 : n ≠ 0 → ¬ (n < s.size ∧ bt s (n : Int) = 46) → Ev (fun k => dec_cut.j0 k (suf s n) (s.extract 0 n) 0) r) :
  Ev (fun k => dec_cut.f k s) r := by
 have hdg := zWB s 0 n hsz hn
 rw [Nat.sub_zero,suf_zero] at hdg
 have hn2 := hn.2.1
 have hbody : Ev (fun k => (if (0 : Int) ≤ (n : Int) then (if (n : Int) ≤ (s.size : Int) then (if (n : Int) = 0 then (some (s.extract 0 ((n : Int) : Int).toNat,(0 : Int),false)) else ((strings_HasPrefix.f (s.extract ((n : Int) : Int).toNat s.size) (⟨#[46]⟩ : ByteArray)).bind fun t366 => (if t366 = true then (if 1 ≤ ((s.extract ((n : Int) : Int).toNat s.size).size : Int) then ((dec_digits.f k ((s.extract ((n : Int) : Int).toNat s.size).extract 1 (s.extract ((n : Int) : Int).toNat s.size).size)).bind fun t367 => (if t367 = 0 then (some (s.extract 0 ((n : Int) : Int).toNat,0,false)) else (if 1 ≤ (wrap64 (1 + t367)) then (if (wrap64 (1 + t367)) ≤ ((s.extract ((n : Int) : Int).toNat s.size).size : Int) then (if (s.extract 0 ((n : Int) : Int).toNat).size + ((s.extract ((n : Int) : Int).toNat s.size).extract 1 ((wrap64 (1 + t367)) : Int).toNat).size ≤ 9223372036854775807 then (if 0 ≤ (wrap64 (1 + t367)) then (dec_cut.j0 k ((s.extract ((n : Int) : Int).toNat s.size).extract ((wrap64 (1 + t367)) : Int).toNat (s.extract ((n : Int) : Int).toNat s.size).size) ((s.extract 0 ((n : Int) : Int).toNat) ++ ((s.extract ((n : Int) : Int).toNat s.size).extract 1 ((wrap64 (1 + t367)) : Int).toNat)) (wrap64 (-t367))) else (none)) else (none)) else (none)) else (none)))) else (none)) else (dec_cut.j0 k (s.extract ((n : Int) : Int).toNat s.size) (s.extract 0 ((n : Int) : Int).toNat) 0)))) else (none)) else (none))) r := by
  simp only [Int.toNat_natCast]
  by_cases c0 : n = 0
  ·rw [hr0 c0]
   subst c0
   refine Ev.congr (fun k => ?_) (Ev.now _)
   rw [if_pos (by omega),if_pos (by omega),if_pos (by rfl)]
  ·have hp := dot_prefix s n
   unfold suf at hp
   by_cases cd : n < s.size ∧ bt s (n : Int) = 46
   ·obtain ⟨hm,g1,g2⟩ := h1 c0 cd.1 cd.2
    have hdg2 := zWB s (n + 1) m hsz hm
    have hm1 := hm.1
    have hm2 := hm.2.1
    have hse := zXZ s n
    have hso := zYM s n
    unfold suf at hse hso hdg2
    rw [decide_eq_true cd] at hp
    by_cases cm : m = n + 1
    ·rw [g1 cm]
     refine Ev.congr (fun k => ?_) (Ev.bind hdg2 (f := fun k t => if t = 0 then some (s.extract 0 n,(0 : Int),false) else none) (Ev.congr (fun k => by rw [if_pos (by omega)]) (Ev.now _)))
     rw [if_pos (by omega),if_pos (by omega),if_neg (by omega),hp,Option.bind_some,if_pos rfl,if_pos (by omega),hso]
     cases hq : dec_digits.f k (s.extract (n + 1) s.size) with
     | none => rfl
     | some t =>
      have ht : t = ((m - (n + 1) : Nat) : Int) := by
       obtain ⟨K,hK⟩ := hdg2
       have hup : ∀ z,dec_digits.f (k + z) (s.extract (n + 1) s.size) = some t := by
        intro z
        induction z with
        | zero => exact hq
        | succ z ih => exact dec_digits.mono _ _ _ ih
       have h5 := hK (k + K) (Nat.le_add_left ..)
       exact Option.some.inj ((hup K).symm.trans h5)
      rw [Option.bind_some,Option.bind_some,if_pos (by omega),if_pos (by omega)]
    ·have g := g2 cm
     have hw : wrap64 (1 + ((m - (n + 1) : Nat) : Int)) = ((m - n : Nat) : Int) := by rw [wrapB _ (by omega) (by omega)];omega
     have hw2 : wrap64 (-((m - (n + 1) : Nat) : Int)) = -((m - n - 1 : Nat) : Int) := by rw [wrapB _ (by omega) (by omega)];omega
     have hmid := suf_mid s n 1 (m - n)
     have hsuf := suf_suf s n (m - n)
     unfold suf at hmid hsuf g
     rw [show n + (m - n) = m by omega] at hmid hsuf
     refine Ev.congr (fun k => ?_) (Ev.bind hdg2 (f := fun k t => if t = 0 then some (s.extract 0 n,(0 : Int),false) else (if 1 ≤ (wrap64 (1 + t)) then (if (wrap64 (1 + t)) ≤ ((s.extract n s.size).size : Int) then (if (s.extract 0 n).size + ((s.extract n s.size).extract 1 ((wrap64 (1 + t)) : Int).toNat).size ≤ 9223372036854775807 then (if 0 ≤ (wrap64 (1 + t)) then (dec_cut.j0 k ((s.extract n s.size).extract ((wrap64 (1 + t)) : Int).toNat (s.extract n s.size).size) ((s.extract 0 n) ++ ((s.extract n s.size).extract 1 ((wrap64 (1 + t)) : Int).toNat)) (wrap64 (-t))) else (none)) else (none)) else (none)) else (none)))
      (Ev.congr (fun k => ?_) g))
     ·rw [if_pos (by omega),if_pos (by omega),if_neg (by omega),hp,Option.bind_some,if_pos rfl,if_pos (by omega),hso]
     ·rw [if_neg (by omega),hw,if_pos (by omega),if_pos (by omega),Int.toNat_natCast,hmid,ext_size s 0 n hn2,ext_size s (n + 1) m hm2,if_pos (by omega),if_pos (by omega),hsuf,hw2]
   ·have g := h2 c0 cd
    rw [decide_eq_false cd] at hp
    unfold suf at g
    refine Ev.congr (fun k => ?_) g
    rw [if_pos (by omega),if_pos (by omega),if_neg (by omega),hp,Option.bind_some,if_neg (by decide)]
 refine Ev.congr (fun k => ?_) (Ev.bind hdg (f := fun k t364 => (if (0 : Int) ≤ t364 then (if t364 ≤ (s.size : Int) then (if t364 = 0 then (some (s.extract 0 (t364 : Int).toNat,(0 : Int),false)) else ((strings_HasPrefix.f (s.extract (t364 : Int).toNat s.size) (⟨#[46]⟩ : ByteArray)).bind fun t366 => (if t366 = true then (if 1 ≤ ((s.extract (t364 : Int).toNat s.size).size : Int) then ((dec_digits.f k ((s.extract (t364 : Int).toNat s.size).extract 1 (s.extract (t364 : Int).toNat s.size).size)).bind fun t367 => (if t367 = 0 then (some (s.extract 0 (t364 : Int).toNat,0,false)) else (if 1 ≤ (wrap64 (1 + t367)) then (if (wrap64 (1 + t367)) ≤ ((s.extract (t364 : Int).toNat s.size).size : Int) then (if (s.extract 0 (t364 : Int).toNat).size + ((s.extract (t364 : Int).toNat s.size).extract 1 ((wrap64 (1 + t367)) : Int).toNat).size ≤ 9223372036854775807 then (if 0 ≤ (wrap64 (1 + t367)) then (dec_cut.j0 k ((s.extract (t364 : Int).toNat s.size).extract ((wrap64 (1 + t367)) : Int).toNat (s.extract (t364 : Int).toNat s.size).size) ((s.extract 0 (t364 : Int).toNat) ++ ((s.extract (t364 : Int).toNat s.size).extract 1 ((wrap64 (1 + t367)) : Int).toNat)) (wrap64 (-t367))) else (none)) else (none)) else (none)) else (none)))) else (none)) else (dec_cut.j0 k (s.extract (t364 : Int).toNat s.size) (s.extract 0 (t364 : Int).toNat) 0)))) else (none)) else (none))) hbody)
 rfl
theorem wrap_one (i : Nat) (h : i ≤ 1000000000) : wrap64 ((i : Int) + 1) = ((i + 1 : Nat) : Int) := by rw [wrapB _ (by omega) (by omega)];omega
theorem zZu (s : ByteArray) (a j : Nat) (hsz : s.size ≤ 1000000) (h : DE s a j) : ∀ d i : Nat,a ≤ i → i + d = j → Ev (fun k => r5_digits.l0 k s (i : Int)) (j : Int)
 | 0,i,ha,hi => by
  obtain rfl : i = j := by omega
  have h2 := h.2.1
  refine Ev.step (f := fun _ => some (i : Int)) (fun k => ?_) (Ev.now _)
  rw [r5_digits.l0]
  by_cases he : i = s.size
  ·rw [if_neg (by omega)]
  ·have hnd : ¬ (48 ≤ bt s (i : Int) ∧ bt s (i : Int) ≤ 57) := fun g => h.2.2.2 ⟨by omega,g⟩
   rw [if_pos (by omega),if_pos (by omega)]
   by_cases c : bt s (i : Int) ≥ 48
   ·rw [if_pos c,if_neg (by omega)]
   ·rw [if_neg c]
 | d + 1,i,ha,hi => by
  have ih := zZu s a j hsz h d (i + 1) (by omega) (by omega)
  have hg := h.2.2.1 i ha (by omega)
  have h3 := hg.1
  have g1 := hg.2.1
  have g2 := hg.2.2
  refine Ev.step (fun k => ?_) ih
  rw [r5_digits.l0,if_pos (by omega),if_pos (by omega),if_pos g1,if_pos g2,wrap_one i (by omega)]
theorem zWy (s : ByteArray) (a j : Nat) (hsz : s.size ≤ 1000000) (h : DE s a j) : Ev (fun k => r5_digits.f k s (a : Int)) (j : Int) :=
 zZu s a j hsz h (j - a) a (Nat.le_refl _) (by have := h.1;omega)
theorem zZG (s : ByteArray) (a : Nat) (hsz : s.size ≤ 1000000) (neg : Bool) (x : Int) (d : ByteArray) (hx : -1000000 ≤ x ∧ x ≤ 1000000) (hd : ∀ t,a ≤ t → t < s.size → Dg s t) : ∀ n i r e : Nat,a ≤ i → i + n = s.size → e = min r 9999 → r ≤ 100000 →
  Ev (fun k => r5_Read.l0 k s neg (r : Int) (i : Int) d x) (d,x + (if neg = true then -1 else 1) * (efold s n i e : Nat),true)
 | 0,i,r,e,ha,hi,he,hr => by
  refine Ev.step (f := fun _ => some (d,x + (if neg = true then -1 else 1) * ((efold s 0 i e : Nat) : Int),true)) (fun k => ?_) (Ev.now _)
  have hef : efold s 0 i e = e := rfl
  rw [hef,r5_Read.l0,if_neg (by omega)]
  by_cases c : (r : Int) > 9999
  ·have e1 : e = 9999 := by omega
   rw [if_pos c,e1]
   cases neg with
   | true => rw [if_pos rfl,if_pos rfl,wrapB _ (by omega) (by omega)];rfl
   | false => rw [if_neg (by decide),if_neg (by decide),wrapB _ (by omega) (by omega)];rfl
  ·have e1 : e = r := by omega
   rw [if_neg c,e1]
   cases neg with
   | true => rw [if_pos rfl,if_pos rfl,wrapB (-(r : Int)) (by omega) (by omega),wrapB _ (by omega) (by omega),show x + -(r : Int) = x + -1 * (r : Int) by omega]
   | false => rw [if_neg (by decide),if_neg (by decide),wrapB _ (by omega) (by omega),show x + (r : Int) = x + 1 * (r : Int) by omega]
 | n + 1,i,r,e,ha,hi,he,hr => by
  have hg := hd i ha (by omega)
  have g1 := hg.2.1
  have g2 := hg.2.2
  have hb : (bt s (i : Int) - 48) % 256 = bt s (i : Int) - 48 := by omega
  by_cases c : r < 9999
  ·have ih := zZG s a hsz neg x d hx hd n (i + 1) (10 * r + (bt s (i : Int) - 48).toNat) (min (10 * e + (bt s (i : Int) - 48).toNat) 9999) (by omega) (by omega) (by omega) (by omega)
   have hm : wrap64 ((wrap64 (10 * (r : Int))) + (bt s (i : Int) - 48)) = ((10 * r + (bt s (i : Int) - 48).toNat : Nat) : Int) := by
    rw [wrapB (10 * (r : Int)) (by omega) (by omega),wrapB _ (by omega) (by omega)]
    omega
   refine Ev.step (fun k => ?_) ih
   have q1 : (i : Int) < (s.size : Int) := by omega
   have q2 : (r : Int) < 9999 := by omega
   have q3 : (0 : Int) ≤ (i : Int) := by omega
   have q4 : i ≤ 1000000000 := by omega
   rw [r5_Read.l0,if_pos q1,if_pos q2,if_pos q3,hb,hm,wrap_one i q4]
  ·have ih := zZG s a hsz neg x d hx hd n (i + 1) r (min (10 * e + (bt s (i : Int) - 48).toNat) 9999) (by omega) (by omega) (by omega) (by omega)
   refine Ev.step (fun k => ?_) ih
   rw [r5_Read.l0,if_pos (by omega),if_neg (by omega),wrap_one i (by omega)]
theorem rexp_ev (s : ByteArray) (a j : Nat) (hsz : s.size ≤ 1000000) (ha : a ≤ s.size) (neg : Bool) (x : Int) (d : ByteArray) (hx : -1000000 ≤ x ∧ x ≤ 1000000) (h : DE s a j) :
  Ev (fun k => r5_Read.j4 k s (a : Int) neg d x) (if a = s.size ∨ j ≠ s.size then (d,x,false) else (d,x + (if neg = true then -1 else 1) * (efrom s a : Nat),true)) := by
 by_cases h0 : a = s.size
 ·rw [if_pos (.inl h0)]
  refine Ev.step (fun k => ?_) (Ev.step (f := fun _ => some (d,x,false)) (g := fun k => r5_Read.j5 k s (a : Int) neg true d x) (fun k => ?_) (Ev.now _))
  ·rw [r5_Read.j4,if_pos (by omega)]
  ·rw [r5_Read.j5,if_pos rfl]
 ·have hdg := zWy s a j hsz h
  by_cases hj : j = s.size
  ·rw [if_neg (by omega)]
   have hl := zZG s a hsz neg x d hx (fun t t1 t2 => h.2.2.1 t t1 (by omega)) (s.size - a) a 0 0 (Nat.le_refl _) (by omega) (by decide) (by decide)
   have h5 : Ev (fun k => r5_Read.j5 k s (a : Int) neg ((j : Int) != (s.size : Int)) d x) (d,x + (if neg = true then -1 else 1) * (efrom s a : Nat),true) := by
    refine Ev.step (fun k => ?_) hl
    rw [r5_Read.j5,if_neg (by rw [hj];simp)]
    rfl
   refine Ev.step (fun k => ?_) (Ev.bind hdg (f := fun k t => r5_Read.j5 k s (a : Int) neg (t != (s.size : Int)) d x) h5)
   rw [r5_Read.j4,if_neg (by omega)]
  ·rw [if_pos (.inr hj)]
   have h5 : Ev (fun k => r5_Read.j5 k s (a : Int) neg ((j : Int) != (s.size : Int)) d x) (d,x,false) := by
    refine Ev.step (f := fun _ => some (d,x,false)) (fun k => ?_) (Ev.now _)
    rw [r5_Read.j5,if_pos (bne_iff_ne.2 (by omega))]
   refine Ev.step (fun k => ?_) (Ev.bind hdg (f := fun k t => r5_Read.j5 k s (a : Int) neg (t != (s.size : Int)) d x) h5)
   rw [r5_Read.j4,if_neg (by omega)]
theorem zKW (s : ByteArray) (a : Nat) (hsz : s.size ≤ 1000000) (ha : a ≤ s.size) (x : Int) (d : ByteArray) (hx : -1000 ≤ x ∧ x ≤ 0) : ∃ r : ByteArray × Int × Bool,Ev (fun k => dec_cut.j0 k (suf s a) d x) r ∧ Ev (fun k => r5_Read.j1 k s (a : Int) d x) r ∧ r.1 = d ∧ -20000 ≤ r.2.1 ∧ r.2.1 ≤ 20000 := by
 by_cases c0 : a = s.size
 ·refine ⟨(d,x,true),zZf s a hsz ha x d _ (fun _ => rfl) (fun h => by omega) (fun h => by omega) (fun h => by omega) (fun h => by omega),?_,rfl,by show -20000 ≤ x;omega,by show x ≤ 20000;omega⟩
  refine Ev.step (f := fun _ => some (d,x,true)) (fun k => ?_) (Ev.now _)
  rw [r5_Read.j1,if_pos (by omega)]
 ·have hlt : a < s.size := by omega
  by_cases ce : bt s (a : Int) = 101 ∨ bt s (a : Int) = 69
  ·
   have hj1 : ∀ r,Ev (fun k => r5_Read.j2 k s (a : Int) false d x) r → Ev (fun k => r5_Read.j1 k s (a : Int) d x) r := by
    intro r h
    refine Ev.step (fun k => ?_) h
    rw [r5_Read.j1,if_neg (by omega),if_pos (by omega),if_pos (by omega)]
    rcases ce with c | c
    ·rw [if_pos c]
    ·rw [if_neg (by rw [c];decide),c]
     rfl
   have hend : ∀ (b : Nat) (neg : Bool),b ≤ s.size → ∃ r : ByteArray × Int × Bool,Ev (fun k => dec_cut.j3 k (suf s b) (if neg = true then -1 else 1) d x) r ∧ Ev (fun k => r5_Read.j4 k s (b : Int) neg d x) r ∧ r.1 = d ∧ -20000 ≤ r.2.1 ∧ r.2.1 ≤ 20000 := by
    intro b neg hb
    obtain ⟨j,hj⟩ := zKQ s (s.size - b) b (by omega)
    have h8 : (if neg = true then (-1 : Int) else 1) = 1 ∨ (if neg = true then (-1 : Int) else 1) = -1 := by cases neg <;> simp
    refine ⟨_,exp_ev s b j hsz hb _ x d h8 (by omega) hj,rexp_ev s b j hsz hb neg x d (by omega) hj,?_,?_,?_⟩
    ·split <;> rfl
    ·have := zKI s (s.size - b) b 0 (by decide)
     split
     ·show -20000 ≤ x;omega
     ·show -20000 ≤ x + (if neg = true then (-1 : Int) else 1) * ((efold s (s.size - b) b 0 : Nat) : Int)
      cases neg
      ·simp only [Bool.false_eq_true,if_false];omega
      ·simp only [if_true];omega
    ·have := zKI s (s.size - b) b 0 (by decide)
     split
     ·show x ≤ 20000;omega
     ·show x + (if neg = true then (-1 : Int) else 1) * ((efold s (s.size - b) b 0 : Nat) : Int) ≤ 20000
      cases neg
      ·simp only [Bool.false_eq_true,if_false];omega
      ·simp only [if_true];omega
   have hw1 : wrap64 ((a : Int) + 1) = ((a + 1 : Nat) : Int) := wrap_one a (by omega)
   have hw2 : wrap64 (((a + 1 : Nat) : Int) + 1) = ((a + 2 : Nat) : Int) := wrap_one (a + 1) (by omega)
   by_cases c1 : a + 1 = s.size
   ·obtain ⟨r,r1,r2,r3,r4,r5⟩ := hend (a + 1) false (by omega)
    refine ⟨r,zZf s a hsz ha x d r (fun h => absurd h c0) (fun _ h1 h2 => absurd ce (by rintro (h | h);exact h1 h;exact h2 h)) (fun _ _ h => by omega) (fun _ _ h => by omega) (fun _ _ _ => r1),hj1 _ ?_,r3,r4,r5⟩
    refine Ev.step (fun k => ?_) (Ev.step (g := fun k => r5_Read.j3 k s ((a + 1 : Nat) : Int) false false d x) (fun k => ?_) r2)
    ·rw [r5_Read.j2,if_neg (by decide),hw1,if_neg (by omega)]
    ·rw [r5_Read.j3,if_neg (by decide)]
   ·have hlt1 : a + 1 < s.size := by omega
    by_cases c2 : bt s ((a + 1 : Nat) : Int) = 43
    ·obtain ⟨r,r1,r2,r3,r4,r5⟩ := hend (a + 2) false (by omega)
     refine ⟨r,zZf s a hsz ha x d r (fun h => absurd h c0) (fun _ h1 h2 => absurd ce (by rintro (h | h);exact h1 h;exact h2 h)) (fun _ _ _ h => by rw [c2] at h;exact absurd h (by decide)) (fun _ _ _ _ => r1) (fun _ _ h => by
      rcases h with h | h
      ·omega
      ·exact absurd c2 h.1),hj1 _ ?_,r3,r4,r5⟩
     refine Ev.step (fun k => ?_) (Ev.step (g := fun k => r5_Read.j3 k s ((a + 1 : Nat) : Int) false true d x) (fun k => ?_) r2)
     ·rw [r5_Read.j2,if_neg (by decide),hw1,if_pos (by omega),if_pos (by omega),if_pos c2]
     ·rw [r5_Read.j3,if_pos rfl,if_pos (by omega),if_pos (by omega),hw2,c2]
      rfl
    ·by_cases c3 : bt s ((a + 1 : Nat) : Int) = 45
     ·obtain ⟨r,r1,r2,r3,r4,r5⟩ := hend (a + 2) true (by omega)
      refine ⟨r,zZf s a hsz ha x d r (fun h => absurd h c0) (fun _ h1 h2 => absurd ce (by rintro (h | h);exact h1 h;exact h2 h)) (fun _ _ _ _ => r1) (fun _ _ _ h => absurd h c2) (fun _ _ h => by
       rcases h with h | h
       ·omega
       ·exact absurd c3 h.2),hj1 _ ?_,r3,r4,r5⟩
      refine Ev.step (fun k => ?_) (Ev.step (g := fun k => r5_Read.j3 k s ((a + 1 : Nat) : Int) false true d x) (fun k => ?_) r2)
      ·rw [r5_Read.j2,if_neg (by decide),hw1,if_pos (by omega),if_pos (by omega),if_neg c2,c3]
       rfl
      ·rw [r5_Read.j3,if_pos rfl,if_pos (by omega),if_pos (by omega),hw2,c3]
       rfl
     ·obtain ⟨r,r1,r2,r3,r4,r5⟩ := hend (a + 1) false (by omega)
      refine ⟨r,zZf s a hsz ha x d r (fun h => absurd h c0) (fun _ h1 h2 => absurd ce (by rintro (h | h);exact h1 h;exact h2 h)) (fun _ _ _ h => absurd h c3) (fun _ _ _ h => absurd h c2) (fun _ _ _ => r1),hj1 _ ?_,r3,r4,r5⟩
      refine Ev.step (fun k => ?_) (Ev.step (g := fun k => r5_Read.j3 k s ((a + 1 : Nat) : Int) false false d x) (fun k => ?_) r2)
      ·rw [r5_Read.j2,if_neg (by decide),hw1,if_pos (by omega),if_pos (by omega),if_neg c2,beq_eq_false_iff_ne.2 c3]
      ·rw [r5_Read.j3,if_neg (by decide)]
  ·have c1 : bt s (a : Int) ≠ 101 := fun c => ce (.inl c)
   have c2 : bt s (a : Int) ≠ 69 := fun c => ce (.inr c)
   refine ⟨(d,x,false),zZf s a hsz ha x d _ (fun h => absurd h c0) (fun _ _ _ => rfl) (fun _ h => absurd h ce) (fun _ h => absurd h ce) (fun _ h => absurd h ce),?_,rfl,by show -20000 ≤ x;omega,by show x ≤ 20000;omega⟩
   refine Ev.step (fun k => ?_) (Ev.step (f := fun _ => some (d,x,false)) (g := fun k => r5_Read.j2 k s (a : Int) true d x) (fun k => ?_) (Ev.now _))
   ·rw [r5_Read.j1,if_neg (by omega),if_pos (by omega),if_pos (by omega),if_neg c1,bne_iff_ne.2 c2]
   ·rw [r5_Read.j2,if_pos rfl]
theorem read_both (s : ByteArray) (hsz : s.size ≤ 400) : ∃ r r' : ByteArray × Int × Bool,Ev (fun k => dec_cut.f k s) r ∧ Ev (fun k => r5_Read.f k s) r' ∧ r.2.2 = r'.2.2 ∧ (r.2.2 = true → r = r' ∧ zXI r.1 ∧ r.1.size ≤ 400 ∧ -20000 ≤ r.2.1 ∧ r.2.1 ≤ 20000) := by
 obtain ⟨n,hn⟩ := zKQ s s.size 0 (by omega)
 have hrd := zWy s 0 n (by omega) hn
 have hn2 := hn.2.1
 have e0 : (s.extract 0 n).size = n := by rw [ext_size s 0 n hn2,Nat.sub_zero]
 have ad0 : zXI (s.extract 0 n) := by
  intro i hi
  rw [e0] at hi
  rw [bt_ext s 0 n i (by omega),Nat.zero_add]
  exact (hn.2.2.1 i (by omega) hi).2
 by_cases c0 : n = 0
 ·subst c0
  refine ⟨(s.extract 0 0,0,false),((⟨#[]⟩ : ByteArray),0,false),cut_ev s 0 0 (by omega) hn _ (fun _ => rfl) (fun h => absurd rfl h) (fun h => absurd rfl h),?_,rfl,fun h => by cases h⟩
  refine Ev.bind hrd (f := fun k t416 => (if t416 = 0 then (some ((⟨#[]⟩ : ByteArray),(0 : Int),false)) else (if 0 ≤ t416 then (if t416 ≤ (s.size : Int) then (if t416 < (s.size : Int) then (r5_Read.j0 k s t416 ((bt s t416) == 46) (s.extract 0 (t416 : Int).toNat) 0) else (r5_Read.j0 k s t416 false (s.extract 0 (t416 : Int).toNat) 0)) else (none)) else (none)))) (Ev.congr (fun k => if_pos rfl) (Ev.now _))
 ·have hgo : ∀ (r : ByteArray × Int × Bool) (z : Bool),z = decide (n < s.size ∧ bt s (n : Int) = 46) → Ev (fun k => r5_Read.j0 k s (n : Int) z (s.extract 0 n) 0) r → Ev (fun k => r5_Read.f k s) r := by
   intro r z hz h
   refine Ev.bind hrd (f := fun k t416 => (if t416 = 0 then (some ((⟨#[]⟩ : ByteArray),(0 : Int),false)) else (if 0 ≤ t416 then (if t416 ≤ (s.size : Int) then (if t416 < (s.size : Int) then (r5_Read.j0 k s t416 ((bt s t416) == 46) (s.extract 0 (t416 : Int).toNat) 0) else (r5_Read.j0 k s t416 false (s.extract 0 (t416 : Int).toNat) 0)) else (none)) else (none)))) (Ev.congr (fun k => ?_) h)
   rw [if_neg (by omega),if_pos (by omega),if_pos (by omega),Int.toNat_natCast]
   by_cases c : n < s.size
   ·rw [if_pos (by omega),hz]
    by_cases cb : bt s (n : Int) = 46
    ·rw [cb,decide_eq_true ⟨c,rfl⟩];rfl
    ·rw [beq_eq_false_iff_ne.2 cb,decide_eq_false (fun h => cb h.2)]
   ·rw [if_neg (by omega),hz,decide_eq_false (fun h => c h.1)]
  by_cases cd : n < s.size ∧ bt s (n : Int) = 46
  ·obtain ⟨m,hm⟩ := zKQ s (s.size - (n + 1)) (n + 1) (by omega)
   have hrd2 := zWy s (n + 1) m (by omega) hm
   have hm1 := hm.1
   have hm2 := hm.2.1
   have hw : wrap64 ((n : Int) + 1) = ((n + 1 : Nat) : Int) := wrap_one n (by omega)
   by_cases cm : m = n + 1
   ·refine ⟨(s.extract 0 n,0,false),(s.extract 0 n,0,false),cut_ev s n m (by omega) hn _ (fun h => absurd h c0) (fun _ _ _ => ⟨hm,fun _ => rfl,fun h => absurd cm h⟩) (fun _ h => absurd cd h),hgo _ true (decide_eq_true cd).symm ?_,rfl,fun h => by cases h⟩
    refine Ev.step (fun k => ?_) (Ev.bind hrd2 (f := fun k t417 => (if t417 = ((n + 1 : Nat) : Int) then (some (s.extract 0 n,(0 : Int),false)) else none)) (Ev.congr (fun k => if_pos (by omega)) (Ev.now _)))
    rw [r5_Read.j0,if_pos rfl,hw]
    cases hq : r5_digits.f k s ((n + 1 : Nat) : Int) with
    | none => rfl
    | some t =>
     have ht : t = (m : Int) := by
      obtain ⟨K,hK⟩ := hrd2
      have hup : ∀ z,r5_digits.f (k + z) s ((n + 1 : Nat) : Int) = some t := by
       intro z
       induction z with
       | zero => exact hq
       | succ z ih => exact r5_digits.mono _ _ _ _ ih
      exact Option.some.inj ((hup K).symm.trans (hK (k + K) (Nat.le_add_left ..)))
     rw [Option.bind_some,Option.bind_some,if_pos (by omega),if_pos (by omega)]
   ·have e1 : (s.extract (n + 1) m).size = m - (n + 1) := ext_size s (n + 1) m hm2
    have ad1 : zXI (s.extract (n + 1) m) := by
     intro i hi
     rw [e1] at hi
     rw [bt_ext s (n + 1) m i (by omega)]
     exact (hm.2.2.1 (n + 1 + i) (by omega) (by omega)).2
    have hds : (s.extract 0 n ++ s.extract (n + 1) m).size ≤ 400 := by rw [ByteArray.size_append,e0,e1];omega
    have had : zXI (s.extract 0 n ++ s.extract (n + 1) m) := by
     intro i hi
     rw [ByteArray.size_append] at hi
     rw [bt_app]
     by_cases h : i < (s.extract 0 n).size
     ·rw [if_pos h];exact ad0 i h
     ·rw [if_neg h];exact ad1 _ (by omega)
    obtain ⟨r,r1,r2,r3,r4,r5⟩ := zKW s m (by omega) hm2 (-((m - n - 1 : Nat) : Int)) (s.extract 0 n ++ s.extract (n + 1) m) (by omega)
    refine ⟨r,r,cut_ev s n m (by omega) hn _ (fun h => absurd h c0) (fun _ _ _ => ⟨hm,fun h => absurd h cm,fun _ => r1⟩) (fun _ h => absurd cd h),hgo _ true (decide_eq_true cd).symm ?_,rfl,fun _ => ⟨rfl,r3 ▸ had,r3 ▸ hds,r4,r5⟩⟩
    have hw3 : wrap64 (((n + 1 : Nat) : Int) - (m : Int)) = -((m - n - 1 : Nat) : Int) := by rw [wrapB _ (by omega) (by omega)];omega
    have q1 : ¬ (m : Int) = ((n + 1 : Nat) : Int) := by omega
    have q2 : (0 : Int) ≤ ((n + 1 : Nat) : Int) := by omega
    have q3 : ((n + 1 : Nat) : Int) ≤ (m : Int) := by omega
    have q4 : (m : Int) ≤ (s.size : Int) := by omega
    have q5 : (s.extract 0 n).size + (s.extract (n + 1) m).size ≤ 9223372036854775807 := by rw [e0,e1];omega
    refine Ev.step (fun k => ?_) (Ev.bind hrd2 (f := fun k t417 => (if t417 = ((n + 1 : Nat) : Int) then (some (s.extract 0 n,(0 : Int),false)) else (if 0 ≤ ((n + 1 : Nat) : Int) then (if ((n + 1 : Nat) : Int) ≤ t417 then (if t417 ≤ (s.size : Int) then (if (s.extract 0 n).size + (s.extract (((n + 1 : Nat) : Int)).toNat (t417 : Int).toNat).size ≤ 9223372036854775807 then (r5_Read.j1 k s t417 (s.extract 0 n ++ (s.extract (((n + 1 : Nat) : Int)).toNat (t417 : Int).toNat)) (wrap64 (((n + 1 : Nat) : Int) - t417))) else (none)) else (none)) else (none)) else (none)))) (Ev.congr (fun k => ?_) r2))
    ·rw [r5_Read.j0,if_pos rfl,hw]
    ·rw [if_neg q1,if_pos q2,if_pos q3,if_pos q4,Int.toNat_natCast,Int.toNat_natCast,if_pos q5,hw3]
  ·obtain ⟨r,r1,r2,r3,r4,r5⟩ := zKW s n (by omega) hn2 0 (s.extract 0 n) (by omega)
   refine ⟨r,r,cut_ev s n 0 (by omega) hn _ (fun h => absurd h c0) (fun _ h1 h2 => absurd ⟨h1,h2⟩ cd) (fun _ _ => r1),hgo _ false (decide_eq_false cd).symm ?_,rfl,fun _ => ⟨rfl,r3 ▸ ad0,by rw [r3,e0];omega,r4,r5⟩⟩
   refine Ev.step (fun k => ?_) r2
   rw [r5_Read.j0,if_neg (by decide)]
end Go.Proofs.YtflcanpajgpghaaGreatDoor.Pure
end
section
namespace Go.Proofs.YtflcanpajgpghaaGreatDoor.Pure
open Go.RowKit Go.Proofs.YtflcanpajgpghaaGreatDoor.Pr Go.Proofs.YtflcanpajgpghaaGreatDoorW.PrintWords Go.Proofs.YtflcanpajgpghaaGreatDoorW.PrintLast Go.Proofs.YtflcanpajgpghaaGreatDoorW.PrintMore
def toD (x : Nat) : List Int := if x = 0 then [] else ((x % 65536 : Nat) : Int) :: toD (x / 65536)
termination_by x
decreasing_by omega
theorem zXn : toD 0 = [] := by rw [toD];rfl
theorem zYe {x : Nat} (h : x ≠ 0) : toD x = ((x % 65536 : Nat) : Int) :: toD (x / 65536) := by rw [toD,if_neg h]
def valD : List Int → Nat
 | [] => 0
 | a :: l => a.toNat + 65536 * valD l
def Digs (l : List Int) : Prop := ∀ x ∈ l,0 ≤ x ∧ x < 65536
theorem zXr (x : Nat) : valD (toD x) = x := by
 induction x using Nat.strongRecOn with
 | _ x ih =>
  by_cases h : x = 0
  ·subst h;rw [zXn];rfl
  ·rw [zYe h,valD,ih (x / 65536) (by omega),Int.toNat_natCast]
   omega
theorem zXd (x : Nat) : Digs (toD x) := by
 induction x using Nat.strongRecOn with
 | _ x ih =>
  by_cases h : x = 0
  ·subst h;rw [zXn];intro y hy;cases hy
  ·rw [zYe h]
   intro y hy
   rcases List.mem_cons.1 hy with rfl | hy
   ·omega
   ·exact ih (x / 65536) (by omega) y hy
theorem zXi (l m : List Int) : valD (l ++ m) = valD l + 65536 ^ l.length * valD m := by
 induction l with
 | nil => simp [valD]
 | cons a l ih =>
  rw [List.cons_append,valD,valD,ih,List.length_cons,Nat.pow_succ,Nat.mul_add,← Nat.mul_assoc,Nat.mul_comm 65536 (65536 ^ l.length)]
  omega
theorem zYr {l : List Int} (h : Digs l) : valD l < 65536 ^ l.length := by
 induction l with
 | nil => simp [valD]
 | cons a l ih =>
  have h1 := ih (fun x hx => h x (List.mem_cons_of_mem _ hx))
  have h2 := h a (List.mem_cons_self ..)
  rw [valD,List.length_cons,Nat.pow_succ]
  omega
theorem toD_val {l : List Int} (h : Digs l) (hl : l = [] ∨ l.getLast? ≠ some 0) : toD (valD l) = l := by
 induction l with
 | nil => exact zXn
 | cons a l ih =>
  have h2 := h a (List.mem_cons_self ..)
  have hp : Digs l := fun x hx => h x (List.mem_cons_of_mem _ hx)
  have hlast : (a :: l).getLast? ≠ some 0 := hl.resolve_left (by simp)
  have htl : l = [] ∨ l.getLast? ≠ some 0 := by
   by_cases hn : l = []
   ·exact .inl hn
   ·refine .inr ?_
    cases l with
    | nil => exact absurd rfl hn
    | cons b l => rwa [List.getLast?_cons_cons] at hlast
  have hne : valD (a :: l) ≠ 0 := by
   intro h0
   rw [valD] at h0
   by_cases hn : l = []
   ·subst hn
    simp at hlast
    omega
   ·have := ih hp htl
    have h3 : valD l = 0 := by omega
    rw [h3,zXn] at this
    exact hn this.symm
  rw [zYe hne]
  have e1 : (valD (a :: l) % 65536 : Nat) = a.toNat := by rw [valD];omega
  have e2 : valD (a :: l) / 65536 = valD l := by rw [valD];omega
  rw [e1,e2,ih hp htl]
  congr 1
  omega
theorem zXT {l m : List Int} (h : Digs l) (g : Digs m) : Digs (l ++ m) := fun x hx => (List.mem_append.1 hx).elim (h x) (g x)
theorem zYa {a : Int} (h : 0 ≤ a ∧ a < 65536) : Digs [a] := fun x hx => by rw [List.mem_singleton.1 hx];exact h
theorem getDD {l : List Int} (hp : Digs l) (i : Nat) : ∃ a : Nat,l.getD i 0 = (a : Int) ∧ a < 65536 ∧ (l.length ≤ i → a = 0) := by
 by_cases h : i < l.length
 ·have := hp (l.getD i 0) (by rw [List.getD_eq_getElem?_getD,List.getElem?_eq_getElem h];exact List.getElem_mem h)
  exact ⟨(l.getD i 0).toNat,by omega,by omega,fun h2 => by omega⟩
 ·refine ⟨0,?_,by decide,fun _ => rfl⟩
  rw [List.getD_eq_getElem?_getD,List.getElem?_eq_none (by omega)]
  rfl
theorem zYp (l : List Int) (i : Nat) (hp : Digs l) : ∃ a : Nat,l.getD i 0 = (a : Int) ∧ a < 65536 ∧ valD (l.drop i) = a + 65536 * valD (l.drop (i + 1)) ∧ (l.length ≤ i → a = 0) := by
 obtain ⟨a,h1,h2,h3⟩ := getDD hp i
 refine ⟨a,h1,h2,?_,h3⟩
 by_cases h : i < l.length
 ·rw [List.drop_eq_getElem_cons h,valD]
  have : l[i] = (a : Int) := by
   rw [← h1,List.getD_eq_getElem?_getD,List.getElem?_eq_getElem h]
   rfl
  rw [this,Int.toNat_natCast]
 ·rw [List.drop_eq_nil_of_le (by omega),List.drop_eq_nil_of_le (by omega),h3 (by omega)]
  rfl
theorem zYR {l : List Int} {i : Nat} (h : i < l.length) : valD (l.take (i + 1)) = valD (l.take i) + 65536 ^ i * (l.getD i 0).toNat := by
 rw [List.take_succ_eq_append_getElem h,zXi,List.length_take,Nat.min_eq_left (Nat.le_of_lt h),List.getD_eq_getElem?_getD,List.getElem?_eq_getElem h]
 simp [valD]
theorem zYk {l : List Int} (hp : Digs l) (i : Nat) : valD (l.take i) < 65536 ^ i := by
 have := zYr (l := l.take i) (fun x hx => hp x (List.mem_of_mem_take hx))
 refine Nat.lt_of_lt_of_le this (Nat.pow_le_pow_right (by decide) ?_)
 rw [List.length_take]
 exact Nat.min_le_left ..
theorem zKm (l : List Int) (hp : Digs l) (hl : l.length ≤ 1000000) : ∀ i,i ≤ l.length → Ev (fun k => r1_Trim.l0 k l (i : Int)) (toD (valD (l.take i)))
 | 0,_ => by
  rw [List.take_zero]
  refine Ev.step (f := fun _ => some []) (fun k => ?_) (by rw [show valD [] = 0 from rfl,zXn];exact Ev.now _)
  rw [r1_Trim.l0,if_neg (by omega),Option.bind_some,if_pos (by omega),if_pos (by omega)]
  simp
 | i + 1,hi => by
  obtain ⟨a,h1,h2,_⟩ := getDD hp i
  have hw : wrap64 (((i + 1 : Nat) : Int) - 1) = (i : Int) := by rw [wrapB _ (by omega) (by omega)];omega
  by_cases h0 : a = 0
  ·have ih := zKm l hp hl i (by omega)
   have e : valD (l.take (i + 1)) = valD (l.take i) := by rw [zYR (by omega),h1,h0];simp
   rw [e]
   refine Ev.step (fun k => ?_) ih
   rw [r1_Trim.l0,if_pos (by omega),hw,if_pos (by omega),if_pos (by omega),zXY,if_pos (by omega)]
  ·have e : toD (valD (l.take (i + 1))) = l.take (i + 1) := by
    refine toD_val (fun x hx => hp x (List.mem_of_mem_take hx)) (.inr ?_)
    rw [List.take_succ_eq_append_getElem (by omega),List.getLast?_append]
    have : l[i]'(by omega) = (a : Int) := by
     rw [← h1,List.getD_eq_getElem?_getD,List.getElem?_eq_getElem (by omega)]
     rfl
    rw [this]
    simp
    omega
   rw [e]
   refine Ev.step (f := fun _ => some (l.take (i + 1))) (fun k => ?_) (Ev.now _)
   rw [r1_Trim.l0,if_pos (by omega),hw,if_pos (by omega),if_pos (by omega),zXY,if_neg (by omega),Option.bind_some,if_pos (by omega),if_pos (by omega),Int.toNat_natCast,if_pos (by rw [List.length_take];simp;omega)]
   rfl
theorem zYv (l : List Int) (hp : Digs l) (hl : l.length ≤ 1000000) : Ev (fun k => r1_Trim.f k l) (toD (valD l)) := by
 have := zKm l hp hl l.length (Nat.le_refl _)
 rw [List.take_length] at this
 exact this
theorem zYf (l : List Int) (i : Nat) : r1_at.f l (i : Int) = some (l.getD i 0) := by
 unfold r1_at.f
 by_cases h : i < l.length
 ·rw [if_pos (by omega),if_pos (by omega),zXY]
 ·rw [if_neg (by omega),List.getD_eq_getElem?_getD,List.getElem?_eq_none (by omega)]
  rfl
theorem zKB (l m : List Int) : r1_most.f l m = some ((max l.length m.length : Nat) : Int) := by
 unfold r1_most.f
 by_cases h : (l.length : Int) > (m.length : Int)
 ·rw [if_pos h,Nat.max_eq_left (by omega)]
 ·rw [if_neg h,Nat.max_eq_right (by omega)]
theorem and_dig (a : Nat) (h : a < 18446744073709551616) : Go.bits .and .u64 (a : Int) 65535 = ((a % 65536 : Nat) : Int) := by
 have := zYH a 65535 h (by decide)
 rw [show (65535 : Nat) = 2 ^ 16 - 1 from rfl,Nat.and_two_pow_sub_one_eq_mod] at this
 exact this
theorem zWa (l m : List Int) (hp : Digs l) (hm : Digs m) (hl : l.length ≤ 900000) (hml : m.length ≤ 900000) : ∀ (d i : Nat) (acc : List Int) (c : Nat),i + d = max l.length m.length → acc.length = i → Digs acc → c ≤ 1 →
  Ev (fun k => r1_Sum.l0 k l m acc (c : Int) (i : Int)) (toD (valD acc + 65536 ^ i * (valD (l.drop i) + valD (m.drop i) + c)))
 | 0,i,acc,c,hi,ha,hpa,hc => by
  have hd : l.drop i = [] := List.drop_eq_nil_of_le (by omega)
  have hd2 : m.drop i = [] := List.drop_eq_nil_of_le (by omega)
  have hv : valD acc + 65536 ^ i * (valD (l.drop i) + valD (m.drop i) + c) = valD (acc ++ [(c : Int)]) := by
   rw [hd,hd2,zXi,ha]
   simp [valD]
  rw [hv]
  have ht := zYv (acc ++ [(c : Int)]) (zXT hpa (zYa (by omega))) (by rw [List.length_append,List.length_singleton];omega)
  refine Ev.step (fun k => ?_) (Ev.bind ht (Ev.now _))
  rw [r1_Sum.l0,zKB,Option.bind_some,if_neg (by omega),if_pos (by omega)]
 | d + 1,i,acc,c,hi,ha,hpa,hc => by
  obtain ⟨a,ga,ha2,hL,_⟩ := zYp l i hp
  obtain ⟨b,gb,hb2,hM,_⟩ := zYp m i hm
  have ih := zWa l m hp hm hl hml d (i + 1) (acc ++ [(((a + b + c) % 65536 : Nat) : Int)]) ((a + b + c) / 65536) (by omega) (by rw [List.length_append,List.length_singleton];omega) (zXT hpa (zYa (by omega))) (by omega)
  have hv : valD acc + 65536 ^ i * (valD (l.drop i) + valD (m.drop i) + c) = valD (acc ++ [(((a + b + c) % 65536 : Nat) : Int)]) + 65536 ^ (i + 1) * (valD (l.drop (i + 1)) + valD (m.drop (i + 1)) + (a + b + c) / 65536) := by
   rw [zXi,ha,hL,hM,Nat.pow_succ,Nat.mul_assoc,Nat.add_assoc (valD acc),← Nat.mul_add]
   simp only [valD,Nat.mul_zero,Nat.add_zero,Int.toNat_natCast]
   congr 2
   omega
  rw [hv]
  refine Ev.step (fun k => ?_) ih
  rw [r1_Sum.l0,zKB,Option.bind_some,if_pos (by omega),zYf,Option.bind_some,zYf,Option.bind_some,if_pos (by omega),ga,gb,show ((a : Int) + (b : Int)) = ((a + b : Nat) : Int) by push_cast;rfl,u64_in (a + b) (by omega),show (((a + b : Nat) : Int) + (c : Int)) = ((a + b + c : Nat) : Int) by push_cast;rfl,u64_in (a + b + c) (by omega),and_dig _ (by omega),wrapB _ (by omega) (by omega)]
  simp only [Int.natCast_emod,Int.natCast_ediv,Int.natCast_add,Int.natCast_one]
  rfl
theorem rsum_ev (l m : List Int) (hp : Digs l) (hm : Digs m) (hl : l.length ≤ 900000) (hml : m.length ≤ 900000) : Ev (fun k => r1_Sum.f k l m) (toD (valD l + valD m)) := by
 have g := zWa l m hp hm hl hml (max l.length m.length) 0 [] 0 (by omega) rfl (fun y hy => by cases hy) (by omega)
 rw [List.drop_zero,List.drop_zero,Nat.pow_zero,Nat.one_mul] at g
 have e : valD [] + (valD l + valD m + 0) = valD l + valD m := by simp [valD]
 rw [e] at g
 exact g
theorem zYN (l m : List Int) (hp : Digs l) (hm : Digs m) (hl : l.length ≤ 900000) : ∀ (d i : Nat) (acc : List Int) (c : Nat),i + d = l.length → acc.length = i → Digs acc → c ≤ 1 → valD (m.drop i) + c ≤ valD (l.drop i) →
  Ev (fun k => r1_Minus.l0 k l m acc (c : Int) (i : Int)) (toD (valD acc + 65536 ^ i * (valD (l.drop i) - valD (m.drop i) - c)))
 | 0,i,acc,c,hi,ha,hpa,hc,hle => by
  have hd : l.drop i = [] := List.drop_eq_nil_of_le (by omega)
  rw [hd] at hle ⊢
  have e : valD ([] : List Int) - valD (m.drop i) - c = 0 := by simp [valD]
  rw [e,Nat.mul_zero,Nat.add_zero]
  refine Ev.step (fun k => ?_) (Ev.bind (zYv acc hpa (by omega)) (Ev.now _))
  rw [r1_Minus.l0,if_neg (by omega)]
 | d + 1,i,acc,c,hi,ha,hpa,hc,hle => by
  obtain ⟨a,ga,ha2,hL,_⟩ := zYp l i hp
  obtain ⟨b,gb,hb2,hM,_⟩ := zYp m i hm
  obtain ⟨L,hLe⟩ : ∃ L,L = valD (l.drop (i + 1)) := ⟨_,rfl⟩
  obtain ⟨M,hMe⟩ : ∃ M,M = valD (m.drop (i + 1)) := ⟨_,rfl⟩
  rw [hL,hM,← hLe,← hMe] at hle ⊢
  have hbc : IntKind.u64.wrap ((b : Int) + (c : Int)) = ((b + c : Nat) : Int) := by rw [show ((b : Int) + (c : Int)) = ((b + c : Nat) : Int) by push_cast;rfl,u64_in _ (by omega)]
  by_cases h : a < b + c
  ·have ih := zYN l m hp hm hl d (i + 1) (acc ++ [((a + 65536 - b - c : Nat) : Int)]) 1 (by omega) (by rw [List.length_append,List.length_singleton];omega) (zXT hpa (zYa (by omega))) (by omega) (by rw [← hLe,← hMe];omega)
   rw [← hLe,← hMe] at ih
   have hv : valD acc + 65536 ^ i * (a + 65536 * L - (b + 65536 * M) - c) = valD (acc ++ [((a + 65536 - b - c : Nat) : Int)]) + 65536 ^ (i + 1) * (L - M - 1) := by
    rw [zXi,ha,Nat.pow_succ,Nat.mul_assoc,Nat.add_assoc,← Nat.mul_add]
    simp only [valD,Nat.mul_zero,Nat.add_zero,Int.toNat_natCast]
    congr 2
    omega
   rw [hv]
   refine Ev.step (fun k => ?_) ih
   have hw1 : IntKind.u64.wrap ((a : Int) + 65536) = ((a + 65536 : Nat) : Int) := u64_in (a + 65536) (by omega)
   have hw2 : IntKind.u64.wrap (((a + 65536 : Nat) : Int) - ((b + c : Nat) : Int)) = ((a + 65536 - b - c : Nat) : Int) := by rw [show (((a + 65536 : Nat) : Int) - ((b + c : Nat) : Int)) = ((a + 65536 - b - c : Nat) : Int) by omega,u64_in _ (by omega)]
   rw [r1_Minus.l0,if_pos (by omega),if_pos (by omega),zYf,Option.bind_some,gb,hbc,zXY,ga,if_pos (by omega),if_pos (by omega),hw1,hw2,wrapB _ (by omega) (by omega)]
   rfl
  ·have ih := zYN l m hp hm hl d (i + 1) (acc ++ [((a - b - c : Nat) : Int)]) 0 (by omega) (by rw [List.length_append,List.length_singleton];omega) (zXT hpa (zYa (by omega))) (by omega) (by rw [← hLe,← hMe];omega)
   rw [← hLe,← hMe] at ih
   have hv : valD acc + 65536 ^ i * (a + 65536 * L - (b + 65536 * M) - c) = valD (acc ++ [((a - b - c : Nat) : Int)]) + 65536 ^ (i + 1) * (L - M - 0) := by
    rw [zXi,ha,Nat.pow_succ,Nat.mul_assoc,Nat.add_assoc,← Nat.mul_add]
    simp only [valD,Nat.mul_zero,Nat.add_zero,Int.toNat_natCast]
    congr 2
    omega
   rw [hv]
   refine Ev.step (fun k => ?_) ih
   have hw2 : IntKind.u64.wrap ((a : Int) - ((b + c : Nat) : Int)) = ((a - b - c : Nat) : Int) := by rw [show ((a : Int) - ((b + c : Nat) : Int)) = ((a - b - c : Nat) : Int) by omega,u64_in _ (by omega)]
   rw [r1_Minus.l0,if_pos (by omega),if_pos (by omega),zYf,Option.bind_some,gb,hbc,zXY,ga,if_neg (by omega),if_pos (by omega),hw2,wrapB _ (by omega) (by omega)]
   rfl
theorem rminus_ev (l m : List Int) (hp : Digs l) (hm : Digs m) (hl : l.length ≤ 900000) (h : valD m ≤ valD l) : Ev (fun k => r1_Minus.f k l m) (toD (valD l - valD m)) := by
 have g := zYN l m hp hm hl l.length 0 [] 0 (by omega) rfl (fun y hy => by cases hy) (by omega) (by rw [List.drop_zero,List.drop_zero];omega)
 rw [List.drop_zero,List.drop_zero,Nat.pow_zero,Nat.one_mul] at g
 have e : valD [] + (valD l - valD m - 0) = valD l - valD m := by simp [valD]
 rw [e] at g
 exact g
theorem zWd (l m : List Int) (hp : Digs l) (hm : Digs m) : ∀ i : Nat,i ≤ 900000 → ∃ c : Int,Ev (fun k => r1_Cmp.l0 k l m ((i : Int) - 1)) c ∧ (c ≥ 0 ↔ valD (m.take i) ≤ valD (l.take i))
 | 0,_ => by
  refine ⟨0,Ev.step (f := fun _ => some 0) (fun k => ?_) (Ev.now _),by simp [valD]⟩
  rw [r1_Cmp.l0,if_neg (by omega)]
 | i + 1,hi => by
  obtain ⟨a,ga,ha2,ha3⟩ := getDD hp i
  obtain ⟨b,gb,hb2,hb3⟩ := getDD hm i
  have tk : ∀ (l : List Int) (a : Nat),l.getD i 0 = (a : Int) → (l.length ≤ i → a = 0) → valD (l.take (i + 1)) = valD (l.take i) + 65536 ^ i * a := by
   intro l a g g0
   by_cases h : i < l.length
   ·rw [zYR h,g,Int.toNat_natCast]
   ·rw [List.take_of_length_le (by omega),List.take_of_length_le (by omega),g0 (by omega),Nat.mul_zero,Nat.add_zero]
  have e1 := tk l a ga ha3
  have e2 := tk m b gb hb3
  have t1 := zYk hp i
  have t2 := zYk hm i
  have hk : ((i + 1 : Nat) : Int) - 1 = (i : Int) := by omega
  rw [hk,e1,e2]
  obtain ⟨P,hP⟩ : ∃ P,P = 65536 ^ i := ⟨_,rfl⟩
  rw [← hP] at t1 t2 ⊢
  by_cases hlt : a < b
  ·refine ⟨-1,Ev.step (f := fun _ => some (-1)) (fun k => ?_) (Ev.now _),?_⟩
   ·rw [r1_Cmp.l0,if_pos (by omega),zYf,Option.bind_some,zYf,Option.bind_some,ga,gb,if_pos (by omega)]
   ·have : P * (a + 1) ≤ P * b := Nat.mul_le_mul_left _ hlt
    rw [Nat.mul_succ] at this
    omega
  ·by_cases hgt : b < a
   ·refine ⟨1,Ev.step (f := fun _ => some 1) (fun k => ?_) (Ev.now _),?_⟩
    ·rw [r1_Cmp.l0,if_pos (by omega),zYf,Option.bind_some,zYf,Option.bind_some,ga,gb,if_neg (by omega)]
     simp only [Option.bind_some]
     rw [if_pos (by omega)]
    ·have : P * (b + 1) ≤ P * a := Nat.mul_le_mul_left _ hgt
     rw [Nat.mul_succ] at this
     omega
   ·obtain rfl : a = b := by omega
    obtain ⟨c,hc,c1⟩ := zWd l m hp hm i (by omega)
    refine ⟨c,Ev.step (fun k => ?_) hc,?_⟩
    ·rw [r1_Cmp.l0,if_pos (by omega),zYf,Option.bind_some,zYf,Option.bind_some,ga,gb,if_neg (by omega)]
     simp only [Option.bind_some]
     rw [if_neg (by omega),wrapB _ (by omega) (by omega)]
    ·rw [c1];omega
theorem rcmp_ev (l m : List Int) (hp : Digs l) (hm : Digs m) (hl : l.length ≤ 900000) (hml : m.length ≤ 900000) : ∃ c : Int,Ev (fun k => r1_Cmp.f k l m) c ∧ (c ≥ 0 ↔ valD m ≤ valD l) := by
 obtain ⟨c,hc,c1⟩ := zWd l m hp hm (max l.length m.length) (by omega)
 rw [List.take_of_length_le (by omega),List.take_of_length_le (by omega)] at c1
 refine ⟨c,Ev.congr (fun k => ?_) hc,c1⟩
 unfold r1_Cmp.f
 rw [zKB,Option.bind_some,wrapB _ (by omega) (by omega)]
theorem zZX (n : Nat) : 0 < (65536 : Nat) ^ n := Nat.pow_pos (by decide)
theorem zXt (n : Nat) : (65536 : Nat) ^ n = 2 ^ (16 * n) := by rw [Nat.pow_mul]
theorem zKA (l : List Int) (i : Nat) (v : Nat) (h : i < l.length) (o : Nat) (ho : l.getD i 0 = (o : Int)) : valD (l.set i (v : Int)) + 65536 ^ i * o = valD l + 65536 ^ i * v := by
 have e1 : l = l.take i ++ (o : Int) :: l.drop (i + 1) := by
  have : l[i] = (o : Int) := by
   rw [← ho,List.getD_eq_getElem?_getD,List.getElem?_eq_getElem h]
   rfl
  rw [← this,← List.drop_eq_getElem_cons h,List.take_append_drop]
 have e2 : l.set i (v : Int) = l.take i ++ (v : Int) :: l.drop (i + 1) := List.set_eq_take_append_cons_drop .. |>.trans (by rw [if_pos h])
 have e3 : valD l = valD (l.take i) + 65536 ^ i * (o + 65536 * valD (l.drop (i + 1))) := by
  conv => lhs;rw [e1]
  rw [zXi,List.length_take,Nat.min_eq_left (Nat.le_of_lt h),valD,Int.toNat_natCast]
 rw [e2,e3,zXi,List.length_take,Nat.min_eq_left (Nat.le_of_lt h),valD,Int.toNat_natCast,Nat.mul_add,Nat.mul_add]
 omega
theorem zKK {l : List Int} (h : Digs l) (i : Nat) {v : Int} (hv : 0 ≤ v ∧ v < 65536) : Digs (l.set i v) := fun x hx => (List.mem_or_eq_of_mem_set hx).elim (h x) (fun e => e ▸ hv)
theorem getD_set_ne (l : List Int) (i j : Nat) (v : Int) (h : i ≠ j) : (l.set i v).getD j 0 = l.getD j 0 := by
 rw [List.getD_eq_getElem?_getD,List.getElem?_set_ne h,← List.getD_eq_getElem?_getD]
theorem zYo (i : Nat) (h : i ≤ 1000000000) : wrap64 ((i : Int) + 1) = ((i + 1 : Nat) : Int) := by rw [wrapB _ (by omega) (by omega)];omega
theorem wrap_add (i q : Nat) (h : i + q ≤ 1000000000) : wrap64 ((i : Int) + (q : Int)) = ((i + q : Nat) : Int) := by rw [wrapB _ (by omega) (by omega)];omega
theorem even_small : ∀ z : Nat,z % 2 = 0 → z < 2 → z = 0 := by omega
theorem mul_dig {a b : Nat} (ha : a < 65536) (hb : b < 65536) : a * b ≤ 4294836225 := by
 have : a * b ≤ 65535 * 65535 := Nat.mul_le_mul (by omega) (by omega)
 omega
theorem prod_row (l m : List Int) (hp : Digs l) (hm : Digs m) (hl : l.length ≤ 400000) (hml : m.length ≤ 400000) (i a : Nat) (hi : i < l.length) (ha : l.getD i 0 = (a : Int)) (ha2 : a < 65536) (V : Nat) (r : List Int)
  (hend : ∀ out : List Int,out.length = l.length + m.length → Digs out → (∀ j,i + m.length < j → out.getD j 0 = 0) → valD out = V + 65536 ^ i * (a * valD m) → Ev (fun k => r1_Product.l0 k l m out ((i + 1 : Nat) : Int)) r) :
  ∀ (d q : Nat) (out : List Int) (c : Nat),q + d = m.length → c < 65536 → out.length = l.length + m.length → Digs out → (∀ j,i + m.length ≤ j → out.getD j 0 = 0) → valD out + 65536 ^ (i + q) * c = V + 65536 ^ i * (a * valD (m.take q)) →
  Ev (fun k => r1_Product.l1 k l m out (i : Int) (c : Int) (q : Int)) r
 | 0,q,out,c,hq,hc,hol,hod,hoz,hv => by
  obtain rfl : q = m.length := by omega
  rw [List.take_length] at hv
  have hs := zKA out (i + m.length) c (by omega) 0 (by rw [hoz _ (Nat.le_refl _)];rfl)
  have g := hend (out.set (i + m.length) (c : Int)) (by rw [List.length_set];exact hol) (zKK hod _ (by omega)) (fun j hj => by rw [getD_set_ne _ _ _ _ (by omega)];exact hoz j (by omega)) (by omega)
  have b1 : i + m.length ≤ 1000000000 := by omega
  have b2 : i ≤ 1000000000 := by omega
  have hw := wrap_add i m.length b1
  have w1 := zYo i b2
  have q1 : ¬ ((m.length : Nat) : Int) < ((m.length : Nat) : Int) := Int.lt_irrefl _
  have q2 : (0 : Int) ≤ ((i + m.length : Nat) : Int) := Int.natCast_nonneg _
  have q3 : ((i + m.length : Nat) : Int) < ((out.length : Nat) : Int) := Int.ofNat_lt.2 (by rw [hol];exact Nat.add_lt_add_right hi _)
  refine Ev.step (fun k => ?_) g
  rw [r1_Product.l1,if_neg q1,hw,if_pos q2,if_pos q3,Int.toNat_natCast,w1]
 | d + 1,q,out,c,hq,hc,hol,hod,hoz,hv => by
  obtain ⟨b,gb,hb2,_⟩ := getDD hm q
  obtain ⟨o,go,ho2,_⟩ := getDD hod (i + q)
  have hmul := mul_dig ha2 hb2
  have ht := zYR (l := m) (i := q) (by omega)
  rw [gb,Int.toNat_natCast] at ht
  have hs := zKA out (i + q) ((o + a * b + c) % 65536) (by omega) o go
  have hpow : 65536 ^ (i + (q + 1)) = 65536 ^ (i + q) * 65536 := by rw [← Nat.add_assoc,Nat.pow_succ]
  have hval : valD (out.set (i + q) (((o + a * b + c) % 65536 : Nat) : Int)) + 65536 ^ (i + (q + 1)) * ((o + a * b + c) / 65536) = V + 65536 ^ i * (a * valD (m.take (q + 1))) := by
   rw [ht,hpow,Nat.mul_assoc]
   obtain ⟨P,hP⟩ : ∃ P,P = 65536 ^ (i + q) := ⟨_,rfl⟩
   rw [← hP] at hs hv ⊢
   have e1 : 65536 ^ i * (a * (valD (m.take q) + 65536 ^ q * b)) = 65536 ^ i * (a * valD (m.take q)) + P * (a * b) := by
    rw [hP,Nat.pow_add,Nat.mul_add,Nat.mul_add]
    congr 1
    simp only [Nat.mul_assoc,Nat.mul_comm,Nat.mul_left_comm]
   rw [e1]
   have e2 : P * ((o + a * b + c) % 65536) + P * (65536 * ((o + a * b + c) / 65536)) = P * o + P * (a * b) + P * c := by
    rw [← Nat.mul_add,Nat.mod_add_div,Nat.mul_add,Nat.mul_add]
   omega
  have ih := prod_row l m hp hm hl hml i a hi ha ha2 V r hend d (q + 1) (out.set (i + q) (((o + a * b + c) % 65536 : Nat) : Int)) ((o + a * b + c) / 65536) (by omega) (by omega) (by rw [List.length_set];exact hol) (zKK hod _ (by omega))
   (fun j hj => by rw [getD_set_ne _ _ _ _ (by omega)];exact hoz j hj) hval
  have q1 : ((q : Nat) : Int) < ((m.length : Nat) : Int) := Int.ofNat_lt.2 (by omega)
  have q2 : (0 : Int) ≤ ((i + q : Nat) : Int) := Int.natCast_nonneg _
  have q3 : ((i + q : Nat) : Int) < ((out.length : Nat) : Int) := Int.ofNat_lt.2 (by omega)
  have q4 : (0 : Int) ≤ ((i : Nat) : Int) := Int.natCast_nonneg _
  have q5 : ((i : Nat) : Int) < ((l.length : Nat) : Int) := Int.ofNat_lt.2 hi
  have q6 : (0 : Int) ≤ ((q : Nat) : Int) := Int.natCast_nonneg _
  have q7 : o + a * b + c < 18446744073709551616 := by omega
  have q8 : a * b < 18446744073709551616 := by omega
  have q9 : o + a * b < 18446744073709551616 := by omega
  have b1 : i + q ≤ 1000000000 := by omega
  have b2 : q ≤ 1000000000 := by omega
  have hw := wrap_add i q b1
  have w1 := zYo q b2
  refine Ev.step (fun k => ?_) ih
  have hx : IntKind.u64.wrap ((IntKind.u64.wrap ((rd out ((i + q : Nat) : Int)) + (IntKind.u64.wrap ((rd l (i : Int)) * (rd m (q : Int)))))) + (c : Int)) = ((o + a * b + c : Nat) : Int) := by
   rw [zXY,zXY,zXY,go,ha,gb,show ((a : Int) * (b : Int)) = ((a * b : Nat) : Int) by push_cast;rfl,u64_in (a * b) q8,show ((o : Int) + ((a * b : Nat) : Int)) = ((o + a * b : Nat) : Int) by push_cast;rfl,u64_in (o + a * b) q9,show (((o + a * b : Nat) : Int) + (c : Int)) = ((o + a * b + c : Nat) : Int) by push_cast;rfl,u64_in _ q7]
  rw [r1_Product.l1,if_pos q1,hw,if_pos q2,if_pos q3,if_pos q4,if_pos q5,if_pos q6,hx,and_dig _ q7,Int.toNat_natCast,w1]
  rfl
theorem zWf (l m : List Int) (hp : Digs l) (hm : Digs m) (hl : l.length ≤ 400000) (hml : m.length ≤ 400000) : ∀ (d i : Nat) (out : List Int),i + d = l.length → out.length = l.length + m.length → Digs out → (∀ j,i + m.length ≤ j → out.getD j 0 = 0) → valD out = valD (l.take i) * valD m →
  Ev (fun k => r1_Product.l0 k l m out (i : Int)) (toD (valD l * valD m))
 | 0,i,out,hi,hol,hod,hoz,hv => by
  obtain rfl : i = l.length := by omega
  rw [List.take_length] at hv
  refine Ev.step (fun k => ?_) (Ev.bind (f := fun _ t => some t) (hv ▸ zYv out hod (by omega)) (Ev.now _))
  rw [r1_Product.l0,if_neg (by omega)]
 | d + 1,i,out,hi,hol,hod,hoz,hv => by
  obtain ⟨a,ga,ha2,_⟩ := getDD hp i
  have ht := zYR (l := l) (i := i) (by omega)
  rw [ga,Int.toNat_natCast] at ht
  have hrow := prod_row l m hp hm hl hml i a (by omega) ga ha2 (valD out) (toD (valD l * valD m))
   (fun out' h1 h2 h3 h4 => zWf l m hp hm hl hml d (i + 1) out' (by omega) h1 h2 (fun j hj => h3 j (by omega)) (by rw [h4,ht,hv,Nat.add_mul,Nat.mul_assoc]))
   m.length 0 out 0 (by omega) (by omega) hol hod hoz (by simp [valD])
  refine Ev.step (fun k => ?_) hrow
  rw [r1_Product.l0,if_pos (by omega)]
  rfl
theorem zZe (n : Nat) : Digs (List.replicate n (0 : Int)) := fun x hx => by rw [List.eq_of_mem_replicate hx];omega
theorem zYP : ∀ n,valD (List.replicate n (0 : Int)) = 0
 | 0 => rfl
 | n + 1 => by rw [List.replicate_succ,valD,zYP n];rfl
theorem zYW (l m : List Int) (hp : Digs l) (hm : Digs m) (hl : l.length ≤ 400000) (hml : m.length ≤ 400000) : Ev (fun k => r1_Product.f k l m) (toD (valD l * valD m)) := by
 have h := zWf l m hp hm hl hml l.length 0 (List.replicate (l.length + m.length) 0) (by omega) (List.length_replicate ..) (zZe _) (fun j _ => by
   rw [List.getD_eq_getElem?_getD]
   by_cases hj : j < l.length + m.length
   ·rw [List.getElem?_replicate_of_lt hj];rfl
   ·rw [List.getElem?_eq_none (by rw [List.length_replicate];omega)];rfl) (by rw [zYP];simp [valD])
 have hw : wrap64 ((l.length : Int) + (m.length : Int)) = ((l.length + m.length : Nat) : Int) := by rw [wrapB _ (by omega) (by omega)];omega
 refine Ev.congr (fun k => ?_) h
 unfold r1_Product.f
 rw [hw,if_pos (by omega),if_pos (by omega),Int.toNat_natCast]
 rfl
theorem rup_ev (l : List Int) (hp : Digs l) (n : Nat) (hl : l.length + n ≤ 300000) : Ev (fun k => r1_Up.f k l (n : Int)) (toD (valD l * 2 ^ n)) := by
 have hq : Int.tdiv (n : Int) 16 = ((n / 16 : Nat) : Int) := by rw [Int.tdiv_eq_ediv_of_nonneg (by omega)];omega
 have hr : Int.tmod (n : Int) 16 = ((n % 16 : Nat) : Int) := by rw [Int.tmod_eq_emod_of_nonneg (by omega)];omega
 have hlt : 2 ^ (n % 16) < 65536 := Nat.lt_of_lt_of_le (Nat.pow_lt_pow_right (by decide) (Nat.mod_lt n (by decide : 0 < 16))) (Nat.le_refl _)
 have hsh : shl .u64 1 ((n % 16 : Nat) : Int) = ((2 ^ (n % 16) : Nat) : Int) := by
  have h9 := zZh 1 (n % 16) (by omega)
  rw [Nat.one_mul,Nat.mod_eq_of_lt (Nat.lt_of_lt_of_le hlt (by decide))] at h9
  exact h9
 have hone : Digs [((2 ^ (n % 16) : Nat) : Int)] := zYa ⟨Int.natCast_nonneg _,Int.ofNat_lt.2 hlt⟩
 have hz : Digs (List.replicate (n / 16) 0 ++ l) := zXT (zZe _) hp
 have hzl : (List.replicate (n / 16) (0 : Int) ++ l).length ≤ 400000 := by rw [List.length_append,List.length_replicate];omega
 have hpr := zYW (List.replicate (n / 16) 0 ++ l) [((2 ^ (n % 16) : Nat) : Int)] hz hone hzl (show 1 ≤ 400000 by decide)
 have hval : valD (List.replicate (n / 16) 0 ++ l) * valD [((2 ^ (n % 16) : Nat) : Int)] = valD l * 2 ^ n := by
  rw [zXi,zYP,List.length_replicate]
  simp only [valD,Nat.zero_add,Nat.mul_zero,Nat.add_zero,Int.toNat_natCast]
  rw [zXt,Nat.mul_comm (2 ^ (16 * (n / 16))),Nat.mul_assoc,← Nat.pow_add]
  congr 2
  omega
 rw [hval] at hpr
 have hlen : (toD (valD l * 2 ^ n)).length ≤ 1000000 := by
  have hL : ∀ (L x : Nat),x < 65536 ^ L → (toD x).length ≤ L := by
   intro L
   induction L with
   | zero =>
    intro x h
    have hx0 : x = 0 := by rw [Nat.pow_zero] at h;omega
    rw [hx0,zXn]
    exact Nat.le_refl _
   | succ L ih =>
    intro x h
    by_cases h0 : x = 0
    ·rw [h0,zXn];exact Nat.zero_le _
    ·rw [zYe h0,List.length_cons]
     have : x / 65536 < 65536 ^ L := by
      rw [Nat.pow_succ] at h
      exact Nat.div_lt_of_lt_mul (by rw [Nat.mul_comm];exact h)
     have := ih _ this
     omega
  refine Nat.le_trans (hL (l.length + n) _ ?_) (by omega)
  rw [Nat.pow_add]
  exact Nat.mul_lt_mul_of_lt_of_le (zYr hp) (Nat.pow_le_pow_left (by decide) n) (Nat.pow_pos (by decide))
 have htr := zYv _ (zXd (valD l * 2 ^ n)) hlen
 rw [zXr] at htr
 have hb : Ev (fun k => (r1_Product.f k (List.replicate (n / 16) 0 ++ l) [((2 ^ (n % 16) : Nat) : Int)]).bind fun t => (r1_Trim.f k t).bind fun u => some u) (toD (valD l * 2 ^ n)) := Ev.bind hpr (Ev.bind htr (Ev.now _))
 refine Ev.congr (fun k => ?_) hb
 unfold r1_Up.f
 rw [hq,hr,wrapB _ (by omega) (by omega),if_pos (by omega),if_pos (by omega),Option.bind_some,Int.toNat_natCast,u64_in _ (by omega),if_pos (by rw [List.length_replicate];omega),if_pos (by omega),hsh]
theorem zKD (l : List Int) (hp : Digs l) (i : Nat) (hi : i ≤ 100000000) : r1_Bit.f l (i : Int) = some ((valD l / 2 ^ i % 2 : Nat) : Int) := by
 have hq : Int.tdiv (i : Int) 16 = ((i / 16 : Nat) : Int) := by rw [Int.tdiv_eq_ediv_of_nonneg (by omega)];omega
 have hr : Int.tmod (i : Int) 16 = ((i % 16 : Nat) : Int) := by rw [Int.tmod_eq_emod_of_nonneg (by omega)];omega
 obtain ⟨a,ga,ha2,_⟩ := getDD hp (i / 16)
 have hrl : i % 16 < 16 := Nat.mod_lt _ (by decide)
 have hbit : a / 2 ^ (i % 16) % 2 = valD l / 2 ^ i % 2 := by
  obtain ⟨a',ga',_,hd,_⟩ := zYp l (i / 16) hp
  obtain rfl : a = a' := by rw [ga] at ga';omega
  have hsplit : valD l = valD (l.take (i / 16)) + 65536 ^ (i / 16) * valD (l.drop (i / 16)) := by
   by_cases h : i / 16 ≤ l.length
   ·have := zXi (l.take (i / 16)) (l.drop (i / 16))
    rw [List.take_append_drop,List.length_take,Nat.min_eq_left h] at this
    exact this
   ·rw [List.take_of_length_le (by omega),List.drop_eq_nil_of_le (by omega)]
    simp [valD]
  have hlow := zYk hp (i / 16)
  have hdiv : valD l / 2 ^ (16 * (i / 16)) = valD (l.drop (i / 16)) := by
   rw [← zXt,hsplit,Nat.add_mul_div_left _ _ (zZX _),Nat.div_eq_of_lt hlow,Nat.zero_add]
  have hi2 : i = 16 * (i / 16) + i % 16 := by omega
  conv => rhs;rw [hi2]
  rw [Nat.pow_add,← Nat.div_div_eq_div_mul,hdiv,hd]
  obtain ⟨j,hj⟩ : ∃ j,16 = i % 16 + 1 + j := ⟨16 - (i % 16 + 1),by omega⟩
  have e16 : (65536 : Nat) = 2 ^ (i % 16) * (2 * 2 ^ j) := by
   rw [← Nat.mul_assoc,← Nat.pow_succ,← Nat.pow_add,← hj]
  rw [e16,Nat.mul_assoc,Nat.add_mul_div_left _ _ (Nat.two_pow_pos _),Nat.mul_assoc,Nat.add_mul_mod_self_left]
 unfold r1_Bit.f
 have hsr := shr_u64 a (i % 16) (by omega)
 have hdl : a / 2 ^ (i % 16) < 18446744073709551616 := Nat.lt_of_le_of_lt (Nat.div_le_self ..) (by omega)
 have hand : Go.bits .and .u64 ((a / 2 ^ (i % 16) : Nat) : Int) 1 = ((a / 2 ^ (i % 16) % 2 : Nat) : Int) := by
  have := zYH (a / 2 ^ (i % 16)) 1 hdl (by decide)
  rw [show (1 : Nat) = 2 ^ 1 - 1 from rfl,Nat.and_two_pow_sub_one_eq_mod] at this
  exact this
 rw [hq,hr,wrapB _ (by omega) (by omega),zYf,Option.bind_some,u64_in _ (by omega),if_pos (by omega),ga,hsr,hand,hbit]
theorem zWb (l : List Int) (hp : Digs l) : ∀ n : Nat,n ≤ 100000000 → valD l < 2 ^ n → ∃ L : Nat,L ≤ n ∧ LenIs (valD l) L ∧ Ev (fun k => r1_Len.l0 k l (n : Int)) (L : Int)
 | 0,_,h => by
  rw [Nat.pow_zero] at h
  refine ⟨0,Nat.le_refl _,⟨fun _ => rfl,fun h0 => absurd (by omega) h0⟩,Ev.step (f := fun _ => some 0) (fun k => ?_) (Ev.now _)⟩
  rw [r1_Len.l0,if_neg (by omega)]
  rfl
 | n + 1,hn,h => by
  have hw : wrap64 (((n + 1 : Nat) : Int) - 1) = (n : Int) := by rw [wrapB _ (by omega) (by omega)];omega
  have hb := zKD l hp n (by omega)
  have hpw : (2 : Nat) ^ (n + 1) = 2 * 2 ^ n := by rw [Nat.pow_succ,Nat.mul_comm]
  have hpos := Nat.two_pow_pos n
  have hdl : valD l / 2 ^ n < 2 := by
   rw [Nat.div_lt_iff_lt_mul hpos,← hpw];exact h
  by_cases h0 : valD l / 2 ^ n % 2 = 0
  ·have hlt : valD l < 2 ^ n := by
    have : valD l / 2 ^ n = 0 := even_small _ h0 hdl
    exact (Nat.div_eq_zero_iff_lt hpos).1 this
   obtain ⟨L,h1,h2,h3⟩ := zWb l hp n (by omega) hlt
   refine ⟨L,by omega,h2,Ev.step (fun k => ?_) h3⟩
   rw [r1_Len.l0,if_pos (by omega),hw,hb,Option.bind_some,if_pos (by rw [h0];rfl)]
  ·have hge : 2 ^ n ≤ valD l := by
    apply Nat.le_of_not_lt
    intro hlt
    rw [Nat.div_eq_of_lt hlt] at h0
    exact h0 rfl
   refine ⟨n + 1,Nat.le_refl _,⟨fun h0' => by omega,fun _ => ⟨by omega,by rw [Nat.add_sub_cancel];exact hge,h⟩⟩,Ev.step (f := fun _ => some ((n + 1 : Nat) : Int)) (fun k => ?_) (Ev.now _)⟩
   rw [r1_Len.l0,if_pos (by omega),hw,hb,Option.bind_some,if_neg (fun c => h0 (Int.natCast_eq_zero.1 c))]
theorem zKC (l : List Int) (hp : Digs l) (hl : l.length ≤ 1000000) : ∃ L : Nat,L ≤ 16 * l.length ∧ LenIs (valD l) L ∧ Ev (fun k => r1_Len.f k l) (L : Int) := by
 have hlt := zYr hp
 rw [zXt] at hlt
 obtain ⟨L,h1,h2,h3⟩ := zWb l hp (16 * l.length) (by omega) hlt
 refine ⟨L,h1,h2,Ev.congr (fun k => ?_) h3⟩
 unfold r1_Len.f
 rw [wrapB _ (by omega) (by omega)]
 rfl
theorem zZP : ∀ (L x : Nat),x < 65536 ^ L → (toD x).length ≤ L
 | 0,x,h => by
  have : x = 0 := by rw [Nat.pow_zero] at h;omega
  rw [this,zXn];exact Nat.le_refl _
 | L + 1,x,h => by
  by_cases h0 : x = 0
  ·rw [h0,zXn];exact Nat.zero_le _
  ·rw [zYe h0,List.length_cons]
   have : x / 65536 < 65536 ^ L := by
    rw [Nat.pow_succ] at h
    exact Nat.div_lt_of_lt_mul (by rw [Nat.mul_comm];exact h)
   have := zZP L _ this
   omega
theorem zYy {x m : Nat} (h : x < 2 ^ m) : (toD x).length ≤ m / 16 + 1 := by
 refine zZP _ _ (Nat.lt_of_lt_of_le h ?_)
 rw [zXt]
 exact Nat.pow_le_pow_right (by decide) (by omega)
theorem small_low (x : Nat) (h : x < 18446744073709551616) : r1_Small.f (toD x) = some (x : Int) := by
 have dig : ∀ i : Nat,(toD x).getD i 0 = ((x / 65536 ^ i % 65536 : Nat) : Int) := by
  have g : ∀ (i x : Nat),(toD x).getD i 0 = ((x / 65536 ^ i % 65536 : Nat) : Int) := by
   intro i
   induction i with
   | zero =>
    intro x
    by_cases h0 : x = 0
    ·subst h0;rw [zXn];rfl
    ·rw [zYe h0,Nat.pow_zero,Nat.div_one];rfl
   | succ i ih =>
    intro x
    by_cases h0 : x = 0
    ·subst h0;rw [zXn,Nat.zero_div];rfl
    ·rw [zYe h0,Nat.pow_succ,Nat.mul_comm,← Nat.div_div_eq_div_mul]
     exact ih _
  exact fun i => g i x
 unfold r1_Small.f
 have a0 := zYf (toD x) 0
 have a1 := zYf (toD x) 1
 have a2 := zYf (toD x) 2
 have a3 := zYf (toD x) 3
 rw [dig] at a0 a1 a2 a3
 rw [show ((0 : Int)) = ((0 : Nat) : Int) from rfl,show ((1 : Int)) = ((1 : Nat) : Int) from rfl,show ((2 : Int)) = ((2 : Nat) : Int) from rfl,show ((3 : Int)) = ((3 : Nat) : Int) from rfl,a0,Option.bind_some,a1,Option.bind_some,a2,Option.bind_some,a3,Option.bind_some]
 rw [show (65536 : Nat) ^ 0 = 1 from rfl,show (65536 : Nat) ^ 1 = 65536 from rfl,show (65536 : Nat) ^ 2 = 4294967296 from rfl,show (65536 : Nat) ^ 3 = 281474976710656 from rfl,Nat.div_one]
 obtain ⟨p,hp⟩ : ∃ p,p = x % 65536 := ⟨_,rfl⟩
 obtain ⟨q,hq⟩ : ∃ q,q = x / 65536 % 65536 := ⟨_,rfl⟩
 obtain ⟨r,hr⟩ : ∃ r,r = x / 4294967296 % 65536 := ⟨_,rfl⟩
 obtain ⟨s,hs⟩ : ∃ s,s = x / 281474976710656 % 65536 := ⟨_,rfl⟩
 rw [← hp,← hq,← hr,← hs]
 have w1 : IntKind.u64.wrap ((q : Int) * 65536) = ((q * 65536 : Nat) : Int) := by rw [show ((q : Int) * 65536) = ((q * 65536 : Nat) : Int) by omega,u64_in _ (by omega)]
 have w2 : IntKind.u64.wrap ((r : Int) * 4294967296) = ((r * 4294967296 : Nat) : Int) := by rw [show ((r : Int) * 4294967296) = ((r * 4294967296 : Nat) : Int) by omega,u64_in _ (by omega)]
 have w3 : IntKind.u64.wrap ((s : Int) * 281474976710656) = ((s * 281474976710656 : Nat) : Int) := by rw [show ((s : Int) * 281474976710656) = ((s * 281474976710656 : Nat) : Int) by omega,u64_in _ (by omega)]
 have orr : ∀ (n a b : Nat),a < 2 ^ n → a ||| b * 2 ^ n = a + b * 2 ^ n := by
  intro n a b h
  have := Nat.two_pow_add_eq_or_of_lt (i := n) h b
  rw [Nat.or_comm,Nat.mul_comm b,← this,Nat.add_comm]
 have o1 := orr 16 p q (by show p < 65536;omega)
 have o2 := orr 32 (p + q * 65536) r (by show p + q * 65536 < 4294967296;omega)
 have o3 := orr 48 (p + q * 65536 + r * 4294967296) s (by show p + q * 65536 + r * 4294967296 < 281474976710656;omega)
 rw [show (2 : Nat) ^ 16 = 65536 from rfl] at o1
 rw [show (2 : Nat) ^ 32 = 4294967296 from rfl] at o2
 rw [show (2 : Nat) ^ 48 = 281474976710656 from rfl] at o3
 rw [w1,w2,w3,zYz _ _ (by omega) (by omega),o1,zYz _ _ (by omega) (by omega),o2,zYz _ _ (by omega) (by omega),o3]
 congr 2
 omega
theorem zWm (l : List Int) (hp : Digs l) (lost : Bool) (out : List Int) (i : Nat) (hi : i ≤ 50000000) (r : List Int × Bool)
  (hend : Ev (fun k => if out.length < 17592186044416 then r1_Down.l1 k l lost (out ++ [((valD l / 2 ^ i % 65536 : Nat) : Int)]) (wrap64 ((i : Int) + 16)) else none) r) : ∀ (d t : Nat),t + d = 16 →
  Ev (fun k => r1_Down.l2 k l lost out (i : Int) ((valD l / 2 ^ i % 2 ^ t : Nat) : Int) (t : Int)) r
 | 0,t,ht => by
  obtain rfl : t = 16 := by omega
  refine Ev.step (fun k => ?_) hend
  rw [r1_Down.l2,if_neg (by decide)]
 | d + 1,t,ht => by
  have ih := zWm l hp lost out i hi r hend d (t + 1) (by omega)
  refine Ev.step (fun k => ?_) ih
  have b1 : i + t ≤ 1000000000 := by omega
  have hbit := zKD l hp (i + t) (by omega)
  obtain ⟨x,hx⟩ : ∃ x,x = valD l / 2 ^ i := ⟨_,rfl⟩
  have hsh : valD l / 2 ^ (i + t) = x / 2 ^ t := by rw [Nat.pow_add,← Nat.div_div_eq_div_mul,hx]
  rw [hsh] at hbit
  rw [← hx]
  have hb2 : x / 2 ^ t % 2 < 2 := Nat.mod_lt _ (by decide)
  have hT : 2 ^ t < 65536 := Nat.lt_of_lt_of_le (Nat.pow_lt_pow_right (by decide) (show t < 16 by omega)) (Nat.le_refl _)
  have hm : x % 2 ^ t < 2 ^ t := Nat.mod_lt _ (Nat.two_pow_pos t)
  have hmul : x / 2 ^ t % 2 * 2 ^ t < 131072 := by
   have : x / 2 ^ t % 2 * 2 ^ t ≤ 1 * 2 ^ t := Nat.mul_le_mul_right _ (by omega)
   omega
  have hshl : shl .u64 ((x / 2 ^ t % 2 : Nat) : Int) (t : Int) = ((x / 2 ^ t % 2 * 2 ^ t : Nat) : Int) := by
   rw [zZh _ _ (by omega),Nat.mod_eq_of_lt (Nat.lt_of_lt_of_le hmul (by decide))]
  have hor : x % 2 ^ t ||| x / 2 ^ t % 2 * 2 ^ t = x % 2 ^ (t + 1) := by
   have := Nat.two_pow_add_eq_or_of_lt (i := t) hm (x / 2 ^ t % 2)
   rw [Nat.or_comm,Nat.mul_comm,← this,Nat.pow_succ,Nat.mod_mul,Nat.add_comm]
  have h1 : x % 2 ^ t < 18446744073709551616 := Nat.lt_of_lt_of_le hm (Nat.le_trans (Nat.le_of_lt hT) (by decide))
  have h2 : x / 2 ^ t % 2 * 2 ^ t < 18446744073709551616 := Nat.lt_of_lt_of_le hmul (by decide)
  rw [r1_Down.l2,if_pos (by omega),wrap_add i t b1,hbit,Option.bind_some,u64_in t (by omega),if_pos (by omega),hshl,zYz _ _ h1 h2,hor,zYo t (by omega)]
theorem down_loop (l : List Int) (hp : Digs l) (hl : l.length ≤ 1000000) (n : Nat) (hn : n ≤ 10000000) (lost : Bool) : ∀ (d q : Nat) (out : List Int),16 * l.length ≤ n + 16 * (q + d) → q ≤ 1000000 → q + d ≤ 1000001 → out.length = q → Digs out → valD out = valD l / 2 ^ n % 65536 ^ q →
  (q = 0 ∨ n + 16 * (q - 1) < 16 * l.length) →
  Ev (fun k => r1_Down.l1 k l lost out ((n + 16 * q : Nat) : Int)) (toD (valD l / 2 ^ n),lost) := by
 intro d
 induction d with
 | zero =>
  intro q out h1 h2 h2' h3 h4 h5 h6
  have hlt : valD l / 2 ^ n < 65536 ^ q := by
   rw [Nat.div_lt_iff_lt_mul (Nat.two_pow_pos n),zXt,← Nat.pow_add]
   have := zYr hp
   rw [zXt] at this
   exact Nat.lt_of_lt_of_le this (Nat.pow_le_pow_right (by decide) (by omega))
  rw [Nat.mod_eq_of_lt hlt] at h5
  have ht := zYv out h4 (by omega)
  rw [h5] at ht
  refine Ev.step (fun k => ?_) (Ev.bind (f := fun _ t => some (t,lost)) ht (Ev.now _))
  rw [r1_Down.l1,wrapB (16 * _) (by omega) (by omega),if_neg (by omega)]
 | succ d ih =>
  intro q out h1 h2 h2' h3 h4 h5 h6
  by_cases hc : n + 16 * q < 16 * l.length
  ·have hnext := ih (q + 1) (out ++ [((valD l / 2 ^ (n + 16 * q) % 65536 : Nat) : Int)]) (by omega) (by omega) (by omega) (by rw [List.length_append,List.length_singleton];omega) (zXT h4 (zYa ⟨Int.natCast_nonneg _,Int.ofNat_lt.2 (Nat.mod_lt _ (by decide))⟩)) (by
     rw [zXi,h3,h5,Nat.pow_add,← Nat.div_div_eq_div_mul,zXt q]
     simp only [valD,Nat.mul_zero,Nat.add_zero,Int.toNat_natCast]
     rw [← zXt,Nat.pow_succ,Nat.mod_mul]) (.inr (by omega))
   have hend : Ev (fun k => if out.length < 17592186044416 then r1_Down.l1 k l lost (out ++ [((valD l / 2 ^ (n + 16 * q) % 65536 : Nat) : Int)]) (wrap64 (((n + 16 * q : Nat) : Int) + 16)) else none) (toD (valD l / 2 ^ n),lost) := by
    refine Ev.congr (fun k => ?_) hnext
    rw [if_pos (by omega),wrapB _ (by omega) (by omega)]
    congr 1
   have hb := zWm l hp lost out (n + 16 * q) (by omega) _ hend 16 0 (by omega)
   rw [Nat.pow_zero,Nat.mod_one] at hb
   refine Ev.step (fun k => ?_) hb
   rw [r1_Down.l1,wrapB (16 * _) (by omega) (by omega),if_pos (by omega)]
   rfl
  ·
   have hlt : valD l / 2 ^ n < 65536 ^ q := by
    rw [Nat.div_lt_iff_lt_mul (Nat.two_pow_pos n),zXt,← Nat.pow_add]
    have := zYr hp
    rw [zXt] at this
    exact Nat.lt_of_lt_of_le this (Nat.pow_le_pow_right (by decide) (by omega))
   rw [Nat.mod_eq_of_lt hlt] at h5
   have ht := zYv out h4 (by omega)
   rw [h5] at ht
   refine Ev.step (fun k => ?_) (Ev.bind (f := fun _ t => some (t,lost)) ht (Ev.now _))
   rw [r1_Down.l1,wrapB (16 * _) (by omega) (by omega),if_neg (by omega)]
theorem zWj (l : List Int) (hp : Digs l) (hl : l.length ≤ 1000000) (n : Nat) (hn : n ≤ 10000000) : ∀ (d i : Nat),i + d = min n (16 * l.length) →
  Ev (fun k => r1_Down.l0 k l (n : Int) (decide (valD l % 2 ^ i ≠ 0)) (i : Int)) (toD (valD l / 2 ^ n),decide (valD l % 2 ^ n ≠ 0))
 | 0,i,hi => by
  have hlost : decide (valD l % 2 ^ i ≠ 0) = decide (valD l % 2 ^ n ≠ 0) := by
   by_cases h : n ≤ 16 * l.length
   ·rw [show i = n by omega]
   ·have hv := zYr hp
    rw [zXt] at hv
    rw [Nat.mod_eq_of_lt (Nat.lt_of_lt_of_le hv (Nat.pow_le_pow_right (by decide) (by omega))),Nat.mod_eq_of_lt (Nat.lt_of_lt_of_le hv (Nat.pow_le_pow_right (by decide) (by omega)))]
  rw [hlost]
  have hd := down_loop l hp hl n hn (decide (valD l % 2 ^ n ≠ 0)) (1000001 - 1) 0 [] (by omega) (by omega) (by omega) rfl (fun y hy => by cases hy) (by rw [Nat.pow_zero,Nat.mod_one];rfl) (.inl rfl)
  rw [Nat.mul_zero,Nat.add_zero] at hd
  have hj : Ev (fun k => r1_Down.j1 k l (n : Int) (decide (valD l % 2 ^ n ≠ 0))) (toD (valD l / 2 ^ n),decide (valD l % 2 ^ n ≠ 0)) := Ev.step (fun k => by rw [r1_Down.j1]) hd
  refine Ev.step (fun k => ?_) hj
  rw [r1_Down.l0]
  by_cases h : (i : Int) < (n : Int)
  ·rw [if_pos h,wrapB (16 * _) (by omega) (by omega),if_neg (by omega)]
  ·rw [if_neg h]
 | d + 1,i,hi => by
  have ih := zWj l hp hl n hn d (i + 1) (by omega)
  have hbit := zKD l hp i (by omega)
  have hs : valD l % 2 ^ (i + 1) = valD l % 2 ^ i + 2 ^ i * (valD l / 2 ^ i % 2) := by rw [Nat.pow_succ,Nat.mod_mul]
  refine Ev.step (fun k => ?_) ih
  rw [r1_Down.l0,if_pos (by omega),wrapB (16 * _) (by omega) (by omega),if_pos (by omega)]
  by_cases h : valD l % 2 ^ i ≠ 0
  ·rw [decide_eq_true h,if_pos rfl,zYo i (by omega),decide_eq_true (by rw [hs];omega)]
  ·rw [decide_eq_false h,if_neg (by decide),hbit,Option.bind_some,zYo i (by omega)]
   congr 1
   rw [hs]
   have h0 : valD l % 2 ^ i = 0 := Decidable.not_not.1 h
   rw [h0,Nat.zero_add]
   have hm : valD l / 2 ^ i % 2 < 2 := Nat.mod_lt _ (by decide)
   obtain ⟨b,hb⟩ : ∃ b,b = valD l / 2 ^ i % 2 := ⟨_,rfl⟩
   rw [← hb] at hm ⊢
   have hpos := Nat.two_pow_pos i
   rcases (show b = 0 ∨ b = 1 by omega) with e | e
   ·subst e;rw [Nat.mul_zero];rfl
   ·subst e;rw [Nat.mul_one,decide_eq_true (by omega)];rfl
theorem rdown_ev (l : List Int) (hp : Digs l) (hl : l.length ≤ 1000000) (n : Nat) (hn : n ≤ 10000000) : Ev (fun k => r1_Down.f k l (n : Int)) (toD (valD l / 2 ^ n),decide (valD l % 2 ^ n ≠ 0)) := by
 have h := zWj l hp hl n hn (min n (16 * l.length)) 0 (by omega)
 rw [Nat.pow_zero,Nat.mod_one] at h
 exact h
end Go.Proofs.YtflcanpajgpghaaGreatDoor.Pure
end
section
namespace Go.Proofs.YtflcanpajgpghaaGreatDoor.Pure
open Go.RowKit Go.Proofs.YtflcanpajgpghaaGreatDoor.Pr Go.Proofs.YtflcanpajgpghaaGreatDoorW.PrintWords Go.Proofs.YtflcanpajgpghaaGreatDoorW.PrintLast Go.Proofs.YtflcanpajgpghaaGreatDoorW.PrintMore Go.Proofs.YtflcanpajgpghaaGreatDoor.Flo
theorem zKH {x L m : Nat} (h : LenIs x L) (hm : x < 2 ^ m) : L ≤ m := by
 by_cases h0 : x = 0
 ·rw [h.1 h0];exact Nat.zero_le _
 ·obtain ⟨_,h2,_⟩ := h.2 h0
  apply Nat.le_of_not_lt
  intro hlt
  have : 2 ^ m ≤ 2 ^ (L - 1) := Nat.pow_le_pow_right (by decide) (by omega)
  omega
theorem set_bit (q : List Int) (hq : Digs q) (i t : Nat) (hi : i / 16 < q.length) (hv : valD q = 2 ^ (i + 1) * t) : ∃ a : Nat,q.getD (i / 16) 0 = (a : Int) ∧ a + 2 ^ (i % 16) < 65536 ∧ Go.bits .or .u64 (a : Int) (shl .u64 1 ((i % 16 : Nat) : Int)) = ((a + 2 ^ (i % 16) : Nat) : Int) ∧
  valD (q.set (i / 16) ((a + 2 ^ (i % 16) : Nat) : Int)) = 2 ^ i * (2 * t + 1) := by
 obtain ⟨a,ga,ha2,hd,_⟩ := zYp q (i / 16) hq
 have hrl : i % 16 < 16 := Nat.mod_lt _ (by decide)
 have hsplit : valD q = valD (q.take (i / 16)) + 65536 ^ (i / 16) * valD (q.drop (i / 16)) := by
  have := zXi (q.take (i / 16)) (q.drop (i / 16))
  rw [List.take_append_drop,List.length_take,Nat.min_eq_left (Nat.le_of_lt hi)] at this
  exact this
 have hlow := zYk hq (i / 16)
 have hi2 : i + 1 = 16 * (i / 16) + (i % 16 + 1) := by omega
 have hmul : valD q / 65536 ^ (i / 16) = 2 ^ (i % 16 + 1) * t := by
  rw [hv,hi2,Nat.pow_add,← zXt,Nat.mul_assoc,Nat.mul_div_cancel_left _ (zZX _)]
 rw [hsplit,Nat.add_mul_div_left _ _ (zZX _),Nat.div_eq_of_lt hlow,Nat.zero_add,hd] at hmul
 obtain ⟨j,hj⟩ : ∃ j,16 = i % 16 + 1 + j := ⟨16 - (i % 16 + 1),by omega⟩
 have e16 : (65536 : Nat) = 2 ^ (i % 16 + 1) * 2 ^ j := by rw [← Nat.pow_add,← hj]
 have hamod : a % 2 ^ (i % 16 + 1) = 0 := by
  have h1 : (a + 65536 * valD (q.drop (i / 16 + 1))) % 2 ^ (i % 16 + 1) = 0 := by rw [hmul,Nat.mul_mod_right]
  rw [e16,Nat.mul_assoc,Nat.add_mul_mod_self_left] at h1
  exact h1
 obtain ⟨s,hs⟩ : ∃ s,a = 2 ^ (i % 16 + 1) * s := ⟨a / 2 ^ (i % 16 + 1),by
  have := Nat.div_add_mod a (2 ^ (i % 16 + 1))
  rw [hamod,Nat.add_zero] at this
  exact this.symm⟩
 have hp2 : 2 ^ (i % 16) < 2 ^ (i % 16 + 1) := Nat.pow_lt_pow_right (by decide) (by omega)
 have hbound : a + 2 ^ (i % 16) < 65536 := by
  have h1 : s < 2 ^ j := by
   rw [hs,e16] at ha2
   exact Nat.lt_of_mul_lt_mul_left ha2
  have h2 : 2 ^ (i % 16 + 1) * (s + 1) ≤ 2 ^ (i % 16 + 1) * 2 ^ j := Nat.mul_le_mul_left _ h1
  rw [Nat.mul_succ,← e16,← hs] at h2
  omega
 have hp3 : 2 ^ (i % 16) < 65536 := by omega
 have hsh : shl .u64 1 ((i % 16 : Nat) : Int) = ((2 ^ (i % 16) : Nat) : Int) := by
  have h9 := zZh 1 (i % 16) (by omega)
  rw [Nat.one_mul,Nat.mod_eq_of_lt (Nat.lt_of_lt_of_le hp3 (by decide))] at h9
  exact h9
 refine ⟨a,ga,hbound,?_,?_⟩
 ·rw [hsh,zYz _ _ (by omega) (by omega),hs,or_bit]
 ·have := zKA q (i / 16) (a + 2 ^ (i % 16)) hi a ga
  rw [Nat.mul_add,hv] at this
  have e : 65536 ^ (i / 16) * 2 ^ (i % 16) = 2 ^ i := by
   rw [zXt,← Nat.pow_add]
   congr 1
   omega
  rw [e] at this
  have e2 : 2 ^ (i + 1) * t = 2 ^ i * (2 * t) := by rw [Nat.pow_succ,Nat.mul_assoc]
  rw [e2] at this
  rw [Nat.mul_succ]
  omega
theorem zKJ (l b : List Int) (hp : Digs l) (hb : Digs b) (hb0 : valD b ≠ 0) (hl : l.length ≤ 100000) (hbl : b.length ≤ 100000) : ∀ (i : Nat) (q : List Int) (r t : Nat),i ≤ 16 * l.length → q.length = l.length → Digs q → valD q = 2 ^ i * t → valD l / 2 ^ i = t * valD b + r → r < valD b →
  Ev (fun k => r1_Divide.l0 k l b q (toD r) ((i : Int) - 1)) (toD (valD l / valD b),toD (valD l % valD b))
 | 0,q,r,t,hi,hql,hq,hv,hdiv,hr => by
  rw [Nat.pow_zero,Nat.div_one] at hdiv
  rw [Nat.pow_zero,Nat.one_mul] at hv
  have hpos : 0 < valD b := Nat.pos_of_ne_zero hb0
  have e1 : valD l / valD b = t := by rw [hdiv,Nat.mul_comm t,Nat.mul_add_div hpos,Nat.div_eq_of_lt hr,Nat.add_zero]
  have e2 : valD l % valD b = r := by rw [hdiv,Nat.mul_comm t,Nat.mul_add_mod,Nat.mod_eq_of_lt hr]
  rw [e1,e2]
  have ht := zYv q hq (by omega)
  rw [hv] at ht
  refine Ev.step (fun k => ?_) (Ev.bind (f := fun _ u => some (u,toD r)) ht (Ev.now _))
  rw [r1_Divide.l0,if_neg (by omega)]
 | i + 1,q,r,t,hi,hql,hq,hv,hdiv,hr => by
  have hrl : (toD r).length ≤ b.length := zZP _ _ (Nat.lt_trans hr (zYr hb))
  have hup := rup_ev (toD r) (zXd r) 1 (by omega)
  rw [zXr,Nat.pow_one] at hup
  have hbit := zKD l hp i (by omega)
  obtain ⟨c,hc⟩ : ∃ c,c = valD l / 2 ^ i % 2 := ⟨_,rfl⟩
  rw [← hc] at hbit
  have hc2 : c < 2 := by rw [hc];exact Nat.mod_lt _ (by decide)
  have hone : Digs [(c : Int)] := zYa (by omega)
  have h2l : (toD (r * 2)).length ≤ b.length + 1 := by
   refine zZP _ _ ?_
   rw [Nat.pow_succ]
   exact Nat.mul_lt_mul_of_lt_of_le (Nat.lt_trans hr (zYr hb)) (by decide) (by decide)
  have hsum := rsum_ev (toD (r * 2)) [(c : Int)] (zXd _) hone (by omega) (show 1 ≤ 900000 by decide)
  have hvone : valD [(c : Int)] = c := by simp [valD]
  rw [zXr,hvone] at hsum
  have h3l : (toD (r * 2 + c)).length ≤ b.length + 1 := by
   refine zZP _ _ ?_
   rw [Nat.pow_succ]
   have h1 := Nat.lt_trans hr (zYr hb)
   have h2 : (r + 1) * 2 ≤ 65536 ^ b.length * 65536 := Nat.mul_le_mul h1 (by decide)
   omega
  obtain ⟨o,ho,ho1⟩ := rcmp_ev (toD (r * 2 + c)) b (zXd _) hb (by omega) (by omega)
  rw [zXr] at ho1
  have hdiv2 : valD l / 2 ^ i = 2 * (t * valD b + r) + c := by
   have h1 : valD l / 2 ^ i / 2 = valD l / 2 ^ (i + 1) := by rw [Nat.div_div_eq_div_mul,Nat.pow_succ]
   rw [hdiv] at h1
   omega
  have hk : ((i + 1 : Nat) : Int) - 1 = (i : Int) := by omega
  have hwi : wrap64 ((i : Int) - 1) = (i : Int) - 1 := wrapB _ (by omega) (by omega)
  have hq16 : wrap64 (Int.tdiv (i : Int) 16) = ((i / 16 : Nat) : Int) := by rw [Int.tdiv_eq_ediv_of_nonneg (by omega),wrapB _ (by omega) (by omega)];omega
  have hr16 : IntKind.u64.wrap (Int.tmod (i : Int) 16) = ((i % 16 : Nat) : Int) := by rw [Int.tmod_eq_emod_of_nonneg (by omega),show ((i : Int) % 16) = ((i % 16 : Nat) : Int) by omega,u64_in _ (by omega)]
  have hin : i / 16 < q.length := by rw [hql];exact Nat.div_lt_of_lt_mul (by omega)
  by_cases hge : o ≥ 0
  ·have hle := ho1.1 hge
   have hmin := rminus_ev (toD (r * 2 + c)) b (zXd _) hb (by omega) (by rw [zXr];exact hle)
   rw [zXr] at hmin
   obtain ⟨a,ga,ha2,hor,hval⟩ := set_bit q hq i t hin hv
   have ih := zKJ l b hp hb hb0 hl hbl i (q.set (i / 16) ((a + 2 ^ (i % 16) : Nat) : Int)) (r * 2 + c - valD b) (2 * t + 1) (by omega) (by rw [List.length_set];exact hql) (zKK hq _ ⟨Int.natCast_nonneg _,Int.ofNat_lt.2 ha2⟩) hval
    (by rw [hdiv2,Nat.add_mul,Nat.one_mul,Nat.mul_assoc];omega) (by omega)
   have q2 : (0 : Int) ≤ ((i / 16 : Nat) : Int) := Int.natCast_nonneg _
   have q3 : ((i / 16 : Nat) : Int) < ((q.length : Nat) : Int) := Int.ofNat_lt.2 hin
   have q4 : (0 : Int) ≤ ((i % 16 : Nat) : Int) := Int.natCast_nonneg _
   have q5 : (0 : Int) ≤ ((i : Nat) : Int) := Int.natCast_nonneg _
   refine Ev.step (fun k => ?_) (Ev.bind hup (f := fun k t567 => (r1_Sum.f k t567 [(c : Int)]).bind fun t574 => (r1_Cmp.f k t574 b).bind fun t577 => if t577 ≥ 0 then ((r1_Minus.f k t574 b).bind fun t578 => r1_Divide.l0 k l b (q.set (i / 16) ((a + 2 ^ (i % 16) : Nat) : Int)) t578 ((i : Int) - 1)) else r1_Divide.l0 k l b q t574 ((i : Int) - 1))
    (Ev.bind hsum (Ev.bind ho (Ev.congr (fun k => if_pos hge) (Ev.bind hmin (f := fun k t578 => r1_Divide.l0 k l b (q.set (i / 16) ((a + 2 ^ (i % 16) : Nat) : Int)) t578 ((i : Int) - 1)) ih)))))
   rw [hk,r1_Divide.l0,if_pos q5,hbit,hwi,hq16,hr16]
   simp only [Option.bind_some,if_pos q2,if_pos q3,if_pos q4,Int.toNat_natCast,zXY,ga,hor]
   rfl
  ·have hlt : r * 2 + c < valD b := by
    apply Nat.lt_of_not_le
    intro hle
    exact hge (ho1.2 hle)
   have ih := zKJ l b hp hb hb0 hl hbl i q (r * 2 + c) (2 * t) (by omega) hql hq (by rw [hv,Nat.pow_succ,Nat.mul_assoc])
    (by rw [hdiv2,Nat.mul_assoc];omega) hlt
   have q5 : (0 : Int) ≤ ((i : Nat) : Int) := Int.natCast_nonneg _
   refine Ev.step (fun k => ?_) (Ev.bind hup (f := fun k t567 => (r1_Sum.f k t567 [(c : Int)]).bind fun t574 => (r1_Cmp.f k t574 b).bind fun t577 => if t577 ≥ 0 then ((r1_Minus.f k t574 b).bind fun t578 => if 0 ≤ ((i / 16 : Nat) : Int) then (if ((i / 16 : Nat) : Int) < ((q.length : Nat) : Int) then (if 0 ≤ ((i % 16 : Nat) : Int) then r1_Divide.l0 k l b (q.set ((i / 16 : Nat) : Int).toNat (Go.bits .or .u64 (rd q ((i / 16 : Nat) : Int)) (shl .u64 1 ((i % 16 : Nat) : Int)))) t578 ((i : Int) - 1) else none) else none) else none) else r1_Divide.l0 k l b q t574 ((i : Int) - 1))
    (Ev.bind hsum (Ev.bind ho (Ev.congr (fun k => if_neg hge) ih))))
   rw [hk,r1_Divide.l0,if_pos q5,hbit,hwi,hq16,hr16]
   simp only [Option.bind_some]
   rfl
theorem rdiv_ev (l b : List Int) (hp : Digs l) (hb : Digs b) (hb0 : valD b ≠ 0) (hl : l.length ≤ 100000) (hbl : b.length ≤ 100000) : Ev (fun k => r1_Divide.f k l b) (toD (valD l / valD b),toD (valD l % valD b)) := by
 obtain ⟨L,h1,h2,h3⟩ := zKC l hp (by omega)
 have hlt := lenIs_lt h2
 have hz : valD l / 2 ^ L = 0 := Nat.div_eq_of_lt hlt
 have h := zKJ l b hp hb hb0 hl hbl L (List.replicate l.length 0) 0 0 h1 (List.length_replicate ..) (zZe _) (by rw [zYP,Nat.mul_zero]) (by rw [hz,Nat.zero_mul]) (Nat.pos_of_ne_zero hb0)
 rw [zXn] at h
 have q1 : (0 : Int) ≤ ((l.length : Nat) : Int) := Int.natCast_nonneg _
 refine Ev.congr (fun k => ?_) (Ev.bind h3 (f := fun k t => r1_Divide.l0 k l b (List.replicate l.length 0) [] (wrap64 (t - 1))) (Ev.congr (fun k => by rw [wrapB _ (by omega) (by omega)]) h))
 unfold r1_Divide.f
 rw [if_pos q1,Int.toNat_natCast,if_pos (by omega)]
theorem ten_loop (M : Nat) (hMM : M ≤ 100000) : ∀ (n a p : Nat),n ≤ 1000000 → 1 ≤ a → 1 ≤ p → a * p ^ (2 * n) < 2 ^ M → Ev (fun k => r5_Ten.l0 k (n : Int) (toD a) (toD p)) (toD (a * p ^ n)) := by
 intro n
 induction n using Nat.strongRecOn with
 | _ n ih =>
  intro a p hn ha hp hM
  by_cases h0 : n = 0
  ·subst h0
   rw [Nat.pow_zero,Nat.mul_one]
   refine Ev.step (f := fun _ => some (toD a)) (fun k => ?_) (Ev.now _)
   rw [r5_Ten.l0,if_neg (by omega)]
  ·have hpp : p ≤ p ^ (2 * n) := by
    have := Nat.pow_le_pow_right hp (show 1 ≤ 2 * n by omega)
    rwa [Nat.pow_one] at this
   have hp1 : 1 ≤ p ^ (2 * n) := Nat.pow_pos hp
   have haM : a < 2 ^ M := Nat.lt_of_le_of_lt (Nat.le_mul_of_pos_right _ hp1) hM
   have hpM : p < 2 ^ M := Nat.lt_of_le_of_lt (Nat.le_trans hpp (Nat.le_mul_of_pos_left _ ha)) hM
   have la := zYy haM
   have lp := zYy hpM
   have hsq := zYW (toD p) (toD p) (zXd _) (zXd _) (by omega) (by omega)
   rw [zXr] at hsq
   have hap := zYW (toD a) (toD p) (zXd _) (zXd _) (by omega) (by omega)
   rw [zXr,zXr] at hap
   have hw : wrap64 (Int.tdiv (n : Int) 2) = ((n / 2 : Nat) : Int) := by rw [Int.tdiv_eq_ediv_of_nonneg (by omega),wrapB _ (by omega) (by omega)];omega
   have hm : Int.tmod (n : Int) 2 = ((n % 2 : Nat) : Int) := by rw [Int.tmod_eq_emod_of_nonneg (by omega)];omega
   have hp2 : ∀ z,(p * p) ^ z = p ^ (2 * z) := fun z => by rw [Nat.pow_mul,Nat.pow_two]
   by_cases ho : n % 2 = 1
   ·have g := ih (n / 2) (by omega) (a * p) (p * p) (by omega) (Nat.mul_pos ha hp) (Nat.mul_pos hp hp) (by
      rw [hp2,Nat.mul_assoc,← Nat.pow_succ']
      exact Nat.lt_of_le_of_lt (Nat.mul_le_mul_left _ (Nat.pow_le_pow_right hp (by omega))) hM)
    have e : a * p * (p * p) ^ (n / 2) = a * p ^ n := by
     rw [hp2,Nat.mul_assoc,← Nat.pow_succ']
     congr 2
     omega
    rw [e] at g
    refine Ev.step (fun k => ?_) (Ev.bind hap (f := fun k t529 => (r1_Product.f k (toD p) (toD p)).bind fun t532 => r5_Ten.l0 k ((n / 2 : Nat) : Int) t529 t532) (Ev.bind hsq g))
    rw [r5_Ten.l0,if_pos (by omega),hm,if_pos (by rw [ho];rfl),hw]
   ·have ho' : ¬ ((n % 2 : Nat) : Int) = 1 := by omega
    have g := ih (n / 2) (by omega) a (p * p) (by omega) ha (Nat.mul_pos hp hp) (by
      rw [hp2]
      exact Nat.lt_of_le_of_lt (Nat.mul_le_mul_left _ (Nat.pow_le_pow_right hp (by omega))) hM)
    have e : a * (p * p) ^ (n / 2) = a * p ^ n := by
     rw [hp2]
     congr 2
     omega
    rw [e] at g
    refine Ev.step (fun k => ?_) (Ev.bind hsq (f := fun k t535 => r5_Ten.l0 k ((n / 2 : Nat) : Int) (toD a) t535) g)
    rw [r5_Ten.l0,if_pos (by omega),hm,if_neg ho',hw]
theorem ten_ev (n : Nat) (hn : n ≤ 2000) : Ev (fun k => r5_Ten.f k (n : Int)) (toD (10 ^ n)) := by
 have h := ten_loop (4 * (2 * n) + 1) (by omega) n 1 10 (by omega) (by decide) (by decide) (by
  rw [Nat.one_mul]
  exact zYS (2 * n))
 rw [Nat.one_mul] at h
 have h1 : toD 1 = [1] := by rw [zYe (by decide)];show (1 : Int) :: toD 0 = [1];rw [zXn]
 have h10 : toD 10 = [10] := by rw [zYe (by decide)];show (10 : Int) :: toD 0 = [10];rw [zXn]
 rw [h1,h10] at h
 exact h
theorem zKh (s : ByteArray) (hs : zXI s) (hsz : s.size ≤ 1000) : ∀ d i : Nat,i + d = s.size → Ev (fun k => r5_Whole.l0 k s (toD (dval s i)) (i : Int)) (toD (dval s s.size))
 | 0,i,hi => by
  obtain rfl : i = s.size := by omega
  refine Ev.step (f := fun _ => some (toD (dval s s.size))) (fun k => ?_) (Ev.now _)
  rw [r5_Whole.l0,if_neg (by omega)]
 | d + 1,i,hi => by
  have ih := zKh s hs hsz d (i + 1) (by omega)
  have hb := hs i (by omega)
  have hlt : dval s i < 2 ^ (4 * i + 1) := Nat.lt_trans (zZV s hs i (by omega)) (zYS i)
  have hlt2 : dval s i * 10 < 2 ^ (4 * i + 1 + 4) := by rw [Nat.pow_add];exact Nat.mul_lt_mul_of_lt_of_le hlt (by decide) (by decide)
  have l1 := zYy hlt
  have l2 := zYy hlt2
  have hten : Digs [(10 : Int)] := zYa (by omega)
  have hdig : Digs [((bt s (i : Int) - 48).toNat : Int)] := zYa (by omega)
  have hpr := zYW (toD (dval s i)) [10] (zXd _) hten (by omega) (show 1 ≤ 400000 by decide)
  rw [zXr,show valD [(10 : Int)] = 10 from rfl] at hpr
  have hsu := rsum_ev (toD (dval s i * 10)) [((bt s (i : Int) - 48).toNat : Int)] (zXd _) hdig (by omega) (show 1 ≤ 900000 by decide)
  rw [zXr,show valD [((bt s (i : Int) - 48).toNat : Int)] = (bt s (i : Int) - 48).toNat by rw [valD,valD,Int.toNat_natCast,Nat.mul_zero,Nat.add_zero]] at hsu
  have hbt : (bt s (i : Int) - 48) % 256 = (((bt s (i : Int) - 48).toNat : Nat) : Int) := by omega
  refine Ev.step (fun k => ?_) (Ev.bind hpr (f := fun k t463 => (r1_Sum.f k t463 [((bt s (i : Int) - 48).toNat : Int)]).bind fun t469 => r5_Whole.l0 k s t469 ((i + 1 : Nat) : Int)) (Ev.bind hsu ih))
  rw [r5_Whole.l0,if_pos (by omega),hbt,zYo i (by omega)]
  have q : (0 : Int) ≤ (i : Int) := Int.natCast_nonneg _
  simp only [if_pos q]
theorem whole_ev (s : ByteArray) (hs : zXI s) (hsz : s.size ≤ 1000) : Ev (fun k => r5_Whole.f k s) (toD (dval s s.size)) := by
 have h := zKh s hs hsz s.size 0 (by omega)
 have e0 : dval s 0 = 0 := rfl
 rw [e0,zXn] at h
 exact h
theorem zZg : r1_Sign.f false = some 0 := rfl
theorem zZR : r1_Infinite.f false = some ((INF : Nat) : Int) := by kernel_rfl
theorem rjoin_ev (e : Int) (j R : Nat) (hj : (j : Int) = e + 1074) (hb : j ≤ 100000) (hR : R ≤ 9007199254740992) (h2 : j = 0 ∨ 4503599627370496 ≤ R) :
  Ev (fun k => r1_Round.j4 k false e (R : Int)) ((min (j * 4503599627370496 + R) INF : Nat) : Int) := by
 have hj5 : ∀ (e' : Int) (j' R' : Nat),(j' : Int) = e' + 1074 → j' ≤ 100001 → R' < 9007199254740992 → (j' = 0 ∨ 4503599627370496 ≤ R') → Ev (fun k => r1_Round.j5 k false e' (R' : Int)) ((min (j' * 4503599627370496 + R') INF : Nat) : Int) := by
  intro e' j' R' hj' hb' hR' h2'
  refine Ev.step (f := fun _ => some ((min (j' * 4503599627370496 + R') INF : Nat) : Int)) (fun k => ?_) (Ev.now _)
  rw [r1_Round.j5]
  by_cases ho : e' > 971
  ·rw [if_pos ho,zZR,Option.bind_some]
   unfold INF
   rw [Nat.min_eq_right (by omega)]
  ·rw [if_neg ho]
   by_cases hs : R' < 4503599627370496
   ·obtain rfl : j' = 0 := by omega
    rw [if_pos (by omega),zZg,Option.bind_some,zYg _ (by omega),Nat.zero_mul,Nat.zero_add]
    unfold INF
    rw [Nat.min_eq_left (by omega)]
   ·rw [if_neg (by omega),zZg,Option.bind_some,wrapB _ (by omega) (by omega)]
    have h1 : IntKind.u64.wrap (e' + 1075) = ((j' + 1 : Nat) : Int) := by rw [show (e' + 1075) = ((j' + 1 : Nat) : Int) by omega,u64_in _ (by omega)]
    have h3 : IntKind.u64.wrap (((j' + 1 : Nat) : Int) * 4503599627370496) = (((j' + 1) * 4503599627370496 : Nat) : Int) := by rw [show (((j' + 1 : Nat) : Int) * 4503599627370496) = (((j' + 1) * 4503599627370496 : Nat) : Int) by omega,u64_in _ (by omega)]
    have h4 : IntKind.u64.wrap ((R' : Int) - 4503599627370496) = ((R' - 4503599627370496 : Nat) : Int) := by rw [show ((R' : Int) - 4503599627370496) = ((R' - 4503599627370496 : Nat) : Int) by omega,u64_in _ (by omega)]
    rw [h1,h3,h4,zYg _ (by omega),zWC _ _ (by omega) (by omega)]
    unfold INF
    rw [Nat.min_eq_left (by omega)]
    exact congrArg (fun z : Nat => some (z : Int)) (by omega)
 by_cases hbig : R = 9007199254740992
 ·subst hbig
  have g := hj5 (e + 1) (j + 1) 4503599627370496 (by omega) (by omega) (by decide) (.inr (by decide))
  rw [show (j + 1) * 4503599627370496 + 4503599627370496 = j * 4503599627370496 + 9007199254740992 by omega] at g
  refine Ev.step (fun k => ?_) g
  rw [r1_Round.j4,if_pos (by rfl),wrapB _ (by omega) (by omega)]
  rfl
 ·have g := hj5 e j R hj (by omega) (by omega) h2
  refine Ev.step (fun k => ?_) g
  rw [r1_Round.j4,if_neg (by omega)]
def rnd2 (y : Nat) (lost : Bool) : Nat := if 2 < y % 4 ∨ (y % 4 = 2 ∧ (lost = true ∨ y / 4 % 2 = 1)) then y / 4 + 1 else y / 4
theorem rtail_ev (y : Nat) (lost : Bool) (e : Int) (j : Nat) (hy : y < 36028797018963968) (hj : (j : Int) = e + 1074) (hb : j ≤ 100000) (h2 : j = 0 ∨ 4503599627370496 ≤ y / 4) :
  Ev (fun k => r1_Round.j2 k false e (toD y) lost) ((min (j * 4503599627370496 + rnd2 y lost) INF : Nat) : Int) := by
 have hs := small_low y (by omega)
 have hlow : Go.bits .and .u64 (y : Int) 3 = ((y % 4 : Nat) : Int) := by
  have := zYH y 3 (by omega) (by decide)
  rw [show (3 : Nat) = 2 ^ 2 - 1 from rfl,Nat.and_two_pow_sub_one_eq_mod] at this
  exact this
 have hq : ((y : Int) / 4) = ((y / 4 : Nat) : Int) := by omega
 have hmod : Int.tmod ((y / 4 : Nat) : Int) 2 = ((y / 4 % 2 : Nat) : Int) := by rw [Int.tmod_eq_emod_of_nonneg (by omega)];omega
 have hj3 : ∀ (z : Bool),Ev (fun k => r1_Round.j3 k false e ((y / 4 : Nat) : Int) z) ((min (j * 4503599627370496 + (if z = true then y / 4 + 1 else y / 4)) INF : Nat) : Int) := by
  intro z
  have g := rjoin_ev e j (if z = true then y / 4 + 1 else y / 4) hj hb (by split <;> omega) (by split <;> omega)
  refine Ev.step (fun k => ?_) g
  rw [r1_Round.j3]
  cases z with
  | true => rw [if_pos rfl,if_pos rfl,show (((y / 4 : Nat) : Int) + 1) = ((y / 4 + 1 : Nat) : Int) by omega,u64_in _ (by omega)]
  | false => rw [if_neg (by decide),if_neg (by decide)]
 have hgo : ∀ z : Bool,(z = true ↔ (2 < y % 4 ∨ (y % 4 = 2 ∧ (lost = true ∨ y / 4 % 2 = 1)))) → (if z = true then y / 4 + 1 else y / 4) = rnd2 y lost := by
  intro z hz
  unfold rnd2
  cases z with
  | true => rw [if_pos rfl,if_pos (hz.1 rfl)]
  | false => rw [if_neg (by decide),if_neg (fun c => by have := hz.2 c;cases this)]
 by_cases c1 : 2 < y % 4
 ·have g := hj3 true
  rw [hgo true ⟨fun _ => .inl c1,fun _ => rfl⟩] at g
  refine Ev.step (fun k => ?_) g
  rw [r1_Round.j2,hs,Option.bind_some,Option.bind_some,hlow,if_pos (by omega),hq]
 ·by_cases c2 : y % 4 = 2
  ·cases lost with
   | true =>
    have g := hj3 true
    rw [hgo true ⟨fun _ => .inr ⟨c2,.inl rfl⟩,fun _ => rfl⟩] at g
    refine Ev.step (fun k => ?_) g
    rw [r1_Round.j2,hs,Option.bind_some,Option.bind_some,hlow,if_neg (by omega),if_pos (by omega),if_pos rfl,hq]
   | false =>
    have g := hj3 (((y / 4 % 2 : Nat) : Int) == 1)
    rw [hgo _ ⟨fun h => .inr ⟨c2,.inr (by have := beq_iff_eq.1 h;omega)⟩,fun h => beq_iff_eq.2 (by
     rcases h with h | h
     ·omega
     ·rcases h.2 with h3 | h3
      ·cases h3
      ·omega)⟩] at g
    refine Ev.step (fun k => ?_) g
    rw [r1_Round.j2,hs,Option.bind_some,Option.bind_some,hlow,if_neg (by omega),if_pos (by omega),if_neg (by decide),hq,hmod]
  ·have g := hj3 false
   rw [hgo false ⟨(fun h => by cases h),(fun h => by omega)⟩] at g
   refine Ev.step (fun k => ?_) g
   rw [r1_Round.j2,hs,Option.bind_some,Option.bind_some,hlow,if_neg (by omega),if_neg (by omega),hq]
theorem zZE {A B P M y R j : Nat} (hB : 0 < B) (hP : 0 < P) (hM : 0 < M) (hK : K * (M * 2 ^ 2) = 2 ^ (j + 1) * P) (hA : A * P = y * (B * M) + R) (hR : R < B * M) (h1 : y / 4 < 9007199254740992) (h2 : j = 0 ∨ 4503599627370496 ≤ y / 4) (lost : Bool) (hl : lost = true ↔ 0 < R) :
  zXD A B (j * 4503599627370496 + rnd2 y lost) := by
 have h := zZY (n := 2) hB hP hM (by decide) hK hA hR h1 h2
 have e : rnd2 y lost = if 2 ^ (2 - 1) < y % 2 ^ 2 ∨ (y % 2 ^ 2 = 2 ^ (2 - 1) ∧ (0 < R ∨ y / 2 ^ 2 % 2 = 1)) then y / 2 ^ 2 + 1 else y / 2 ^ 2 := by
  unfold rnd2
  simp only [hl]
 rw [e]
 exact h
theorem far_below {A B P M x R L : Nat} {e : Int} (hB : 0 < B) (hP : 0 < P) (hM : 0 < M) (hA : A * P = x * (B * M) + R) (hR : R < B * M) (hx : x < 2 ^ L) (he : L + e < -1100)
  (hK : ∀ n j : Nat,(j : Int) = e + n + 1074 → K * (M * 2 ^ n) = 2 ^ (j + 1) * P) : zXD A B 0 := by
 refine zZp ?_
 obtain ⟨n,hn⟩ : ∃ n : Nat,(n : Int) = -1074 - e := ⟨(-1074 - e).toNat,by omega⟩
 have hKK := hK n 0 (by omega)
 rw [Nat.zero_add,Nat.pow_one] at hKK
 have c1 : A * P < 2 ^ L * (B * M) := by
  have := Nat.mul_le_mul_right (B * M) (show x + 1 ≤ 2 ^ L from hx)
  rw [Nat.add_mul,Nat.one_mul] at this
  omega
 have c2 : A * P * (K * 2 ^ n) < 2 ^ L * (B * M) * (K * 2 ^ n) := Nat.mul_lt_mul_of_pos_right c1 (Nat.mul_pos K_pos (Nat.two_pow_pos n))
 have c3 : 2 ^ L * (B * M) * (K * 2 ^ n) = 2 ^ (L + 1) * B * P := by
  have : 2 ^ L * (B * M) * (K * 2 ^ n) = 2 ^ L * B * (K * (M * 2 ^ n)) := by simp only [Nat.mul_assoc,Nat.mul_comm,Nat.mul_left_comm]
  rw [this,hKK,Nat.pow_succ]
  simp only [Nat.mul_assoc,Nat.mul_comm,Nat.mul_left_comm]
 have c4 : A * P * (K * 2 ^ n) = A * K * 2 ^ n * P := by simp only [Nat.mul_assoc,Nat.mul_comm,Nat.mul_left_comm]
 rw [c3,c4] at c2
 have c5 := Nat.lt_of_mul_lt_mul_right c2
 have c6 : A * K * 2 ^ (L + 1) ≤ A * K * 2 ^ n := Nat.mul_le_mul_left _ (Nat.pow_le_pow_right (by decide) (by omega))
 have c7 : A * K * 2 ^ (L + 1) < 2 ^ (L + 1) * B := Nat.lt_of_le_of_lt c6 c5
 rw [Nat.mul_comm _ (2 ^ (L + 1))] at c7
 exact Nat.lt_of_mul_lt_mul_left c7
theorem round_ev {A B P M x R : Nat} {e : Int} (m : Nat) (hm : m ≤ 20000) (hB : 0 < B) (hP : 0 < P) (hM : 0 < M) (hA : A * P = x * (B * M) + R) (hR : R < B * M) (hx : x ≠ 0) (hbig : R = 0 ∨ 2 ^ 60 ≤ x) (he : -8000 ≤ e) (he2 : e ≤ 8000) (hxl : x < 2 ^ m)
  (hK : ∀ n j : Nat,(j : Int) = e + n + 1074 → K * (M * 2 ^ n) = 2 ^ (j + 1) * P) :
  ∃ v,zXD A B v ∧ Ev (fun k => r1_Round.f k false e (toD x) (decide (0 < R))) ((min v INF : Nat) : Int) := by
 have hll := zYy hxl
 obtain ⟨L,hL1,hL2,hL3⟩ := zKC (toD x) (zXd x) (by omega)
 rw [zXr] at hL2
 obtain ⟨g1,g2,g3⟩ := hL2.2 hx
 have hL20 := zKH hL2 hxl
 have hstart : ∀ r : Int,Ev (fun k => r1_Round.j0 k false e (toD x) (decide (0 < R)) (L : Int) (decide ((wrap64 ((L : Int) + e)) < (-1100)))) r → Ev (fun k => r1_Round.f k false e (toD x) (decide (0 < R))) r := by
  intro r hr
  refine Ev.congr (fun k => ?_) (Ev.bind hL3 (f := fun k t505 => if t505 = 0 then (if decide (0 < R) = true then (r1_Round.j0 k false e (toD x) (decide (0 < R)) t505 (decide ((wrap64 (t505 + e)) < (-1100)))) else (r1_Round.j0 k false e (toD x) (decide (0 < R)) t505 true)) else (r1_Round.j0 k false e (toD x) (decide (0 < R)) t505 (decide ((wrap64 (t505 + e)) < (-1100))))) (Ev.congr (fun k => if_neg (by omega)) hr))
  rfl
 have hwL : wrap64 ((L : Int) + e) = (L : Int) + e := wrapB _ (by omega) (by omega)
 rw [hwL] at hstart
 by_cases hlow : (L : Int) + e < -1100
 ·refine ⟨0,far_below hB hP hM hA hR g3 hlow hK,hstart _ ?_⟩
  refine Ev.step (f := fun _ => some ((min 0 INF : Nat) : Int)) (fun k => ?_) (Ev.now _)
  rw [r1_Round.j0,if_pos (decide_eq_true hlow),zZg,Option.bind_some,Nat.zero_min]
  rfl
 ·
  obtain ⟨drop,hd1,hd2,hd3⟩ : ∃ drop : Int,(L : Int) - 53 ≤ drop ∧ -1074 - e ≤ drop ∧ (drop = (L : Int) - 53 ∨ drop = -1074 - e) := by
   by_cases h : -1074 - e ≤ (L : Int) - 53
   ·exact ⟨(L : Int) - 53,by omega,h,.inl rfl⟩
   ·exact ⟨-1074 - e,by omega,by omega,.inr rfl⟩
  obtain ⟨j,hj⟩ : ∃ j : Nat,(j : Int) = e + drop + 1074 := ⟨(e + drop + 1074).toNat,by omega⟩
  obtain ⟨y,lost,hy,hj0,hnear,hrun⟩ : ∃ (y : Nat) (lost : Bool),y < 36028797018963968 ∧ (j = 0 ∨ 4503599627370496 ≤ y / 4) ∧ zXD A B (j * 4503599627370496 + rnd2 y lost) ∧
    (∀ r : Int,Ev (fun k => r1_Round.j2 k false (e + drop) (toD y) lost) r → Ev (fun k => r1_Round.j1 k false e (toD x) (decide (0 < R)) drop) r) := by
   have hwe : wrap64 (e + drop) = e + drop := wrapB _ (by omega) (by omega)
   by_cases h2 : 2 ≤ drop
   ·obtain ⟨d,hd⟩ : ∃ d : Nat,(d : Int) = drop - 2 := ⟨(drop - 2).toNat,by omega⟩
    have hBM : 0 < B * M := Nat.mul_pos hB hM
    have hdm := Nat.div_add_mod x (2 ^ d)
    have hml := Nat.mod_lt x (Nat.two_pow_pos d)
    have hylt : x / 2 ^ d < 36028797018963968 := by
     rw [Nat.div_lt_iff_lt_mul (Nat.two_pow_pos d),show (36028797018963968 : Nat) = 2 ^ 55 from rfl,← Nat.pow_add]
     exact Nat.lt_of_lt_of_le g3 (Nat.pow_le_pow_right (by decide) (by omega))
    have hge : j = 0 ∨ 4503599627370496 ≤ x / 2 ^ d / 4 := by
     rcases hd3 with h | h
     ·refine .inr ?_
      have : 2 ^ 54 ≤ x / 2 ^ d := by
       rw [Nat.le_div_iff_mul_le (Nat.two_pow_pos d),← Nat.pow_add]
       exact Nat.le_trans (Nat.pow_le_pow_right (by decide) (by omega)) g2
      omega
     ·exact .inl (by omega)
    have hA' : A * P = x / 2 ^ d * (B * (M * 2 ^ d)) + (x % 2 ^ d * (B * M) + R) := by
     rw [hA,← Nat.add_assoc]
     congr 1
     rw [← Nat.mul_assoc B M,show x / 2 ^ d * (B * M * 2 ^ d) = 2 ^ d * (x / 2 ^ d) * (B * M) by simp only [Nat.mul_assoc,Nat.mul_comm,Nat.mul_left_comm],← Nat.add_mul,hdm]
    have hR' : x % 2 ^ d * (B * M) + R < B * (M * 2 ^ d) := by
     have h1 : (x % 2 ^ d + 1) * (B * M) ≤ 2 ^ d * (B * M) := Nat.mul_le_mul_right _ hml
     rw [Nat.add_mul,Nat.one_mul] at h1
     rw [← Nat.mul_assoc B M,Nat.mul_comm (B * M)]
     omega
    have hK' : K * (M * 2 ^ d * 2 ^ 2) = 2 ^ (j + 1) * P := by
     rw [Nat.mul_assoc M,← Nat.pow_add]
     exact hK (d + 2) j (by omega)
    have hlost : (decide (0 < R) || decide (x % 2 ^ d ≠ 0)) = true ↔ 0 < x % 2 ^ d * (B * M) + R := by
     rw [Bool.or_eq_true,decide_eq_true_iff,decide_eq_true_iff]
     constructor
     ·rintro (h | h)
      ·omega
      ·have := Nat.mul_pos (Nat.pos_of_ne_zero h) hBM
       omega
     ·intro h
      by_cases h0 : 0 < R
      ·exact .inl h0
      ·refine .inr (fun hz => ?_)
       rw [hz,Nat.zero_mul] at h
       omega
    refine ⟨x / 2 ^ d,(decide (0 < R) || decide (x % 2 ^ d ≠ 0)),hylt,hge,zZE hB hP (Nat.mul_pos hM (Nat.two_pow_pos d)) hK' hA' hR' (by omega) hge _ hlost,fun r hr => ?_⟩
    have hdn := rdown_ev (toD x) (zXd x) (by omega) d (by omega)
    rw [zXr] at hdn
    refine Ev.step (fun k => ?_) (Ev.bind hdn (f := fun k bt511 => if decide (0 < R) = true then (r1_Round.j2 k false (e + drop) bt511.1 true) else (r1_Round.j2 k false (e + drop) bt511.1 bt511.2)) ?_)
    ·rw [r1_Round.j1,if_pos h2,wrapB (drop - 2) (by omega) (by omega),← hd,hwe]
    ·by_cases h0 : 0 < R
     ·rw [decide_eq_true h0,Bool.true_or] at hr
      simp only [decide_eq_true h0,if_true]
      exact hr
     ·rw [decide_eq_false h0,Bool.false_or] at hr
      simp only [decide_eq_false h0,Bool.false_eq_true,if_false]
      exact hr
   ·
    have hR0 : R = 0 := by
     rcases hbig with h | h
     ·exact h
     ·exfalso
      have : 2 ^ 60 < 2 ^ L := Nat.lt_of_le_of_lt h g3
      have := (Nat.pow_lt_pow_iff_right (by decide : 1 < 2)).1 this
      omega
    subst hR0
    obtain ⟨s,hs⟩ : ∃ s : Nat,(s : Int) = 2 - drop := ⟨(2 - drop).toNat,by omega⟩
    have hylt : x * 2 ^ s < 36028797018963968 := by
     have h1 : x * 2 ^ s < 2 ^ L * 2 ^ s := Nat.mul_lt_mul_of_pos_right g3 (Nat.two_pow_pos s)
     rw [← Nat.pow_add] at h1
     rw [show (36028797018963968 : Nat) = 2 ^ 55 from rfl]
     exact Nat.lt_of_lt_of_le h1 (Nat.pow_le_pow_right (by decide) (by omega))
    have hge : j = 0 ∨ 4503599627370496 ≤ x * 2 ^ s / 4 := by
     rcases hd3 with h | h
     ·refine .inr ?_
      have : 2 ^ 54 ≤ x * 2 ^ s := by
       have h1 : 2 ^ (L - 1) * 2 ^ s ≤ x * 2 ^ s := Nat.mul_le_mul_right _ g2
       rw [← Nat.pow_add] at h1
       exact Nat.le_trans (Nat.pow_le_pow_right (by decide) (by omega)) h1
      omega
     ·exact .inl (by omega)
    have hA' : A * (P * 2 ^ s) = x * 2 ^ s * (B * M) + 0 := by
     rw [← Nat.mul_assoc,hA,Nat.add_zero,Nat.add_zero]
     simp only [Nat.mul_assoc,Nat.mul_comm,Nat.mul_left_comm]
    have hK' : K * (M * 2 ^ 2) = 2 ^ (j + 1) * (P * 2 ^ s) := by
     have h1 := hK 2 (j + s) (by omega)
     rw [h1,show j + s + 1 = j + 1 + s by omega,Nat.pow_add]
     simp only [Nat.mul_assoc,Nat.mul_comm,Nat.mul_left_comm]
    refine ⟨x * 2 ^ s,false,hylt,hge,zZE hB (Nat.mul_pos hP (Nat.two_pow_pos s)) hM hK' hA' hR (by omega) hge _ ⟨(fun h => by cases h),(fun h => by omega)⟩,fun r hr => ?_⟩
    have hup := rup_ev (toD x) (zXd x) s (by omega)
    rw [zXr] at hup
    refine Ev.step (fun k => ?_) (Ev.bind hup (f := fun k t515 => r1_Round.j2 k false (e + drop) t515 false) hr)
    rw [r1_Round.j1,if_neg (by omega),wrapB (2 - drop) (by omega) (by omega),← hs,hwe]
    rfl
  refine ⟨_,hnear,hstart _ ?_⟩
  by_cases hfar : (L : Int) + e > 1100
  ·have hinf : INF ≤ j * 4503599627370496 + rnd2 y lost := by
    unfold INF
    omega
   rw [Nat.min_eq_right hinf]
   refine Ev.step (f := fun _ => some ((INF : Nat) : Int)) (fun k => ?_) (Ev.now _)
   rw [r1_Round.j0,if_neg (fun c => hlow (of_decide_eq_true c)),hwL,if_pos hfar,zZR,Option.bind_some]
  ·have ht := hrun _ (rtail_ev y lost (e + drop) j hy (by omega) (by omega) hj0)
   have hw1 : wrap64 ((-1074) - e) = -1074 - e := wrapB _ (by omega) (by omega)
   have hw2 : wrap64 ((L : Int) - 53) = (L : Int) - 53 := wrapB _ (by omega) (by omega)
   refine Ev.step (fun k => ?_) ht
   rw [r1_Round.j0,if_neg (fun c => hlow (of_decide_eq_true c)),hwL,if_neg hfar,hw1,hw2]
   by_cases hc : -1074 - e > (L : Int) - 53
   ·rw [if_pos hc,show -1074 - e = drop by omega]
   ·rw [if_neg hc,show (L : Int) - 53 = drop by omega]
theorem zWE (r : Nat) : decide (((toD r).length : Int) > 0) = decide (0 < r) := by
 by_cases h : r = 0
 ·subst h;rw [zXn];rfl
 ·rw [zYe h,List.length_cons,decide_eq_true (by omega),decide_eq_true (by omega)]
theorem quot_big {D t ld lt u : Nat} (hD : D ≠ 0) (ht : t ≠ 0) (hd : LenIs D ld) (hl : LenIs t lt) (h : lt + 61 ≤ ld + u) : 2 ^ 60 ≤ D * 2 ^ u / t := by
 obtain ⟨a1,a2,a3⟩ := hd.2 hD
 obtain ⟨b1,b2,b3⟩ := hl.2 ht
 rw [Nat.le_div_iff_mul_le (Nat.pos_of_ne_zero ht)]
 have h1 : 2 ^ 60 * t ≤ 2 ^ 60 * 2 ^ lt := Nat.mul_le_mul_left _ (Nat.le_of_lt b3)
 rw [← Nat.pow_add] at h1
 have h2 : 2 ^ (60 + lt) ≤ 2 ^ (ld - 1 + u) := Nat.pow_le_pow_right (by decide) (by omega)
 rw [Nat.pow_add 2 (ld - 1)] at h2
 have h3 : 2 ^ (ld - 1) * 2 ^ u ≤ D * 2 ^ u := Nat.mul_le_mul_right _ a2
 omega
theorem near_ev (s : ByteArray) (e : Int) (hs : zXI s) (hsz : s.size ≤ 400) (he : -100000 ≤ e) (he2 : e ≤ 100000) : ∃ w,zZx (dval s s.size) e w ∧ Ev (fun k => r5_Near.f k s e) ((w : Nat) : Int) := by
 have hwh := whole_ev s hs (by omega)
 have hD1 : dval s s.size < 2 ^ (4 * s.size + 1) := Nat.lt_trans (zZV s hs s.size (Nat.le_refl _)) (zYS s.size)
 obtain ⟨m,hm⟩ : ∃ m,m = 4 * s.size + 1 := ⟨_,rfl⟩
 have hD : dval s s.size < 2 ^ m := by rw [hm];exact hD1
 have hm2 : m ≤ 1601 := by omega
 clear hm
 obtain ⟨D,hDD⟩ : ∃ D,D = dval s s.size := ⟨_,rfl⟩
 rw [← hDD] at hwh hD ⊢
 clear hD1 hDD
 have hlD := zYy hD
 have hgo : ∀ w : Int,Ev (fun k => if ((toD D).length : Int) = 0 then (r5_Near.j0 k (toD D) true s e) else (r5_Near.j0 k (toD D) (decide (e < (-1000))) s e)) w → Ev (fun k => r5_Near.f k s e) w := by
  intro w h
  exact Ev.bind hwh (f := fun k t584 => if (t584.length : Int) = 0 then (r5_Near.j0 k t584 true s e) else (r5_Near.j0 k t584 (decide (e < (-1000))) s e)) h
 unfold zZx
 by_cases h1 : D = 0 ∨ e < -1000
 ·refine ⟨0,by rw [if_pos h1],hgo _ ?_⟩
  have hz : Ev (fun k => r5_Near.j0 k (toD D) true s e) ((0 : Nat) : Int) := Ev.step (f := fun _ => some 0) (fun k => by rw [r5_Near.j0,if_pos rfl]) (Ev.now _)
  by_cases h0 : ((toD D).length : Int) = 0
  ·simp only [if_pos h0];exact hz
  ·have hD0 : D ≠ 0 := by intro h;rw [h,zXn] at h0;exact h0 rfl
   have he3 : e < -1000 := h1.resolve_left hD0
   simp only [if_neg h0,decide_eq_true he3]
   exact hz
 ·have hD0 : D ≠ 0 := fun h => h1 (.inl h)
  have he3 : ¬ e < -1000 := fun h => h1 (.inr h)
  have hlen : ¬ ((toD D).length : Int) = 0 := by rw [zYe hD0,List.length_cons];omega
  simp only [if_neg hlen,decide_eq_false he3] at hgo
  by_cases h2 : 400 < e
  ·refine ⟨INF,by rw [if_neg h1,if_pos h2],hgo _ ?_⟩
   refine Ev.step (f := fun _ => some ((INF : Nat) : Int)) (fun k => ?_) (Ev.now _)
   rw [r5_Near.j0,if_neg (by decide),if_pos h2,zZR,Option.bind_some]
  ·by_cases h3 : e ≥ 0
   ·obtain ⟨n,rfl⟩ := Int.eq_ofNat_of_zero_le h3
    have hten := ten_ev n (by omega)
    have h10 := zYS n
    have hlt := zYy h10
    have hpr := zYW (toD D) (toD (10 ^ n)) (zXd _) (zXd _) (by omega) (by omega)
    rw [zXr,zXr] at hpr
    have hx : D * 10 ^ n < 2 ^ (m + (4 * n + 1)) := by
     have : D * 10 ^ n < 2 ^ m * 2 ^ (4 * n + 1) := Nat.mul_lt_mul'' hD h10
     rwa [← Nat.pow_add] at this
    obtain ⟨v,hv,hve⟩ := round_ev (m + (4 * n + 1)) (by omega) (A := D * 10 ^ n) (B := 1) (P := 1) (M := 1) (x := D * 10 ^ n) (R := 0) (e := 0) (by decide) (by decide) (by decide) (by omega) (by decide) (Nat.mul_ne_zero hD0 (Nat.ne_of_gt (Nat.pow_pos (by decide)))) (.inl rfl) (by decide) (by decide) hx
     (fun n' j hj => by have := zWJ 0 0 0 n' j hj (by decide);rw [Nat.pow_zero] at this;exact this)
    refine ⟨min v INF,?_,hgo _ ?_⟩
    ·rw [if_neg h1,if_neg h2]
     refine ⟨v,?_,rfl⟩
     unfold upN loN
     rw [show (-(n : Int)).toNat = 0 by omega,Nat.pow_zero,Int.toNat_natCast]
     exact hv
    ·have hve : Ev (fun k => r1_Round.f k false 0 (toD (D * 10 ^ n)) false) ((min v INF : Nat) : Int) := hve
     refine Ev.step (fun k => ?_) (Ev.bind hten (f := fun k t588 => (r1_Product.f k (toD D) t588).bind fun t591 => (r1_Round.f k false 0 t591 false).bind fun t594 => some t594) (Ev.bind hpr (Ev.bind hve (Ev.now _))))
     rw [r5_Near.j0,if_neg (by decide),if_neg h2,if_pos h3]
   ·obtain ⟨n,hn⟩ := Int.eq_ofNat_of_zero_le (show 0 ≤ -e by omega)
    have hten := ten_ev n (by omega)
    have h10 := zYS n
    have hlt := zYy h10
    have ht0 : 10 ^ n ≠ 0 := Nat.ne_of_gt (Nat.pow_pos (by decide))
    obtain ⟨lt,t1,t2,t3⟩ := zKC (toD (10 ^ n)) (zXd _) (by omega)
    obtain ⟨ld,d1,d2,d3⟩ := zKC (toD D) (zXd _) (by omega)
    rw [zXr] at t2 d2
    have hlt2 := zKH t2 h10
    have hld2 := zKH d2 hD
    have hrest : ∀ u : Nat,lt + 61 ≤ ld + u → u ≤ 6000 → ∃ v,zXD D (10 ^ n) v ∧ Ev (fun k => (r1_Up.f k (toD D) (u : Int)).bind fun t610 => ((r1_Divide.f k t610 (toD (10 ^ n))).bind fun bt613 => ((r1_Round.f k false (-(u : Int)) bt613.1 (decide ((bt613.2.length : Int) > 0))).bind fun t619 => (some t619)))) ((min v INF : Nat) : Int) := by
     intro u hu hu2
     have hup := rup_ev (toD D) (zXd _) u (by omega)
     rw [zXr] at hup
     have hxu : D * 2 ^ u < 2 ^ (m + u) := by rw [Nat.pow_add];exact Nat.mul_lt_mul_of_pos_right hD (Nat.two_pow_pos u)
     have hlu := zYy hxu
     have hdv := rdiv_ev (toD (D * 2 ^ u)) (toD (10 ^ n)) (zXd _) (zXd _) (by rw [zXr];exact ht0) (by omega) (by omega)
     rw [zXr,zXr] at hdv
     have hq := quot_big hD0 ht0 d2 t2 hu
     obtain ⟨v,hv,hve⟩ := round_ev (m + u) (by omega) (A := D) (B := 10 ^ n) (P := 2 ^ u) (M := 1) (x := D * 2 ^ u / 10 ^ n) (R := D * 2 ^ u % 10 ^ n) (e := -(u : Int)) (Nat.pos_of_ne_zero ht0) (Nat.two_pow_pos u) (by decide)
      (by rw [Nat.mul_one,Nat.mul_comm (D * 2 ^ u / 10 ^ n)];exact (Nat.div_add_mod ..).symm) (by rw [Nat.mul_one];exact Nat.mod_lt _ (Nat.pos_of_ne_zero ht0)) (by
       have : 0 < 2 ^ 60 := Nat.two_pow_pos 60
       omega) (.inr hq) (by omega) (by omega) (Nat.lt_of_le_of_lt (Nat.div_le_self ..) hxu)
      (fun n' j hj => by have := zWJ (-(u : Int)) u 0 n' j hj (by omega);rw [Nat.pow_zero] at this;exact this)
     refine ⟨v,hv,?_⟩
     rw [← zWE] at hve
     exact Ev.bind hup (Ev.bind hdv (f := fun k bt613 => (r1_Round.f k false (-(u : Int)) bt613.1 (decide ((bt613.2.length : Int) > 0))).bind fun t619 => (some t619)) (Ev.bind hve (Ev.now _)))
    have hw1 : wrap64 ((lt : Int) - (ld : Int)) = (lt : Int) - ld := wrapB _ (by omega) (by omega)
    have hw2 : wrap64 ((lt : Int) - (ld : Int) + 70) = (lt : Int) - ld + 70 := wrapB _ (by omega) (by omega)
    have hw0 : wrap64 (-e) = (n : Int) := by rw [wrapB _ (by omega) (by omega)];exact hn
    have hread : ∀ v,zXD D (10 ^ n) v → (if D = 0 ∨ e < -1000 then min v INF = 0 else if 400 < e then min v INF = INF else ∃ v',zXD (upN D e) (loN e) v' ∧ min v INF = min v' INF) := by
     intro v hv
     rw [if_neg h1,if_neg h2]
     refine ⟨v,?_,rfl⟩
     unfold upN loN
     rw [show e.toNat = 0 by omega,show (-e).toNat = n by omega,Nat.pow_zero,Nat.mul_one]
     exact hv
    by_cases hneg : (lt : Int) - ld + 70 < 0
    ·obtain ⟨v,hv,hve⟩ := hrest 0 (by omega) (by omega)
     refine ⟨min v INF,hread v hv,hgo _ ?_⟩
     refine Ev.step (fun k => ?_) (Ev.bind hten (f := fun k t595 => (r1_Len.f k t595).bind fun t598 => (r1_Len.f k (toD D)).bind fun t599 => (if (wrap64 ((wrap64 (t598 - t599)) + 70)) < 0 then ((r1_Up.f k (toD D) 0).bind fun t600 => ((r1_Divide.f k t600 t595).bind fun bt603 => ((r1_Round.f k false 0 bt603.1 (decide ((bt603.2.length : Int) > 0))).bind fun t609 => (some t609)))) else ((r1_Up.f k (toD D) (wrap64 ((wrap64 (t598 - t599)) + 70))).bind fun t610 => ((r1_Divide.f k t610 t595).bind fun bt613 => ((r1_Round.f k false (wrap64 (-(wrap64 ((wrap64 (t598 - t599)) + 70)))) bt613.1 (decide ((bt613.2.length : Int) > 0))).bind fun t619 => (some t619))))))
      (Ev.bind t3 (Ev.bind d3 (Ev.congr (fun k => by rw [hw1,hw2,if_pos hneg];rfl) hve))))
     rw [r5_Near.j0,if_neg (by decide),if_neg h2,if_neg h3,hw0]
    ·obtain ⟨u,hu⟩ := Int.eq_ofNat_of_zero_le (show 0 ≤ (lt : Int) - ld + 70 by omega)
     obtain ⟨v,hv,hve⟩ := hrest u (by omega) (by omega)
     have hw3 : wrap64 (-((lt : Int) - ld + 70)) = -(u : Int) := by rw [wrapB _ (by omega) (by omega),hu]
     refine ⟨min v INF,hread v hv,hgo _ ?_⟩
     refine Ev.step (fun k => ?_) (Ev.bind hten (f := fun k t595 => (r1_Len.f k t595).bind fun t598 => (r1_Len.f k (toD D)).bind fun t599 => (if (wrap64 ((wrap64 (t598 - t599)) + 70)) < 0 then ((r1_Up.f k (toD D) 0).bind fun t600 => ((r1_Divide.f k t600 t595).bind fun bt603 => ((r1_Round.f k false 0 bt603.1 (decide ((bt603.2.length : Int) > 0))).bind fun t609 => (some t609)))) else ((r1_Up.f k (toD D) (wrap64 ((wrap64 (t598 - t599)) + 70))).bind fun t610 => ((r1_Divide.f k t610 t595).bind fun bt613 => ((r1_Round.f k false (wrap64 (-(wrap64 ((wrap64 (t598 - t599)) + 70)))) bt613.1 (decide ((bt613.2.length : Int) > 0))).bind fun t619 => (some t619))))))
      (Ev.bind t3 (Ev.bind d3 (Ev.congr (fun k => by rw [hw1,hw2,if_neg hneg,hw3,hu]) hve))))
     rw [r5_Near.j0,if_neg (by decide),if_neg h2,if_neg h3,hw0]
end Go.Proofs.YtflcanpajgpghaaGreatDoor.Pure
end
section
namespace Go.Proofs.YtflcanpajgpghaaGreatDoor.Pure
open Go.RowKit Go.Proofs.YtflcanpajgpghaaGreatDoor.Pr Go.Proofs.YtflcanpajgpghaaGreatDoorW.PrintWords Go.Proofs.YtflcanpajgpghaaGreatDoorW.PrintLast Go.Proofs.YtflcanpajgpghaaGreatDoorW.PrintMore
theorem lives_200 : minstrellaw05_lives.f 200 = some true := by kernel_rfl
theorem lives_ev : Ev (fun k => minstrellaw05_lives.f k) true := Ev.of (k := 200) (fun k => minstrellaw05_lives.mono _) lives_200
end Go.Proofs.YtflcanpajgpghaaGreatDoor.Pure
end
section
namespace Go.Proofs.YtflcanpajgpghaaGreatDoor.Pure
open Go.RowKit Go.Proofs.YtflcanpajgpghaaGreatDoor.Pr Go.Proofs.YtflcanpajgpghaaGreatDoorW.PrintWords Go.Proofs.YtflcanpajgpghaaGreatDoorW.PrintLast Go.Proofs.YtflcanpajgpghaaGreatDoorW.PrintMore Go.Proofs.YtflcanpajgpghaaGreatDoor.Flo
theorem zZd : minstrellaw05_DecParses.Pure := by
 intro s _
 have hl : Ev (fun k => (minstrellaw05_lives.f k).bind fun t => some t) true := Ev.bind lives_ev (Ev.now _)
 have hboth : ∃ a e : Int,Ev (fun k => dec_Parse.f k s) (a,e) ∧ Ev (fun k => r5_Parse.f k s) (a,e) := by
  by_cases h4 : (s.size : Int) > 400
  ·refine ⟨0,2,Ev.congr (fun k => ?_) (Ev.now _),Ev.congr (fun k => ?_) (Ev.now _)⟩
   ·unfold dec_Parse.f
    rw [if_pos h4]
   ·unfold r5_Parse.f
    rw [if_pos h4]
  ·obtain ⟨r,r',h1,h2,h3,h5⟩ := read_both s (by omega)
   have g1 : ∀ q : Int × Int,Ev (fun k => if r.2.2 = true then ((dec_nearest.f k r.1 r.2.1).bind fun t => (some (t,(0 : Int)))) else (some ((0 : Int),(4 : Int)))) q → Ev (fun k => dec_Parse.f k s) q := by
    intro q hq
    refine Ev.congr (fun k => ?_) (Ev.bind h1 (f := fun k bt => if bt.2.2 = true then ((dec_nearest.f k bt.1 bt.2.1).bind fun t => (some (t,(0 : Int)))) else (some (0,4))) hq)
    unfold dec_Parse.f
    rw [if_neg h4]
   have g2 : ∀ q : Int × Int,Ev (fun k => if r'.2.2 = true then ((r5_Near.f k r'.1 r'.2.1).bind fun t => (some (t,(0 : Int)))) else (some ((0 : Int),(4 : Int)))) q → Ev (fun k => r5_Parse.f k s) q := by
    intro q hq
    refine Ev.congr (fun k => ?_) (Ev.bind h2 (f := fun k bt => if bt.2.2 = true then ((r5_Near.f k bt.1 bt.2.1).bind fun t => (some (t,(0 : Int)))) else (some (0,4))) hq)
    unfold r5_Parse.f
    rw [if_neg h4]
   cases hz : r.2.2 with
   | false =>
    rw [hz] at h3
    refine ⟨0,4,g1 _ (Ev.congr (fun k => if_neg (by rw [hz];decide)) (Ev.now _)),g2 _ (Ev.congr (fun k => if_neg (by rw [← h3];decide)) (Ev.now _))⟩
   | true =>
    obtain ⟨e,ha,hs,l1,l2⟩ := h5 hz
    subst e
    obtain ⟨v,hv,hve⟩ := nearest_ev r.1 r.2.1 ha hs (by omega) (by omega)
    obtain ⟨w,hw,hwe⟩ := near_ev r.1 r.2.1 ha hs (by omega) (by omega)
    obtain rfl := readAs_one hv hw
    exact ⟨(v : Int),0,g1 _ (Ev.congr (fun k => if_pos hz) (Ev.bind hve (Ev.now _))),g2 _ (Ev.congr (fun k => if_pos hz) (Ev.bind hwe (Ev.now _)))⟩
 obtain ⟨a,e,h1,h2⟩ := hboth
 refine Ev.rounds (g := fun k => minstrellaw05_DecParses.f k s) (Ev.congr (fun k => ?_) (Ev.bind h1 (f := fun k bt630 => (r5_Parse.f k s).bind fun bt632 => (if bt630.1 = bt632.1 then (if bt630.2 = bt632.2 then ((minstrellaw05_lives.f k).bind fun t634 => (some t634)) else (none)) else (none))) (Ev.bind h2 (f := fun k bt632 => (if a = bt632.1 then (if e = bt632.2 then ((minstrellaw05_lives.f k).bind fun t634 => (some t634)) else (none)) else (none))) (Ev.congr (fun k => by rw [if_pos rfl,if_pos rfl]) hl))))
 rfl
end Go.Proofs.YtflcanpajgpghaaGreatDoor.Pure
end
