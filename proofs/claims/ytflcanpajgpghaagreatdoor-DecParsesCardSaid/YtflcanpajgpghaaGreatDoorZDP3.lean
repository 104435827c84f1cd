/- A part of the proof of the law that RowDecParses shows: lemmas, and contracts of the calls that it reaches. -/
import Derived.Test.YtflcanpajgpghaaGreatDoorProg
import Derived.Below
import Derived.Deep.Draws
import Derived.Deep.AppendLies
import Derived.Maps.AppendAt
import Derived.OwnWalk
import Derived.Laws.BytesArg
import Derived.Laws.MakeOwn
import Derived.Laws.OwnMore
import Derived.Deep.OwnRows
import Derived.Tactics
import Derived.Lib.ConvBytes
import Derived.Laws.Slices
import Derived.WalkKit
import Derived.KernelRfl
import Derived.RowKit3
import Derived.Deep.LoopGhost
import Derived.Deep.QuietTactic
import Derived.BigQuiet
import Derived.WideLaws
import Derived.Deep.DeepCutAuto
import Derived.Deep.CutBlock
import Derived.Deep.RegionHeld3
import Derived.Laws.Rows
import Derived.Lib.AppendStr
import Derived.ArgAppend
import Derived.Laws.IdiomCopy
import Derived.OrdersHeld
import Derived.Laws.BitsLemmas
import Derived.RowKit
import Derived.Test.YtflcanpajgpghaaGreatDoorZDP0
import Derived.Test.YtflcanpajgpghaaGreatDoorZDP1
import Derived.Test.YtflcanpajgpghaaGreatDoorZDP2
set_option linter.unusedVariables false
set_option linter.unusedSimpArgs false
section
namespace Go.Proofs.YtflcanpajgpghaaGreatDoor.Pr
open Go.RowKit Go.Proofs.YtflcanpajgpghaaGreatDoorW.PrintWords Go.Proofs.YtflcanpajgpghaaGreatDoorW.PrintLast Go.Proofs.YtflcanpajgpghaaGreatDoorW.PrintMore
attribute [local go_sem] zXm zXk zXy zXx zXa zQZ zXl zXj
mutual
def r1_Down.j1 : Nat → List Int → Int → Bool → Option (List Int × Bool)
 | 0,_,_,_ => none
 | k + 1,x0,x1,x6 => r1_Down.l1 k x0 x6 (([] : List Int)) x1
def r1_Down.l1 : Nat → List Int → Bool → List Int → Int → Option (List Int × Bool)
 | 0,_,_,_,_ => none
 | k + 1,x0,x6,x8,x9 => if x9 < (wrap64 (16 * (x0.length : Int))) then (r1_Down.l2 k x0 x6 x8 x9 0 0) else ((r1_Trim.f k x8).bind fun t321 => (some (t321,x6)))
def r1_Down.l2 : Nat → List Int → Bool → List Int → Int → Int → Int → Option (List Int × Bool)
 | 0,_,_,_,_,_,_ => none
 | k + 1,x0,x6,x8,x9,x10,x11 => if x11 < 16 then ((r1_Bit.f x0 (wrap64 (x9 + x11))).bind fun t324 => (if 0 ≤ (IntKind.u64.wrap (x11)) then (r1_Down.l2 k x0 x6 x8 x9 (Go.bits .or .u64 x10 (shl .u64 t324 (IntKind.u64.wrap (x11)))) (wrap64 (x11 + 1))) else (none))) else (if x8.length < 17592186044416 then (r1_Down.l1 k x0 x6 (x8 ++ [x10]) (wrap64 (x9 + 16))) else (none))
def r1_Down.l0 : Nat → List Int → Int → Bool → Int → Option (List Int × Bool)
 | 0,_,_,_,_ => none
 | k + 1,x0,x1,x6,x7 => if x7 < x1 then (if x7 < (wrap64 (16 * (x0.length : Int))) then (if x6 = true then (r1_Down.l0 k x0 x1 true (wrap64 (x7 + 1))) else ((r1_Bit.f x0 x7).bind fun t317 => (r1_Down.l0 k x0 x1 (t317 == 1) (wrap64 (x7 + 1))))) else (r1_Down.j1 k x0 x1 x6)) else (r1_Down.j1 k x0 x1 x6)
end
def r1_Down.f (k : Nat) (l0 : List Int) (a1 : Int) : Option (List Int × Bool) := r1_Down.l0 k l0 a1 false 0
set_option maxHeartbeats 8000000 in
set_option maxRecDepth 100000 in
theorem r1_Down.calls (k : Nat) (A0 : Option Addr) (c0 : Nat) (l0 : List Int) (a1 : Int) (r1 : List Int) (r2 : Bool) (w : World) (hr0 : Kd.C (Kd.int .u64) w A0 l0.length l0) (hc0 : l0.length ≤ c0) (h : r1_Down.f k l0 a1 = some (r1,r2)) :
  Calls Tryz.prog 63 #[.slice A0 l0.length c0,.int .i64 a1] w fun e w' => ∃ v0_ : Value,e = .returned (.tuple #[v0_,.bool r2]) ∧ Kd.R (Kd.int .u64) 22 w' w.heap.size (fun _ => True) v0_ r1 ∧ Below w.heap.size w w' := by
 have HR0 := am hr0
 have HC0 := am hc0
 clear hr0 hc0
 have HB := am (Below.refl w.heap.size w)
 have H : (r1_Down.l0 k l0 a1 false 0) = some (r1,r2) := h
 clear h
 have HC3 := am H
 clear H
 go_enter Tryz.func63,Tryz.ntmps63
 go_upto_block 0 with (fail)
 go_cut [6] (fun v6 wc => ∃ (kq : Nat) (x6_2 : Bool),v6 = .bool x6_2 ∧ Aside0 (r1_Down.j1 kq l0 a1 x6_2 = some (r1,r2)) ∧ Aside0 (kq ≤ k) ∧ Aside0 (Below w.heap.size w wc))
 case first =>
  have H := HC3.out
  clear HC3
  have H' := am H
  clear H
  go_wp2
  go_loopg [6,7] k (fun kq v6 v7 w' => ∃ (x6_1 : Bool) (x7_1 : Int),v6 = .bool x6_1 ∧ v7 = .int .i64 x7_1 ∧ Aside0 (r1_Down.l0 kq l0 a1 x6_1 x7_1 = some (r1,r2)) ∧ Aside0 (kq ≤ k) ∧ Aside0 (Below w.heap.size w w'))
  case atStart => exact ⟨(false),(0),(by first | rfl | (simp;done) | (simp [*];done)),(by first | rfl | (simp;done) | (simp [*];done)),H',⟨Nat.le_refl _⟩,⟨pB⟩⟩
  case round =>
   clear H'
   try clear p2
   obtain ⟨x6_1,x7_1,rfl,rfl,HA,HK1,HB⟩ := hrel
   cases gk with
   | zero => exact absurd HA.out (by simp [r1_Down.l0])
   | succ k1 =>
    have H := HA.out
    clear HA
    simp only [r1_Down.l0] at H
    by_cases c4 : x7_1 < a1
    ·rw [if_pos c4] at H
     have c4b0 : decide (x7_1 < a1) = true := decide_eq_true c4
     clear c4
     (first | rw [c4b0] | (simp only [i64_w,i32_w];rw [c4b0]) | rw [c4b1] | (simp only [i64_w,i32_w];rw [c4b1]) | skip)
     by_cases c5 : x7_1 < (wrap64 (16 * (l0.length : Int)))
     ·rw [if_pos c5] at H
      have c5b0 : decide (x7_1 < (wrap64 (16 * (l0.length : Int)))) = true := decide_eq_true c5
      clear c5
      by_cases c6 : x6_1 = true
      ·subst c6
       rw [if_pos rfl] at H
       have H' := am H
       clear H
       go_wp2
       go_roundg k1
       case measure => have := HK1.out;omega
       case rel => exact ⟨(true),(wrap64 (x7_1 + 1)),(by first | rfl | (simp;done) | (simp [*];done)),(by first | rfl | (simp;done) | (simp [*];done)),H',⟨by have := HK1.out;omega⟩,⟨pB⟩⟩
      ·replace c6 := Bool.eq_false_iff.mpr c6
       subst c6
       rw [if_neg (show ¬ (false = true) by decide)] at H
       replace H := Option.bind_eq_some_iff.mp H
       obtain ⟨t317,A70,H⟩ := H
       try dsimp only at H
       have A7 := am A70
       clear A70
       have H' := am H
       clear H
       go_wp2_with (first | (go_at_call 54;(with_reducible refine (r1_Bit.calls _ _ l0 x7_1 t317 _ ?side1 ?side2 A7.out).mono ?_);(case side1 => exact pC (Kd.zQO HR0.out HB.out));(case side2 => exact HC0.out);rintro e w' ⟨rfl,⟨nd,rfl⟩⟩))
       go_roundg k1
       case measure => have := HK1.out;omega
       case rel => exact ⟨((t317 == 1)),(wrap64 (x7_1 + 1)),(by first | rfl | (simp;done) | (simp [*];done)),(by first | rfl | (simp;done) | (simp [*];done)),H',⟨by have := HK1.out;omega⟩,⟨pB⟩⟩
     ·rw [if_neg c5] at H
      have c5b0 : decide (x7_1 < (wrap64 (16 * (l0.length : Int)))) = false := decide_eq_false c5
      clear c5
      have H' := am H
      clear H
      go_wp2
      go_meet
      case rel => exact ⟨_,(x6_1),(by first | rfl | (simp;done) | (simp [*];done)),H',⟨by have := HK1.out;first | omega | exact Nat.le_refl _⟩,⟨pB⟩⟩
    ·rw [if_neg c4] at H
     have c4b0 : decide (x7_1 < a1) = false := decide_eq_false c4
     clear c4
     (first | rw [c4b0] | (simp only [i64_w,i32_w];rw [c4b0]) | rw [c4b1] | (simp only [i64_w,i32_w];rw [c4b1]) | skip)
     have H' := am H
     clear H
     go_wp2
     go_meet
     case rel => exact ⟨_,(x6_1),(by first | rfl | (simp;done) | (simp [*];done)),H',⟨by have := HK1.out;first | omega | exact Nat.le_refl _⟩,⟨pB⟩⟩
 case rest =>
  clear HC3
  try clear p2
  try clear c4
  try clear c4b0
  try clear c4b1
  try clear c5
  try clear c5b0
  try clear c6
  try clear p6
  try clear p2
  obtain ⟨kq,x6_2,rfl,HA,HJ2,HB⟩ := hcut
  cases kq with
  | zero => exact absurd HA.out (by simp [r1_Down.j1])
  | succ kj2 =>
   have H := HA.out
   clear HA
   simp only [r1_Down.j1] at H
   obtain ⟨y318,hy318⟩ : ∃ y_ : List Int,y_ = (([] : List Int)) := ⟨_,rfl⟩
   replace H : (r1_Down.l1 kj2 l0 x6_2 y318 a1) = some (r1,r2) := by first | (rw [hy318];with_reducible exact H) | (have H2_ := (Option.bind_some _ _).symm.trans H;rw [hy318];with_reducible exact H2_) | (have H2_ := (Option.bind_some _ _).symm.trans H;with_reducible exact H2_) | with_reducible exact H | (rw [hy318];exact H) | exact H
   have Ny318 := am hy318
   clear hy318
   have H' := am H
   clear H
   go_wp2_with (first | ((with_reducible refine zQJ (N := 31) rfl ?_);(try (refine zXK (by rfl) ?_;dsimp only));refine Kd.R_lit (Kd.int .u64) _ 22 ?hg (N := 31) ?hd (xs := ([] : List Int)) (inner := []) (ok := fun _ => True) (okp := fun _ => True) ?hr ?hp (fun _ hk => hk) trivial (Below.refl _ _) (Nat.le_refl _) (by simp) ?_;(case hd => rfl);(case hg => rfl);(case hr => first | (go_simp;done) | (go_simp;rfl));(case hp => exact (Reps.none _ _));intro v319 w8 ho9 hb hg_ hnew_;clear hg_ hnew_;(first | rw [← Ny318.out] at ho9 | (simp only [Int.reduceToNat] at ho9;rw [← Ny318.out] at ho9));have HO320 := am (Kd.zQy ho9 (zQc pB));replace HB := am (zQf pB hb);clear hb ho9))
   go_loopg [8,9] kj2 (fun kq v8 v9 w' => ∃ (x8_2 : List Int) (x9_2 : Int),v9 = .int .i64 x9_2 ∧ Aside0 (r1_Down.l1 kq l0 x6_2 x8_2 x9_2 = some (r1,r2)) ∧ Aside0 (kq ≤ kj2) ∧ Aside0 (Kd.R (Kd.int .u64) 22 w' w.heap.size (fun _ => True) v8 x8_2) ∧ Aside0 (Below w.heap.size w w'))
   case atStart => exact ⟨(y318),(a1),(by first | rfl | (simp;done) | (simp [*];done)),H',⟨Nat.le_refl _⟩,⟨by (with_reducible repeat (first | apply Kd.zQw | apply Kd.zQu | apply Kd.zQx));exact HO320.out⟩,⟨pB⟩⟩
   case round =>
    clear H'
    try clear p2
    try clear c4
    try clear c4b0
    try clear c4b1
    try clear c5
    try clear c5b0
    try clear c6
    try clear p6
    try clear p2
    try clear p6
    obtain ⟨x8_2,x9_2,rfl,HA,HK2,HO_8,HB⟩ := hrel
    cases gk with
    | zero => exact absurd HA.out (by simp [r1_Down.l1])
    | succ k2 =>
     have H := HA.out
     clear HA
     simp only [r1_Down.l1] at H
     by_cases c10 : x9_2 < (wrap64 (16 * (l0.length : Int)))
     ·rw [if_pos c10] at H
      have c10b0 : decide (x9_2 < (wrap64 (16 * (l0.length : Int)))) = true := decide_eq_true c10
      clear c10
      have H' := am H
      clear H
      go_wp2
      go_loopg [10,11] k2 (fun kq v10 v11 w' => ∃ (x10_3 : Int) (x11_3 : Int),v10 = .int .u64 x10_3 ∧ v11 = .int .i64 x11_3 ∧ Aside0 (r1_Down.l2 kq l0 x6_2 x8_2 x9_2 x10_3 x11_3 = some (r1,r2)) ∧ Aside0 (kq ≤ k2) ∧ Aside0 (Kd.R (Kd.int .u64) 22 w' w.heap.size (fun _ => True) u8 x8_2) ∧ Aside0 (Below w.heap.size w w'))
      case atStart => exact ⟨(0),(0),(by first | rfl | (simp;done) | (simp [*];done)),(by first | rfl | (simp;done) | (simp [*];done)),H',⟨Nat.le_refl _⟩,⟨by (with_reducible repeat (first | apply Kd.zQw | apply Kd.zQu | apply Kd.zQx));exact HO_8.out⟩,⟨pB⟩⟩
      case round =>
       clear H'
       try clear c1
       try clear p2
       try clear c4
       try clear c4b0
       try clear c4b1
       try clear c5
       try clear c5b0
       try clear c6
       try clear p6
       try clear c10
       try clear c10b0
       try clear p2
       try clear p6
       obtain ⟨x10_3,x11_3,rfl,rfl,HA,HK3,HO_8,HB⟩ := hrel
       cases gk with
       | zero => exact absurd HA.out (by simp [r1_Down.l2])
       | succ k3 =>
        have H := HA.out
        clear HA
        simp only [r1_Down.l2] at H
        by_cases c11 : x11_3 < 16
        ·rw [if_pos c11] at H
         have c11b0 : decide (x11_3 < 16) = true := decide_eq_true c11
         clear c11
         replace H := Option.bind_eq_some_iff.mp H
         obtain ⟨t324,A120,H⟩ := H
         try dsimp only at H
         have A12 := am A120
         clear A120
         obtain ⟨ji13,hji13⟩ : ∃ j_ : Int,(IntKind.u64.wrap (x11_3)) = j_ := ⟨_,rfl⟩
         replace H : (if 0 ≤ (ji13) then (r1_Down.l2 k3 l0 x6_2 x8_2 x9_2 (Go.bits .or .u64 x10_3 (shl .u64 t324 (ji13))) (wrap64 (x11_3 + 1))) else (none)) = some (r1,r2) := by first | (rw [hji13] at H;exact H) | (simp only [hji13] at H ⊢;exact H)
         (try rw [hji13] at A12)
         by_cases c14 : 0 ≤ (ji13)
         ·rw [if_pos c14] at H
          have c14b0 := eq_true c14
          have c14b1 : decide (0 ≤ (ji13)) = true := decide_eq_true c14
          clear c14
          obtain ⟨ji15,hji15⟩ : ∃ j_ : Int,(shl .u64 t324 (ji13)) = j_ := ⟨_,rfl⟩
          replace H : (r1_Down.l2 k3 l0 x6_2 x8_2 x9_2 (Go.bits .or .u64 x10_3 (ji15)) (wrap64 (x11_3 + 1))) = some (r1,r2) := by first | (rw [hji15] at H;exact H) | (simp only [hji15] at H ⊢;exact H)
          (try rw [hji15] at A12)
          have hji15_ : (IntKind.u64.wrap (t324 * 2 ^ min (ji13).toNat 64)) = ji15 := hji15
          have hji15z : (ji13) ≤ 64 → (IntKind.u64.wrap (t324 * 2 ^ (ji13).toNat)) = ji15 := zXM hji15
          have H' := am H
          clear H
          go_wp2_with (first | ((with_reducible refine zQe (f := 54) rfl ?_);refine zQr (some 49) rfl rfl Tryz.func54 (by kernel_rfl) rfl #[.slice A0 l0.length c0,.int .i64 (wrap64 (x9_2 + x11_3))] rfl pM ?_;(with_reducible refine (r1_Bit.calls _ _ l0 (wrap64 (x9_2 + x11_3)) t324 _ ?side1 ?side2 A12.out).mono ?_);(case side1 => exact pC (Kd.zQO HR0.out HB.out));(case side2 => exact HC0.out);rintro e w' ⟨rfl,⟨nd,rfl⟩⟩;refine ⟨_,rfl,?_⟩))
          go_roundg k3
          case measure => have := HJ2.out;have := HK2.out;have := HK3.out;omega
          case rel => exact ⟨(Go.bits .or .u64 x10_3 (ji15)),(wrap64 (x11_3 + 1)),(by first | rfl | (simp;done) | (simp only [← hji15] <;> (first | rfl | simp)) | (simp [*];done)),(by first | rfl | (simp;done) | (simp [*];done)),H',⟨by have := HJ2.out;have := HK2.out;have := HK3.out;omega⟩,⟨by (with_reducible repeat (first | apply Kd.zQw | apply Kd.zQu | apply Kd.zQx));exact HO_8.out⟩,⟨pB⟩⟩
         ·rw [if_neg c14] at H
          exact absurd H (by simp)
        ·rw [if_neg c11] at H
         have c11b0 : decide (x11_3 < 16) = false := decide_eq_false c11
         clear c11
         by_cases c16 : x8_2.length < 17592186044416
         ·rw [if_pos c16] at H
          have LMc16 := am c16
          clear c16
          obtain ⟨y325,hy325⟩ : ∃ y_ : List Int,y_ = (x8_2 ++ [x10_3]) := ⟨_,rfl⟩
          replace H : (r1_Down.l1 k3 l0 x6_2 y325 (wrap64 (x9_2 + 16))) = some (r1,r2) := by first | (rw [hy325];with_reducible exact H) | (have H2_ := (Option.bind_some _ _).symm.trans H;rw [hy325];with_reducible exact H2_) | (have H2_ := (Option.bind_some _ _).symm.trans H;with_reducible exact H2_) | with_reducible exact H | (rw [hy325];exact H) | exact H
          have Ny325 := am hy325
          clear hy325
          have H' := am H
          clear H
          go_wp2_with (first | ((with_reducible refine zQD (b := .append) (xs := #[.tmp 54,.tmp 56]) rfl ?_);(try (refine zXK (by rfl) ?_;dsimp only));at_builtin;refine Kd.zQU (Kd.int .u64) (w0 := w) w.heap.size rfl (.tmp 54) (.tmp 56) 59 22 (.int .u64 0) 8 rfl Tryz.underlying59 zXP rfl (by decide) (by omega) u8 x8_2 x10_3 [.int .u64 x10_3] (fun _ => True) (fun _ => False) rfl rfl ?aP (fun _ hk => hk.elim) ?aF ?aO ?aB ?aS ?aL ?_;(case aP => exact rfl);(case aB => exact pB);(case aF => exact (fun _ _ => trivial));(case aO => exact (pR HO_8.out));(case aS => exact (zQc pB));(case aL => have := LMc16.out;omega);intro v326 w17 ho hb hg hat;rw [← Ny325.out] at ho;replace HB := am (hb);have HO327 := am (ho);clear HO_8;clear ho hb hg hat))
          go_roundg k3
          case measure => have := HJ2.out;have := HK2.out;have := HK3.out;omega
          case rel => exact ⟨(y325),(wrap64 (x9_2 + 16)),(by first | rfl | (simp;done) | (simp [*];done)),H',⟨by have := HJ2.out;have := HK2.out;have := HK3.out;omega⟩,⟨by (with_reducible repeat (first | apply Kd.zQw | apply Kd.zQu | apply Kd.zQx));exact HO327.out⟩,⟨pB⟩⟩
         ·rw [if_neg c16] at H
          exact absurd H (by simp)
     ·rw [if_neg c10] at H
      have c10b0 : decide (x9_2 < (wrap64 (16 * (l0.length : Int)))) = false := decide_eq_false c10
      clear c10
      replace H := Option.bind_eq_some_iff.mp H
      obtain ⟨t321,A180,H⟩ := H
      try dsimp only at H
      have A18 := am A180
      clear A180
      simp only [Option.some.injEq,Prod.mk.injEq] at H
      obtain ⟨rfl,rfl⟩ := H
      obtain ⟨Ao19,co19,eo19⟩ := Kd.zQB HO_8.out
      subst eo19
      go_wp2_with (first | ((with_reducible refine zQe (f := 65) rfl ?_);refine zQr (some 59) rfl rfl Tryz.func65 (by kernel_rfl) rfl #[.slice Ao19 x8_2.length co19] rfl pM ?_;(with_reducible refine (r1_Trim.calls k2 _ _ x8_2 t321 _ ?side1 ?side2 A18.out).mono ?_);(case side1 => repeat (first | exact (Kd.zQh HO_8.out).2.2 | (with_reducible refine Kd.zQj ?_ _) | (with_reducible refine Kd.zQi ?_ _) | (with_reducible refine Kd.zQv ?_)));(case side2 => exact (Kd.zQh HO_8.out).2.1);rintro e w20 ⟨v322,rfl,ho0,hb⟩;refine ⟨_,rfl,?_⟩;have HO323 := am (Kd.zQy (Kd.zQC ho0 (Kd.R_lt (pR HO_8.out))) (zQc pB));replace HO_8 := am (Kd.zQt (pR HO_8.out) (Kd.zQs ho0) hb);replace HB := am (zQf pB hb);(try clear hb);(try clear ho0)))
      go_ret2
      exact ⟨_,pE,by (with_reducible repeat (first | apply Kd.zQw | apply Kd.zQu | apply Kd.zQx));exact Kd.zQE HO323.out (fun _ hk => trivial),pB⟩
def r1_Small.f (l0 : List Int) : Option (Int) := (r1_at.f l0 0).bind fun t328 => ((r1_at.f l0 1).bind fun t329 => ((r1_at.f l0 2).bind fun t330 => ((r1_at.f l0 3).bind fun t331 => (some (Go.bits .or .u64 (Go.bits .or .u64 (Go.bits .or .u64 t328 (IntKind.u64.wrap (t329 * 65536))) (IntKind.u64.wrap (t330 * 4294967296))) (IntKind.u64.wrap (t331 * 281474976710656)))))))
set_option maxHeartbeats 8000000 in
set_option maxRecDepth 100000 in
theorem r1_Small.calls (A0 : Option Addr) (c0 : Nat) (l0 : List Int) (r : Int) (w : World) (hr0 : Kd.C (Kd.int .u64) w A0 l0.length l0) (hc0 : l0.length ≤ c0) (h : r1_Small.f l0 = some r) :
  Calls Tryz.prog 64 #[.slice A0 l0.length c0] w fun e w' => e = .returned (.int .u64 r) ∧ Drawn0 w w' := by
 have HR0 := am hr0
 have HC0 := am hc0
 clear hr0 hc0
 have H : ((r1_at.f l0 0).bind fun t328 => ((r1_at.f l0 1).bind fun t329 => ((r1_at.f l0 2).bind fun t330 => ((r1_at.f l0 3).bind fun t331 => (some (Go.bits .or .u64 (Go.bits .or .u64 (Go.bits .or .u64 t328 (IntKind.u64.wrap (t329 * 65536))) (IntKind.u64.wrap (t330 * 4294967296))) (IntKind.u64.wrap (t331 * 281474976710656)))))))) = some r := h
 clear h
 replace H := Option.bind_eq_some_iff.mp H
 obtain ⟨t328,A20,H⟩ := H
 try dsimp only at H
 have A2 := am A20
 clear A20
 replace H := Option.bind_eq_some_iff.mp H
 obtain ⟨t329,A30,H⟩ := H
 try dsimp only at H
 have A3 := am A30
 clear A30
 replace H := Option.bind_eq_some_iff.mp H
 obtain ⟨t330,A40,H⟩ := H
 try dsimp only at H
 have A4 := am A40
 clear A40
 replace H := Option.bind_eq_some_iff.mp H
 obtain ⟨t331,A50,H⟩ := H
 try dsimp only at H
 have A5 := am A50
 clear A50
 obtain rfl := Option.some.inj H
 go_enter Tryz.func64,Tryz.ntmps64
 go_wp2_with (first | ((with_reducible refine zQe (f := 81) rfl ?_);refine zQr (some 4) rfl rfl Tryz.func81 (by kernel_rfl) rfl #[.slice A0 l0.length c0,.int .i64 0] rfl pM ?_;(with_reducible refine (r1_at.calls _ _ l0 0 t328 _ ?side1 ?side2 A2.out).mono ?_);(case side1 => exact pC HR0.out);(case side2 => exact HC0.out);rintro e w' ⟨rfl,⟨nd,rfl⟩⟩;refine ⟨_,rfl,?_⟩) | ((with_reducible refine zQe (f := 81) rfl ?_);refine zQr (some 6) rfl rfl Tryz.func81 (by kernel_rfl) rfl #[.slice A0 l0.length c0,.int .i64 1] rfl pM ?_;(with_reducible refine (r1_at.calls _ _ l0 1 t329 _ ?side1 ?side2 A3.out).mono ?_);(case side1 => exact pC HR0.out);(case side2 => exact HC0.out);rintro e w' ⟨rfl,⟨nd,rfl⟩⟩;refine ⟨_,rfl,?_⟩) | ((with_reducible refine zQe (f := 81) rfl ?_);refine zQr (some 10) rfl rfl Tryz.func81 (by kernel_rfl) rfl #[.slice A0 l0.length c0,.int .i64 2] rfl pM ?_;(with_reducible refine (r1_at.calls _ _ l0 2 t330 _ ?side1 ?side2 A4.out).mono ?_);(case side1 => exact pC HR0.out);(case side2 => exact HC0.out);rintro e w' ⟨rfl,⟨nd,rfl⟩⟩;refine ⟨_,rfl,?_⟩) | ((with_reducible refine zQe (f := 81) rfl ?_);refine zQr (some 14) rfl rfl Tryz.func81 (by kernel_rfl) rfl #[.slice A0 l0.length c0,.int .i64 3] rfl pM ?_;(with_reducible refine (r1_at.calls _ _ l0 3 t331 _ ?side1 ?side2 A5.out).mono ?_);(case side1 => exact pC HR0.out);(case side2 => exact HC0.out);rintro e w' ⟨rfl,⟨nd,rfl⟩⟩;refine ⟨_,rfl,?_⟩))
 go_ret
 exact ⟨by first | rfl | (simp;done) | (simp [*];done),by repeat (first | exact Drawn0.refl _ | apply Drawn0.step)⟩
end Go.Proofs.YtflcanpajgpghaaGreatDoor.Pr
end
section
namespace Go.Proofs.YtflcanpajgpghaaGreatDoor.Pr
open Go.RowKit Go.Proofs.YtflcanpajgpghaaGreatDoorW.PrintWords Go.Proofs.YtflcanpajgpghaaGreatDoorW.PrintLast Go.Proofs.YtflcanpajgpghaaGreatDoorW.PrintMore
attribute [local go_sem] zXm zXk zXy zXx zXa zQZ zXl zXj
mutual
def r1_Round.j0 : Nat → Bool → Int → List Int → Bool → Int → Bool → Option (Int)
 | 0,_,_,_,_,_,_ => none
 | k + 1,x0,x1,x2,x3,x9,x31 => if x31 = true then ((r1_Sign.f x0).bind fun t333 => (some t333)) else (if (wrap64 (x9 + x1)) > 1100 then ((r1_Infinite.f x0).bind fun t334 => (some t334)) else (if (wrap64 ((-1074) - x1)) > (wrap64 (x9 - 53)) then (r1_Round.j1 k x0 x1 x2 x3 (wrap64 ((-1074) - x1))) else (r1_Round.j1 k x0 x1 x2 x3 (wrap64 (x9 - 53)))))
def r1_Round.j1 : Nat → Bool → Int → List Int → Bool → Int → Option (Int)
 | 0,_,_,_,_,_ => none
 | k + 1,x0,x1,x2,x3,x10 => if x10 ≥ 2 then ((r1_Down.f k x2 (wrap64 (x10 - 2))).bind fun bt338 => (if x3 = true then (r1_Round.j2 k x0 (wrap64 (x1 + x10)) bt338.1 true) else (r1_Round.j2 k x0 (wrap64 (x1 + x10)) bt338.1 bt338.2))) else ((r1_Up.f k x2 (wrap64 (2 - x10))).bind fun t342 => (r1_Round.j2 k x0 (wrap64 (x1 + x10)) t342 x3))
def r1_Round.j2 : Nat → Bool → Int → List Int → Bool → Option (Int)
 | 0,_,_,_,_ => none
 | k + 1,x0,x11,x12,x13 => (r1_Small.f x12).bind fun t345 => ((r1_Small.f x12).bind fun t346 => (if (Go.bits .and .u64 t346 3) > 2 then (r1_Round.j3 k x0 x11 (t345 / 4) true) else (if (Go.bits .and .u64 t346 3) = 2 then (if x13 = true then (r1_Round.j3 k x0 x11 (t345 / 4) true) else (r1_Round.j3 k x0 x11 (t345 / 4) ((Int.tmod (t345 / 4) 2) == 1))) else (r1_Round.j3 k x0 x11 (t345 / 4) false))))
def r1_Round.j3 : Nat → Bool → Int → Int → Bool → Option (Int)
 | 0,_,_,_,_ => none
 | k + 1,x0,x11,x16,x90 => if x90 = true then (r1_Round.j4 k x0 x11 (IntKind.u64.wrap (x16 + 1))) else (r1_Round.j4 k x0 x11 x16)
def r1_Round.j4 : Nat → Bool → Int → Int → Option (Int)
 | 0,_,_,_ => none
 | k + 1,x0,x11,x16 => if x16 = 9007199254740992 then (r1_Round.j5 k x0 (wrap64 (x11 + 1)) 4503599627370496) else (r1_Round.j5 k x0 x11 x16)
def r1_Round.j5 : Nat → Bool → Int → Int → Option (Int)
 | 0,_,_,_ => none
 | k + 1,x0,x11,x16 => if x11 > 971 then ((r1_Infinite.f x0).bind fun t347 => (some t347)) else (if x16 < 4503599627370496 then ((r1_Sign.f x0).bind fun t348 => (some (Go.bits .or .u64 t348 x16))) else ((r1_Sign.f x0).bind fun t349 => (some (Go.bits .or .u64 (Go.bits .or .u64 t349 (IntKind.u64.wrap ((IntKind.u64.wrap (wrap64 (x11 + 1075))) * 4503599627370496))) (IntKind.u64.wrap (x16 - 4503599627370496))))))
end
def r1_Round.f (k : Nat) (a0 : Bool) (a1 : Int) (l2 : List Int) (a3 : Bool) : Option (Int) := (r1_Len.f k l2).bind fun t332 => (if t332 = 0 then (if a3 = true then (r1_Round.j0 k a0 a1 l2 a3 t332 (decide ((wrap64 (t332 + a1)) < (-1100)))) else (r1_Round.j0 k a0 a1 l2 a3 t332 true)) else (r1_Round.j0 k a0 a1 l2 a3 t332 (decide ((wrap64 (t332 + a1)) < (-1100)))))
set_option maxHeartbeats 8000000 in
set_option maxRecDepth 100000 in
theorem r1_Round.calls (k : Nat) (a0 : Bool) (a1 : Int) (A2 : Option Addr) (c2 : Nat) (l2 : List Int) (a3 : Bool) (r : Int) (w : World) (hr2 : Kd.C (Kd.int .u64) w A2 l2.length l2) (hc2 : l2.length ≤ c2) (h : r1_Round.f k a0 a1 l2 a3 = some r) :
  Calls Tryz.prog 33 #[.bool a0,.int .i64 a1,.slice A2 l2.length c2,.bool a3] w fun e w' => e = .returned (.int .u64 r) ∧ Below w.heap.size w w' := by
 have HR2 := am hr2
 have HC2 := am hc2
 clear hr2 hc2
 have HB := am (Below.refl w.heap.size w)
 have H : ((r1_Len.f k l2).bind fun t332 => (if t332 = 0 then (if a3 = true then (r1_Round.j0 k a0 a1 l2 a3 t332 (decide ((wrap64 (t332 + a1)) < (-1100)))) else (r1_Round.j0 k a0 a1 l2 a3 t332 true)) else (r1_Round.j0 k a0 a1 l2 a3 t332 (decide ((wrap64 (t332 + a1)) < (-1100)))))) = some r := h
 clear h
 replace H := Option.bind_eq_some_iff.mp H
 obtain ⟨t332,A50,H⟩ := H
 try dsimp only at H
 have A5 := am A50
 clear A50
 have HC6 := am H
 clear H
 go_enter Tryz.func33,Tryz.ntmps33
 go_upto_region 2 with (first | ((with_reducible refine zQe (f := 36) rfl ?_);refine zQr (some 19) rfl rfl Tryz.func36 (by kernel_rfl) rfl #[.slice A2 l2.length c2] rfl pM ?_;(with_reducible refine (r1_Len.calls k _ _ l2 t332 _ ?side1 ?side2 A5.out).mono ?_);(case side1 => exact pC HR2.out);(case side2 => exact HC2.out);rintro e w' ⟨rfl,⟨nd,rfl⟩⟩;refine ⟨_,rfl,?_⟩))
 (try simp only [Act.put,List.setIfInBounds_toArray,List.set_cons_zero,List.set_cons_succ])
 go_cut [31] (fun v31 wc => ∃ (kq : Nat) (x31_5 : Bool),v31 = .bool x31_5 ∧ Aside0 (r1_Round.j0 kq a0 a1 l2 a3 t332 x31_5 = some r) ∧ Aside0 (kq ≤ k) ∧ Aside0 (Below w.heap.size w wc))
 case first =>
  have H := HC6.out
  clear HC6
  by_cases c7 : t332 = 0
  ·rw [if_pos c7] at H
   have c7b0 : (t332 == 0) = true := beq_iff_eq.mpr c7
   have c7b1 : (t332 != 0) = false := bne_eq_false_iff_eq.mpr c7
   clear c7
   (first | rw [c7b0] | (simp only [i64_w,i32_w];rw [c7b0]) | rw [c7b1] | (simp only [i64_w,i32_w];rw [c7b1]) | skip)
   by_cases c8 : a3 = true
   ·subst c8
    rw [if_pos rfl] at H
    have H' := am H
    clear H
    go_wp2
    go_meet
    case rel => exact ⟨_,(decide ((wrap64 (t332 + a1)) < (-1100))),(by first | rfl | (simp;done) | (simp [*];done)),H',⟨by first | omega | exact Nat.le_refl _⟩,⟨pB⟩⟩
   ·replace c8 := Bool.eq_false_iff.mpr c8
    subst c8
    rw [if_neg (show ¬ (false = true) by decide)] at H
    have H' := am H
    clear H
    go_wp2
    go_meet
    case rel => exact ⟨_,(true),(by first | rfl | (simp;done) | (simp [*];done)),H',⟨by first | omega | exact Nat.le_refl _⟩,⟨pB⟩⟩
  ·rw [if_neg c7] at H
   have c7b0 : (t332 == 0) = false := beq_eq_false_iff_ne.mpr c7
   have c7b1 : (t332 != 0) = true := bne_iff_ne.mpr c7
   (first | rw [c7b0] | (simp only [i64_w,i32_w];rw [c7b0]) | rw [c7b1] | (simp only [i64_w,i32_w];rw [c7b1]) | skip)
   have H' := am H
   clear H
   go_wp2
   go_meet
   case rel => exact ⟨_,(decide ((wrap64 (t332 + a1)) < (-1100))),(by first | rfl | (simp;done) | (simp [*];done)),H',⟨by first | omega | exact Nat.le_refl _⟩,⟨pB⟩⟩
 case rest =>
  clear HC6
  try clear c2
  try clear p2
  try clear c3
  try clear p6
  try clear c7
  try clear c7b0
  try clear c7b1
  try clear c8
  obtain ⟨kq,x31_5,rfl,HA,HJ5,HB⟩ := hcut
  cases kq with
  | zero => exact absurd HA.out (by simp [r1_Round.j0])
  | succ kj5 =>
   have H := HA.out
   clear HA
   simp only [r1_Round.j0] at H
   by_cases c9 : x31_5 = true
   ·subst c9
    rw [if_pos rfl] at H
    replace H := Option.bind_eq_some_iff.mp H
    obtain ⟨t333,A100,H⟩ := H
    try dsimp only at H
    have A10 := am A100
    clear A100
    obtain rfl := Option.some.inj H
    go_wp2_with (first | ((with_reducible refine zQe (f := 62) rfl ?_);refine zQr (some 33) rfl rfl Tryz.func62 (by kernel_rfl) rfl #[.bool a0] rfl pM ?_;(with_reducible refine (r1_Sign.calls a0 t333 _ A10.out).mono ?_);rintro e w' ⟨rfl,⟨nd,rfl⟩⟩;refine ⟨_,rfl,?_⟩))
    go_ret
    exact ⟨pE,pB⟩
   ·replace c9 := Bool.eq_false_iff.mpr c9
    subst c9
    rw [if_neg (show ¬ (false = true) by decide)] at H
    by_cases c11 : (wrap64 (t332 + a1)) > 1100
    ·rw [if_pos c11] at H
     have c11b0 : decide (1100 < (wrap64 (t332 + a1))) = true := decide_eq_true c11
     clear c11
     replace H := Option.bind_eq_some_iff.mp H
     obtain ⟨t334,A120,H⟩ := H
     try dsimp only at H
     have A12 := am A120
     clear A120
     obtain rfl := Option.some.inj H
     go_wp2_with (first | ((with_reducible refine zQe (f := 32) rfl ?_);refine zQr (some 39) rfl rfl Tryz.func32 (by kernel_rfl) rfl #[.bool a0] rfl pM ?_;(with_reducible refine (r1_Infinite.calls a0 t334 _ A12.out).mono ?_);rintro e w' ⟨rfl,⟨nd,rfl⟩⟩;refine ⟨_,rfl,?_⟩))
     go_ret
     exact ⟨pE,pB⟩
    ·rw [if_neg c11] at H
     have c11b0 : decide (1100 < (wrap64 (t332 + a1))) = false := decide_eq_false c11
     clear c11
     have HC13 := am H
     clear H
     go_upto_if 45 with (fail)
     go_cut [10] (fun v10 wc => ∃ (kq : Nat) (x10_12 : Int),v10 = .int .i64 x10_12 ∧ Aside0 (r1_Round.j1 kq a0 a1 l2 a3 x10_12 = some r) ∧ Aside0 (kq ≤ kj5) ∧ Aside0 (Below w.heap.size w wc))
     case first =>
      have H := HC13.out
      clear HC13
      by_cases c14 : (wrap64 ((-1074) - a1)) > (wrap64 (t332 - 53))
      ·rw [if_pos c14] at H
       have c14b0 : decide ((wrap64 (t332 - 53)) < (wrap64 ((-1074) - a1))) = true := decide_eq_true c14
       clear c14
       (first | rw [c14b0] | (simp only [i64_w,i32_w];rw [c14b0]) | rw [c14b1] | (simp only [i64_w,i32_w];rw [c14b1]) | skip)
       have H' := am H
       clear H
       go_wp2
       go_meet
       case rel => exact ⟨_,(wrap64 ((-1074) - a1)),(by first | rfl | (simp;done) | (simp [*];done)),H',⟨by have := HJ5.out;first | omega | exact Nat.le_refl _⟩,⟨pB⟩⟩
      ·rw [if_neg c14] at H
       have c14b0 : decide ((wrap64 (t332 - 53)) < (wrap64 ((-1074) - a1))) = false := decide_eq_false c14
       clear c14
       (first | rw [c14b0] | (simp only [i64_w,i32_w];rw [c14b0]) | rw [c14b1] | (simp only [i64_w,i32_w];rw [c14b1]) | skip)
       have H' := am H
       clear H
       go_wp2
       go_meet
       case rel => exact ⟨_,(wrap64 (t332 - 53)),(by first | rfl | (simp;done) | (simp [*];done)),H',⟨by have := HJ5.out;first | omega | exact Nat.le_refl _⟩,⟨pB⟩⟩
     case rest =>
      clear HC13
      try clear c1
      try clear c2
      try clear p2
      try clear c3
      try clear c6
      try clear p6
      try clear c7
      try clear c7b0
      try clear c7b1
      try clear c8
      try clear c9
      try clear c11
      try clear c11b0
      try clear c14
      try clear c14b0
      try clear c14b1
      try clear p2
      try clear p6
      obtain ⟨kq,x10_12,rfl,HA,HJ12,HB⟩ := hcut
      cases kq with
      | zero => exact absurd HA.out (by simp [r1_Round.j1])
      | succ kj12 =>
       have H := HA.out
       clear HA
       simp only [r1_Round.j1] at H
       obtain ⟨y335,hy335⟩ : ∃ y_ : List Int,y_ = (([] : List Int)) := ⟨_,rfl⟩
       replace H : (if x10_12 ≥ 2 then ((r1_Down.f kj12 l2 (wrap64 (x10_12 - 2))).bind fun bt338 => (if a3 = true then (r1_Round.j2 kj12 a0 (wrap64 (a1 + x10_12)) bt338.1 true) else (r1_Round.j2 kj12 a0 (wrap64 (a1 + x10_12)) bt338.1 bt338.2))) else ((r1_Up.f kj12 l2 (wrap64 (2 - x10_12))).bind fun t342 => (r1_Round.j2 kj12 a0 (wrap64 (a1 + x10_12)) t342 a3))) = some r := by first | (rw [hy335];with_reducible exact H) | (have H2_ := (Option.bind_some _ _).symm.trans H;rw [hy335];with_reducible exact H2_) | (have H2_ := (Option.bind_some _ _).symm.trans H;with_reducible exact H2_) | with_reducible exact H | (rw [hy335];exact H) | exact H
       have Ny335 := am hy335
       clear hy335
       have HC15 := am H
       clear H
       go_upto_if 54 with (first | ((with_reducible refine zQJ (N := 51) rfl ?_);refine Kd.R_lit (Kd.int .u64) _ 22 ?hg (N := 51) ?hd (xs := ([] : List Int)) (inner := []) (ok := fun _ => True) (okp := fun _ => True) ?hr ?hp (fun _ hk => hk) trivial (Below.refl _ _) (Nat.le_refl _) (by simp) ?_;(case hd => rfl);(case hg => rfl);(case hr => first | (go_simp;done) | (go_simp;rfl));(case hp => exact (Reps.none _ _));intro v336 w16 ho17 hb hg_ hnew_;clear hg_ hnew_;(first | rw [← Ny335.out] at ho17 | (simp only [Int.reduceToNat] at ho17;rw [← Ny335.out] at ho17));have HO337 := am (Kd.zQy ho17 (zQc pB));replace HB := am (zQf pB hb);clear hb ho17))
       (try simp only [Act.put,List.setIfInBounds_toArray,List.set_cons_zero,List.set_cons_succ])
       go_cut [12,13] (fun v12 v13 wc => ∃ (kq : Nat) (x12_14 : List Int) (x13_14 : Bool),v13 = .bool x13_14 ∧ Aside0 (r1_Round.j2 kq a0 (wrap64 (a1 + x10_12)) x12_14 x13_14 = some r) ∧ Aside0 (kq ≤ kj12) ∧ Aside0 (Kd.R (Kd.int .u64) 22 wc w.heap.size (fun _ => True) v12 x12_14) ∧ Aside0 (Below w.heap.size w wc))
       case first =>
        have H := HC15.out
        clear HC15
        by_cases c18 : x10_12 ≥ 2
        ·rw [if_pos c18] at H
         have c18b0 : decide (2 ≤ x10_12) = true := decide_eq_true c18
         clear c18
         (first | rw [c18b0] | (simp only [i64_w,i32_w];rw [c18b0]) | rw [c18b1] | (simp only [i64_w,i32_w];rw [c18b1]) | skip)
         replace H := Option.bind_eq_some_iff.mp H
         obtain ⟨⟨t338,t339⟩,A190,H⟩ := H
         try dsimp only at H
         have A19 := am A190
         clear A190
         by_cases c20 : a3 = true
         ·subst c20
          rw [if_pos rfl] at H
          have H' := am H
          clear H
          go_wp2_with (first | ((with_reducible refine zQe (f := 63) rfl ?_);refine zQr (some 59) rfl rfl Tryz.func63 (by kernel_rfl) rfl #[.slice A2 l2.length c2,.int .i64 (wrap64 (x10_12 - 2))] rfl pM ?_;(with_reducible refine (r1_Down.calls kj12 _ _ l2 (wrap64 (x10_12 - 2)) t338 t339 _ ?side1 ?side2 A19.out).mono ?_);(case side1 => exact pC (Kd.zQO HR2.out HB.out));(case side2 => exact HC2.out);rintro e w21 ⟨v340,rfl,ho0,hb⟩;refine ⟨_,rfl,?_⟩;have HO341 := am (Kd.zQy (Kd.zQC ho0 (Kd.R_lt (pR HO337.out))) (zQc pB));replace HO337 := am (Kd.zQt (pR HO337.out) (Kd.zQs ho0) hb);replace HB := am (zQf pB hb);(try clear hb);(try clear ho0)))
          go_meet
          case rel => exact ⟨_,(t338),(true),(by first | rfl | (simp;done) | (simp [*];done)),H',⟨by have := HJ5.out;have := HJ12.out;first | omega | exact Nat.le_refl _⟩,⟨by (with_reducible repeat (first | apply Kd.zQw | apply Kd.zQu | apply Kd.zQx));exact Kd.zQE HO341.out (fun _ hk => trivial)⟩,⟨pB⟩⟩
         ·replace c20 := Bool.eq_false_iff.mpr c20
          subst c20
          rw [if_neg (show ¬ (false = true) by decide)] at H
          have H' := am H
          clear H
          go_wp2_with (first | ((with_reducible refine zQe (f := 63) rfl ?_);refine zQr (some 59) rfl rfl Tryz.func63 (by kernel_rfl) rfl #[.slice A2 l2.length c2,.int .i64 (wrap64 (x10_12 - 2))] rfl pM ?_;(with_reducible refine (r1_Down.calls kj12 _ _ l2 (wrap64 (x10_12 - 2)) t338 t339 _ ?side1 ?side2 A19.out).mono ?_);(case side1 => exact pC (Kd.zQO HR2.out HB.out));(case side2 => exact HC2.out);rintro e w22 ⟨v340,rfl,ho0,hb⟩;refine ⟨_,rfl,?_⟩;have HO341 := am (Kd.zQy (Kd.zQC ho0 (Kd.R_lt (pR HO337.out))) (zQc pB));replace HO337 := am (Kd.zQt (pR HO337.out) (Kd.zQs ho0) hb);replace HB := am (zQf pB hb);(try clear hb);(try clear ho0)))
          go_meet
          case rel => exact ⟨_,(t338),(t339),(by first | rfl | (simp;done) | (simp [*];done)),H',⟨by have := HJ5.out;have := HJ12.out;first | omega | exact Nat.le_refl _⟩,⟨by (with_reducible repeat (first | apply Kd.zQw | apply Kd.zQu | apply Kd.zQx));exact Kd.zQE HO341.out (fun _ hk => trivial)⟩,⟨pB⟩⟩
        ·rw [if_neg c18] at H
         have c18b0 : decide (2 ≤ x10_12) = false := decide_eq_false c18
         clear c18
         (first | rw [c18b0] | (simp only [i64_w,i32_w];rw [c18b0]) | rw [c18b1] | (simp only [i64_w,i32_w];rw [c18b1]) | skip)
         replace H := Option.bind_eq_some_iff.mp H
         obtain ⟨t342,A230,H⟩ := H
         try dsimp only at H
         have A23 := am A230
         clear A230
         have H' := am H
         clear H
         go_wp2_with (first | ((with_reducible refine zQe (f := 38) rfl ?_);refine zQr (some 70) rfl rfl Tryz.func38 (by kernel_rfl) rfl #[.slice A2 l2.length c2,.int .i64 (wrap64 (2 - x10_12))] rfl pM ?_;(with_reducible refine (r1_Up.calls kj12 _ _ l2 (wrap64 (2 - x10_12)) t342 _ ?side1 ?side2 A23.out).mono ?_);(case side1 => exact pC (Kd.zQO HR2.out HB.out));(case side2 => exact HC2.out);rintro e w24 ⟨v343,rfl,ho0,hb⟩;refine ⟨_,rfl,?_⟩;have HO344 := am (Kd.zQy (Kd.zQC ho0 (Kd.R_lt (pR HO337.out))) (zQc pB));replace HO337 := am (Kd.zQt (pR HO337.out) (Kd.zQs ho0) hb);replace HB := am (zQf pB hb);(try clear hb);(try clear ho0)))
         go_meet
         case rel => exact ⟨_,(t342),(a3),(by first | rfl | (simp;done) | (simp [*];done)),H',⟨by have := HJ5.out;have := HJ12.out;first | omega | exact Nat.le_refl _⟩,⟨by (with_reducible repeat (first | apply Kd.zQw | apply Kd.zQu | apply Kd.zQx));exact Kd.zQE HO344.out (fun _ hk => trivial)⟩,⟨pB⟩⟩
       case rest =>
        clear HC15
        try clear c1
        try clear c2
        try clear p2
        try clear c3
        try clear c6
        try clear p6
        try clear c7
        try clear c7b0
        try clear c7b1
        try clear c8
        try clear c9
        try clear c11
        try clear c11b0
        try clear c14
        try clear c14b0
        try clear c14b1
        try clear c18
        try clear c18b0
        try clear c18b1
        try clear c20
        try clear p2
        try clear p6
        obtain ⟨kq,x12_14,x13_14,rfl,HA,HJ14,HO_12,HB⟩ := hcut
        cases kq with
        | zero => exact absurd HA.out (by simp [r1_Round.j2])
        | succ kj14 =>
         have H := HA.out
         clear HA
         simp only [r1_Round.j2] at H
         replace H := Option.bind_eq_some_iff.mp H
         obtain ⟨t345,A250,H⟩ := H
         try dsimp only at H
         have A25 := am A250
         clear A250
         replace H := Option.bind_eq_some_iff.mp H
         obtain ⟨t346,A260,H⟩ := H
         try dsimp only at H
         have A26 := am A260
         clear A260
         have HC27 := am H
         clear H
         obtain ⟨Ao28,co28,eo28⟩ := Kd.zQB HO_12.out
         subst eo28
         go_upto_region 16 with (first | ((with_reducible refine zQe (f := 64) rfl ?_);refine zQr (some 72) rfl rfl Tryz.func64 (by kernel_rfl) rfl #[.slice Ao28 x12_14.length co28] rfl pM ?_;(with_reducible refine (r1_Small.calls _ _ x12_14 t345 _ ?side1 ?side2 A25.out).mono ?_);(case side1 => repeat (first | exact (Kd.zQh HO_12.out).2.2 | (with_reducible refine Kd.zQj ?_ _) | (with_reducible refine Kd.zQi ?_ _) | (with_reducible refine Kd.zQv ?_)));(case side2 => exact (Kd.zQh HO_12.out).2.1);rintro e w' ⟨rfl,⟨nd,rfl⟩⟩;refine ⟨_,rfl,?_⟩) | ((with_reducible refine zQe (f := 64) rfl ?_);refine zQr (some 75) rfl rfl Tryz.func64 (by kernel_rfl) rfl #[.slice Ao28 x12_14.length co28] rfl pM ?_;(with_reducible refine (r1_Small.calls _ _ x12_14 t346 _ ?side1 ?side2 A26.out).mono ?_);(case side1 => repeat (first | exact (Kd.zQh HO_12.out).2.2 | (with_reducible refine Kd.zQj ?_ _) | (with_reducible refine Kd.zQi ?_ _) | (with_reducible refine Kd.zQv ?_)));(case side2 => exact (Kd.zQh HO_12.out).2.1);rintro e w' ⟨rfl,⟨nd,rfl⟩⟩;refine ⟨_,rfl,?_⟩))
         (try simp only [Act.put,List.setIfInBounds_toArray,List.set_cons_zero,List.set_cons_succ])
         go_cut [90] (fun v90 wc => ∃ (kq : Nat) (x90_26 : Bool),v90 = .bool x90_26 ∧ Aside0 (r1_Round.j3 kq a0 (wrap64 (a1 + x10_12)) (t345 / 4) x90_26 = some r) ∧ Aside0 (kq ≤ kj14) ∧ Aside0 (Below w.heap.size w wc))
         case first =>
          have H := HC27.out
          clear HC27
          by_cases c29 : (Go.bits .and .u64 t346 3) > 2
          ·rw [if_pos c29] at H
           have c29b0 : decide (2 < (Go.bits .and .u64 t346 3)) = true := decide_eq_true c29
           clear c29
           (first | rw [c29b0] | (simp only [i64_w,i32_w];rw [c29b0]) | rw [c29b1] | (simp only [i64_w,i32_w];rw [c29b1]) | skip)
           have H' := am H
           clear H
           go_wp2
           go_meet
           case rel => exact ⟨_,(true),(by first | rfl | (simp;done) | (simp [*];done)),H',⟨by have := HJ5.out;have := HJ12.out;have := HJ14.out;first | omega | exact Nat.le_refl _⟩,⟨pB⟩⟩
          ·rw [if_neg c29] at H
           have c29b0 : decide (2 < (Go.bits .and .u64 t346 3)) = false := decide_eq_false c29
           clear c29
           (first | rw [c29b0] | (simp only [i64_w,i32_w];rw [c29b0]) | rw [c29b1] | (simp only [i64_w,i32_w];rw [c29b1]) | skip)
           by_cases c30 : (Go.bits .and .u64 t346 3) = 2
           ·rw [if_pos c30] at H
            have c30b0 : ((Go.bits .and .u64 t346 3) == 2) = true := beq_iff_eq.mpr c30
            have c30b1 : ((Go.bits .and .u64 t346 3) != 2) = false := bne_eq_false_iff_eq.mpr c30
            clear c30
            by_cases c31 : x13_14 = true
            ·subst c31
             rw [if_pos rfl] at H
             have H' := am H
             clear H
             go_wp2
             go_meet
             case rel => exact ⟨_,(true),(by first | rfl | (simp;done) | (simp [*];done)),H',⟨by have := HJ5.out;have := HJ12.out;have := HJ14.out;first | omega | exact Nat.le_refl _⟩,⟨pB⟩⟩
            ·replace c31 := Bool.eq_false_iff.mpr c31
             subst c31
             rw [if_neg (show ¬ (false = true) by decide)] at H
             have H' := am H
             clear H
             go_wp2
             go_meet
             case rel => exact ⟨_,(((Int.tmod (t345 / 4) 2) == 1)),(by first | rfl | (simp;done) | (simp [*];done)),H',⟨by have := HJ5.out;have := HJ12.out;have := HJ14.out;first | omega | exact Nat.le_refl _⟩,⟨pB⟩⟩
           ·rw [if_neg c30] at H
            have c30b0 : ((Go.bits .and .u64 t346 3) == 2) = false := beq_eq_false_iff_ne.mpr c30
            have c30b1 : ((Go.bits .and .u64 t346 3) != 2) = true := bne_iff_ne.mpr c30
            have H' := am H
            clear H
            go_wp2
            go_meet
            case rel => exact ⟨_,(false),(by first | rfl | (simp;done) | (simp [*];done)),H',⟨by have := HJ5.out;have := HJ12.out;have := HJ14.out;first | omega | exact Nat.le_refl _⟩,⟨pB⟩⟩
         case rest =>
          clear HC27
          try clear c1
          try clear c2
          try clear p2
          try clear c3
          try clear c6
          try clear p6
          try clear c7
          try clear c7b0
          try clear c7b1
          try clear c8
          try clear c9
          try clear c11
          try clear c11b0
          try clear c14
          try clear c14b0
          try clear c14b1
          try clear c18
          try clear c18b0
          try clear c18b1
          try clear c20
          try clear c29
          try clear c29b0
          try clear c29b1
          try clear c30
          try clear c30b0
          try clear c30b1
          try clear c31
          try clear p2
          try clear p6
          obtain ⟨kq,x90_26,rfl,HA,HJ26,HB⟩ := hcut
          cases kq with
          | zero => exact absurd HA.out (by simp [r1_Round.j3])
          | succ kj26 =>
           have H := HA.out
           clear HA
           simp only [r1_Round.j3] at H
           have HC32 := am H
           clear H
           go_upto_if 90 with (fail)
           go_cut [16] (fun v16 wc => ∃ (kq : Nat) (x16_31 : Int),v16 = .int .u64 x16_31 ∧ Aside0 (r1_Round.j4 kq a0 (wrap64 (a1 + x10_12)) x16_31 = some r) ∧ Aside0 (kq ≤ kj26) ∧ Aside0 (Below w.heap.size w wc))
           case first =>
            have H := HC32.out
            clear HC32
            by_cases c33 : x90_26 = true
            ·subst c33
             rw [if_pos rfl] at H
             have H' := am H
             clear H
             go_wp2
             go_meet
             case rel => exact ⟨_,(IntKind.u64.wrap ((t345 / 4) + 1)),(by first | rfl | (simp;done) | (simp [*];done)),H',⟨by have := HJ5.out;have := HJ12.out;have := HJ14.out;have := HJ26.out;first | omega | exact Nat.le_refl _⟩,⟨pB⟩⟩
            ·replace c33 := Bool.eq_false_iff.mpr c33
             subst c33
             rw [if_neg (show ¬ (false = true) by decide)] at H
             have H' := am H
             clear H
             go_wp2
             go_meet
             case rel => exact ⟨_,((t345 / 4)),(by first | rfl | (simp;done) | (simp [*];done)),H',⟨by have := HJ5.out;have := HJ12.out;have := HJ14.out;have := HJ26.out;first | omega | exact Nat.le_refl _⟩,⟨pB⟩⟩
           case rest =>
            clear HC32
            try clear c1
            try clear c2
            try clear p2
            try clear c3
            try clear c6
            try clear p6
            try clear c7
            try clear c7b0
            try clear c7b1
            try clear c8
            try clear c9
            try clear c11
            try clear c11b0
            try clear c14
            try clear c14b0
            try clear c14b1
            try clear c18
            try clear c18b0
            try clear c18b1
            try clear c20
            try clear c29
            try clear c29b0
            try clear c29b1
            try clear c30
            try clear c30b0
            try clear c30b1
            try clear c31
            try clear c32
            try clear c33
            try clear p2
            try clear p6
            obtain ⟨kq,x16_31,rfl,HA,HJ31,HB⟩ := hcut
            cases kq with
            | zero => exact absurd HA.out (by simp [r1_Round.j4])
            | succ kj31 =>
             have H := HA.out
             clear HA
             simp only [r1_Round.j4] at H
             have HC34 := am H
             clear H
             go_upto_if 94 with (fail)
             go_cut [11,16] (fun v11 v16 wc => ∃ (kq : Nat) (x11_33 : Int) (x16_33 : Int),v11 = .int .i64 x11_33 ∧ v16 = .int .u64 x16_33 ∧ Aside0 (r1_Round.j5 kq a0 x11_33 x16_33 = some r) ∧ Aside0 (kq ≤ kj31) ∧ Aside0 (Below w.heap.size w wc))
             case first =>
              have H := HC34.out
              clear HC34
              by_cases c35 : x16_31 = 9007199254740992
              ·rw [if_pos c35] at H
               have c35b0 : (x16_31 == 9007199254740992) = true := beq_iff_eq.mpr c35
               have c35b1 : (x16_31 != 9007199254740992) = false := bne_eq_false_iff_eq.mpr c35
               clear c35
               (first | rw [c35b0] | (simp only [i64_w,i32_w];rw [c35b0]) | rw [c35b1] | (simp only [i64_w,i32_w];rw [c35b1]) | skip)
               have H' := am H
               clear H
               go_wp2
               go_meet
               case rel => exact ⟨_,(wrap64 ((wrap64 (a1 + x10_12)) + 1)),(4503599627370496),(by first | rfl | (simp;done) | (simp [*];done)),(by first | rfl | (simp;done) | (simp [*];done)),H',⟨by have := HJ5.out;have := HJ12.out;have := HJ14.out;have := HJ26.out;have := HJ31.out;first | omega | exact Nat.le_refl _⟩,⟨pB⟩⟩
              ·rw [if_neg c35] at H
               have c35b0 : (x16_31 == 9007199254740992) = false := beq_eq_false_iff_ne.mpr c35
               have c35b1 : (x16_31 != 9007199254740992) = true := bne_iff_ne.mpr c35
               (first | rw [c35b0] | (simp only [i64_w,i32_w];rw [c35b0]) | rw [c35b1] | (simp only [i64_w,i32_w];rw [c35b1]) | skip)
               have H' := am H
               clear H
               go_wp2
               go_meet
               case rel => exact ⟨_,((wrap64 (a1 + x10_12))),(x16_31),(by first | rfl | (simp;done) | (simp [*];done)),(by first | rfl | (simp;done) | (simp [*];done)),H',⟨by have := HJ5.out;have := HJ12.out;have := HJ14.out;have := HJ26.out;have := HJ31.out;first | omega | exact Nat.le_refl _⟩,⟨pB⟩⟩
             case rest =>
              clear HC34
              try clear c1
              try clear c2
              try clear p2
              try clear c3
              try clear c6
              try clear p6
              try clear c7
              try clear c7b0
              try clear c7b1
              try clear c8
              try clear c9
              try clear c11
              try clear c11b0
              try clear c14
              try clear c14b0
              try clear c14b1
              try clear c18
              try clear c18b0
              try clear c18b1
              try clear c20
              try clear c29
              try clear c29b0
              try clear c29b1
              try clear c30
              try clear c30b0
              try clear c30b1
              try clear c31
              try clear c32
              try clear c33
              try clear c35
              try clear c35b0
              try clear c35b1
              try clear p2
              try clear p6
              obtain ⟨kq,x11_33,x16_33,rfl,rfl,HA,HJ33,HB⟩ := hcut
              cases kq with
              | zero => exact absurd HA.out (by simp [r1_Round.j5])
              | succ kj33 =>
               have H := HA.out
               clear HA
               simp only [r1_Round.j5] at H
               by_cases c36 : x11_33 > 971
               ·rw [if_pos c36] at H
                have c36b0 : decide (971 < x11_33) = true := decide_eq_true c36
                clear c36
                replace H := Option.bind_eq_some_iff.mp H
                obtain ⟨t347,A370,H⟩ := H
                try dsimp only at H
                have A37 := am A370
                clear A370
                obtain rfl := Option.some.inj H
                go_wp2_with (first | ((with_reducible refine zQe (f := 32) rfl ?_);refine zQr (some 100) rfl rfl Tryz.func32 (by kernel_rfl) rfl #[.bool a0] rfl pM ?_;(with_reducible refine (r1_Infinite.calls a0 t347 _ A37.out).mono ?_);rintro e w' ⟨rfl,⟨nd,rfl⟩⟩;refine ⟨_,rfl,?_⟩))
                go_ret
                exact ⟨pE,pB⟩
               ·rw [if_neg c36] at H
                have c36b0 : decide (971 < x11_33) = false := decide_eq_false c36
                clear c36
                by_cases c38 : x16_33 < 4503599627370496
                ·rw [if_pos c38] at H
                 have c38b0 : decide (x16_33 < 4503599627370496) = true := decide_eq_true c38
                 clear c38
                 replace H := Option.bind_eq_some_iff.mp H
                 obtain ⟨t348,A390,H⟩ := H
                 try dsimp only at H
                 have A39 := am A390
                 clear A390
                 obtain rfl := Option.some.inj H
                 go_wp2_with (first | ((with_reducible refine zQe (f := 62) rfl ?_);refine zQr (some 104) rfl rfl Tryz.func62 (by kernel_rfl) rfl #[.bool a0] rfl pM ?_;(with_reducible refine (r1_Sign.calls a0 t348 _ A39.out).mono ?_);rintro e w' ⟨rfl,⟨nd,rfl⟩⟩;refine ⟨_,rfl,?_⟩))
                 go_ret
                 exact ⟨pE,pB⟩
                ·rw [if_neg c38] at H
                 have c38b0 : decide (x16_33 < 4503599627370496) = false := decide_eq_false c38
                 clear c38
                 replace H := Option.bind_eq_some_iff.mp H
                 obtain ⟨t349,A400,H⟩ := H
                 try dsimp only at H
                 have A40 := am A400
                 clear A400
                 obtain rfl := Option.some.inj H
                 go_wp2_with (first | ((with_reducible refine zQe (f := 62) rfl ?_);refine zQr (some 108) rfl rfl Tryz.func62 (by kernel_rfl) rfl #[.bool a0] rfl pM ?_;(with_reducible refine (r1_Sign.calls a0 t349 _ A40.out).mono ?_);rintro e w' ⟨rfl,⟨nd,rfl⟩⟩;refine ⟨_,rfl,?_⟩))
                 go_ret
                 exact ⟨pE,pB⟩
def r5_Ten.l0 : Nat → Int → List Int → List Int → Option (List Int)
 | 0,_,_,_ => none
 | k + 1,x0,x3,x4 => if x0 > 0 then (if (Int.tmod x0 2) = 1 then ((r1_Product.f k x3 x4).bind fun t356 => ((r1_Product.f k x4 x4).bind fun t359 => (r5_Ten.l0 k (wrap64 (Int.tdiv x0 2)) t356 t359))) else ((r1_Product.f k x4 x4).bind fun t362 => (r5_Ten.l0 k (wrap64 (Int.tdiv x0 2)) x3 t362))) else (some x3)
def r5_Ten.f (k : Nat) (a0 : Int) : Option (List Int) := r5_Ten.l0 k a0 (([1] : List Int)) (([10] : List Int))
set_option maxHeartbeats 8000000 in
set_option maxRecDepth 100000 in
theorem r5_Ten.calls (k : Nat) (a0 : Int) (r : List Int) (w : World) (h : r5_Ten.f k a0 = some r) :
  Calls Tryz.prog 35 #[.int .i64 a0] w fun e w' => ∃ v0_ : Value,e = .returned (v0_) ∧ Kd.R (Kd.int .u64) 22 w' w.heap.size (fun _ => True) v0_ r ∧ Below w.heap.size w w' := by
 have HB := am (Below.refl w.heap.size w)
 have H : (r5_Ten.l0 k a0 (([1] : List Int)) (([10] : List Int))) = some r := h
 clear h
 obtain ⟨y350,hy350⟩ : ∃ y_ : List Int,y_ = (([1] : List Int)) := ⟨_,rfl⟩
 replace H : (r5_Ten.l0 k a0 y350 (([10] : List Int))) = some r := by first | (rw [hy350];with_reducible exact H) | (have H2_ := (Option.bind_some _ _).symm.trans H;rw [hy350];with_reducible exact H2_) | (have H2_ := (Option.bind_some _ _).symm.trans H;with_reducible exact H2_) | with_reducible exact H | (rw [hy350];exact H) | exact H
 have Ny350 := am hy350
 clear hy350
 obtain ⟨y353,hy353⟩ : ∃ y_ : List Int,y_ = (([10] : List Int)) := ⟨_,rfl⟩
 replace H : (r5_Ten.l0 k a0 y350 y353) = some r := by first | (rw [hy353];with_reducible exact H) | (have H2_ := (Option.bind_some _ _).symm.trans H;rw [hy353];with_reducible exact H2_) | (have H2_ := (Option.bind_some _ _).symm.trans H;with_reducible exact H2_) | with_reducible exact H | (rw [hy353];exact H) | exact H
 have Ny353 := am hy353
 clear hy353
 have H' := am H
 clear H
 go_enter Tryz.func35,Tryz.ntmps35
 go_wp2_with (first | ((with_reducible refine zQJ (N := 5) rfl ?_);refine Kd.R_lit (Kd.int .u64) _ 22 ?hg (N := 5) ?hd (xs := ([1] : List Int)) (inner := [.int .u64 1]) (ok := fun _ => True) (okp := fun _ => True) ?hr ?hp (fun _ hk => hk) trivial (Below.refl _ _) (Nat.le_refl _) (by simp) ?_;(case hd => rfl);(case hg => rfl);(case hr => first | (go_simp;done) | (go_simp;rfl));(case hp => exact (Reps.one (show Kd.M (Kd.int .u64) _ _ _ 1 [.int .u64 1] from rfl) (Reps.none _ _)));intro v351 w2 ho3 hb hg_ hnew_;clear hg_ hnew_;(first | rw [← Ny350.out] at ho3 | (simp only [Int.reduceToNat] at ho3;rw [← Ny350.out] at ho3));have HO352 := am (Kd.zQy ho3 (zQc pB));replace HB := am (zQf pB hb);clear hb ho3) | ((with_reducible refine zQJ (N := 6) rfl ?_);refine Kd.R_lit (Kd.int .u64) _ 22 ?hg (N := 6) ?hd (xs := ([10] : List Int)) (inner := [.int .u64 10]) (ok := fun _ => True) (okp := fun _ => True) ?hr ?hp (fun _ hk => hk) trivial (Below.refl _ _) (Nat.le_refl _) (by simp) ?_;(case hd => rfl);(case hg => rfl);(case hr => first | (go_simp;done) | (go_simp;rfl));(case hp => exact (Reps.one (show Kd.M (Kd.int .u64) _ _ _ 10 [.int .u64 10] from rfl) (Reps.none _ _)));intro v354 w4 ho5 hb hg_ hnew_;clear hg_ hnew_;(first | rw [← Ny353.out] at ho5 | (simp only [Int.reduceToNat] at ho5;rw [← Ny353.out] at ho5));have HO355 := am (Kd.zQy (Kd.zQC ho5 (Kd.R_lt (pR HO352.out))) (zQc pB));replace HO352 := am (Kd.zQt (pR HO352.out) (Kd.zQs ho5) hb);replace HB := am (zQf pB hb);clear hb ho5))
 go_loopg [0,3,4] k (fun kq v0 v3 v4 w' => ∃ (x0_1 : Int) (x3_1 : List Int) (x4_1 : List Int),v0 = .int .i64 x0_1 ∧ Aside0 (r5_Ten.l0 kq x0_1 x3_1 x4_1 = some r) ∧ Aside0 (kq ≤ k) ∧ Aside0 (Kd.R (Kd.int .u64) 22 w' w.heap.size (fun k_ => some k_ ≠ (v4 : Value).ownBlock) v3 x3_1) ∧ Aside0 (Kd.R (Kd.int .u64) 22 w' w.heap.size (fun k_ => some k_ ≠ (v3 : Value).ownBlock) v4 x4_1) ∧ Aside0 (Below w.heap.size w w'))
 case atStart => exact ⟨(a0),(y350),(y353),(by first | rfl | (simp;done) | (simp [*];done)),H',⟨Nat.le_refl _⟩,⟨by (with_reducible repeat (first | apply Kd.zQw | apply Kd.zQu | apply Kd.zQx));exact Kd.zQE HO352.out (fun _ hk => hk.2)⟩,⟨by (with_reducible repeat (first | apply Kd.zQw | apply Kd.zQu | apply Kd.zQx));exact Kd.zQE HO355.out (fun _ hk => hk.2)⟩,⟨pB⟩⟩
 case round =>
  clear H'
  try clear p2
  try clear c3
  obtain ⟨x0_1,x3_1,x4_1,rfl,HA,HK1,HO_3,HO_4,HB⟩ := hrel
  cases gk with
  | zero => exact absurd HA.out (by simp [r5_Ten.l0])
  | succ k1 =>
   have H := HA.out
   clear HA
   simp only [r5_Ten.l0] at H
   by_cases c6 : x0_1 > 0
   ·rw [if_pos c6] at H
    have c6b0 : decide (0 < x0_1) = true := decide_eq_true c6
    clear c6
    by_cases c7 : (Int.tmod x0_1 2) = 1
    ·rw [if_pos c7] at H
     have c7b0 : ((Int.tmod x0_1 2) == 1) = true := beq_iff_eq.mpr c7
     have c7b1 : ((Int.tmod x0_1 2) != 1) = false := bne_eq_false_iff_eq.mpr c7
     clear c7
     replace H := Option.bind_eq_some_iff.mp H
     obtain ⟨t356,A80,H⟩ := H
     try dsimp only at H
     have A8 := am A80
     clear A80
     replace H := Option.bind_eq_some_iff.mp H
     obtain ⟨t359,A90,H⟩ := H
     try dsimp only at H
     have A9 := am A90
     clear A90
     have H' := am H
     clear H
     obtain ⟨Ao10,co10,eo10⟩ := Kd.zQB HO_3.out
     subst eo10
     obtain ⟨Ao11,co11,eo11⟩ := Kd.zQB HO_4.out
     subst eo11
     go_wp2_with (first | ((with_reducible refine zQe (f := 34) rfl ?_);refine zQr (some 14) rfl rfl Tryz.func34 (by kernel_rfl) rfl #[.slice Ao10 x3_1.length co10,.slice Ao11 x4_1.length co11] rfl pM ?_;(with_reducible refine (r1_Product.calls k1 _ _ x3_1 _ _ x4_1 t356 _ ?side1 ?side2 ?side3 ?side4 A8.out).mono ?_);(case side1 => repeat (first | exact (Kd.zQh HO_3.out).2.2 | (with_reducible refine Kd.zQj ?_ _) | (with_reducible refine Kd.zQi ?_ _) | (with_reducible refine Kd.zQv ?_)));(case side2 => exact (Kd.zQh HO_3.out).2.1);(case side3 => repeat (first | exact (Kd.zQh HO_4.out).2.2 | (with_reducible refine Kd.zQj ?_ _) | (with_reducible refine Kd.zQi ?_ _) | (with_reducible refine Kd.zQv ?_)));(case side4 => exact (Kd.zQh HO_4.out).2.1);rintro e w12 ⟨v357,rfl,ho0,hb⟩;refine ⟨_,rfl,?_⟩;have HO358 := am (Kd.zQy (Kd.zQC (Kd.zQC ho0 (Kd.R_lt (pR HO_3.out))) (Kd.R_lt (pR HO_4.out))) (zQc pB));replace HO_3 := am (Kd.zQt (pR HO_3.out) (Kd.zQs ho0) hb);replace HO_4 := am (Kd.zQt (pR HO_4.out) (Kd.zQs ho0) hb);replace HB := am (zQf pB hb);(try clear hb);(try clear ho0)) | ((with_reducible refine zQe (f := 34) rfl ?_);refine zQr (some 17) rfl rfl Tryz.func34 (by kernel_rfl) rfl #[.slice Ao11 x4_1.length co11,.slice Ao11 x4_1.length co11] rfl pM ?_;(with_reducible refine (r1_Product.calls k1 _ _ x4_1 _ _ x4_1 t359 _ ?side1 ?side2 ?side3 ?side4 A9.out).mono ?_);(case side1 => repeat (first | exact (Kd.zQh HO_4.out).2.2 | (with_reducible refine Kd.zQj ?_ _) | (with_reducible refine Kd.zQi ?_ _) | (with_reducible refine Kd.zQv ?_)));(case side2 => exact (Kd.zQh HO_4.out).2.1);(case side3 => repeat (first | exact (Kd.zQh HO_4.out).2.2 | (with_reducible refine Kd.zQj ?_ _) | (with_reducible refine Kd.zQi ?_ _) | (with_reducible refine Kd.zQv ?_)));(case side4 => exact (Kd.zQh HO_4.out).2.1);rintro e w13 ⟨v360,rfl,ho0,hb⟩;refine ⟨_,rfl,?_⟩;have HO361 := am (Kd.zQy (Kd.zQC (Kd.zQC (Kd.zQC ho0 (Kd.R_lt (pR HO_3.out))) (Kd.R_lt (pR HO_4.out))) (Kd.R_lt (pR HO358.out))) (zQc pB));replace HO_3 := am (Kd.zQt (pR HO_3.out) (Kd.zQs ho0) hb);replace HO_4 := am (Kd.zQt (pR HO_4.out) (Kd.zQs ho0) hb);replace HO358 := am (Kd.zQt (pR HO358.out) (Kd.zQs ho0) hb);replace HB := am (zQf pB hb);(try clear hb);(try clear ho0)))
     go_roundg k1
     case measure => have := HK1.out;omega
     case rel => exact ⟨(wrap64 (Int.tdiv x0_1 2)),(t356),(t359),(by first | rfl | (simp;done) | (simp [*];done)),H',⟨by have := HK1.out;omega⟩,⟨by (with_reducible repeat (first | apply Kd.zQw | apply Kd.zQu | apply Kd.zQx));exact Kd.zQE HO358.out (fun _ hk => hk.2)⟩,⟨by (with_reducible repeat (first | apply Kd.zQw | apply Kd.zQu | apply Kd.zQx));exact Kd.zQE HO361.out (fun _ hk => hk.2)⟩,⟨pB⟩⟩
    ·rw [if_neg c7] at H
     have c7b0 : ((Int.tmod x0_1 2) == 1) = false := beq_eq_false_iff_ne.mpr c7
     have c7b1 : ((Int.tmod x0_1 2) != 1) = true := bne_iff_ne.mpr c7
     replace H := Option.bind_eq_some_iff.mp H
     obtain ⟨t362,A140,H⟩ := H
     try dsimp only at H
     have A14 := am A140
     clear A140
     have H' := am H
     clear H
     obtain ⟨Ao15,co15,eo15⟩ := Kd.zQB HO_4.out
     subst eo15
     go_wp2_with (first | ((with_reducible refine zQe (f := 34) rfl ?_);refine zQr (some 17) rfl rfl Tryz.func34 (by kernel_rfl) rfl #[.slice Ao15 x4_1.length co15,.slice Ao15 x4_1.length co15] rfl pM ?_;(with_reducible refine (r1_Product.calls k1 _ _ x4_1 _ _ x4_1 t362 _ ?side1 ?side2 ?side3 ?side4 A14.out).mono ?_);(case side1 => repeat (first | exact (Kd.zQh HO_4.out).2.2 | (with_reducible refine Kd.zQj ?_ _) | (with_reducible refine Kd.zQi ?_ _) | (with_reducible refine Kd.zQv ?_)));(case side2 => exact (Kd.zQh HO_4.out).2.1);(case side3 => repeat (first | exact (Kd.zQh HO_4.out).2.2 | (with_reducible refine Kd.zQj ?_ _) | (with_reducible refine Kd.zQi ?_ _) | (with_reducible refine Kd.zQv ?_)));(case side4 => exact (Kd.zQh HO_4.out).2.1);rintro e w16 ⟨v363,rfl,ho0,hb⟩;refine ⟨_,rfl,?_⟩;have HO364 := am (Kd.zQy (Kd.zQC (Kd.zQC ho0 (Kd.R_lt (pR HO_3.out))) (Kd.R_lt (pR HO_4.out))) (zQc pB));replace HO_3 := am (Kd.zQt (pR HO_3.out) (Kd.zQs ho0) hb);replace HO_4 := am (Kd.zQt (pR HO_4.out) (Kd.zQs ho0) hb);replace HB := am (zQf pB hb);(try clear hb);(try clear ho0)))
     go_roundg k1
     case measure => have := HK1.out;omega
     case rel => exact ⟨(wrap64 (Int.tdiv x0_1 2)),(x3_1),(t362),(by first | rfl | (simp;done) | (simp [*];done)),H',⟨by have := HK1.out;omega⟩,⟨by (with_reducible repeat (first | apply Kd.zQw | apply Kd.zQu | apply Kd.zQx));exact Kd.zQE HO_3.out (fun _ hk => hk.2)⟩,⟨by (with_reducible repeat (first | apply Kd.zQw | apply Kd.zQu | apply Kd.zQx));exact Kd.zQE HO364.out (fun _ hk => hk.1.2)⟩,⟨pB⟩⟩
   ·rw [if_neg c6] at H
    have c6b0 : decide (0 < x0_1) = false := decide_eq_false c6
    clear c6
    obtain rfl := Option.some.inj H
    go_wp2
    go_ret
    exact ⟨_,pE,by (with_reducible repeat (first | apply Kd.zQw | apply Kd.zQu | apply Kd.zQx));exact Kd.zQE HO_3.out (fun _ hk => trivial),pB⟩
end Go.Proofs.YtflcanpajgpghaaGreatDoor.Pr
end
section
namespace Go.Proofs.YtflcanpajgpghaaGreatDoor.Pr
open Go.RowKit Go.Proofs.YtflcanpajgpghaaGreatDoorW.PrintWords Go.Proofs.YtflcanpajgpghaaGreatDoorW.PrintLast Go.Proofs.YtflcanpajgpghaaGreatDoorW.PrintMore
attribute [local go_sem] zXm zXk zXy zXx zXa zQZ zXl zXj
def r1_Cmp.l0 : Nat → List Int → List Int → Int → Option (Int)
 | 0,_,_,_ => none
 | k + 1,x0,x1,x5 => if x5 ≥ 0 then ((r1_at.f x0 x5).bind fun t366 => ((r1_at.f x1 x5).bind fun t367 => (if t366 < t367 then (some (-1)) else ((r1_at.f x0 x5).bind fun t368 => ((r1_at.f x1 x5).bind fun t369 => (if t368 > t369 then (some 1) else (r1_Cmp.l0 k x0 x1 (wrap64 (x5 - 1))))))))) else (some 0)
def r1_Cmp.f (k : Nat) (l0 : List Int) (l1 : List Int) : Option (Int) := (r1_most.f l0 l1).bind fun t365 => (r1_Cmp.l0 k l0 l1 (wrap64 (t365 - 1)))
set_option maxHeartbeats 8000000 in
set_option maxRecDepth 100000 in
theorem r1_Cmp.calls (k : Nat) (A0 : Option Addr) (c0 : Nat) (l0 : List Int) (A1 : Option Addr) (c1 : Nat) (l1 : List Int) (r : Int) (w : World) (hr0 : Kd.C (Kd.int .u64) w A0 l0.length l0) (hc0 : l0.length ≤ c0) (hr1 : Kd.C (Kd.int .u64) w A1 l1.length l1) (hc1 : l1.length ≤ c1) (h : r1_Cmp.f k l0 l1 = some r) :
  Calls Tryz.prog 53 #[.slice A0 l0.length c0,.slice A1 l1.length c1] w fun e w' => e = .returned (.int .i64 r) ∧ Drawn0 w w' := by
 have HR0 := am hr0
 have HC0 := am hc0
 clear hr0 hc0
 have HR1 := am hr1
 have HC1 := am hc1
 clear hr1 hc1
 have H : ((r1_most.f l0 l1).bind fun t365 => (r1_Cmp.l0 k l0 l1 (wrap64 (t365 - 1)))) = some r := h
 clear h
 replace H := Option.bind_eq_some_iff.mp H
 obtain ⟨t365,A30,H⟩ := H
 try dsimp only at H
 have A3 := am A30
 clear A30
 have H' := am H
 clear H
 go_enter Tryz.func53,Tryz.ntmps53
 go_wp2_with (first | ((with_reducible refine zQe (f := 80) rfl ?_);refine zQr (some 8) rfl rfl Tryz.func80 (by kernel_rfl) rfl #[.slice A0 l0.length c0,.slice A1 l1.length c1] rfl pM ?_;(with_reducible refine (r1_most.calls _ _ l0 _ _ l1 t365 _ ?side1 ?side2 ?side3 ?side4 A3.out).mono ?_);(case side1 => exact pC HR0.out);(case side2 => exact HC0.out);(case side3 => exact pC HR1.out);(case side4 => exact HC1.out);rintro e w' ⟨rfl,⟨nd,rfl⟩⟩;refine ⟨_,rfl,?_⟩))
 go_loopg [5] k (fun kq v5 w' => ∃ (x5_1 : Int),v5 = .int .i64 x5_1 ∧ Aside0 (r1_Cmp.l0 kq l0 l1 x5_1 = some r) ∧ Aside0 (kq ≤ k) ∧ Drawn0 w w')
 case atStart => exact ⟨(wrap64 (t365 - 1)),(by first | rfl | (simp;done) | (simp [*];done)),H',⟨Nat.le_refl _⟩,by repeat (first | exact Drawn0.refl _ | apply Drawn0.step)⟩
 case round =>
  clear H'
  try clear c1
  try clear p2
  obtain ⟨x5_1,rfl,HA,HK1,⟨m1,rfl⟩⟩ := hrel
  cases gk with
  | zero => exact absurd HA.out (by simp [r1_Cmp.l0])
  | succ k1 =>
   have H := HA.out
   clear HA
   simp only [r1_Cmp.l0] at H
   by_cases c4 : x5_1 ≥ 0
   ·rw [if_pos c4] at H
    have c4b0 : decide (0 ≤ x5_1) = true := decide_eq_true c4
    clear c4
    replace H := Option.bind_eq_some_iff.mp H
    obtain ⟨t366,A50,H⟩ := H
    try dsimp only at H
    have A5 := am A50
    clear A50
    replace H := Option.bind_eq_some_iff.mp H
    obtain ⟨t367,A60,H⟩ := H
    try dsimp only at H
    have A6 := am A60
    clear A60
    by_cases c7 : t366 < t367
    ·rw [if_pos c7] at H
     have c7b0 : decide (t366 < t367) = true := decide_eq_true c7
     clear c7
     obtain rfl := Option.some.inj H
     go_wp2_with (first | ((with_reducible refine zQe (f := 81) rfl ?_);refine zQr (some 16) rfl rfl Tryz.func81 (by kernel_rfl) rfl #[.slice A0 l0.length c0,.int .i64 x5_1] rfl pM ?_;(with_reducible refine (r1_at.calls _ _ l0 x5_1 t366 _ ?side1 ?side2 A5.out).mono ?_);(case side1 => exact pC HR0.out);(case side2 => exact HC0.out);rintro e w' ⟨rfl,⟨nd,rfl⟩⟩;refine ⟨_,rfl,?_⟩) | ((with_reducible refine zQe (f := 81) rfl ?_);refine zQr (some 19) rfl rfl Tryz.func81 (by kernel_rfl) rfl #[.slice A1 l1.length c1,.int .i64 x5_1] rfl pM ?_;(with_reducible refine (r1_at.calls _ _ l1 x5_1 t367 _ ?side1 ?side2 A6.out).mono ?_);(case side1 => exact pC HR1.out);(case side2 => exact HC1.out);rintro e w' ⟨rfl,⟨nd,rfl⟩⟩;refine ⟨_,rfl,?_⟩))
     go_ret
     exact ⟨by first | rfl | (simp;done) | (simp [*];done),by repeat (first | exact Drawn0.refl _ | apply Drawn0.step)⟩
    ·rw [if_neg c7] at H
     have c7b0 : decide (t366 < t367) = false := decide_eq_false c7
     clear c7
     replace H := Option.bind_eq_some_iff.mp H
     obtain ⟨t368,A80,H⟩ := H
     try dsimp only at H
     have A8 := am A80
     clear A80
     replace H := Option.bind_eq_some_iff.mp H
     obtain ⟨t369,A90,H⟩ := H
     try dsimp only at H
     have A9 := am A90
     clear A90
     by_cases c10 : t368 > t369
     ·rw [if_pos c10] at H
      have c10b0 : decide (t369 < t368) = true := decide_eq_true c10
      clear c10
      obtain rfl := Option.some.inj H
      go_wp2_with (first | ((with_reducible refine zQe (f := 81) rfl ?_);refine zQr (some 16) rfl rfl Tryz.func81 (by kernel_rfl) rfl #[.slice A0 l0.length c0,.int .i64 x5_1] rfl pM ?_;(with_reducible refine (r1_at.calls _ _ l0 x5_1 t366 _ ?side1 ?side2 A5.out).mono ?_);(case side1 => exact pC HR0.out);(case side2 => exact HC0.out);rintro e w' ⟨rfl,⟨nd,rfl⟩⟩;refine ⟨_,rfl,?_⟩) | ((with_reducible refine zQe (f := 81) rfl ?_);refine zQr (some 19) rfl rfl Tryz.func81 (by kernel_rfl) rfl #[.slice A1 l1.length c1,.int .i64 x5_1] rfl pM ?_;(with_reducible refine (r1_at.calls _ _ l1 x5_1 t367 _ ?side1 ?side2 A6.out).mono ?_);(case side1 => exact pC HR1.out);(case side2 => exact HC1.out);rintro e w' ⟨rfl,⟨nd,rfl⟩⟩;refine ⟨_,rfl,?_⟩) | ((with_reducible refine zQe (f := 81) rfl ?_);refine zQr (some 23) rfl rfl Tryz.func81 (by kernel_rfl) rfl #[.slice A0 l0.length c0,.int .i64 x5_1] rfl pM ?_;(with_reducible refine (r1_at.calls _ _ l0 x5_1 t368 _ ?side1 ?side2 A8.out).mono ?_);(case side1 => exact pC HR0.out);(case side2 => exact HC0.out);rintro e w' ⟨rfl,⟨nd,rfl⟩⟩;refine ⟨_,rfl,?_⟩) | ((with_reducible refine zQe (f := 81) rfl ?_);refine zQr (some 26) rfl rfl Tryz.func81 (by kernel_rfl) rfl #[.slice A1 l1.length c1,.int .i64 x5_1] rfl pM ?_;(with_reducible refine (r1_at.calls _ _ l1 x5_1 t369 _ ?side1 ?side2 A9.out).mono ?_);(case side1 => exact pC HR1.out);(case side2 => exact HC1.out);rintro e w' ⟨rfl,⟨nd,rfl⟩⟩;refine ⟨_,rfl,?_⟩))
      go_ret
      exact ⟨by first | rfl | (simp;done) | (simp [*];done),by repeat (first | exact Drawn0.refl _ | apply Drawn0.step)⟩
     ·rw [if_neg c10] at H
      have c10b0 : decide (t369 < t368) = false := decide_eq_false c10
      clear c10
      have H' := am H
      clear H
      go_wp2_with (first | ((with_reducible refine zQe (f := 81) rfl ?_);refine zQr (some 16) rfl rfl Tryz.func81 (by kernel_rfl) rfl #[.slice A0 l0.length c0,.int .i64 x5_1] rfl pM ?_;(with_reducible refine (r1_at.calls _ _ l0 x5_1 t366 _ ?side1 ?side2 A5.out).mono ?_);(case side1 => exact pC HR0.out);(case side2 => exact HC0.out);rintro e w' ⟨rfl,⟨nd,rfl⟩⟩;refine ⟨_,rfl,?_⟩) | ((with_reducible refine zQe (f := 81) rfl ?_);refine zQr (some 19) rfl rfl Tryz.func81 (by kernel_rfl) rfl #[.slice A1 l1.length c1,.int .i64 x5_1] rfl pM ?_;(with_reducible refine (r1_at.calls _ _ l1 x5_1 t367 _ ?side1 ?side2 A6.out).mono ?_);(case side1 => exact pC HR1.out);(case side2 => exact HC1.out);rintro e w' ⟨rfl,⟨nd,rfl⟩⟩;refine ⟨_,rfl,?_⟩) | ((with_reducible refine zQe (f := 81) rfl ?_);refine zQr (some 23) rfl rfl Tryz.func81 (by kernel_rfl) rfl #[.slice A0 l0.length c0,.int .i64 x5_1] rfl pM ?_;(with_reducible refine (r1_at.calls _ _ l0 x5_1 t368 _ ?side1 ?side2 A8.out).mono ?_);(case side1 => exact pC HR0.out);(case side2 => exact HC0.out);rintro e w' ⟨rfl,⟨nd,rfl⟩⟩;refine ⟨_,rfl,?_⟩) | ((with_reducible refine zQe (f := 81) rfl ?_);refine zQr (some 26) rfl rfl Tryz.func81 (by kernel_rfl) rfl #[.slice A1 l1.length c1,.int .i64 x5_1] rfl pM ?_;(with_reducible refine (r1_at.calls _ _ l1 x5_1 t369 _ ?side1 ?side2 A9.out).mono ?_);(case side1 => exact pC HR1.out);(case side2 => exact HC1.out);rintro e w' ⟨rfl,⟨nd,rfl⟩⟩;refine ⟨_,rfl,?_⟩))
      go_roundg k1
      case measure => have := HK1.out;omega
      case rel => exact ⟨(wrap64 (x5_1 - 1)),(by first | rfl | (simp;done) | (simp [*];done)),H',⟨by have := HK1.out;omega⟩,by repeat (first | exact Drawn0.refl _ | apply Drawn0.step)⟩
   ·rw [if_neg c4] at H
    have c4b0 : decide (0 ≤ x5_1) = false := decide_eq_false c4
    clear c4
    obtain rfl := Option.some.inj H
    go_wp2
    go_ret
    exact ⟨by first | rfl | (simp;done) | (simp [*];done),by repeat (first | exact Drawn0.refl _ | apply Drawn0.step)⟩
def r1_Minus.l0 : Nat → List Int → List Int → List Int → Int → Int → Option (List Int)
 | 0,_,_,_,_,_ => none
 | k + 1,x0,x1,x5,x6,x7 => if x7 < (x0.length : Int) then (if 0 ≤ x7 then ((r1_at.f x1 x7).bind fun t374 => (if (rd x0 x7) < (IntKind.u64.wrap (t374 + x6)) then (if x5.length < 17592186044416 then (r1_Minus.l0 k x0 x1 (x5 ++ [IntKind.u64.wrap ((IntKind.u64.wrap ((rd x0 x7) + 65536)) - (IntKind.u64.wrap (t374 + x6)))]) 1 (wrap64 (x7 + 1))) else (none)) else (if x5.length < 17592186044416 then (r1_Minus.l0 k x0 x1 (x5 ++ [IntKind.u64.wrap ((rd x0 x7) - (IntKind.u64.wrap (t374 + x6)))]) 0 (wrap64 (x7 + 1))) else (none)))) else (none)) else ((r1_Trim.f k x5).bind fun t381 => (some t381))
def r1_Minus.f (k : Nat) (l0 : List Int) (l1 : List Int) : Option (List Int) := r1_Minus.l0 k l0 l1 (([] : List Int)) 0 0
set_option maxHeartbeats 8000000 in
set_option maxRecDepth 100000 in
theorem r1_Minus.calls (k : Nat) (A0 : Option Addr) (c0 : Nat) (l0 : List Int) (A1 : Option Addr) (c1 : Nat) (l1 : List Int) (r : List Int) (w : World) (hr0 : Kd.C (Kd.int .u64) w A0 l0.length l0) (hc0 : l0.length ≤ c0) (hr1 : Kd.C (Kd.int .u64) w A1 l1.length l1) (hc1 : l1.length ≤ c1) (h : r1_Minus.f k l0 l1 = some r) :
  Calls Tryz.prog 66 #[.slice A0 l0.length c0,.slice A1 l1.length c1] w fun e w' => ∃ v0_ : Value,e = .returned (v0_) ∧ Kd.R (Kd.int .u64) 22 w' w.heap.size (fun _ => True) v0_ r ∧ Below w.heap.size w w' := by
 have HR0 := am hr0
 have HC0 := am hc0
 clear hr0 hc0
 have HR1 := am hr1
 have HC1 := am hc1
 clear hr1 hc1
 have HB := am (Below.refl w.heap.size w)
 have H : (r1_Minus.l0 k l0 l1 (([] : List Int)) 0 0) = some r := h
 clear h
 obtain ⟨y370,hy370⟩ : ∃ y_ : List Int,y_ = (([] : List Int)) := ⟨_,rfl⟩
 replace H : (r1_Minus.l0 k l0 l1 y370 0 0) = some r := by first | (rw [hy370];with_reducible exact H) | (have H2_ := (Option.bind_some _ _).symm.trans H;rw [hy370];with_reducible exact H2_) | (have H2_ := (Option.bind_some _ _).symm.trans H;with_reducible exact H2_) | with_reducible exact H | (rw [hy370];exact H) | exact H
 have Ny370 := am hy370
 clear hy370
 have H' := am H
 clear H
 go_enter Tryz.func66,Tryz.ntmps66
 go_wp2_with (first | ((with_reducible refine zQJ (N := 10) rfl ?_);refine Kd.R_lit (Kd.int .u64) _ 22 ?hg (N := 10) ?hd (xs := ([] : List Int)) (inner := []) (ok := fun _ => True) (okp := fun _ => True) ?hr ?hp (fun _ hk => hk) trivial (Below.refl _ _) (Nat.le_refl _) (by simp) ?_;(case hd => rfl);(case hg => rfl);(case hr => first | (go_simp;done) | (go_simp;rfl));(case hp => exact (Reps.none _ _));intro v371 w3 ho4 hb hg_ hnew_;clear hg_ hnew_;(first | rw [← Ny370.out] at ho4 | (simp only [Int.reduceToNat] at ho4;rw [← Ny370.out] at ho4));have HO372 := am (Kd.zQy ho4 (zQc pB));replace HB := am (zQf pB hb);clear hb ho4))
 repeat (go_quiet (first | ((with_reducible refine zQJ (N := 10) rfl ?_);refine Kd.R_lit (Kd.int .u64) _ 22 ?hg (N := 10) ?hd (xs := ([] : List Int)) (inner := []) (ok := fun _ => True) (okp := fun _ => True) ?hr ?hp (fun _ hk => hk) trivial (Below.refl _ _) (Nat.le_refl _) (by simp) ?_;(case hd => rfl);(case hg => rfl);(case hr => first | (go_simp;done) | (go_simp;rfl));(case hp => exact (Reps.none _ _));intro v371 w3 ho4 hb hg_ hnew_;clear hg_ hnew_;(first | rw [← Ny370.out] at ho4 | (simp only [Int.reduceToNat] at ho4;rw [← Ny370.out] at ho4));have HO372 := am (Kd.zQy ho4 (zQc pB));replace HB := am (zQf pB hb);clear hb ho4));try go_wp2_with (first | ((with_reducible refine zQJ (N := 10) rfl ?_);refine Kd.R_lit (Kd.int .u64) _ 22 ?hg (N := 10) ?hd (xs := ([] : List Int)) (inner := []) (ok := fun _ => True) (okp := fun _ => True) ?hr ?hp (fun _ hk => hk) trivial (Below.refl _ _) (Nat.le_refl _) (by simp) ?_;(case hd => rfl);(case hg => rfl);(case hr => first | (go_simp;done) | (go_simp;rfl));(case hp => exact (Reps.none _ _));intro v371 w3 ho4 hb hg_ hnew_;clear hg_ hnew_;(first | rw [← Ny370.out] at ho4 | (simp only [Int.reduceToNat] at ho4;rw [← Ny370.out] at ho4));have HO372 := am (Kd.zQy ho4 (zQc pB));replace HB := am (zQf pB hb);clear hb ho4)))
 go_loopg [5,6,7] k (fun kq v5 v6 v7 w' => ∃ (x5_1 : List Int) (x6_1 : Int) (x7_1 : Int),v6 = .int .u64 x6_1 ∧ v7 = .int .i64 x7_1 ∧ Aside0 (r1_Minus.l0 kq l0 l1 x5_1 x6_1 x7_1 = some r) ∧ Aside0 (kq ≤ k) ∧ Aside0 (Kd.R (Kd.int .u64) 22 w' w.heap.size (fun _ => True) v5 x5_1) ∧ Aside0 (Below w.heap.size w w'))
 case atStart => exact ⟨(y370),(0),(0),(by first | rfl | (simp;done) | (simp [*];done)),(by first | rfl | (simp;done) | (simp [*];done)),H',⟨Nat.le_refl _⟩,⟨by (with_reducible repeat (first | apply Kd.zQw | apply Kd.zQu | apply Kd.zQx));exact HO372.out⟩,⟨pB⟩⟩
 case round =>
  clear H'
  try clear c1
  try clear p2
  obtain ⟨x5_1,x6_1,x7_1,rfl,rfl,HA,HK1,HO_5,HB⟩ := hrel
  cases gk with
  | zero => exact absurd HA.out (by simp [r1_Minus.l0])
  | succ k1 =>
   have H := HA.out
   clear HA
   simp only [r1_Minus.l0] at H
   by_cases c5 : x7_1 < (l0.length : Int)
   ·rw [if_pos c5] at H
    have c5b0 : decide (x7_1 < (l0.length : Int)) = true := decide_eq_true c5
    clear c5
    by_cases c6 : 0 ≤ x7_1
    ·rw [if_pos c6] at H
     have c6b0 : decide (0 ≤ x7_1) = true := decide_eq_true c6
     clear c6
     replace H := Option.bind_eq_some_iff.mp H
     obtain ⟨t374,A70,H⟩ := H
     try dsimp only at H
     have A7 := am A70
     clear A70
     by_cases c8 : (rd l0 x7_1) < (IntKind.u64.wrap (t374 + x6_1))
     ·rw [if_pos c8] at H
      have c8b0 : decide ((rd l0 x7_1) < (IntKind.u64.wrap (t374 + x6_1))) = true := decide_eq_true c8
      clear c8
      by_cases c9 : x5_1.length < 17592186044416
      ·rw [if_pos c9] at H
       have LMc9 := am c9
       clear c9
       obtain ⟨y375,hy375⟩ : ∃ y_ : List Int,y_ = (x5_1 ++ [IntKind.u64.wrap ((IntKind.u64.wrap ((rd l0 x7_1) + 65536)) - (IntKind.u64.wrap (t374 + x6_1)))]) := ⟨_,rfl⟩
       replace H : (r1_Minus.l0 k1 l0 l1 y375 1 (wrap64 (x7_1 + 1))) = some r := by first | (rw [hy375];with_reducible exact H) | (have H2_ := (Option.bind_some _ _).symm.trans H;rw [hy375];with_reducible exact H2_) | (have H2_ := (Option.bind_some _ _).symm.trans H;with_reducible exact H2_) | with_reducible exact H | (rw [hy375];exact H) | exact H
       have Ny375 := am hy375
       clear hy375
       have H' := am H
       clear H
       have p373 : 0 ≤ (x7_1 : Int) := pD
       have q373 : x7_1 < (l0.length : Int) := pD
       obtain ⟨ad373,e373,hx373_0⟩ := Kd.zXe HR0.out x7_1 p373 q373
       cases e373
       replace hx373_0 := (HB.out.cell (World.block_lt_of_cell? w _ hx373_0)).trans hx373_0
       replace p373 := eq_true p373
       replace q373 := eq_true q373
       go_wp2_with (first | (go_at_call 81;(with_reducible refine (r1_at.calls _ _ l1 x7_1 t374 _ ?side1 ?side2 A7.out).mono ?_);(case side1 => exact pC (Kd.zQO HR1.out HB.out));(case side2 => exact HC1.out);rintro e w' ⟨rfl,⟨nd,rfl⟩⟩;(try first | exact ⟨rfl,_,World.drewN_drewN _ _ _⟩ | exact ⟨rfl,_,Eq.trans (World.drewN_drewN _ _ _) (congrArg (World.drewN _) (Nat.add_assoc _ _ _))⟩)) | ((with_reducible refine zQD (b := .append) (xs := #[.tmp 31,.tmp 35]) rfl ?_);at_builtin;refine Kd.zQU (Kd.int .u64) (w0 := w) w.heap.size rfl (.tmp 31) (.tmp 35) 59 22 (.int .u64 0) 8 rfl Tryz.underlying59 zXP rfl (by decide) (by omega) u5 x5_1 (IntKind.u64.wrap ((IntKind.u64.wrap ((rd l0 x7_1) + 65536)) - (IntKind.u64.wrap (t374 + x6_1)))) [.int .u64 (IntKind.u64.wrap ((IntKind.u64.wrap ((rd l0 x7_1) + 65536)) - (IntKind.u64.wrap (t374 + x6_1))))] (fun _ => True) (fun _ => False) rfl rfl ?aP (fun _ hk => hk.elim) ?aF ?aO ?aB ?aS ?aL ?_;(case aP => exact rfl);(case aB => exact pB);(case aF => exact (fun _ _ => trivial));(case aO => exact (pR HO_5.out));(case aS => exact (zQc pB));(case aL => have := LMc9.out;omega);intro v376 w10 ho hb hg hat;rw [← Ny375.out] at ho;replace HB := am (hb);have HO377 := am (ho);clear HO_5;clear ho hb hg hat))
       repeat (go_quiet (first | (go_at_call 81;(with_reducible refine (r1_at.calls _ _ l1 x7_1 t374 _ ?side1 ?side2 A7.out).mono ?_);(case side1 => exact pC (Kd.zQO HR1.out HB.out));(case side2 => exact HC1.out);rintro e w' ⟨rfl,⟨nd,rfl⟩⟩;(try first | exact ⟨rfl,_,World.drewN_drewN _ _ _⟩ | exact ⟨rfl,_,Eq.trans (World.drewN_drewN _ _ _) (congrArg (World.drewN _) (Nat.add_assoc _ _ _))⟩)) | ((with_reducible refine zQD (b := .append) (xs := #[.tmp 31,.tmp 35]) rfl ?_);at_builtin;refine Kd.zQU (Kd.int .u64) (w0 := w) w.heap.size rfl (.tmp 31) (.tmp 35) 59 22 (.int .u64 0) 8 rfl Tryz.underlying59 zXP rfl (by decide) (by omega) u5 x5_1 (IntKind.u64.wrap ((IntKind.u64.wrap ((rd l0 x7_1) + 65536)) - (IntKind.u64.wrap (t374 + x6_1)))) [.int .u64 (IntKind.u64.wrap ((IntKind.u64.wrap ((rd l0 x7_1) + 65536)) - (IntKind.u64.wrap (t374 + x6_1))))] (fun _ => True) (fun _ => False) rfl rfl ?aP (fun _ hk => hk.elim) ?aF ?aO ?aB ?aS ?aL ?_;(case aP => exact rfl);(case aB => exact pB);(case aF => exact (fun _ _ => trivial));(case aO => exact (pR HO_5.out));(case aS => exact (zQc pB));(case aL => have := LMc9.out;omega);intro v376 w10 ho hb hg hat;rw [← Ny375.out] at ho;replace HB := am (hb);have HO377 := am (ho);clear HO_5;clear ho hb hg hat));try go_wp2_with (first | (go_at_call 81;(with_reducible refine (r1_at.calls _ _ l1 x7_1 t374 _ ?side1 ?side2 A7.out).mono ?_);(case side1 => exact pC (Kd.zQO HR1.out HB.out));(case side2 => exact HC1.out);rintro e w' ⟨rfl,⟨nd,rfl⟩⟩;(try first | exact ⟨rfl,_,World.drewN_drewN _ _ _⟩ | exact ⟨rfl,_,Eq.trans (World.drewN_drewN _ _ _) (congrArg (World.drewN _) (Nat.add_assoc _ _ _))⟩)) | ((with_reducible refine zQD (b := .append) (xs := #[.tmp 31,.tmp 35]) rfl ?_);at_builtin;refine Kd.zQU (Kd.int .u64) (w0 := w) w.heap.size rfl (.tmp 31) (.tmp 35) 59 22 (.int .u64 0) 8 rfl Tryz.underlying59 zXP rfl (by decide) (by omega) u5 x5_1 (IntKind.u64.wrap ((IntKind.u64.wrap ((rd l0 x7_1) + 65536)) - (IntKind.u64.wrap (t374 + x6_1)))) [.int .u64 (IntKind.u64.wrap ((IntKind.u64.wrap ((rd l0 x7_1) + 65536)) - (IntKind.u64.wrap (t374 + x6_1))))] (fun _ => True) (fun _ => False) rfl rfl ?aP (fun _ hk => hk.elim) ?aF ?aO ?aB ?aS ?aL ?_;(case aP => exact rfl);(case aB => exact pB);(case aF => exact (fun _ _ => trivial));(case aO => exact (pR HO_5.out));(case aS => exact (zQc pB));(case aL => have := LMc9.out;omega);intro v376 w10 ho hb hg hat;rw [← Ny375.out] at ho;replace HB := am (hb);have HO377 := am (ho);clear HO_5;clear ho hb hg hat)))
       go_roundg k1
       case measure => have := HK1.out;omega
       case rel => exact ⟨(y375),(1),(wrap64 (x7_1 + 1)),(by first | rfl | (simp;done) | (simp [*];done)),(by first | rfl | (simp;done) | (simp [*];done)),H',⟨by have := HK1.out;omega⟩,⟨by (with_reducible repeat (first | apply Kd.zQw | apply Kd.zQu | apply Kd.zQx));exact HO377.out⟩,⟨pB⟩⟩
      ·rw [if_neg c9] at H
       exact absurd H (by simp)
     ·rw [if_neg c8] at H
      have c8b0 : decide ((rd l0 x7_1) < (IntKind.u64.wrap (t374 + x6_1))) = false := decide_eq_false c8
      clear c8
      by_cases c11 : x5_1.length < 17592186044416
      ·rw [if_pos c11] at H
       have LMc11 := am c11
       clear c11
       obtain ⟨y378,hy378⟩ : ∃ y_ : List Int,y_ = (x5_1 ++ [IntKind.u64.wrap ((rd l0 x7_1) - (IntKind.u64.wrap (t374 + x6_1)))]) := ⟨_,rfl⟩
       replace H : (r1_Minus.l0 k1 l0 l1 y378 0 (wrap64 (x7_1 + 1))) = some r := by first | (rw [hy378];with_reducible exact H) | (have H2_ := (Option.bind_some _ _).symm.trans H;rw [hy378];with_reducible exact H2_) | (have H2_ := (Option.bind_some _ _).symm.trans H;with_reducible exact H2_) | with_reducible exact H | (rw [hy378];exact H) | exact H
       have Ny378 := am hy378
       clear hy378
       have H' := am H
       clear H
       have p373 : 0 ≤ (x7_1 : Int) := pD
       have q373 : x7_1 < (l0.length : Int) := pD
       obtain ⟨ad373,e373,hx373_0⟩ := Kd.zXe HR0.out x7_1 p373 q373
       cases e373
       replace hx373_0 := (HB.out.cell (World.block_lt_of_cell? w _ hx373_0)).trans hx373_0
       replace p373 := eq_true p373
       replace q373 := eq_true q373
       go_wp2_with (first | (go_at_call 81;(with_reducible refine (r1_at.calls _ _ l1 x7_1 t374 _ ?side1 ?side2 A7.out).mono ?_);(case side1 => exact pC (Kd.zQO HR1.out HB.out));(case side2 => exact HC1.out);rintro e w' ⟨rfl,⟨nd,rfl⟩⟩;(try first | exact ⟨rfl,_,World.drewN_drewN _ _ _⟩ | exact ⟨rfl,_,Eq.trans (World.drewN_drewN _ _ _) (congrArg (World.drewN _) (Nat.add_assoc _ _ _))⟩)) | ((with_reducible refine zQD (b := .append) (xs := #[.tmp 31,.tmp 35]) rfl ?_);at_builtin;refine Kd.zQU (Kd.int .u64) (w0 := w) w.heap.size rfl (.tmp 31) (.tmp 35) 59 22 (.int .u64 0) 8 rfl Tryz.underlying59 zXP rfl (by decide) (by omega) u5 x5_1 (IntKind.u64.wrap ((rd l0 x7_1) - (IntKind.u64.wrap (t374 + x6_1)))) [.int .u64 (IntKind.u64.wrap ((rd l0 x7_1) - (IntKind.u64.wrap (t374 + x6_1))))] (fun _ => True) (fun _ => False) rfl rfl ?aP (fun _ hk => hk.elim) ?aF ?aO ?aB ?aS ?aL ?_;(case aP => exact rfl);(case aB => exact pB);(case aF => exact (fun _ _ => trivial));(case aO => exact (pR HO_5.out));(case aS => exact (zQc pB));(case aL => have := LMc11.out;omega);intro v379 w12 ho hb hg hat;rw [← Ny378.out] at ho;replace HB := am (hb);have HO380 := am (ho);clear HO_5;clear ho hb hg hat))
       repeat (go_quiet (first | (go_at_call 81;(with_reducible refine (r1_at.calls _ _ l1 x7_1 t374 _ ?side1 ?side2 A7.out).mono ?_);(case side1 => exact pC (Kd.zQO HR1.out HB.out));(case side2 => exact HC1.out);rintro e w' ⟨rfl,⟨nd,rfl⟩⟩;(try first | exact ⟨rfl,_,World.drewN_drewN _ _ _⟩ | exact ⟨rfl,_,Eq.trans (World.drewN_drewN _ _ _) (congrArg (World.drewN _) (Nat.add_assoc _ _ _))⟩)) | ((with_reducible refine zQD (b := .append) (xs := #[.tmp 31,.tmp 35]) rfl ?_);at_builtin;refine Kd.zQU (Kd.int .u64) (w0 := w) w.heap.size rfl (.tmp 31) (.tmp 35) 59 22 (.int .u64 0) 8 rfl Tryz.underlying59 zXP rfl (by decide) (by omega) u5 x5_1 (IntKind.u64.wrap ((rd l0 x7_1) - (IntKind.u64.wrap (t374 + x6_1)))) [.int .u64 (IntKind.u64.wrap ((rd l0 x7_1) - (IntKind.u64.wrap (t374 + x6_1))))] (fun _ => True) (fun _ => False) rfl rfl ?aP (fun _ hk => hk.elim) ?aF ?aO ?aB ?aS ?aL ?_;(case aP => exact rfl);(case aB => exact pB);(case aF => exact (fun _ _ => trivial));(case aO => exact (pR HO_5.out));(case aS => exact (zQc pB));(case aL => have := LMc11.out;omega);intro v379 w12 ho hb hg hat;rw [← Ny378.out] at ho;replace HB := am (hb);have HO380 := am (ho);clear HO_5;clear ho hb hg hat));try go_wp2_with (first | (go_at_call 81;(with_reducible refine (r1_at.calls _ _ l1 x7_1 t374 _ ?side1 ?side2 A7.out).mono ?_);(case side1 => exact pC (Kd.zQO HR1.out HB.out));(case side2 => exact HC1.out);rintro e w' ⟨rfl,⟨nd,rfl⟩⟩;(try first | exact ⟨rfl,_,World.drewN_drewN _ _ _⟩ | exact ⟨rfl,_,Eq.trans (World.drewN_drewN _ _ _) (congrArg (World.drewN _) (Nat.add_assoc _ _ _))⟩)) | ((with_reducible refine zQD (b := .append) (xs := #[.tmp 31,.tmp 35]) rfl ?_);at_builtin;refine Kd.zQU (Kd.int .u64) (w0 := w) w.heap.size rfl (.tmp 31) (.tmp 35) 59 22 (.int .u64 0) 8 rfl Tryz.underlying59 zXP rfl (by decide) (by omega) u5 x5_1 (IntKind.u64.wrap ((rd l0 x7_1) - (IntKind.u64.wrap (t374 + x6_1)))) [.int .u64 (IntKind.u64.wrap ((rd l0 x7_1) - (IntKind.u64.wrap (t374 + x6_1))))] (fun _ => True) (fun _ => False) rfl rfl ?aP (fun _ hk => hk.elim) ?aF ?aO ?aB ?aS ?aL ?_;(case aP => exact rfl);(case aB => exact pB);(case aF => exact (fun _ _ => trivial));(case aO => exact (pR HO_5.out));(case aS => exact (zQc pB));(case aL => have := LMc11.out;omega);intro v379 w12 ho hb hg hat;rw [← Ny378.out] at ho;replace HB := am (hb);have HO380 := am (ho);clear HO_5;clear ho hb hg hat)))
       go_roundg k1
       case measure => have := HK1.out;omega
       case rel => exact ⟨(y378),(0),(wrap64 (x7_1 + 1)),(by first | rfl | (simp;done) | (simp [*];done)),(by first | rfl | (simp;done) | (simp [*];done)),H',⟨by have := HK1.out;omega⟩,⟨by (with_reducible repeat (first | apply Kd.zQw | apply Kd.zQu | apply Kd.zQx));exact HO380.out⟩,⟨pB⟩⟩
      ·rw [if_neg c11] at H
       exact absurd H (by simp)
    ·rw [if_neg c6] at H
     exact absurd H (by simp)
   ·rw [if_neg c5] at H
    have c5b0 : decide (x7_1 < (l0.length : Int)) = false := decide_eq_false c5
    clear c5
    replace H := Option.bind_eq_some_iff.mp H
    obtain ⟨t381,A130,H⟩ := H
    try dsimp only at H
    have A13 := am A130
    clear A130
    obtain rfl := Option.some.inj H
    obtain ⟨Ao14,co14,eo14⟩ := Kd.zQB HO_5.out
    subst eo14
    go_wp2_with (first | (go_at_call 65;(with_reducible refine (r1_Trim.calls k1 _ _ x5_1 t381 _ ?side1 ?side2 A13.out).mono ?_);(case side1 => repeat (first | exact (Kd.zQh HO_5.out).2.2 | (with_reducible refine Kd.zQj ?_ _) | (with_reducible refine Kd.zQi ?_ _) | (with_reducible refine Kd.zQv ?_)));(case side2 => exact (Kd.zQh HO_5.out).2.1);rintro e w15 ⟨v382,rfl,ho0,hb⟩;have HO383 := am (Kd.zQy (Kd.zQC ho0 (Kd.R_lt (pR HO_5.out))) (zQc pB));replace HO_5 := am (Kd.zQt (pR HO_5.out) (Kd.zQs ho0) hb);replace HB := am (zQf pB hb);(try clear hb);(try clear ho0)))
    repeat (go_quiet (first | (go_at_call 65;(with_reducible refine (r1_Trim.calls k1 _ _ x5_1 t381 _ ?side1 ?side2 A13.out).mono ?_);(case side1 => repeat (first | exact (Kd.zQh HO_5.out).2.2 | (with_reducible refine Kd.zQj ?_ _) | (with_reducible refine Kd.zQi ?_ _) | (with_reducible refine Kd.zQv ?_)));(case side2 => exact (Kd.zQh HO_5.out).2.1);rintro e w15 ⟨v382,rfl,ho0,hb⟩;have HO383 := am (Kd.zQy (Kd.zQC ho0 (Kd.R_lt (pR HO_5.out))) (zQc pB));replace HO_5 := am (Kd.zQt (pR HO_5.out) (Kd.zQs ho0) hb);replace HB := am (zQf pB hb);(try clear hb);(try clear ho0)));try go_wp2_with (first | (go_at_call 65;(with_reducible refine (r1_Trim.calls k1 _ _ x5_1 t381 _ ?side1 ?side2 A13.out).mono ?_);(case side1 => repeat (first | exact (Kd.zQh HO_5.out).2.2 | (with_reducible refine Kd.zQj ?_ _) | (with_reducible refine Kd.zQi ?_ _) | (with_reducible refine Kd.zQv ?_)));(case side2 => exact (Kd.zQh HO_5.out).2.1);rintro e w15 ⟨v382,rfl,ho0,hb⟩;have HO383 := am (Kd.zQy (Kd.zQC ho0 (Kd.R_lt (pR HO_5.out))) (zQc pB));replace HO_5 := am (Kd.zQt (pR HO_5.out) (Kd.zQs ho0) hb);replace HB := am (zQf pB hb);(try clear hb);(try clear ho0))))
    go_ret
    exact ⟨_,pE,by (with_reducible repeat (first | apply Kd.zQw | apply Kd.zQu | apply Kd.zQx));exact Kd.zQE HO383.out (fun _ hk => trivial),pB⟩
def r1_Divide.l0 : Nat → List Int → List Int → List Int → List Int → Int → Option (List Int × List Int)
 | 0,_,_,_,_,_ => none
 | k + 1,x0,x1,x6,x7,x8 => if x8 ≥ 0 then ((r1_Up.f k x7 1).bind fun t394 => ((r1_Bit.f x0 x8).bind fun t397 => ((r1_Sum.f k t394 (([t397] : List Int))).bind fun t401 => ((r1_Cmp.f k t401 x1).bind fun t404 => (if t404 ≥ 0 then ((r1_Minus.f k t401 x1).bind fun t405 => (if 0 ≤ (wrap64 (Int.tdiv x8 16)) then (if (wrap64 (Int.tdiv x8 16)) < (x6.length : Int) then (if 0 ≤ (IntKind.u64.wrap (Int.tmod x8 16)) then (r1_Divide.l0 k x0 x1 (x6.set ((wrap64 (Int.tdiv x8 16)) : Int).toNat (Go.bits .or .u64 (rd x6 (wrap64 (Int.tdiv x8 16))) (shl .u64 1 (IntKind.u64.wrap (Int.tmod x8 16))))) t405 (wrap64 (x8 - 1))) else (none)) else (none)) else (none))) else (r1_Divide.l0 k x0 x1 x6 t401 (wrap64 (x8 - 1)))))))) else ((r1_Trim.f k x6).bind fun t391 => (some (t391,x7)))
def r1_Divide.f (k : Nat) (l0 : List Int) (l1 : List Int) : Option (List Int × List Int) := if 0 ≤ (l0.length : Int) then (if ((l0.length : Int) : Int).toNat ≤ 35184372088832 then ((r1_Len.f k l0).bind fun t390 => (r1_Divide.l0 k l0 l1 (List.replicate ((l0.length : Int) : Int).toNat 0) (([] : List Int)) (wrap64 (t390 - 1)))) else (none)) else (none)
set_option maxHeartbeats 8000000 in
set_option maxRecDepth 100000 in
theorem r1_Divide.calls (k : Nat) (A0 : Option Addr) (c0 : Nat) (l0 : List Int) (A1 : Option Addr) (c1 : Nat) (l1 : List Int) (r1 : List Int) (r2 : List Int) (w : World) (hr0 : Kd.C (Kd.int .u64) w A0 l0.length l0) (hc0 : l0.length ≤ c0) (hr1 : Kd.C (Kd.int .u64) w A1 l1.length l1) (hc1 : l1.length ≤ c1) (h : r1_Divide.f k l0 l1 = some (r1,r2)) :
  Calls Tryz.prog 37 #[.slice A0 l0.length c0,.slice A1 l1.length c1] w fun e w' => ∃ v0_ v1_ : Value,e = .returned (.tuple #[v0_,v1_]) ∧ Kd.R (Kd.int .u64) 22 w' w.heap.size (fun k_ => some k_ ≠ (v1_ : Value).ownBlock) v0_ r1 ∧ Kd.R (Kd.int .u64) 22 w' w.heap.size (fun k_ => some k_ ≠ (v0_ : Value).ownBlock) v1_ r2 ∧ Below w.heap.size w w' := by
 have HR0 := am hr0
 have HC0 := am hc0
 clear hr0 hc0
 have HR1 := am hr1
 have HC1 := am hc1
 clear hr1 hc1
 have HB := am (Below.refl w.heap.size w)
 have H : (if 0 ≤ (l0.length : Int) then (if ((l0.length : Int) : Int).toNat ≤ 35184372088832 then ((r1_Len.f k l0).bind fun t390 => (r1_Divide.l0 k l0 l1 (List.replicate ((l0.length : Int) : Int).toNat 0) (([] : List Int)) (wrap64 (t390 - 1)))) else (none)) else (none)) = some (r1,r2) := h
 clear h
 by_cases c3 : 0 ≤ (l0.length : Int)
 ·rw [if_pos c3] at H
  have c3b0 := eq_true c3
  have c3b1 : decide (0 ≤ (l0.length : Int)) = true := decide_eq_true c3
  clear c3
  by_cases c4 : ((l0.length : Int) : Int).toNat ≤ 35184372088832
  ·rw [if_pos c4] at H
   have c4b0 := eq_true c4
   have c4b1 : decide (((l0.length : Int) : Int).toNat ≤ 35184372088832) = true := decide_eq_true c4
   clear c4
   obtain ⟨y384,hy384⟩ : ∃ y_ : List Int,y_ = (List.replicate ((l0.length : Int) : Int).toNat 0) := ⟨_,rfl⟩
   replace H : ((r1_Len.f k l0).bind fun t390 => (r1_Divide.l0 k l0 l1 y384 (([] : List Int)) (wrap64 (t390 - 1)))) = some (r1,r2) := by first | (rw [hy384];with_reducible exact H) | (have H2_ := (Option.bind_some _ _).symm.trans H;rw [hy384];with_reducible exact H2_) | (have H2_ := (Option.bind_some _ _).symm.trans H;with_reducible exact H2_) | with_reducible exact H | (rw [hy384];exact H) | exact H
   have Ny384 := am hy384
   clear hy384
   obtain ⟨y387,hy387⟩ : ∃ y_ : List Int,y_ = (([] : List Int)) := ⟨_,rfl⟩
   replace H : ((r1_Len.f k l0).bind fun t390 => (r1_Divide.l0 k l0 l1 y384 y387 (wrap64 (t390 - 1)))) = some (r1,r2) := by first | (rw [hy387];with_reducible exact H) | (have H2_ := (Option.bind_some _ _).symm.trans H;rw [hy387];with_reducible exact H2_) | (have H2_ := (Option.bind_some _ _).symm.trans H;with_reducible exact H2_) | with_reducible exact H | (rw [hy387];exact H) | exact H
   have Ny387 := am hy387
   clear hy387
   replace H := Option.bind_eq_some_iff.mp H
   obtain ⟨t390,A50,H⟩ := H
   try dsimp only at H
   have A5 := am A50
   clear A50
   have H' := am H
   clear H
   go_enter Tryz.func37,Tryz.ntmps37
   go_wp2_with (first | ((with_reducible refine zQJ (N := 11) rfl ?_);refine Kd.zWq (Kd.int .u64) _ 22 rfl (N := 11) rfl 59 _ _ rfl (l0.length : Int) rfl rfl Tryz.underlying59 (.int .u64 0) 8 zXP rfl (by decide) (by omega) 0 (ok := fun _ => True) (okp := fun _ => True) rfl (fun _ hk => hk) trivial pD (Nat.le_trans (Nat.mul_le_mul_right _ (pD : (l0.length : Int).toNat ≤ 35184372088832)) (by omega)) (Below.refl _ _) (Nat.le_refl _) ?_;intro v385 w6 ho7 hb hg_ hnew_;clear hg_ hnew_;(first | rw [← Ny384.out] at ho7 | (simp only [Int.reduceToNat] at ho7;rw [← Ny384.out] at ho7));have HO386 := am (Kd.zQy ho7 (zQc pB));replace HB := am (zQf pB hb);clear hb ho7) | ((with_reducible refine zQJ (N := 12) rfl ?_);refine Kd.R_lit (Kd.int .u64) _ 22 ?hg (N := 12) ?hd (xs := ([] : List Int)) (inner := []) (ok := fun _ => True) (okp := fun _ => True) ?hr ?hp (fun _ hk => hk) trivial (Below.refl _ _) (Nat.le_refl _) (by simp) ?_;(case hd => rfl);(case hg => rfl);(case hr => first | (go_simp;done) | (go_simp;rfl));(case hp => exact (Reps.none _ _));intro v388 w8 ho9 hb hg_ hnew_;clear hg_ hnew_;(first | rw [← Ny387.out] at ho9 | (simp only [Int.reduceToNat] at ho9;rw [← Ny387.out] at ho9));have HO389 := am (Kd.zQy (Kd.zQC ho9 (Kd.R_lt (pR HO386.out))) (zQc pB));replace HO386 := am (Kd.zQt (pR HO386.out) (Kd.zQs ho9) hb);replace HB := am (zQf pB hb);clear hb ho9) | ((with_reducible refine zQe (f := 36) rfl ?_);refine zQr (some 14) rfl rfl Tryz.func36 (by kernel_rfl) rfl #[.slice A0 l0.length c0] rfl pM ?_;(with_reducible refine (r1_Len.calls k _ _ l0 t390 _ ?side1 ?side2 A5.out).mono ?_);(case side1 => exact pC (Kd.zQO HR0.out HB.out));(case side2 => exact HC0.out);rintro e w' ⟨rfl,⟨nd,rfl⟩⟩;refine ⟨_,rfl,?_⟩))
   go_loopg [7,8] k (fun kq v7 v8 w' => ∃ (x6_1 : List Int) (x7_1 : List Int) (x8_1 : Int),v8 = .int .i64 x8_1 ∧ Aside0 (r1_Divide.l0 kq l0 l1 x6_1 x7_1 x8_1 = some (r1,r2)) ∧ Aside0 (kq ≤ k) ∧ Aside0 (Kd.R (Kd.int .u64) 22 w' w.heap.size (fun k_ => some k_ ≠ (v7 : Value).ownBlock) v385 x6_1) ∧ Aside0 (Kd.R (Kd.int .u64) 22 w' w.heap.size (fun k_ => some k_ ≠ (v385 : Value).ownBlock) v7 x7_1) ∧ Aside0 (Below w.heap.size w w'))
   case atStart => exact ⟨(y384),(y387),(wrap64 (t390 - 1)),(by first | rfl | (simp;done) | (simp [*];done)),H',⟨Nat.le_refl _⟩,⟨by (with_reducible repeat (first | apply Kd.zQw | apply Kd.zQu | apply Kd.zQx));exact Kd.zQE HO386.out (fun _ hk => hk.2)⟩,⟨by (with_reducible repeat (first | apply Kd.zQw | apply Kd.zQu | apply Kd.zQx));exact Kd.zQE HO389.out (fun _ hk => hk.2)⟩,⟨pB⟩⟩
   case round =>
    clear H'
    try clear c1
    try clear p2
    try clear c3
    try clear c3b0
    try clear c3b1
    try clear c4
    try clear c4b0
    try clear c4b1
    try clear p6
    obtain ⟨x6_1,x7_1,x8_1,rfl,HA,HK1,HO_6,HO_7,HB⟩ := hrel
    cases gk with
    | zero => exact absurd HA.out (by simp [r1_Divide.l0])
    | succ k1 =>
     have H := HA.out
     clear HA
     simp only [r1_Divide.l0] at H
     by_cases c10 : x8_1 ≥ 0
     ·rw [if_pos c10] at H
      have c10b0 : decide (0 ≤ x8_1) = true := decide_eq_true c10
      clear c10
      replace H := Option.bind_eq_some_iff.mp H
      obtain ⟨t394,A110,H⟩ := H
      try dsimp only at H
      have A11 := am A110
      clear A110
      replace H := Option.bind_eq_some_iff.mp H
      obtain ⟨t397,A120,H⟩ := H
      try dsimp only at H
      have A12 := am A120
      clear A120
      obtain ⟨y398,hy398⟩ : ∃ y_ : List Int,y_ = (([t397] : List Int)) := ⟨_,rfl⟩
      replace H : ((r1_Sum.f k1 t394 y398).bind fun t401 => ((r1_Cmp.f k1 t401 l1).bind fun t404 => (if t404 ≥ 0 then ((r1_Minus.f k1 t401 l1).bind fun t405 => (if 0 ≤ (wrap64 (Int.tdiv x8_1 16)) then (if (wrap64 (Int.tdiv x8_1 16)) < (x6_1.length : Int) then (if 0 ≤ (IntKind.u64.wrap (Int.tmod x8_1 16)) then (r1_Divide.l0 k1 l0 l1 (x6_1.set ((wrap64 (Int.tdiv x8_1 16)) : Int).toNat (Go.bits .or .u64 (rd x6_1 (wrap64 (Int.tdiv x8_1 16))) (shl .u64 1 (IntKind.u64.wrap (Int.tmod x8_1 16))))) t405 (wrap64 (x8_1 - 1))) else (none)) else (none)) else (none))) else (r1_Divide.l0 k1 l0 l1 x6_1 t401 (wrap64 (x8_1 - 1)))))) = some (r1,r2) := by first | (rw [hy398];with_reducible exact H) | (have H2_ := (Option.bind_some _ _).symm.trans H;rw [hy398];with_reducible exact H2_) | (have H2_ := (Option.bind_some _ _).symm.trans H;with_reducible exact H2_) | with_reducible exact H | (rw [hy398];exact H) | exact H
      have Ny398 := am hy398
      clear hy398
      replace H := Option.bind_eq_some_iff.mp H
      obtain ⟨t401,A130,H⟩ := H
      try dsimp only at H
      have A13 := am A130
      clear A130
      replace H := Option.bind_eq_some_iff.mp H
      obtain ⟨t404,A140,H⟩ := H
      try dsimp only at H
      have A14 := am A140
      clear A140
      by_cases c15 : t404 ≥ 0
      ·rw [if_pos c15] at H
       have c15b0 : decide (0 ≤ t404) = true := decide_eq_true c15
       clear c15
       replace H := Option.bind_eq_some_iff.mp H
       obtain ⟨t405,A160,H⟩ := H
       try dsimp only at H
       have A16 := am A160
       clear A160
       obtain ⟨ji17,hji17⟩ : ∃ j_ : Int,(wrap64 (Int.tdiv x8_1 16)) = j_ := ⟨_,rfl⟩
       replace H : (if 0 ≤ (ji17) then (if (ji17) < (x6_1.length : Int) then (if 0 ≤ (IntKind.u64.wrap (Int.tmod x8_1 16)) then (r1_Divide.l0 k1 l0 l1 (x6_1.set ((ji17) : Int).toNat (Go.bits .or .u64 (rd x6_1 (ji17)) (shl .u64 1 (IntKind.u64.wrap (Int.tmod x8_1 16))))) t405 (wrap64 (x8_1 - 1))) else (none)) else (none)) else (none)) = some (r1,r2) := by first | (rw [hji17] at H;exact H) | (simp only [hji17] at H ⊢;exact H)
       (try rw [hji17] at A11)
       (try rw [hji17] at A12)
       (try rw [hji17] at A13)
       (try rw [hji17] at A14)
       (try rw [hji17] at A16)
       have hji17w : (IntKind.i64.wrap (Int.tdiv x8_1 16)) = ji17 := (i64_w _).trans hji17
       by_cases c18 : 0 ≤ (ji17)
       ·rw [if_pos c18] at H
        have c18b0 : decide (0 ≤ (ji17)) = true := decide_eq_true c18
        clear c18
        by_cases c19 : (ji17) < (x6_1.length : Int)
        ·rw [if_pos c19] at H
         have c19b0 : decide ((ji17) < (x6_1.length : Int)) = true := decide_eq_true c19
         clear c19
         obtain ⟨ji20,hji20⟩ : ∃ j_ : Int,(IntKind.u64.wrap (Int.tmod x8_1 16)) = j_ := ⟨_,rfl⟩
         replace H : (if 0 ≤ (ji20) then (r1_Divide.l0 k1 l0 l1 (x6_1.set ((ji17) : Int).toNat (Go.bits .or .u64 (rd x6_1 (ji17)) (shl .u64 1 (ji20)))) t405 (wrap64 (x8_1 - 1))) else (none)) = some (r1,r2) := by first | (rw [hji20] at H;exact H) | (simp only [hji20] at H ⊢;exact H)
         (try rw [hji20] at A11)
         (try rw [hji20] at A12)
         (try rw [hji20] at A13)
         (try rw [hji20] at A14)
         (try rw [hji20] at A16)
         by_cases c21 : 0 ≤ (ji20)
         ·rw [if_pos c21] at H
          have c21b0 := eq_true c21
          have c21b1 : decide (0 ≤ (ji20)) = true := decide_eq_true c21
          clear c21
          obtain ⟨ji22,hji22⟩ : ∃ j_ : Int,(shl .u64 1 (ji20)) = j_ := ⟨_,rfl⟩
          replace H : (r1_Divide.l0 k1 l0 l1 (x6_1.set ((ji17) : Int).toNat (Go.bits .or .u64 (rd x6_1 (ji17)) (ji22))) t405 (wrap64 (x8_1 - 1))) = some (r1,r2) := by first | (rw [hji22] at H;exact H) | (simp only [hji22] at H ⊢;exact H)
          (try rw [hji22] at A11)
          (try rw [hji22] at A12)
          (try rw [hji22] at A13)
          (try rw [hji22] at A14)
          (try rw [hji22] at A16)
          have hji22_ : (IntKind.u64.wrap (1 * 2 ^ min (ji20).toNat 64)) = ji22 := hji22
          have hji22z : (ji20) ≤ 64 → (IntKind.u64.wrap (1 * 2 ^ (ji20).toNat)) = ji22 := zXM hji22
          have hji22u : (IntKind.u64.wrap (2 ^ min (ji20).toNat 64)) = ji22 := by have h_ := hji22_;rw [Int.one_mul] at h_;exact h_
          have hji22v : (ji20) ≤ 64 → (IntKind.u64.wrap (2 ^ (ji20).toNat)) = ji22 := fun hle_ => by have h_ := hji22z hle_;rw [Int.one_mul] at h_;exact h_
          obtain ⟨y409,hy409⟩ : ∃ y_ : List Int,y_ = (x6_1.set ((ji17) : Int).toNat (Go.bits .or .u64 (rd x6_1 (ji17)) (ji22))) := ⟨_,rfl⟩
          replace H : (r1_Divide.l0 k1 l0 l1 y409 t405 (wrap64 (x8_1 - 1))) = some (r1,r2) := by first | (rw [hy409];with_reducible exact H) | (have H2_ := (Option.bind_some _ _).symm.trans H;rw [hy409];with_reducible exact H2_) | (have H2_ := (Option.bind_some _ _).symm.trans H;with_reducible exact H2_) | with_reducible exact H | (rw [hy409];exact H) | exact H
          have Ny409 := am hy409
          clear hy409
          have H' := am H
          clear H
          obtain ⟨Ao24,co24,eo24⟩ := Kd.zQB HO_7.out
          subst eo24
          go_wp2_with (first | ((with_reducible refine zQe (f := 38) rfl ?_);refine zQr (some 21) rfl rfl Tryz.func38 (by kernel_rfl) rfl #[.slice Ao24 x7_1.length co24,.int .i64 1] rfl pM ?_;(with_reducible refine (r1_Up.calls k1 _ _ x7_1 1 t394 _ ?side1 ?side2 A11.out).mono ?_);(case side1 => repeat (first | exact (Kd.zQh HO_7.out).2.2 | (with_reducible refine Kd.zQj ?_ _) | (with_reducible refine Kd.zQi ?_ _) | (with_reducible refine Kd.zQv ?_)));(case side2 => exact (Kd.zQh HO_7.out).2.1);rintro e w25 ⟨v395,rfl,ho0,hb⟩;refine ⟨_,rfl,?_⟩;have HO396 := am (Kd.zQy (Kd.zQC (Kd.zQC ho0 (Kd.R_lt (pR HO_6.out))) (Kd.R_lt (pR HO_7.out))) (zQc pB));replace HO_6 := am (Kd.zQt (pR HO_6.out) (Kd.zQs ho0) hb);replace HO_7 := am (Kd.zQt (pR HO_7.out) (Kd.zQs ho0) hb);replace HB := am (zQf pB hb);(try clear hb);(try clear ho0)) | ((with_reducible refine zQe (f := 54) rfl ?_);refine zQr (some 24) rfl rfl Tryz.func54 (by kernel_rfl) rfl #[.slice A0 l0.length c0,.int .i64 x8_1] rfl pM ?_;(with_reducible refine (r1_Bit.calls _ _ l0 x8_1 t397 _ ?side1 ?side2 A12.out).mono ?_);(case side1 => exact pC (Kd.zQO HR0.out HB.out));(case side2 => exact HC0.out);rintro e w' ⟨rfl,⟨nd,rfl⟩⟩;refine ⟨_,rfl,?_⟩;(try (rw [zXc w25];generalize hq_ : World.drewN w25 _ = w25;have n0_ : Aside0 (Kd.R (Kd.int .u64) 22 w25 w.heap.size (fun k_ => some k_ ≠ (v385 : Value).ownBlock ∧ some k_ ≠ (.slice Ao24 x7_1.length co24 : Value).ownBlock) v395 t394) := ⟨by rw [← hq_];exact (by (with_reducible repeat (first | apply Kd.zQw | apply Kd.zQu | apply Kd.zQx));exact Kd.zQE HO396.out (fun _ hk => by simp only [ne_eq] at hk ⊢;simp only [hk,not_false_eq_true,and_self]))⟩;have n1_ : Aside0 (Kd.R (Kd.int .u64) 22 w25 w.heap.size (fun k_ => some k_ ≠ (v395 : Value).ownBlock ∧ some k_ ≠ (.slice Ao24 x7_1.length co24 : Value).ownBlock) v385 x6_1) := ⟨by rw [← hq_];exact (by (with_reducible repeat (first | apply Kd.zQw | apply Kd.zQu | apply Kd.zQx));exact Kd.zQE HO_6.out (fun _ hk => by simp only [ne_eq] at hk ⊢;simp only [hk,not_false_eq_true,and_self]))⟩;have n2_ : Aside0 (Kd.R (Kd.int .u64) 22 w25 w.heap.size (fun k_ => some k_ ≠ (v395 : Value).ownBlock ∧ some k_ ≠ (v385 : Value).ownBlock) (.slice Ao24 x7_1.length co24) x7_1) := ⟨by rw [← hq_];exact (by (with_reducible repeat (first | apply Kd.zQw | apply Kd.zQu | apply Kd.zQx));exact Kd.zQE HO_7.out (fun _ hk => by simp only [ne_eq] at hk ⊢;simp only [hk,not_false_eq_true,and_self]))⟩;have n3_ : Aside0 (Below w.heap.size w w25) := ⟨by rw [← hq_];exact pB⟩;clear HO396 HO_6 HO_7 HB hq_;have HO396 := n0_;have HO_6 := n1_;have HO_7 := n2_;have HB := n3_;clear n0_ n1_ n2_ n3_))) | ((with_reducible refine zQJ (N := 25) rfl ?_);refine Kd.R_lit (Kd.int .u64) _ 22 ?hg (N := 25) ?hd (xs := ([t397] : List Int)) (inner := [.int .u64 t397]) (ok := fun _ => True) (okp := fun _ => True) ?hr ?hp (fun _ hk => hk) trivial (Below.refl _ _) (Nat.le_refl _) (by simp) ?_;(case hd => rfl);(case hg => rfl);(case hr => first | (go_simp;done) | (go_simp;rfl));(case hp => exact (Reps.one (show Kd.M (Kd.int .u64) _ _ _ t397 [.int .u64 t397] from rfl) (Reps.none _ _)));intro v399 w26 ho27 hb hg_ hnew_;clear hg_ hnew_;(first | rw [← Ny398.out] at ho27 | (simp only [Int.reduceToNat] at ho27;rw [← Ny398.out] at ho27));have HO400 := am (Kd.zQy (Kd.zQC (Kd.zQC (Kd.zQC ho27 (Kd.R_lt (pR HO_6.out))) (Kd.R_lt (pR HO_7.out))) (Kd.R_lt (pR HO396.out))) (zQc pB));replace HO_6 := am (Kd.zQt (pR HO_6.out) (Kd.zQs ho27) hb);replace HO_7 := am (Kd.zQt (pR HO_7.out) (Kd.zQs ho27) hb);replace HO396 := am (Kd.zQt (pR HO396.out) (Kd.zQs ho27) hb);replace HB := am (zQf pB hb);clear hb ho27;obtain ⟨Ao28,co28,eo28⟩ := Kd.zQB HO396.out;subst eo28;obtain ⟨Ao29,co29,eo29⟩ := Kd.zQB HO400.out;subst eo29) | ((with_reducible refine zQe (f := 51) rfl ?_);refine zQr (some 26) rfl rfl Tryz.func51 (by kernel_rfl) rfl #[.slice Ao28 t394.length co28,.slice Ao29 y398.length co29] rfl pM ?_;(with_reducible refine (r1_Sum.calls k1 _ _ t394 _ _ y398 t401 _ ?side1 ?side2 ?side3 ?side4 A13.out).mono ?_);(case side1 => repeat (first | exact (Kd.zQh HO396.out).2.2 | (with_reducible refine Kd.zQj ?_ _) | (with_reducible refine Kd.zQi ?_ _) | (with_reducible refine Kd.zQv ?_)));(case side2 => exact (Kd.zQh HO396.out).2.1);(case side3 => repeat (first | exact (Kd.zQh HO400.out).2.2 | (with_reducible refine Kd.zQj ?_ _) | (with_reducible refine Kd.zQi ?_ _) | (with_reducible refine Kd.zQv ?_)));(case side4 => exact (Kd.zQh HO400.out).2.1);rintro e w30 ⟨v402,rfl,ho0,hb⟩;refine ⟨_,rfl,?_⟩;have HO403 := am (Kd.zQy (Kd.zQC (Kd.zQC (Kd.zQC (Kd.zQC ho0 (Kd.R_lt (pR HO_6.out))) (Kd.R_lt (pR HO_7.out))) (Kd.R_lt (pR HO396.out))) (Kd.R_lt (pR HO400.out))) (zQc pB));replace HO_6 := am (Kd.zQt (pR HO_6.out) (Kd.zQs ho0) hb);replace HO_7 := am (Kd.zQt (pR HO_7.out) (Kd.zQs ho0) hb);replace HO396 := am (Kd.zQt (pR HO396.out) (Kd.zQs ho0) hb);replace HO400 := am (Kd.zQt (pR HO400.out) (Kd.zQs ho0) hb);replace HB := am (zQf pB hb);(try clear hb);(try clear ho0);obtain ⟨Ao31,co31,eo31⟩ := Kd.zQB HO403.out;subst eo31) | ((with_reducible refine zQe (f := 53) rfl ?_);refine zQr (some 29) rfl rfl Tryz.func53 (by kernel_rfl) rfl #[.slice Ao31 t401.length co31,.slice A1 l1.length c1] rfl pM ?_;(with_reducible refine (r1_Cmp.calls k1 _ _ t401 _ _ l1 t404 _ ?side1 ?side2 ?side3 ?side4 A14.out).mono ?_);(case side1 => repeat (first | exact (Kd.zQh HO403.out).2.2 | (with_reducible refine Kd.zQj ?_ _) | (with_reducible refine Kd.zQi ?_ _) | (with_reducible refine Kd.zQv ?_)));(case side2 => exact (Kd.zQh HO403.out).2.1);(case side3 => exact pC (Kd.zQO HR1.out HB.out));(case side4 => exact HC1.out);rintro e w' ⟨rfl,⟨nd,rfl⟩⟩;refine ⟨_,rfl,?_⟩;(try (rw [zXc w30];generalize hq_ : World.drewN w30 _ = w30;have n0_ : Aside0 (Kd.R (Kd.int .u64) 22 w30 w.heap.size (fun k_ => some k_ ≠ (.slice Ao29 y398.length co29 : Value).ownBlock ∧ some k_ ≠ (.slice Ao31 t401.length co31 : Value).ownBlock ∧ some k_ ≠ (v385 : Value).ownBlock ∧ some k_ ≠ (.slice Ao24 x7_1.length co24 : Value).ownBlock) (.slice Ao28 t394.length co28) t394) := ⟨by rw [← hq_];exact (by (with_reducible repeat (first | apply Kd.zQw | apply Kd.zQu | apply Kd.zQx));exact Kd.zQE HO396.out (fun _ hk => by simp only [ne_eq] at hk ⊢;simp only [hk,not_false_eq_true,and_self]))⟩;have n1_ : Aside0 (Kd.R (Kd.int .u64) 22 w30 w.heap.size (fun k_ => some k_ ≠ (.slice Ao28 t394.length co28 : Value).ownBlock ∧ some k_ ≠ (.slice Ao31 t401.length co31 : Value).ownBlock ∧ some k_ ≠ (v385 : Value).ownBlock ∧ some k_ ≠ (.slice Ao24 x7_1.length co24 : Value).ownBlock) (.slice Ao29 y398.length co29) y398) := ⟨by rw [← hq_];exact (by (with_reducible repeat (first | apply Kd.zQw | apply Kd.zQu | apply Kd.zQx));exact Kd.zQE HO400.out (fun _ hk => by simp only [ne_eq] at hk ⊢;simp only [hk,not_false_eq_true,and_self]))⟩;have n2_ : Aside0 (Kd.R (Kd.int .u64) 22 w30 w.heap.size (fun k_ => some k_ ≠ (.slice Ao28 t394.length co28 : Value).ownBlock ∧ some k_ ≠ (.slice Ao29 y398.length co29 : Value).ownBlock ∧ some k_ ≠ (v385 : Value).ownBlock ∧ some k_ ≠ (.slice Ao24 x7_1.length co24 : Value).ownBlock) (.slice Ao31 t401.length co31) t401) := ⟨by rw [← hq_];exact (by (with_reducible repeat (first | apply Kd.zQw | apply Kd.zQu | apply Kd.zQx));exact Kd.zQE HO403.out (fun _ hk => by simp only [ne_eq] at hk ⊢;simp only [hk,not_false_eq_true,and_self]))⟩;have n3_ : Aside0 (Kd.R (Kd.int .u64) 22 w30 w.heap.size (fun k_ => some k_ ≠ (.slice Ao28 t394.length co28 : Value).ownBlock ∧ some k_ ≠ (.slice Ao29 y398.length co29 : Value).ownBlock ∧ some k_ ≠ (.slice Ao31 t401.length co31 : Value).ownBlock ∧ some k_ ≠ (.slice Ao24 x7_1.length co24 : Value).ownBlock) v385 x6_1) := ⟨by rw [← hq_];exact (by (with_reducible repeat (first | apply Kd.zQw | apply Kd.zQu | apply Kd.zQx));exact Kd.zQE HO_6.out (fun _ hk => by simp only [ne_eq] at hk ⊢;simp only [hk,not_false_eq_true,and_self]))⟩;have n4_ : Aside0 (Kd.R (Kd.int .u64) 22 w30 w.heap.size (fun k_ => some k_ ≠ (.slice Ao28 t394.length co28 : Value).ownBlock ∧ some k_ ≠ (.slice Ao29 y398.length co29 : Value).ownBlock ∧ some k_ ≠ (.slice Ao31 t401.length co31 : Value).ownBlock ∧ some k_ ≠ (v385 : Value).ownBlock) (.slice Ao24 x7_1.length co24) x7_1) := ⟨by rw [← hq_];exact (by (with_reducible repeat (first | apply Kd.zQw | apply Kd.zQu | apply Kd.zQx));exact Kd.zQE HO_7.out (fun _ hk => by simp only [ne_eq] at hk ⊢;simp only [hk,not_false_eq_true,and_self]))⟩;have n5_ : Aside0 (Below w.heap.size w w30) := ⟨by rw [← hq_];exact pB⟩;clear HO396 HO400 HO403 HO_6 HO_7 HB hq_;have HO396 := n0_;have HO400 := n1_;have HO403 := n2_;have HO_6 := n3_;have HO_7 := n4_;have HB := n5_;clear n0_ n1_ n2_ n3_ n4_ n5_))) | ((with_reducible refine zQe (f := 66) rfl ?_);refine zQr (some 33) rfl rfl Tryz.func66 (by kernel_rfl) rfl #[.slice Ao31 t401.length co31,.slice A1 l1.length c1] rfl pM ?_;(with_reducible refine (r1_Minus.calls k1 _ _ t401 _ _ l1 t405 _ ?side1 ?side2 ?side3 ?side4 A16.out).mono ?_);(case side1 => repeat (first | exact (Kd.zQh HO403.out).2.2 | (with_reducible refine Kd.zQj ?_ _) | (with_reducible refine Kd.zQi ?_ _) | (with_reducible refine Kd.zQv ?_)));(case side2 => exact (Kd.zQh HO403.out).2.1);(case side3 => exact pC (Kd.zQO HR1.out HB.out));(case side4 => exact HC1.out);rintro e w32 ⟨v406,rfl,ho0,hb⟩;refine ⟨_,rfl,?_⟩;have HO407 := am (Kd.zQy (Kd.zQC (Kd.zQC (Kd.zQC (Kd.zQC (Kd.zQC ho0 (Kd.R_lt (pR HO_6.out))) (Kd.R_lt (pR HO_7.out))) (Kd.R_lt (pR HO396.out))) (Kd.R_lt (pR HO400.out))) (Kd.R_lt (pR HO403.out))) (zQc pB));replace HO_6 := am (Kd.zQt (pR HO_6.out) (Kd.zQs ho0) hb);replace HO_7 := am (Kd.zQt (pR HO_7.out) (Kd.zQs ho0) hb);replace HO396 := am (Kd.zQt (pR HO396.out) (Kd.zQs ho0) hb);replace HO400 := am (Kd.zQt (pR HO400.out) (Kd.zQs ho0) hb);replace HO403 := am (Kd.zQt (pR HO403.out) (Kd.zQs ho0) hb);replace HB := am (zQf pB hb);(try clear hb);(try clear ho0);obtain ⟨Ao33,co33,eo33⟩ := Kd.zQB HO_6.out;subst eo33;have p408 : 0 ≤ ((ji17) : Int) := pD;have q408 : (ji17) < (x6_1.length : Int) := pD;obtain ⟨ad408,e408,hx408_0⟩ := Kd.zXe (Kd.zQh HO_6.out).2.2 (ji17) p408 q408;cases e408;replace p408 := eq_true p408;replace q408 := eq_true q408;have p23 : 0 ≤ ((ji17) : Int) := pD;have q23 : ((ji17) : Int) < ((x6_1.length : Int) : Int) := pD;obtain ⟨go23,co23,eo23,gb23,gl23,cl23,HG23⟩ := Kd.zWr HO_6.out (by omega);(first | cases eo23 | (injection eo23 with ea_ en_ ec_;(first | subst ea_ | (injection ea_ with ea_;subst ea_));subst ec_;clear en_));have GB23 := am gb23;have GG23 := am HG23;clear gb23 gl23 HG23;(first | simp only [add_plain] at hx408_0 | skip);obtain ⟨hx23_0,hf23_0⟩ := Kd.zXR 0 HO_6.out ((ji17) : Int) p23 q23;replace p23 := eq_true p23;replace q23 := eq_true q23;have n_ := am (Kd.zQE (ok' := (fun k_ => some k_ ≠ (.slice Ao24 x7_1.length co24 : Value).ownBlock ∧ some k_ ≠ (.slice Ao28 t394.length co28 : Value).ownBlock ∧ some k_ ≠ (.slice Ao29 y398.length co29 : Value).ownBlock ∧ some k_ ≠ (.slice Ao31 t401.length co31 : Value).ownBlock ∧ some k_ ≠ (v406 : Value).ownBlock)) HO_6.out (fun k_ hk => by simp only [ne_eq] at hk ⊢;simp only [hk,not_false_eq_true,and_self]));clear HO_6;have HO_6 := n_;clear n_;obtain ⟨hy34_,hz34_⟩ := Kd.zXR 0 HO_6.out ((ji17) : Int) pD pD;have HP34 := Kd.zYD HO_6.out ((ji17) : Int) (Go.bits .or .u64 (rd x6_1 (ji17)) (ji22))) | ((with_reducible refine zXw (t := 22) (p := 47) rfl ?_);refine zXs (t := 22) (p := 47) (v := ?vo_w35) (w1 := (w32.setCell ⟨go23,((ji17) : Int).toNat,none⟩ (.int .u64 (Go.bits .or .u64 (rd x6_1 (ji17)) (ji22))))) ?hg ?ho ?hn ?hr ?_;(case ho => rfl);(case hg => rfl);(case hn => rfl);(case hr => first | (go_simp;done) | (go_simp;rfl));intro w35 hw;have hg : w32.grownBy w35 (some go23) := (by rw [hw];exact HP34.2);have hp_ : Kd.R (Kd.int .u64) 22 w35 w.heap.size (fun k_ => some k_ ≠ (.slice Ao24 x7_1.length co24 : Value).ownBlock ∧ some k_ ≠ (.slice Ao28 t394.length co28 : Value).ownBlock ∧ some k_ ≠ (.slice Ao29 y398.length co29 : Value).ownBlock ∧ some k_ ≠ (.slice Ao31 t401.length co31 : Value).ownBlock ∧ some k_ ≠ (v406 : Value).ownBlock) (.slice (some ⟨go23,0,none⟩) x6_1.length co33) y409 := (by rw [hw,Ny409.out];exact HP34.1);clear HP34;replace HO_6 := am (hp_);replace HO_7 := am (Kd.zZo (v := (.slice (some ⟨go23,0,none⟩) x6_1.length co33)) (v1 := (.slice (some ⟨go23,0,none⟩) x6_1.length co33)) (ok := (fun k_ => some k_ ≠ (.slice Ao28 t394.length co28 : Value).ownBlock ∧ some k_ ≠ (.slice Ao29 y398.length co29 : Value).ownBlock ∧ some k_ ≠ (.slice Ao31 t401.length co31 : Value).ownBlock ∧ some k_ ≠ (v406 : Value).ownBlock)) (by (with_reducible repeat (first | apply Kd.zQw | apply Kd.zQu | apply Kd.zQx));exact Kd.zQE HO_7.out (fun _ hk => by simp only [ne_eq] at hk ⊢;simp only [hk,not_false_eq_true,and_self])) hg (.inl rfl));replace HO396 := am (Kd.zZo (v := (.slice (some ⟨go23,0,none⟩) x6_1.length co33)) (v1 := (.slice (some ⟨go23,0,none⟩) x6_1.length co33)) (ok := (fun k_ => some k_ ≠ (.slice Ao24 x7_1.length co24 : Value).ownBlock ∧ some k_ ≠ (.slice Ao29 y398.length co29 : Value).ownBlock ∧ some k_ ≠ (.slice Ao31 t401.length co31 : Value).ownBlock ∧ some k_ ≠ (v406 : Value).ownBlock)) (by (with_reducible repeat (first | apply Kd.zQw | apply Kd.zQu | apply Kd.zQx));exact Kd.zQE HO396.out (fun _ hk => by simp only [ne_eq] at hk ⊢;simp only [hk,not_false_eq_true,and_self])) hg (.inl rfl));replace HO400 := am (Kd.zZo (v := (.slice (some ⟨go23,0,none⟩) x6_1.length co33)) (v1 := (.slice (some ⟨go23,0,none⟩) x6_1.length co33)) (ok := (fun k_ => some k_ ≠ (.slice Ao24 x7_1.length co24 : Value).ownBlock ∧ some k_ ≠ (.slice Ao28 t394.length co28 : Value).ownBlock ∧ some k_ ≠ (.slice Ao31 t401.length co31 : Value).ownBlock ∧ some k_ ≠ (v406 : Value).ownBlock)) (by (with_reducible repeat (first | apply Kd.zQw | apply Kd.zQu | apply Kd.zQx));exact Kd.zQE HO400.out (fun _ hk => by simp only [ne_eq] at hk ⊢;simp only [hk,not_false_eq_true,and_self])) hg (.inl rfl));replace HO403 := am (Kd.zZo (v := (.slice (some ⟨go23,0,none⟩) x6_1.length co33)) (v1 := (.slice (some ⟨go23,0,none⟩) x6_1.length co33)) (ok := (fun k_ => some k_ ≠ (.slice Ao24 x7_1.length co24 : Value).ownBlock ∧ some k_ ≠ (.slice Ao28 t394.length co28 : Value).ownBlock ∧ some k_ ≠ (.slice Ao29 y398.length co29 : Value).ownBlock ∧ some k_ ≠ (v406 : Value).ownBlock)) (by (with_reducible repeat (first | apply Kd.zQw | apply Kd.zQu | apply Kd.zQx));exact Kd.zQE HO403.out (fun _ hk => by simp only [ne_eq] at hk ⊢;simp only [hk,not_false_eq_true,and_self])) hg (.inl rfl));replace HO407 := am (Kd.zZo (v := (.slice (some ⟨go23,0,none⟩) x6_1.length co33)) (v1 := (.slice (some ⟨go23,0,none⟩) x6_1.length co33)) (ok := (fun k_ => some k_ ≠ (.slice Ao24 x7_1.length co24 : Value).ownBlock ∧ some k_ ≠ (.slice Ao28 t394.length co28 : Value).ownBlock ∧ some k_ ≠ (.slice Ao29 y398.length co29 : Value).ownBlock ∧ some k_ ≠ (.slice Ao31 t401.length co31 : Value).ownBlock)) (by (with_reducible repeat (first | apply Kd.zQw | apply Kd.zQu | apply Kd.zQx));exact Kd.zQE HO407.out (fun _ hk => by simp only [ne_eq] at hk ⊢;simp only [hk,not_false_eq_true,and_self])) hg (.inl rfl));replace HB := am ((by rw [hw];exact zQS (HB.out) GB23.out : Below w.heap.size w w35));clear hg hw hp_))
          go_roundg k1
          case measure => have := HK1.out;omega
          case rel => exact ⟨(y409),(t405),(wrap64 (x8_1 - 1)),(by first | rfl | (simp;done) | (simp [*];done)),H',⟨by have := HK1.out;omega⟩,⟨by (with_reducible repeat (first | apply Kd.zQw | apply Kd.zQu | apply Kd.zQx));exact Kd.zQE HO_6.out (fun _ hk => hk.2.2.2.2)⟩,⟨by (with_reducible repeat (first | apply Kd.zQw | apply Kd.zQu | apply Kd.zQx));exact Kd.zQE HO407.out (fun _ hk => hk.2)⟩,⟨pB⟩⟩
         ·rw [if_neg c21] at H
          exact absurd H (by simp)
        ·rw [if_neg c19] at H
         exact absurd H (by simp)
       ·rw [if_neg c18] at H
        exact absurd H (by simp)
      ·rw [if_neg c15] at H
       have c15b0 : decide (0 ≤ t404) = false := decide_eq_false c15
       clear c15
       have H' := am H
       clear H
       obtain ⟨Ao36,co36,eo36⟩ := Kd.zQB HO_7.out
       subst eo36
       go_wp2_with (first | ((with_reducible refine zQe (f := 38) rfl ?_);refine zQr (some 21) rfl rfl Tryz.func38 (by kernel_rfl) rfl #[.slice Ao36 x7_1.length co36,.int .i64 1] rfl pM ?_;(with_reducible refine (r1_Up.calls k1 _ _ x7_1 1 t394 _ ?side1 ?side2 A11.out).mono ?_);(case side1 => repeat (first | exact (Kd.zQh HO_7.out).2.2 | (with_reducible refine Kd.zQj ?_ _) | (with_reducible refine Kd.zQi ?_ _) | (with_reducible refine Kd.zQv ?_)));(case side2 => exact (Kd.zQh HO_7.out).2.1);rintro e w37 ⟨v395,rfl,ho0,hb⟩;refine ⟨_,rfl,?_⟩;have HO396 := am (Kd.zQy (Kd.zQC (Kd.zQC ho0 (Kd.R_lt (pR HO_6.out))) (Kd.R_lt (pR HO_7.out))) (zQc pB));replace HO_6 := am (Kd.zQt (pR HO_6.out) (Kd.zQs ho0) hb);replace HO_7 := am (Kd.zQt (pR HO_7.out) (Kd.zQs ho0) hb);replace HB := am (zQf pB hb);(try clear hb);(try clear ho0)) | ((with_reducible refine zQe (f := 54) rfl ?_);refine zQr (some 24) rfl rfl Tryz.func54 (by kernel_rfl) rfl #[.slice A0 l0.length c0,.int .i64 x8_1] rfl pM ?_;(with_reducible refine (r1_Bit.calls _ _ l0 x8_1 t397 _ ?side1 ?side2 A12.out).mono ?_);(case side1 => exact pC (Kd.zQO HR0.out HB.out));(case side2 => exact HC0.out);rintro e w' ⟨rfl,⟨nd,rfl⟩⟩;refine ⟨_,rfl,?_⟩) | ((with_reducible refine zQJ (N := 25) rfl ?_);refine Kd.R_lit (Kd.int .u64) _ 22 ?hg (N := 25) ?hd (xs := ([t397] : List Int)) (inner := [.int .u64 t397]) (ok := fun _ => True) (okp := fun _ => True) ?hr ?hp (fun _ hk => hk) trivial (Below.refl _ _) (Nat.le_refl _) (by simp) ?_;(case hd => rfl);(case hg => rfl);(case hr => first | (go_simp;done) | (go_simp;rfl));(case hp => exact (Reps.one (show Kd.M (Kd.int .u64) _ _ _ t397 [.int .u64 t397] from rfl) (Reps.none _ _)));intro v399 w38 ho39 hb hg_ hnew_;clear hg_ hnew_;(first | rw [← Ny398.out] at ho39 | (simp only [Int.reduceToNat] at ho39;rw [← Ny398.out] at ho39));have HO400 := am (Kd.zQy (Kd.zQC (Kd.zQC (Kd.zQC ho39 (Kd.R_lt (pR HO_6.out))) (Kd.R_lt (pR HO_7.out))) (Kd.R_lt (pR HO396.out))) (zQc pB));replace HO_6 := am (Kd.zQt (pR HO_6.out) (Kd.zQs ho39) hb);replace HO_7 := am (Kd.zQt (pR HO_7.out) (Kd.zQs ho39) hb);replace HO396 := am (Kd.zQt (pR HO396.out) (Kd.zQs ho39) hb);replace HB := am (zQf pB hb);clear hb ho39;obtain ⟨Ao40,co40,eo40⟩ := Kd.zQB HO396.out;subst eo40;obtain ⟨Ao41,co41,eo41⟩ := Kd.zQB HO400.out;subst eo41) | ((with_reducible refine zQe (f := 51) rfl ?_);refine zQr (some 26) rfl rfl Tryz.func51 (by kernel_rfl) rfl #[.slice Ao40 t394.length co40,.slice Ao41 y398.length co41] rfl pM ?_;(with_reducible refine (r1_Sum.calls k1 _ _ t394 _ _ y398 t401 _ ?side1 ?side2 ?side3 ?side4 A13.out).mono ?_);(case side1 => repeat (first | exact (Kd.zQh HO396.out).2.2 | (with_reducible refine Kd.zQj ?_ _) | (with_reducible refine Kd.zQi ?_ _) | (with_reducible refine Kd.zQv ?_)));(case side2 => exact (Kd.zQh HO396.out).2.1);(case side3 => repeat (first | exact (Kd.zQh HO400.out).2.2 | (with_reducible refine Kd.zQj ?_ _) | (with_reducible refine Kd.zQi ?_ _) | (with_reducible refine Kd.zQv ?_)));(case side4 => exact (Kd.zQh HO400.out).2.1);rintro e w42 ⟨v402,rfl,ho0,hb⟩;refine ⟨_,rfl,?_⟩;have HO403 := am (Kd.zQy (Kd.zQC (Kd.zQC (Kd.zQC (Kd.zQC ho0 (Kd.R_lt (pR HO_6.out))) (Kd.R_lt (pR HO_7.out))) (Kd.R_lt (pR HO396.out))) (Kd.R_lt (pR HO400.out))) (zQc pB));replace HO_6 := am (Kd.zQt (pR HO_6.out) (Kd.zQs ho0) hb);replace HO_7 := am (Kd.zQt (pR HO_7.out) (Kd.zQs ho0) hb);replace HO396 := am (Kd.zQt (pR HO396.out) (Kd.zQs ho0) hb);replace HO400 := am (Kd.zQt (pR HO400.out) (Kd.zQs ho0) hb);replace HB := am (zQf pB hb);(try clear hb);(try clear ho0);obtain ⟨Ao43,co43,eo43⟩ := Kd.zQB HO403.out;subst eo43) | ((with_reducible refine zQe (f := 53) rfl ?_);refine zQr (some 29) rfl rfl Tryz.func53 (by kernel_rfl) rfl #[.slice Ao43 t401.length co43,.slice A1 l1.length c1] rfl pM ?_;(with_reducible refine (r1_Cmp.calls k1 _ _ t401 _ _ l1 t404 _ ?side1 ?side2 ?side3 ?side4 A14.out).mono ?_);(case side1 => repeat (first | exact (Kd.zQh HO403.out).2.2 | (with_reducible refine Kd.zQj ?_ _) | (with_reducible refine Kd.zQi ?_ _) | (with_reducible refine Kd.zQv ?_)));(case side2 => exact (Kd.zQh HO403.out).2.1);(case side3 => exact pC (Kd.zQO HR1.out HB.out));(case side4 => exact HC1.out);rintro e w' ⟨rfl,⟨nd,rfl⟩⟩;refine ⟨_,rfl,?_⟩))
       go_roundg k1
       case measure => have := HK1.out;omega
       case rel => exact ⟨(x6_1),(t401),(wrap64 (x8_1 - 1)),(by first | rfl | (simp;done) | (simp [*];done)),H',⟨by have := HK1.out;omega⟩,⟨by (with_reducible repeat (first | apply Kd.zQw | apply Kd.zQu | apply Kd.zQx));exact Kd.zQE HO_6.out (fun _ hk => hk.2)⟩,⟨by (with_reducible repeat (first | apply Kd.zQw | apply Kd.zQu | apply Kd.zQx));exact Kd.zQE HO403.out (fun _ hk => hk.1.1.1.2)⟩,⟨pB⟩⟩
     ·rw [if_neg c10] at H
      have c10b0 : decide (0 ≤ x8_1) = false := decide_eq_false c10
      clear c10
      replace H := Option.bind_eq_some_iff.mp H
      obtain ⟨t391,A440,H⟩ := H
      try dsimp only at H
      have A44 := am A440
      clear A440
      simp only [Option.some.injEq,Prod.mk.injEq] at H
      obtain ⟨rfl,rfl⟩ := H
      obtain ⟨Ao45,co45,eo45⟩ := Kd.zQB HO_6.out
      subst eo45
      go_wp2_with (first | ((with_reducible refine zQe (f := 65) rfl ?_);refine zQr (some 49) rfl rfl Tryz.func65 (by kernel_rfl) rfl #[.slice Ao45 x6_1.length co45] rfl pM ?_;(with_reducible refine (r1_Trim.calls k1 _ _ x6_1 t391 _ ?side1 ?side2 A44.out).mono ?_);(case side1 => repeat (first | exact (Kd.zQh HO_6.out).2.2 | (with_reducible refine Kd.zQj ?_ _) | (with_reducible refine Kd.zQi ?_ _) | (with_reducible refine Kd.zQv ?_)));(case side2 => exact (Kd.zQh HO_6.out).2.1);rintro e w46 ⟨v392,rfl,ho0,hb⟩;refine ⟨_,rfl,?_⟩;have HO393 := am (Kd.zQy (Kd.zQC (Kd.zQC ho0 (Kd.R_lt (pR HO_6.out))) (Kd.R_lt (pR HO_7.out))) (zQc pB));replace HO_6 := am (Kd.zQt (pR HO_6.out) (Kd.zQs ho0) hb);replace HO_7 := am (Kd.zQt (pR HO_7.out) (Kd.zQs ho0) hb);replace HB := am (zQf pB hb);(try clear hb);(try clear ho0)))
      go_ret2
      exact ⟨_,_,pE,by (with_reducible repeat (first | apply Kd.zQw | apply Kd.zQu | apply Kd.zQx));exact Kd.zQE HO393.out (fun _ hk => hk.2),by (with_reducible repeat (first | apply Kd.zQw | apply Kd.zQu | apply Kd.zQx));exact Kd.zQE HO_7.out (fun _ hk => hk.2),pB⟩
  ·rw [if_neg c4] at H
   exact absurd H (by simp)
 ·rw [if_neg c3] at H
  exact absurd H (by simp)
def r5_Near.j0 : Nat → List Int → Bool → ByteArray → Int → Option (Int)
 | 0,_,_,_,_ => none
 | k + 1,x3,x18,x411000,x411001 => if x18 = true then (some 0) else (if x411001 > 400 then ((r1_Infinite.f false).bind fun t414 => (some t414)) else (if x411001 ≥ 0 then ((r5_Ten.f k x411001).bind fun t415 => ((r1_Product.f k x3 t415).bind fun t418 => ((r1_Round.f k false 0 t418 false).bind fun t421 => (some t421)))) else ((r5_Ten.f k (wrap64 (-x411001))).bind fun t422 => ((r1_Len.f k t422).bind fun t425 => ((r1_Len.f k x3).bind fun t426 => (if (wrap64 ((wrap64 (t425 - t426)) + 70)) < 0 then ((r1_Up.f k x3 0).bind fun t427 => ((r1_Divide.f k t427 t422).bind fun bt430 => ((r1_Round.f k false 0 bt430.1 (decide ((bt430.2.length : Int) > 0))).bind fun t436 => (some t436)))) else ((r1_Up.f k x3 (wrap64 ((wrap64 (t425 - t426)) + 70))).bind fun t437 => ((r1_Divide.f k t437 t422).bind fun bt440 => ((r1_Round.f k false (wrap64 (-(wrap64 ((wrap64 (t425 - t426)) + 70)))) bt440.1 (decide ((bt440.2.length : Int) > 0))).bind fun t446 => (some t446))))))))))
def r5_Near.f (k : Nat) (a0_0 : ByteArray) (a0_1 : Int) : Option (Int) := (r5_Whole.f k a0_0).bind fun t411 => (if (t411.length : Int) = 0 then (r5_Near.j0 k t411 true a0_0 a0_1) else (r5_Near.j0 k t411 (decide (a0_1 < (-1000))) a0_0 a0_1))
set_option maxHeartbeats 8000000 in
set_option maxRecDepth 100000 in
theorem r5_Near.calls (k : Nat) (a0_0 : ByteArray) (a0_1 : Int) (r : Int) (w : World) (h : r5_Near.f k a0_0 a0_1 = some r) :
  Calls Tryz.prog 13 #[.agg #[.string a0_0,.int .i64 a0_1]] w fun e w' => e = .returned (.int .u64 r) ∧ Below w.heap.size w w' := by
 have hu37 := Tryz.underlying37
 have HB := am (Below.refl w.heap.size w)
 have H : ((r5_Whole.f k a0_0).bind fun t411 => (if (t411.length : Int) = 0 then (r5_Near.j0 k t411 true a0_0 a0_1) else (r5_Near.j0 k t411 (decide (a0_1 < (-1000))) a0_0 a0_1))) = some r := h
 clear h
 replace H := Option.bind_eq_some_iff.mp H
 obtain ⟨t411,A20,H⟩ := H
 try dsimp only at H
 have A2 := am A20
 clear A20
 have HC3 := am H
 clear H
 go_enter Tryz.func13,Tryz.ntmps13
 go_upto_region 2 with (first | ((with_reducible refine zQJ (N := 1) rfl ?_);refine zXf ?hg (N := 1) ?hd (cs := #[.string a0_0,.int .i64 a0_1]) (t := 37) ?hr ?_;(case hd => rfl);(case hg => rfl);(case hr => first | (go_simp;done) | (go_simp;rfl));intro gb410 hg w4 hbox hb;have BK410 := am (hbox);have GW410 := am ((by rw [hg];exact (zQc pB) : w.heap.size ≤ gb410));have GE410 := am ((by rw [hg];exact (zQc pB) : w.heap.size ≤ gb410));replace HB := am (zQf pB hb);clear hb hbox hg;have q5 := cf2 BK410.out) | ((with_reducible refine zQe (f := 31) rfl ?_);refine zQr (some 10) rfl rfl Tryz.func31 (by kernel_rfl) rfl #[.string a0_0] rfl pM ?_;(with_reducible refine (r5_Whole.calls k a0_0 t411 _ A2.out).mono ?_);rintro e w6 ⟨v412,rfl,ho0,hb⟩;refine ⟨_,rfl,?_⟩;have HO413 := am (Kd.zQy ho0 (zQc pB));replace BK410 := am (pkb BK410.out hb);replace HB := am (zQf pB hb);(try clear hb);(try clear ho0)))
 (try simp only [Act.put,List.setIfInBounds_toArray,List.set_cons_zero,List.set_cons_succ])
 go_cut [18] (fun v18 wc => ∃ (kq : Nat) (x18_2 : Bool),v18 = .bool x18_2 ∧ Aside0 (r5_Near.j0 kq t411 x18_2 a0_0 a0_1 = some r) ∧ Aside0 (kq ≤ k) ∧ Aside0 (Kd.R (Kd.int .u64) 22 wc w.heap.size (fun _ => True) v412 t411) ∧ Aside0 (wc.heap[gb410]? = some (.cells #[.string a0_0,.int .i64 a0_1] 37 (0,0))) ∧ Aside0 (Below w.heap.size w wc))
 case first =>
  have H := HC3.out
  clear HC3
  by_cases c7 : (t411.length : Int) = 0
  ·rw [if_pos c7] at H
   have c7b0 : ((t411.length : Int) == 0) = true := beq_iff_eq.mpr c7
   have c7b1 : ((t411.length : Int) != 0) = false := bne_eq_false_iff_eq.mpr c7
   clear c7
   (first | rw [c7b0] | (simp only [i64_w,i32_w];rw [c7b0]) | rw [c7b1] | (simp only [i64_w,i32_w];rw [c7b1]) | skip)
   have H' := am H
   clear H
   obtain ⟨Ao8,co8,eo8⟩ := Kd.zQB HO413.out
   subst eo8
   go_wp2
   go_meet
   case rel => exact ⟨_,(true),(by first | rfl | (simp;done) | (simp [*];done)),H',⟨by first | omega | exact Nat.le_refl _⟩,⟨by (with_reducible repeat (first | apply Kd.zQw | apply Kd.zQu | apply Kd.zQx));exact HO413.out⟩,⟨by (with_reducible repeat (first | refine zQa ?_ _ | refine zQd ?_ | refine zQb ?_ _));exact BK410.out⟩,⟨pB⟩⟩
  ·rw [if_neg c7] at H
   have c7b0 : ((t411.length : Int) == 0) = false := beq_eq_false_iff_ne.mpr c7
   have c7b1 : ((t411.length : Int) != 0) = true := bne_iff_ne.mpr c7
   have c7b2 : ¬ (t411 = []) := fun h_ => c7 (by rw [h_];rfl)
   (first | rw [c7b0] | (simp only [i64_w,i32_w];rw [c7b0]) | rw [c7b1] | (simp only [i64_w,i32_w];rw [c7b1]) | skip)
   have H' := am H
   clear H
   obtain ⟨Ao9,co9,eo9⟩ := Kd.zQB HO413.out
   subst eo9
   have q10 := cf2 BK410.out
   go_wp2
   go_meet
   case rel => exact ⟨_,(decide (a0_1 < (-1000))),(by first | rfl | (simp;done) | (simp [*];done)),H',⟨by first | omega | exact Nat.le_refl _⟩,⟨by (with_reducible repeat (first | apply Kd.zQw | apply Kd.zQu | apply Kd.zQx));exact HO413.out⟩,⟨by (with_reducible repeat (first | refine zQa ?_ _ | refine zQd ?_ | refine zQb ?_ _));exact BK410.out⟩,⟨pB⟩⟩
 case rest =>
  clear HC3
  try clear c1
  try clear p2
  try clear c3
  try clear c7
  try clear c7b0
  try clear c7b1
  try clear c7b2
  try clear q10 q5
  obtain ⟨kq,x18_2,rfl,HA,HJ2,HO_3,BK410,HB⟩ := hcut
  cases kq with
  | zero => exact absurd HA.out (by simp [r5_Near.j0])
  | succ kj2 =>
   have H := HA.out
   clear HA
   simp only [r5_Near.j0] at H
   by_cases c11 : x18_2 = true
   ·subst c11
    rw [if_pos rfl] at H
    obtain rfl := Option.some.inj H
    go_wp2
    go_ret
    exact ⟨pE,pB⟩
   ·replace c11 := Bool.eq_false_iff.mpr c11
    subst c11
    rw [if_neg (show ¬ (false = true) by decide)] at H
    by_cases c12 : a0_1 > 400
    ·rw [if_pos c12] at H
     have c12b0 : decide (400 < a0_1) = true := decide_eq_true c12
     clear c12
     replace H := Option.bind_eq_some_iff.mp H
     obtain ⟨t414,A130,H⟩ := H
     try dsimp only at H
     have A13 := am A130
     clear A130
     obtain rfl := Option.some.inj H
     have q14 := cf2 BK410.out
     go_wp2_with (first | ((with_reducible refine zQe (f := 32) rfl ?_);refine zQr (some 22) rfl rfl Tryz.func32 (by kernel_rfl) rfl #[.bool false] rfl pM ?_;(with_reducible refine (r1_Infinite.calls false t414 _ A13.out).mono ?_);rintro e w' ⟨rfl,⟨nd,rfl⟩⟩;refine ⟨_,rfl,?_⟩))
     go_ret
     exact ⟨pE,pB⟩
    ·rw [if_neg c12] at H
     have c12b0 : decide (400 < a0_1) = false := decide_eq_false c12
     clear c12
     by_cases c15 : a0_1 ≥ 0
     ·rw [if_pos c15] at H
      have c15b0 : decide (0 ≤ a0_1) = true := decide_eq_true c15
      clear c15
      replace H := Option.bind_eq_some_iff.mp H
      obtain ⟨t415,A160,H⟩ := H
      try dsimp only at H
      have A16 := am A160
      clear A160
      replace H := Option.bind_eq_some_iff.mp H
      obtain ⟨t418,A170,H⟩ := H
      try dsimp only at H
      have A17 := am A170
      clear A170
      replace H := Option.bind_eq_some_iff.mp H
      obtain ⟨t421,A180,H⟩ := H
      try dsimp only at H
      have A18 := am A180
      clear A180
      obtain rfl := Option.some.inj H
      have q19 := cf2 BK410.out
      go_wp2_with (first | ((with_reducible refine zQe (f := 35) rfl ?_);refine zQr (some 29) rfl rfl Tryz.func35 (by kernel_rfl) rfl #[.int .i64 a0_1] rfl pM ?_;(with_reducible refine (r5_Ten.calls kj2 a0_1 t415 _ A16.out).mono ?_);rintro e w20 ⟨v416,rfl,ho0,hb⟩;refine ⟨_,rfl,?_⟩;have HO417 := am (Kd.zQy (Kd.zQC ho0 (Kd.R_lt (pR HO_3.out))) (zQc pB));replace HO_3 := am (Kd.zQt (pR HO_3.out) (Kd.zQs ho0) hb);replace BK410 := am (pkb BK410.out hb);replace HB := am (zQf pB hb);(try clear hb);(try clear ho0);obtain ⟨Ao21,co21,eo21⟩ := Kd.zQB HO_3.out;subst eo21;obtain ⟨Ao22,co22,eo22⟩ := Kd.zQB HO417.out;subst eo22) | ((with_reducible refine zQe (f := 34) rfl ?_);refine zQr (some 30) rfl rfl Tryz.func34 (by kernel_rfl) rfl #[.slice Ao21 t411.length co21,.slice Ao22 t415.length co22] rfl pM ?_;(with_reducible refine (r1_Product.calls kj2 _ _ t411 _ _ t415 t418 _ ?side1 ?side2 ?side3 ?side4 A17.out).mono ?_);(case side1 => repeat (first | exact (Kd.zQh HO_3.out).2.2 | (with_reducible refine Kd.zQj ?_ _) | (with_reducible refine Kd.zQi ?_ _) | (with_reducible refine Kd.zQv ?_)));(case side2 => exact (Kd.zQh HO_3.out).2.1);(case side3 => repeat (first | exact (Kd.zQh HO417.out).2.2 | (with_reducible refine Kd.zQj ?_ _) | (with_reducible refine Kd.zQi ?_ _) | (with_reducible refine Kd.zQv ?_)));(case side4 => exact (Kd.zQh HO417.out).2.1);rintro e w23 ⟨v419,rfl,ho0,hb⟩;refine ⟨_,rfl,?_⟩;have HO420 := am (Kd.zQy (Kd.zQC (Kd.zQC ho0 (Kd.R_lt (pR HO_3.out))) (Kd.R_lt (pR HO417.out))) (zQc pB));replace HO_3 := am (Kd.zQt (pR HO_3.out) (Kd.zQs ho0) hb);replace HO417 := am (Kd.zQt (pR HO417.out) (Kd.zQs ho0) hb);replace BK410 := am (pkb BK410.out hb);replace HB := am (zQf pB hb);(try clear hb);(try clear ho0);obtain ⟨Ao24,co24,eo24⟩ := Kd.zQB HO420.out;subst eo24) | ((with_reducible refine zQe (f := 33) rfl ?_);refine zQr (some 31) rfl rfl Tryz.func33 (by kernel_rfl) rfl #[.bool false,.int .i64 0,.slice Ao24 t418.length co24,.bool false] rfl pM ?_;(with_reducible refine (r1_Round.calls kj2 false 0 _ _ t418 false t421 _ ?side1 ?side2 A18.out).mono ?_);(case side1 => repeat (first | exact (Kd.zQh HO420.out).2.2 | (with_reducible refine Kd.zQj ?_ _) | (with_reducible refine Kd.zQi ?_ _) | (with_reducible refine Kd.zQv ?_)));(case side2 => exact (Kd.zQh HO420.out).2.1);rintro e w25 ⟨rfl,hb⟩;refine ⟨_,rfl,?_⟩;replace HO_3 := am (Kd.zQH (pR HO_3.out) hb);replace HO417 := am (Kd.zQH (pR HO417.out) hb);replace HO420 := am (Kd.zQH (pR HO420.out) hb);replace BK410 := am (pkb BK410.out hb);replace HB := am (zQf pB hb);(try clear hb)))
      go_ret
      exact ⟨pE,pB⟩
     ·rw [if_neg c15] at H
      have c15b0 : decide (0 ≤ a0_1) = false := decide_eq_false c15
      clear c15
      replace H := Option.bind_eq_some_iff.mp H
      obtain ⟨t422,A260,H⟩ := H
      try dsimp only at H
      have A26 := am A260
      clear A260
      replace H := Option.bind_eq_some_iff.mp H
      obtain ⟨t425,A270,H⟩ := H
      try dsimp only at H
      have A27 := am A270
      clear A270
      replace H := Option.bind_eq_some_iff.mp H
      obtain ⟨t426,A280,H⟩ := H
      try dsimp only at H
      have A28 := am A280
      clear A280
      by_cases c29 : (wrap64 ((wrap64 (t425 - t426)) + 70)) < 0
      ·rw [if_pos c29] at H
       have c29b0 : decide ((wrap64 ((wrap64 (t425 - t426)) + 70)) < 0) = true := decide_eq_true c29
       clear c29
       replace H := Option.bind_eq_some_iff.mp H
       obtain ⟨t427,A300,H⟩ := H
       try dsimp only at H
       have A30 := am A300
       clear A300
       replace H := Option.bind_eq_some_iff.mp H
       obtain ⟨⟨t430,t431⟩,A310,H⟩ := H
       try dsimp only at H
       have A31 := am A310
       clear A310
       replace H := Option.bind_eq_some_iff.mp H
       obtain ⟨t436,A320,H⟩ := H
       try dsimp only at H
       have A32 := am A320
       clear A320
       obtain rfl := Option.some.inj H
       have q33 := cf2 BK410.out
       have hd_ : decide ((t431.length : Int) > 0) = decide (0 < t431.length) := decide_eq_decide.2 (by omega)
       go_wp2_with (first | ((with_reducible refine zQe (f := 35) rfl ?_);refine zQr (some 35) rfl rfl Tryz.func35 (by kernel_rfl) rfl #[.int .i64 (wrap64 (-a0_1))] rfl pM ?_;(with_reducible refine (r5_Ten.calls kj2 (wrap64 (-a0_1)) t422 _ A26.out).mono ?_);rintro e w34 ⟨v423,rfl,ho0,hb⟩;refine ⟨_,rfl,?_⟩;have HO424 := am (Kd.zQy (Kd.zQC ho0 (Kd.R_lt (pR HO_3.out))) (zQc pB));replace HO_3 := am (Kd.zQt (pR HO_3.out) (Kd.zQs ho0) hb);replace BK410 := am (pkb BK410.out hb);replace HB := am (zQf pB hb);(try clear hb);(try clear ho0);obtain ⟨Ao35,co35,eo35⟩ := Kd.zQB HO424.out;subst eo35) | ((with_reducible refine zQe (f := 36) rfl ?_);refine zQr (some 37) rfl rfl Tryz.func36 (by kernel_rfl) rfl #[.slice Ao35 t422.length co35] rfl pM ?_;(with_reducible refine (r1_Len.calls kj2 _ _ t422 t425 _ ?side1 ?side2 A27.out).mono ?_);(case side1 => repeat (first | exact (Kd.zQh HO424.out).2.2 | (with_reducible refine Kd.zQj ?_ _) | (with_reducible refine Kd.zQi ?_ _) | (with_reducible refine Kd.zQv ?_)));(case side2 => exact (Kd.zQh HO424.out).2.1);rintro e w' ⟨rfl,⟨nd,rfl⟩⟩;refine ⟨_,rfl,?_⟩;obtain ⟨Ao36,co36,eo36⟩ := Kd.zQB HO_3.out;subst eo36) | ((with_reducible refine zQe (f := 36) rfl ?_);refine zQr (some 39) rfl rfl Tryz.func36 (by kernel_rfl) rfl #[.slice Ao36 t411.length co36] rfl pM ?_;(with_reducible refine (r1_Len.calls kj2 _ _ t411 t426 _ ?side1 ?side2 A28.out).mono ?_);(case side1 => repeat (first | exact (Kd.zQh HO_3.out).2.2 | (with_reducible refine Kd.zQj ?_ _) | (with_reducible refine Kd.zQi ?_ _) | (with_reducible refine Kd.zQv ?_)));(case side2 => exact (Kd.zQh HO_3.out).2.1);rintro e w' ⟨rfl,⟨nd,rfl⟩⟩;refine ⟨_,rfl,?_⟩) | ((with_reducible refine zQe (f := 38) rfl ?_);refine zQr (some 47) rfl rfl Tryz.func38 (by kernel_rfl) rfl #[.slice Ao36 t411.length co36,.int .i64 0] rfl pM ?_;(with_reducible refine (r1_Up.calls kj2 _ _ t411 0 t427 _ ?side1 ?side2 A30.out).mono ?_);(case side1 => repeat (first | exact (Kd.zQh HO_3.out).2.2 | (with_reducible refine Kd.zQj ?_ _) | (with_reducible refine Kd.zQi ?_ _) | (with_reducible refine Kd.zQv ?_)));(case side2 => exact (Kd.zQh HO_3.out).2.1);rintro e w37 ⟨v428,rfl,ho0,hb⟩;refine ⟨_,rfl,?_⟩;have HO429 := am (Kd.zQy (Kd.zQC (Kd.zQC ho0 (Kd.R_lt (pR HO_3.out))) (Kd.R_lt (pR HO424.out))) (zQc pB));replace HO_3 := am (Kd.zQt (pR HO_3.out) (Kd.zQs ho0) hb);replace HO424 := am (Kd.zQt (pR HO424.out) (Kd.zQs ho0) hb);replace BK410 := am (pkb BK410.out hb);replace HB := am (zQf pB hb);(try clear hb);(try clear ho0);obtain ⟨Ao38,co38,eo38⟩ := Kd.zQB HO429.out;subst eo38) | ((with_reducible refine zQe (f := 37) rfl ?_);refine zQr (some 49) rfl rfl Tryz.func37 (by kernel_rfl) rfl #[.slice Ao38 t427.length co38,.slice Ao35 t422.length co35] rfl pM ?_;(with_reducible refine (r1_Divide.calls kj2 _ _ t427 _ _ t422 t430 t431 _ ?side1 ?side2 ?side3 ?side4 A31.out).mono ?_);(case side1 => repeat (first | exact (Kd.zQh HO429.out).2.2 | (with_reducible refine Kd.zQj ?_ _) | (with_reducible refine Kd.zQi ?_ _) | (with_reducible refine Kd.zQv ?_)));(case side2 => exact (Kd.zQh HO429.out).2.1);(case side3 => repeat (first | exact (Kd.zQh HO424.out).2.2 | (with_reducible refine Kd.zQj ?_ _) | (with_reducible refine Kd.zQi ?_ _) | (with_reducible refine Kd.zQv ?_)));(case side4 => exact (Kd.zQh HO424.out).2.1);rintro e w39 ⟨v432,v434,rfl,ho0,ho1,hb⟩;refine ⟨_,rfl,?_⟩;have HO433 := am (Kd.zQy (Kd.zQC (Kd.zQC (Kd.zQC ho0 (Kd.R_lt (pR HO_3.out))) (Kd.R_lt (pR HO424.out))) (Kd.R_lt (pR HO429.out))) (zQc pB));have HO435 := am (Kd.zQy (Kd.zQC (Kd.zQC (Kd.zQC ho1 (Kd.R_lt (pR HO_3.out))) (Kd.R_lt (pR HO424.out))) (Kd.R_lt (pR HO429.out))) (zQc pB));replace HO_3 := am (Kd.zQE (Kd.zYC (Kd.zYC (Kd.R_old (pR HO_3.out) hb) (Kd.zQs ho0)) (Kd.zQs ho1)) (fun _ h_ => h_.1));replace HO424 := am (Kd.zQE (Kd.zYC (Kd.zYC (Kd.R_old (pR HO424.out) hb) (Kd.zQs ho0)) (Kd.zQs ho1)) (fun _ h_ => h_.1));replace HO429 := am (Kd.zQE (Kd.zYC (Kd.zYC (Kd.R_old (pR HO429.out) hb) (Kd.zQs ho0)) (Kd.zQs ho1)) (fun _ h_ => h_.1));replace BK410 := am (pkb BK410.out hb);replace HB := am (zQf pB hb);(try clear hb);(try clear ho0);(try clear ho1);obtain ⟨Ao40,co40,eo40⟩ := Kd.zQB HO435.out;subst eo40;obtain ⟨Ao41,co41,eo41⟩ := Kd.zQB HO433.out;subst eo41) | ((with_reducible refine zQe (f := 33) rfl ?_);refine zQr (some 58) rfl rfl Tryz.func33 (by kernel_rfl) rfl #[.bool false,.int .i64 0,.slice Ao41 t430.length co41,.bool (decide (0 < t431.length))] rfl pM ?_;(with_reducible refine (r1_Round.calls kj2 false 0 _ _ t430 (decide (0 < t431.length)) t436 _ ?side1 ?side2 (hd_ ▸ A32.out)).mono ?_);(case side1 => repeat (first | exact (Kd.zQh HO433.out).2.2 | (with_reducible refine Kd.zQj ?_ _) | (with_reducible refine Kd.zQi ?_ _) | (with_reducible refine Kd.zQv ?_)));(case side2 => exact (Kd.zQh HO433.out).2.1);rintro e w42 ⟨rfl,hb⟩;refine ⟨_,rfl,?_⟩;replace HO_3 := am (Kd.zQH (pR HO_3.out) hb);replace HO424 := am (Kd.zQH (pR HO424.out) hb);replace HO429 := am (Kd.zQH (pR HO429.out) hb);replace HO433 := am (Kd.zQH (pR HO433.out) hb);replace HO435 := am (Kd.zQH (pR HO435.out) hb);replace BK410 := am (pkb BK410.out hb);replace HB := am (zQf pB hb);(try clear hb)))
       go_ret
       exact ⟨pE,pB⟩
      ·rw [if_neg c29] at H
       have c29b0 : decide ((wrap64 ((wrap64 (t425 - t426)) + 70)) < 0) = false := decide_eq_false c29
       clear c29
       replace H := Option.bind_eq_some_iff.mp H
       obtain ⟨t437,A430,H⟩ := H
       try dsimp only at H
       have A43 := am A430
       clear A430
       replace H := Option.bind_eq_some_iff.mp H
       obtain ⟨⟨t440,t441⟩,A440,H⟩ := H
       try dsimp only at H
       have A44 := am A440
       clear A440
       replace H := Option.bind_eq_some_iff.mp H
       obtain ⟨t446,A450,H⟩ := H
       try dsimp only at H
       have A45 := am A450
       clear A450
       obtain rfl := Option.some.inj H
       have q46 := cf2 BK410.out
       have hd_ : decide ((t441.length : Int) > 0) = decide (0 < t441.length) := decide_eq_decide.2 (by omega)
       go_wp2_with (first | ((with_reducible refine zQe (f := 35) rfl ?_);refine zQr (some 35) rfl rfl Tryz.func35 (by kernel_rfl) rfl #[.int .i64 (wrap64 (-a0_1))] rfl pM ?_;(with_reducible refine (r5_Ten.calls kj2 (wrap64 (-a0_1)) t422 _ A26.out).mono ?_);rintro e w47 ⟨v423,rfl,ho0,hb⟩;refine ⟨_,rfl,?_⟩;have HO424 := am (Kd.zQy (Kd.zQC ho0 (Kd.R_lt (pR HO_3.out))) (zQc pB));replace HO_3 := am (Kd.zQt (pR HO_3.out) (Kd.zQs ho0) hb);replace BK410 := am (pkb BK410.out hb);replace HB := am (zQf pB hb);(try clear hb);(try clear ho0);obtain ⟨Ao48,co48,eo48⟩ := Kd.zQB HO424.out;subst eo48) | ((with_reducible refine zQe (f := 36) rfl ?_);refine zQr (some 37) rfl rfl Tryz.func36 (by kernel_rfl) rfl #[.slice Ao48 t422.length co48] rfl pM ?_;(with_reducible refine (r1_Len.calls kj2 _ _ t422 t425 _ ?side1 ?side2 A27.out).mono ?_);(case side1 => repeat (first | exact (Kd.zQh HO424.out).2.2 | (with_reducible refine Kd.zQj ?_ _) | (with_reducible refine Kd.zQi ?_ _) | (with_reducible refine Kd.zQv ?_)));(case side2 => exact (Kd.zQh HO424.out).2.1);rintro e w' ⟨rfl,⟨nd,rfl⟩⟩;refine ⟨_,rfl,?_⟩;obtain ⟨Ao49,co49,eo49⟩ := Kd.zQB HO_3.out;subst eo49) | ((with_reducible refine zQe (f := 36) rfl ?_);refine zQr (some 39) rfl rfl Tryz.func36 (by kernel_rfl) rfl #[.slice Ao49 t411.length co49] rfl pM ?_;(with_reducible refine (r1_Len.calls kj2 _ _ t411 t426 _ ?side1 ?side2 A28.out).mono ?_);(case side1 => repeat (first | exact (Kd.zQh HO_3.out).2.2 | (with_reducible refine Kd.zQj ?_ _) | (with_reducible refine Kd.zQi ?_ _) | (with_reducible refine Kd.zQv ?_)));(case side2 => exact (Kd.zQh HO_3.out).2.1);rintro e w' ⟨rfl,⟨nd,rfl⟩⟩;refine ⟨_,rfl,?_⟩) | ((with_reducible refine zQe (f := 38) rfl ?_);refine zQr (some 47) rfl rfl Tryz.func38 (by kernel_rfl) rfl #[.slice Ao49 t411.length co49,.int .i64 (wrap64 ((wrap64 (t425 - t426)) + 70))] rfl pM ?_;(with_reducible refine (r1_Up.calls kj2 _ _ t411 (wrap64 ((wrap64 (t425 - t426)) + 70)) t437 _ ?side1 ?side2 A43.out).mono ?_);(case side1 => repeat (first | exact (Kd.zQh HO_3.out).2.2 | (with_reducible refine Kd.zQj ?_ _) | (with_reducible refine Kd.zQi ?_ _) | (with_reducible refine Kd.zQv ?_)));(case side2 => exact (Kd.zQh HO_3.out).2.1);rintro e w50 ⟨v438,rfl,ho0,hb⟩;refine ⟨_,rfl,?_⟩;have HO439 := am (Kd.zQy (Kd.zQC (Kd.zQC ho0 (Kd.R_lt (pR HO_3.out))) (Kd.R_lt (pR HO424.out))) (zQc pB));replace HO_3 := am (Kd.zQt (pR HO_3.out) (Kd.zQs ho0) hb);replace HO424 := am (Kd.zQt (pR HO424.out) (Kd.zQs ho0) hb);replace BK410 := am (pkb BK410.out hb);replace HB := am (zQf pB hb);(try clear hb);(try clear ho0);obtain ⟨Ao51,co51,eo51⟩ := Kd.zQB HO439.out;subst eo51) | ((with_reducible refine zQe (f := 37) rfl ?_);refine zQr (some 49) rfl rfl Tryz.func37 (by kernel_rfl) rfl #[.slice Ao51 t437.length co51,.slice Ao48 t422.length co48] rfl pM ?_;(with_reducible refine (r1_Divide.calls kj2 _ _ t437 _ _ t422 t440 t441 _ ?side1 ?side2 ?side3 ?side4 A44.out).mono ?_);(case side1 => repeat (first | exact (Kd.zQh HO439.out).2.2 | (with_reducible refine Kd.zQj ?_ _) | (with_reducible refine Kd.zQi ?_ _) | (with_reducible refine Kd.zQv ?_)));(case side2 => exact (Kd.zQh HO439.out).2.1);(case side3 => repeat (first | exact (Kd.zQh HO424.out).2.2 | (with_reducible refine Kd.zQj ?_ _) | (with_reducible refine Kd.zQi ?_ _) | (with_reducible refine Kd.zQv ?_)));(case side4 => exact (Kd.zQh HO424.out).2.1);rintro e w52 ⟨v442,v444,rfl,ho0,ho1,hb⟩;refine ⟨_,rfl,?_⟩;have HO443 := am (Kd.zQy (Kd.zQC (Kd.zQC (Kd.zQC ho0 (Kd.R_lt (pR HO_3.out))) (Kd.R_lt (pR HO424.out))) (Kd.R_lt (pR HO439.out))) (zQc pB));have HO445 := am (Kd.zQy (Kd.zQC (Kd.zQC (Kd.zQC ho1 (Kd.R_lt (pR HO_3.out))) (Kd.R_lt (pR HO424.out))) (Kd.R_lt (pR HO439.out))) (zQc pB));replace HO_3 := am (Kd.zQE (Kd.zYC (Kd.zYC (Kd.R_old (pR HO_3.out) hb) (Kd.zQs ho0)) (Kd.zQs ho1)) (fun _ h_ => h_.1));replace HO424 := am (Kd.zQE (Kd.zYC (Kd.zYC (Kd.R_old (pR HO424.out) hb) (Kd.zQs ho0)) (Kd.zQs ho1)) (fun _ h_ => h_.1));replace HO439 := am (Kd.zQE (Kd.zYC (Kd.zYC (Kd.R_old (pR HO439.out) hb) (Kd.zQs ho0)) (Kd.zQs ho1)) (fun _ h_ => h_.1));replace BK410 := am (pkb BK410.out hb);replace HB := am (zQf pB hb);(try clear hb);(try clear ho0);(try clear ho1);obtain ⟨Ao53,co53,eo53⟩ := Kd.zQB HO445.out;subst eo53;obtain ⟨Ao54,co54,eo54⟩ := Kd.zQB HO443.out;subst eo54) | ((with_reducible refine zQe (f := 33) rfl ?_);refine zQr (some 58) rfl rfl Tryz.func33 (by kernel_rfl) rfl #[.bool false,.int .i64 (wrap64 (-(wrap64 ((wrap64 (t425 - t426)) + 70)))),.slice Ao54 t440.length co54,.bool (decide (0 < t441.length))] rfl pM ?_;(with_reducible refine (r1_Round.calls kj2 false (wrap64 (-(wrap64 ((wrap64 (t425 - t426)) + 70)))) _ _ t440 (decide (0 < t441.length)) t446 _ ?side1 ?side2 (hd_ ▸ A45.out)).mono ?_);(case side1 => repeat (first | exact (Kd.zQh HO443.out).2.2 | (with_reducible refine Kd.zQj ?_ _) | (with_reducible refine Kd.zQi ?_ _) | (with_reducible refine Kd.zQv ?_)));(case side2 => exact (Kd.zQh HO443.out).2.1);rintro e w55 ⟨rfl,hb⟩;refine ⟨_,rfl,?_⟩;replace HO_3 := am (Kd.zQH (pR HO_3.out) hb);replace HO424 := am (Kd.zQH (pR HO424.out) hb);replace HO439 := am (Kd.zQH (pR HO439.out) hb);replace HO443 := am (Kd.zQH (pR HO443.out) hb);replace HO445 := am (Kd.zQH (pR HO445.out) hb);replace BK410 := am (pkb BK410.out hb);replace HB := am (zQf pB hb);(try clear hb)))
       go_ret
       exact ⟨pE,pB⟩
def r5_Parse.f (k : Nat) (a0 : ByteArray) : Option (Int × Int) := if (a0.size : Int) > 400 then (some (0,2)) else ((r5_Read.f k a0).bind fun bt447 => (if bt447.2.2 = true then ((r5_Near.f k bt447.1 bt447.2.1).bind fun t451 => (some (t451,0))) else (some (0,4))))
set_option maxHeartbeats 8000000 in
set_option maxRecDepth 100000 in
theorem r5_Parse.calls (k : Nat) (a0 : ByteArray) (r1 : Int) (r2 : Int) (w : World) (h : r5_Parse.f k a0 = some (r1,r2)) :
  Calls Tryz.prog 6 #[.string a0] w fun e w' => e = .returned (.tuple #[.int .u64 r1,.int .i64 r2]) ∧ Below w.heap.size w w' := by
 have hu37 := Tryz.underlying37
 have HB := am (Below.refl w.heap.size w)
 have H : (if (a0.size : Int) > 400 then (some (0,2)) else ((r5_Read.f k a0).bind fun bt447 => (if bt447.2.2 = true then ((r5_Near.f k bt447.1 bt447.2.1).bind fun t451 => (some (t451,0))) else (some (0,4))))) = some (r1,r2) := h
 clear h
 by_cases c2 : (a0.size : Int) > 400
 ·rw [if_pos c2] at H
  have c2b0 : decide (400 < (a0.size : Int)) = true := decide_eq_true c2
  have c2b1 : decide (400 < a0.size) = true := decide_eq_true (by omega)
  clear c2
  simp only [Option.some.injEq,Prod.mk.injEq] at H
  obtain ⟨rfl,rfl⟩ := H
  go_enter Tryz.func6,Tryz.ntmps6
  go_wp2
  go_ret2
  exact ⟨pE,pB⟩
 ·rw [if_neg c2] at H
  have c2b0 : decide (400 < (a0.size : Int)) = false := decide_eq_false c2
  have c2b1 : decide (400 < a0.size) = false := decide_eq_false (by omega)
  clear c2
  replace H := Option.bind_eq_some_iff.mp H
  obtain ⟨⟨t447,t448,t449⟩,A30,H⟩ := H
  try dsimp only at H
  have A3 := am A30
  clear A30
  by_cases c4 : t449 = true
  ·subst c4
   rw [if_pos rfl] at H
   replace H := Option.bind_eq_some_iff.mp H
   obtain ⟨t451,A50,H⟩ := H
   try dsimp only at H
   have A5 := am A50
   clear A50
   simp only [Option.some.injEq,Prod.mk.injEq] at H
   obtain ⟨rfl,rfl⟩ := H
   go_enter Tryz.func6,Tryz.ntmps6
   go_wp2_with (first | ((with_reducible refine zQe (f := 12) rfl ?_);refine zQr (some 11) rfl rfl Tryz.func12 (by kernel_rfl) rfl #[.string a0] rfl pM ?_;(with_reducible refine (r5_Read.calls k a0 t447 t448 true _ A3.out).mono ?_);rintro e w6 ⟨rfl,hb⟩;refine ⟨_,rfl,?_⟩;replace HB := am (zQf pB hb);(try clear hb)) | ((with_reducible refine zQJ (N := 4) rfl ?_);refine zXf ?hg (N := 4) ?hd (cs := #[.string (⟨#[]⟩ : ByteArray),.int .i64 0]) (t := 37) ?hr ?_;(case hd => rfl);(case hg => rfl);(case hr => first | (go_simp;done) | (go_simp;rfl));intro gb450 hg w7 hbox hb;have BK450 := am (hbox);have GW450 := am ((by rw [hg];exact (zQc pB) : w.heap.size ≤ gb450));have GE450 := am ((by rw [hg];exact (zQc pB) : w.heap.size ≤ gb450));replace HB := am (zQf pB hb);clear hb hbox hg;have q8 := cf2 BK450.out) | ((with_reducible refine zQe (f := 13) rfl ?_);refine zQr (some 17) rfl rfl Tryz.func13 (by kernel_rfl) rfl #[.agg #[.string t447,.int .i64 t448]] rfl pM ?_;(with_reducible refine (r5_Near.calls k t447 t448 t451 _ A5.out).mono ?_);rintro e w9 ⟨rfl,hb⟩;refine ⟨_,rfl,?_⟩;replace BK450 := am (zZc (g := gb450) (o := .cells #[.string t447,.int .i64 t448] 37 (0,0)) (by (with_reducible repeat (first | refine zQa ?_ _ | refine zQd ?_ | refine zQb ?_ _));refine zQz (cs := #[.string t447,.int .i64 0]) ?_ 1 _ rfl;(with_reducible repeat (first | refine zQa ?_ _ | refine zQd ?_ | refine zQb ?_ _));refine zQz (cs := #[.string (⟨#[]⟩ : ByteArray),.int .i64 0]) ?_ 0 _ rfl;(with_reducible repeat (first | refine zQa ?_ _ | refine zQd ?_ | refine zQb ?_ _));exact BK450.out) hb);replace HB := am (zQf pB hb);(try clear hb)))
   go_ret2
   exact ⟨pE,pB⟩
  ·replace c4 := Bool.eq_false_iff.mpr c4
   subst c4
   rw [if_neg (show ¬ (false = true) by decide)] at H
   simp only [Option.some.injEq,Prod.mk.injEq] at H
   obtain ⟨rfl,rfl⟩ := H
   go_enter Tryz.func6,Tryz.ntmps6
   go_wp2_with (first | ((with_reducible refine zQe (f := 12) rfl ?_);refine zQr (some 11) rfl rfl Tryz.func12 (by kernel_rfl) rfl #[.string a0] rfl pM ?_;(with_reducible refine (r5_Read.calls k a0 t447 t448 false _ A3.out).mono ?_);rintro e w10 ⟨rfl,hb⟩;refine ⟨_,rfl,?_⟩;replace HB := am (zQf pB hb);(try clear hb)) | ((with_reducible refine zQJ (N := 4) rfl ?_);refine zXf ?hg (N := 4) ?hd (cs := #[.string (⟨#[]⟩ : ByteArray),.int .i64 0]) (t := 37) ?hr ?_;(case hd => rfl);(case hg => rfl);(case hr => first | (go_simp;done) | (go_simp;rfl));intro gb450 hg w11 hbox hb;have BK450 := am (hbox);have GW450 := am ((by rw [hg];exact (zQc pB) : w.heap.size ≤ gb450));have GE450 := am ((by rw [hg];exact (zQc pB) : w.heap.size ≤ gb450));replace HB := am (zQf pB hb);clear hb hbox hg;have q12 := cf2 BK450.out))
   go_ret2
   exact ⟨pE,pB⟩
def flo_Kind.f (a0 : Int) : Option (Int) := (flo_kind.f a0).bind fun t452 => (some t452)
set_option maxHeartbeats 8000000 in
set_option maxRecDepth 100000 in
theorem flo_Kind.calls (a0 : Int) (r : Int) (w : World) (h : flo_Kind.f a0 = some r) :
  Calls Tryz.prog 14 #[.int .u64 a0] w fun e w' => e = .returned (.int .i64 r) ∧ Drawn0 w w' := by
 have H : ((flo_kind.f a0).bind fun t452 => (some t452)) = some r := h
 clear h
 replace H := Option.bind_eq_some_iff.mp H
 obtain ⟨t452,A20,H⟩ := H
 try dsimp only at H
 have A2 := am A20
 clear A20
 obtain rfl := Option.some.inj H
 go_enter Tryz.func14,Tryz.ntmps14
 go_wp2_with (first | ((with_reducible refine zQe (f := 39) rfl ?_);refine zQr (some 4) rfl rfl Tryz.func39 (by kernel_rfl) rfl #[.int .u64 a0] rfl pM ?_;(with_reducible refine (flo_kind.calls a0 t452 _ A2.out).mono ?_);rintro e w' ⟨rfl,⟨nd,rfl⟩⟩;refine ⟨_,rfl,?_⟩))
 go_ret
 exact ⟨by first | rfl | (simp;done) | (simp [*];done),by repeat (first | exact Drawn0.refl _ | apply Drawn0.step)⟩
def dec_laid.j0 : Nat → ByteArray → Int → Bool → Option (ByteArray)
 | 0,_,_,_ => none
 | k + 1,x0,x1,x6 => if x6 = true then (if x1 < 0 then (if (x0.size : Int) > 1 then (if 0 ≤ 1 then (if 1 ≤ (x0.size : Int) then (if (x0.extract 0 1).size + 1 ≤ 9223372036854775807 then (if ((x0.extract 0 1) ++ (⟨#[46]⟩ : ByteArray)).size + (x0.extract 1 x0.size).size ≤ 9223372036854775807 then (if (((x0.extract 0 1) ++ (⟨#[46]⟩ : ByteArray)) ++ (x0.extract 1 x0.size)).size + 2 ≤ 9223372036854775807 then ((strconv_Itoa.f (wrap64 (-x1))).bind fun t453 => (if ((((x0.extract 0 1) ++ (⟨#[46]⟩ : ByteArray)) ++ (x0.extract 1 x0.size)) ++ (⟨#[101,45]⟩ : ByteArray)).size + t453.size ≤ 9223372036854775807 then (some (((((x0.extract 0 1) ++ (⟨#[46]⟩ : ByteArray)) ++ (x0.extract 1 x0.size)) ++ (⟨#[101,45]⟩ : ByteArray)) ++ t453)) else (none))) else (none)) else (none)) else (none)) else (none)) else (none)) else (if x0.size + 2 ≤ 9223372036854775807 then ((strconv_Itoa.f (wrap64 (-x1))).bind fun t454 => (if (x0 ++ (⟨#[101,45]⟩ : ByteArray)).size + t454.size ≤ 9223372036854775807 then (some ((x0 ++ (⟨#[101,45]⟩ : ByteArray)) ++ t454)) else (none))) else (none))) else (if (x0.size : Int) > 1 then (if 0 ≤ 1 then (if 1 ≤ (x0.size : Int) then (if (x0.extract 0 1).size + 1 ≤ 9223372036854775807 then (if ((x0.extract 0 1) ++ (⟨#[46]⟩ : ByteArray)).size + (x0.extract 1 x0.size).size ≤ 9223372036854775807 then (if (((x0.extract 0 1) ++ (⟨#[46]⟩ : ByteArray)) ++ (x0.extract 1 x0.size)).size + 2 ≤ 9223372036854775807 then ((strconv_Itoa.f x1).bind fun t455 => (if ((((x0.extract 0 1) ++ (⟨#[46]⟩ : ByteArray)) ++ (x0.extract 1 x0.size)) ++ (⟨#[101,43]⟩ : ByteArray)).size + t455.size ≤ 9223372036854775807 then (some (((((x0.extract 0 1) ++ (⟨#[46]⟩ : ByteArray)) ++ (x0.extract 1 x0.size)) ++ (⟨#[101,43]⟩ : ByteArray)) ++ t455)) else (none))) else (none)) else (none)) else (none)) else (none)) else (none)) else (if x0.size + 2 ≤ 9223372036854775807 then ((strconv_Itoa.f x1).bind fun t456 => (if (x0 ++ (⟨#[101,43]⟩ : ByteArray)).size + t456.size ≤ 9223372036854775807 then (some ((x0 ++ (⟨#[101,43]⟩ : ByteArray)) ++ t456)) else (none))) else (none)))) else (if x1 < 0 then ((strings_Repeat.f (⟨#[48]⟩ : ByteArray) (wrap64 ((wrap64 (-x1)) - 1))).bind fun t457 => (if 2 + t457.size ≤ 9223372036854775807 then (if ((⟨#[48,46]⟩ : ByteArray) ++ t457).size + x0.size ≤ 9223372036854775807 then (some (((⟨#[48,46]⟩ : ByteArray) ++ t457) ++ x0)) else (none)) else (none))) else (if (wrap64 (x1 + 1)) ≥ (x0.size : Int) then ((strings_Repeat.f (⟨#[48]⟩ : ByteArray) (wrap64 ((wrap64 (x1 + 1)) - (x0.size : Int)))).bind fun t458 => (if x0.size + t458.size ≤ 9223372036854775807 then (some (x0 ++ t458)) else (none))) else (if 0 ≤ (wrap64 (x1 + 1)) then (if (wrap64 (x1 + 1)) ≤ (x0.size : Int) then (if (x0.extract 0 ((wrap64 (x1 + 1)) : Int).toNat).size + 1 ≤ 9223372036854775807 then (if ((x0.extract 0 ((wrap64 (x1 + 1)) : Int).toNat) ++ (⟨#[46]⟩ : ByteArray)).size + (x0.extract ((wrap64 (x1 + 1)) : Int).toNat x0.size).size ≤ 9223372036854775807 then (some (((x0.extract 0 ((wrap64 (x1 + 1)) : Int).toNat) ++ (⟨#[46]⟩ : ByteArray)) ++ (x0.extract ((wrap64 (x1 + 1)) : Int).toNat x0.size))) else (none)) else (none)) else (none)) else (none))))
def dec_laid.f (k : Nat) (a0 : ByteArray) (a1 : Int) : Option (ByteArray) := if a1 < (-7) then (dec_laid.j0 k a0 a1 true) else (dec_laid.j0 k a0 a1 (decide (a1 > 20)))
theorem dec_laid.mono_l : ∀ k,(∀ y0 y1 y2,LeO (dec_laid.j0 k y0 y1 y2) (dec_laid.j0 (k + 1) y0 y1 y2))
 | 0 => fun _ _ _ r h => by simp [dec_laid.j0] at h
 | k + 1 => by
  have ih0 := dec_laid.mono_l k
  ·intro y0 y1 y2
   unfold dec_laid.j0
   repeat' first
   | (with_reducible exact ih0 _ _ _)
   | (with_reducible exact LeO.refl _)
   | (with_reducible exact LeO.none _)
   | (with_reducible refine LeO.ite ?_ ?_)
   | (with_reducible refine LeO.bind ?_ (fun _ => ?_))
   | exact ih0 _ _ _
   | exact LeO.none _
   | refine LeO.ite ?_ ?_
   | refine LeO.bind ?_ (fun _ => ?_)
theorem dec_laid.mono : ∀ a0 a1 k,LeO (dec_laid.f k a0 a1) (dec_laid.f (k + 1) a0 a1) := by
 intro a0 a1 k
 have ih0 := dec_laid.mono_l k
 unfold dec_laid.f
 repeat' first
   | (with_reducible exact ih0 _ _ _)
   | (with_reducible exact LeO.refl _)
   | (with_reducible exact LeO.none _)
   | (with_reducible refine LeO.ite ?_ ?_)
   | (with_reducible refine LeO.bind ?_ (fun _ => ?_))
   | exact ih0 _ _ _
   | exact LeO.none _
   | refine LeO.ite ?_ ?_
   | refine LeO.bind ?_ (fun _ => ?_)
set_option maxHeartbeats 8000000 in
set_option maxRecDepth 100000 in
theorem dec_laid.calls (k : Nat) (a0 : ByteArray) (a1 : Int) (r : ByteArray) (w : World) (hG : zXU w) (h : dec_laid.f k a0 a1 = some r) :
  Calls Tryz.prog 15 #[.string a0,.int .i64 a1] w fun e w' => e = .returned (.string r) ∧ Below w.heap.size w w' := by
 have HG := am hG
 clear hG
 have HB := am (Below.refl w.heap.size w)
 have H : (if a1 < (-7) then (dec_laid.j0 k a0 a1 true) else (dec_laid.j0 k a0 a1 (decide (a1 > 20)))) = some r := h
 clear h
 have HC3 := am H
 clear H
 go_enter Tryz.func15,Tryz.ntmps15
 go_upto_region 1 with (fail)
 repeat (go_quiet (fail);go_upto_region 1 with (fail))
 go_cut [6] (fun v6 wc => ∃ (kq : Nat) (x6_2 : Bool),v6 = .bool x6_2 ∧ Aside0 (dec_laid.j0 kq a0 a1 x6_2 = some r) ∧ Aside0 (kq ≤ k) ∧ Aside0 (Below w.heap.size w wc))
 case first =>
  have H := HC3.out
  clear HC3
  by_cases c4 : a1 < (-7)
  ·rw [if_pos c4] at H
   have c4b0 : decide (a1 < (-7)) = true := decide_eq_true c4
   clear c4
   (first | rw [c4b0] | (simp only [i64_w,i32_w];rw [c4b0]) | rw [c4b1] | (simp only [i64_w,i32_w];rw [c4b1]) | skip)
   have H' := am H
   clear H
   go_wp2
   repeat (go_quiet (fail);try go_wp2)
   go_meet
   case rel => exact ⟨_,(true),(by first | rfl | (simp;done) | (simp [*];done)),H',⟨by first | omega | exact Nat.le_refl _⟩,⟨pB⟩⟩
  ·rw [if_neg c4] at H
   have c4b0 : decide (a1 < (-7)) = false := decide_eq_false c4
   clear c4
   (first | rw [c4b0] | (simp only [i64_w,i32_w];rw [c4b0]) | rw [c4b1] | (simp only [i64_w,i32_w];rw [c4b1]) | skip)
   have H' := am H
   clear H
   go_wp2
   repeat (go_quiet (fail);try go_wp2)
   go_meet
   case rel => exact ⟨_,(decide (a1 > 20)),(by first | rfl | (simp;done) | (simp [*];done)),H',⟨by first | omega | exact Nat.le_refl _⟩,⟨pB⟩⟩
 case rest =>
  clear HC3
  try clear c1
  try clear p2
  try clear c4
  try clear c4b0
  try clear c4b1
  obtain ⟨kq,x6_2,rfl,HA,HJ2,HB⟩ := hcut
  cases kq with
  | zero => exact absurd HA.out (by simp [dec_laid.j0])
  | succ kj2 =>
   have H := HA.out
   clear HA
   simp only [dec_laid.j0] at H
   by_cases c5 : x6_2 = true
   ·subst c5
    rw [if_pos rfl] at H
    by_cases c6 : a1 < 0
    ·rw [if_pos c6] at H
     have c6b0 : decide (a1 < 0) = true := decide_eq_true c6
     clear c6
     by_cases c7 : (a0.size : Int) > 1
     ·rw [if_pos c7] at H
      have c7b0 : decide (1 < (a0.size : Int)) = true := decide_eq_true c7
      have c7b1 : decide (1 < a0.size) = true := decide_eq_true (by omega)
      clear c7
      by_cases c8 : 0 ≤ 1
      ·rw [if_pos c8] at H
       have c8b0 := eq_true c8
       have c8b1 : decide (0 ≤ 1) = true := decide_eq_true c8
       clear c8
       by_cases c9 : 1 ≤ (a0.size : Int)
       ·rw [if_pos c9] at H
        have c9b0 := eq_true c9
        have c9b1 : decide (1 ≤ (a0.size : Int)) = true := decide_eq_true c9
        clear c9
        obtain ⟨ji10,hji10⟩ : ∃ j_ : ByteArray,(a0.extract 0 1) = j_ := ⟨_,rfl⟩
        replace H : (if (ji10).size + 1 ≤ 9223372036854775807 then (if ((ji10) ++ (⟨#[46]⟩ : ByteArray)).size + (a0.extract 1 a0.size).size ≤ 9223372036854775807 then (if (((ji10) ++ (⟨#[46]⟩ : ByteArray)) ++ (a0.extract 1 a0.size)).size + 2 ≤ 9223372036854775807 then ((strconv_Itoa.f (wrap64 (-a1))).bind fun t453 => (if ((((ji10) ++ (⟨#[46]⟩ : ByteArray)) ++ (a0.extract 1 a0.size)) ++ (⟨#[101,45]⟩ : ByteArray)).size + t453.size ≤ 9223372036854775807 then (some (((((ji10) ++ (⟨#[46]⟩ : ByteArray)) ++ (a0.extract 1 a0.size)) ++ (⟨#[101,45]⟩ : ByteArray)) ++ t453)) else (none))) else (none)) else (none)) else (none)) = some r := by first | (rw [hji10] at H;exact H) | (simp only [hji10] at H ⊢;exact H) | exact H
        by_cases c11 : (ji10).size + 1 ≤ 9223372036854775807
        ·rw [if_pos c11] at H
         have c11b0 := eq_true c11
         have c11b1 : decide ((ji10).size + 1 ≤ 9223372036854775807) = true := decide_eq_true c11
         try have c11b2 : (9223372036854775807 < (ji10).size + 1) = False := eq_false (Nat.not_lt.2 c11)
         have c12b0 := eq_true (pD : 1 ≤ (a0.size : Int))
         obtain ⟨ji13,hji13⟩ : ∃ j_ : ByteArray,(a0.extract 1 a0.size) = j_ := ⟨_,rfl⟩
         replace H : (if ((ji10) ++ (⟨#[46]⟩ : ByteArray)).size + (ji13).size ≤ 9223372036854775807 then (if (((ji10) ++ (⟨#[46]⟩ : ByteArray)) ++ (ji13)).size + 2 ≤ 9223372036854775807 then ((strconv_Itoa.f (wrap64 (-a1))).bind fun t453 => (if ((((ji10) ++ (⟨#[46]⟩ : ByteArray)) ++ (ji13)) ++ (⟨#[101,45]⟩ : ByteArray)).size + t453.size ≤ 9223372036854775807 then (some (((((ji10) ++ (⟨#[46]⟩ : ByteArray)) ++ (ji13)) ++ (⟨#[101,45]⟩ : ByteArray)) ++ t453)) else (none))) else (none)) else (none)) = some r := by first | (rw [hji13] at H;exact H) | (simp only [hji13] at H ⊢;exact H) | exact H
         by_cases c14 : ((ji10) ++ (⟨#[46]⟩ : ByteArray)).size + (ji13).size ≤ 9223372036854775807
         ·rw [if_pos c14] at H
          have c14b0 := eq_true c14
          have c14b1 : decide (((ji10) ++ (⟨#[46]⟩ : ByteArray)).size + (ji13).size ≤ 9223372036854775807) = true := decide_eq_true c14
          try have c14b2 : (9223372036854775807 < ((ji10) ++ (⟨#[46]⟩ : ByteArray)).size + (ji13).size) = False := eq_false (Nat.not_lt.2 c14)
          try have c14b3 : (9223372036854775807 < ji10.size + 1 + ji13.size) = False := by have h_ := c14b2;simp only [ByteArray.size_append] at h_;exact h_
          by_cases c15 : (((ji10) ++ (⟨#[46]⟩ : ByteArray)) ++ (ji13)).size + 2 ≤ 9223372036854775807
          ·rw [if_pos c15] at H
           have c15b0 := eq_true c15
           have c15b1 : decide ((((ji10) ++ (⟨#[46]⟩ : ByteArray)) ++ (ji13)).size + 2 ≤ 9223372036854775807) = true := decide_eq_true c15
           try have c15b2 : (9223372036854775807 < (((ji10) ++ (⟨#[46]⟩ : ByteArray)) ++ (ji13)).size + 2) = False := eq_false (Nat.not_lt.2 c15)
           try have c15b3 : (9223372036854775807 < ji10.size + 1 + ji13.size + 2) = False := by have h_ := c15b2;simp only [ByteArray.size_append] at h_;exact h_
           replace H := Option.bind_eq_some_iff.mp H
           obtain ⟨t453,A160,H⟩ := H
           try dsimp only at H
           have A16 := am A160
           clear A160
           by_cases c17 : ((((ji10) ++ (⟨#[46]⟩ : ByteArray)) ++ (ji13)) ++ (⟨#[101,45]⟩ : ByteArray)).size + t453.size ≤ 9223372036854775807
           ·rw [if_pos c17] at H
            have c17b0 := eq_true c17
            have c17b1 : decide (((((ji10) ++ (⟨#[46]⟩ : ByteArray)) ++ (ji13)) ++ (⟨#[101,45]⟩ : ByteArray)).size + t453.size ≤ 9223372036854775807) = true := decide_eq_true c17
            try have c17b2 : (9223372036854775807 < ((((ji10) ++ (⟨#[46]⟩ : ByteArray)) ++ (ji13)) ++ (⟨#[101,45]⟩ : ByteArray)).size + t453.size) = False := eq_false (Nat.not_lt.2 c17)
            try have c17b3 : (9223372036854775807 < ji10.size + 1 + ji13.size + 2 + t453.size) = False := by have h_ := c17b2;simp only [ByteArray.size_append] at h_;exact h_
            obtain rfl := Option.some.inj H
            go_wp2_with (first | (go_at_call 40;(with_reducible refine (strconv_Itoa.calls (wrap64 (-a1)) t453 _ ?side1 A16.out).mono ?_);(case side1 => exact pG);rintro e w18 ⟨rfl,hb⟩;replace HB := am (zQf pB hb);(try clear hb)))
            repeat (go_quiet (first | (go_at_call 40;(with_reducible refine (strconv_Itoa.calls (wrap64 (-a1)) t453 _ ?side1 A16.out).mono ?_);(case side1 => exact pG);rintro e w18 ⟨rfl,hb⟩;replace HB := am (zQf pB hb);(try clear hb)));try go_wp2_with (first | (go_at_call 40;(with_reducible refine (strconv_Itoa.calls (wrap64 (-a1)) t453 _ ?side1 A16.out).mono ?_);(case side1 => exact pG);rintro e w18 ⟨rfl,hb⟩;replace HB := am (zQf pB hb);(try clear hb))))
            go_ret
            exact ⟨by first | rfl | (simp [zQq,zQp] <;> rfl) | (simp only [← hji10,← hji13];first | rfl | (simp [zQq,zQp] <;> rfl)) | (simp [*,zQq,zQp] <;> rfl),pB⟩
           ·rw [if_neg c17] at H
            exact absurd H (by simp)
          ·rw [if_neg c15] at H
           exact absurd H (by simp)
         ·rw [if_neg c14] at H
          exact absurd H (by simp)
        ·rw [if_neg c11] at H
         exact absurd H (by simp)
       ·rw [if_neg c9] at H
        exact absurd H (by simp)
      ·rw [if_neg c8] at H
       exact absurd H (by simp)
     ·rw [if_neg c7] at H
      have c7b0 : decide (1 < (a0.size : Int)) = false := decide_eq_false c7
      have c7b1 : decide (1 < a0.size) = false := decide_eq_false (by omega)
      clear c7
      by_cases c19 : a0.size + 2 ≤ 9223372036854775807
      ·rw [if_pos c19] at H
       have c19b0 := eq_true c19
       have c19b1 : decide (a0.size + 2 ≤ 9223372036854775807) = true := decide_eq_true c19
       try have c19b2 : (9223372036854775807 < a0.size + 2) = False := eq_false (Nat.not_lt.2 c19)
       replace H := Option.bind_eq_some_iff.mp H
       obtain ⟨t454,A200,H⟩ := H
       try dsimp only at H
       have A20 := am A200
       clear A200
       by_cases c21 : (a0 ++ (⟨#[101,45]⟩ : ByteArray)).size + t454.size ≤ 9223372036854775807
       ·rw [if_pos c21] at H
        have c21b0 := eq_true c21
        have c21b1 : decide ((a0 ++ (⟨#[101,45]⟩ : ByteArray)).size + t454.size ≤ 9223372036854775807) = true := decide_eq_true c21
        try have c21b2 : (9223372036854775807 < (a0 ++ (⟨#[101,45]⟩ : ByteArray)).size + t454.size) = False := eq_false (Nat.not_lt.2 c21)
        try have c21b3 : (9223372036854775807 < a0.size + 2 + t454.size) = False := by have h_ := c21b2;simp only [ByteArray.size_append] at h_;exact h_
        obtain rfl := Option.some.inj H
        go_wp2_with (first | (go_at_call 40;(with_reducible refine (strconv_Itoa.calls (wrap64 (-a1)) t454 _ ?side1 A20.out).mono ?_);(case side1 => exact pG);rintro e w22 ⟨rfl,hb⟩;replace HB := am (zQf pB hb);(try clear hb)))
        repeat (go_quiet (first | (go_at_call 40;(with_reducible refine (strconv_Itoa.calls (wrap64 (-a1)) t454 _ ?side1 A20.out).mono ?_);(case side1 => exact pG);rintro e w22 ⟨rfl,hb⟩;replace HB := am (zQf pB hb);(try clear hb)));try go_wp2_with (first | (go_at_call 40;(with_reducible refine (strconv_Itoa.calls (wrap64 (-a1)) t454 _ ?side1 A20.out).mono ?_);(case side1 => exact pG);rintro e w22 ⟨rfl,hb⟩;replace HB := am (zQf pB hb);(try clear hb))))
        go_ret
        exact ⟨pE,pB⟩
       ·rw [if_neg c21] at H
        exact absurd H (by simp)
      ·rw [if_neg c19] at H
       exact absurd H (by simp)
    ·rw [if_neg c6] at H
     have c6b0 : decide (a1 < 0) = false := decide_eq_false c6
     clear c6
     by_cases c23 : (a0.size : Int) > 1
     ·rw [if_pos c23] at H
      have c23b0 : decide (1 < (a0.size : Int)) = true := decide_eq_true c23
      have c23b1 : decide (1 < a0.size) = true := decide_eq_true (by omega)
      clear c23
      by_cases c24 : 0 ≤ 1
      ·rw [if_pos c24] at H
       have c24b0 := eq_true c24
       have c24b1 : decide (0 ≤ 1) = true := decide_eq_true c24
       clear c24
       by_cases c25 : 1 ≤ (a0.size : Int)
       ·rw [if_pos c25] at H
        have c25b0 := eq_true c25
        have c25b1 : decide (1 ≤ (a0.size : Int)) = true := decide_eq_true c25
        clear c25
        obtain ⟨ji26,hji26⟩ : ∃ j_ : ByteArray,(a0.extract 0 1) = j_ := ⟨_,rfl⟩
        replace H : (if (ji26).size + 1 ≤ 9223372036854775807 then (if ((ji26) ++ (⟨#[46]⟩ : ByteArray)).size + (a0.extract 1 a0.size).size ≤ 9223372036854775807 then (if (((ji26) ++ (⟨#[46]⟩ : ByteArray)) ++ (a0.extract 1 a0.size)).size + 2 ≤ 9223372036854775807 then ((strconv_Itoa.f a1).bind fun t455 => (if ((((ji26) ++ (⟨#[46]⟩ : ByteArray)) ++ (a0.extract 1 a0.size)) ++ (⟨#[101,43]⟩ : ByteArray)).size + t455.size ≤ 9223372036854775807 then (some (((((ji26) ++ (⟨#[46]⟩ : ByteArray)) ++ (a0.extract 1 a0.size)) ++ (⟨#[101,43]⟩ : ByteArray)) ++ t455)) else (none))) else (none)) else (none)) else (none)) = some r := by first | (rw [hji26] at H;exact H) | (simp only [hji26] at H ⊢;exact H) | exact H
        by_cases c27 : (ji26).size + 1 ≤ 9223372036854775807
        ·rw [if_pos c27] at H
         have c27b0 := eq_true c27
         have c27b1 : decide ((ji26).size + 1 ≤ 9223372036854775807) = true := decide_eq_true c27
         try have c27b2 : (9223372036854775807 < (ji26).size + 1) = False := eq_false (Nat.not_lt.2 c27)
         have c28b0 := eq_true (pD : 1 ≤ (a0.size : Int))
         obtain ⟨ji29,hji29⟩ : ∃ j_ : ByteArray,(a0.extract 1 a0.size) = j_ := ⟨_,rfl⟩
         replace H : (if ((ji26) ++ (⟨#[46]⟩ : ByteArray)).size + (ji29).size ≤ 9223372036854775807 then (if (((ji26) ++ (⟨#[46]⟩ : ByteArray)) ++ (ji29)).size + 2 ≤ 9223372036854775807 then ((strconv_Itoa.f a1).bind fun t455 => (if ((((ji26) ++ (⟨#[46]⟩ : ByteArray)) ++ (ji29)) ++ (⟨#[101,43]⟩ : ByteArray)).size + t455.size ≤ 9223372036854775807 then (some (((((ji26) ++ (⟨#[46]⟩ : ByteArray)) ++ (ji29)) ++ (⟨#[101,43]⟩ : ByteArray)) ++ t455)) else (none))) else (none)) else (none)) = some r := by first | (rw [hji29] at H;exact H) | (simp only [hji29] at H ⊢;exact H) | exact H
         by_cases c30 : ((ji26) ++ (⟨#[46]⟩ : ByteArray)).size + (ji29).size ≤ 9223372036854775807
         ·rw [if_pos c30] at H
          have c30b0 := eq_true c30
          have c30b1 : decide (((ji26) ++ (⟨#[46]⟩ : ByteArray)).size + (ji29).size ≤ 9223372036854775807) = true := decide_eq_true c30
          try have c30b2 : (9223372036854775807 < ((ji26) ++ (⟨#[46]⟩ : ByteArray)).size + (ji29).size) = False := eq_false (Nat.not_lt.2 c30)
          try have c30b3 : (9223372036854775807 < ji26.size + 1 + ji29.size) = False := by have h_ := c30b2;simp only [ByteArray.size_append] at h_;exact h_
          by_cases c31 : (((ji26) ++ (⟨#[46]⟩ : ByteArray)) ++ (ji29)).size + 2 ≤ 9223372036854775807
          ·rw [if_pos c31] at H
           have c31b0 := eq_true c31
           have c31b1 : decide ((((ji26) ++ (⟨#[46]⟩ : ByteArray)) ++ (ji29)).size + 2 ≤ 9223372036854775807) = true := decide_eq_true c31
           try have c31b2 : (9223372036854775807 < (((ji26) ++ (⟨#[46]⟩ : ByteArray)) ++ (ji29)).size + 2) = False := eq_false (Nat.not_lt.2 c31)
           try have c31b3 : (9223372036854775807 < ji26.size + 1 + ji29.size + 2) = False := by have h_ := c31b2;simp only [ByteArray.size_append] at h_;exact h_
           replace H := Option.bind_eq_some_iff.mp H
           obtain ⟨t455,A320,H⟩ := H
           try dsimp only at H
           have A32 := am A320
           clear A320
           by_cases c33 : ((((ji26) ++ (⟨#[46]⟩ : ByteArray)) ++ (ji29)) ++ (⟨#[101,43]⟩ : ByteArray)).size + t455.size ≤ 9223372036854775807
           ·rw [if_pos c33] at H
            have c33b0 := eq_true c33
            have c33b1 : decide (((((ji26) ++ (⟨#[46]⟩ : ByteArray)) ++ (ji29)) ++ (⟨#[101,43]⟩ : ByteArray)).size + t455.size ≤ 9223372036854775807) = true := decide_eq_true c33
            try have c33b2 : (9223372036854775807 < ((((ji26) ++ (⟨#[46]⟩ : ByteArray)) ++ (ji29)) ++ (⟨#[101,43]⟩ : ByteArray)).size + t455.size) = False := eq_false (Nat.not_lt.2 c33)
            try have c33b3 : (9223372036854775807 < ji26.size + 1 + ji29.size + 2 + t455.size) = False := by have h_ := c33b2;simp only [ByteArray.size_append] at h_;exact h_
            obtain rfl := Option.some.inj H
            go_wp2_with (first | (go_at_call 40;(with_reducible refine (strconv_Itoa.calls a1 t455 _ ?side1 A32.out).mono ?_);(case side1 => exact pG);rintro e w34 ⟨rfl,hb⟩;replace HB := am (zQf pB hb);(try clear hb)))
            repeat (go_quiet (first | (go_at_call 40;(with_reducible refine (strconv_Itoa.calls a1 t455 _ ?side1 A32.out).mono ?_);(case side1 => exact pG);rintro e w34 ⟨rfl,hb⟩;replace HB := am (zQf pB hb);(try clear hb)));try go_wp2_with (first | (go_at_call 40;(with_reducible refine (strconv_Itoa.calls a1 t455 _ ?side1 A32.out).mono ?_);(case side1 => exact pG);rintro e w34 ⟨rfl,hb⟩;replace HB := am (zQf pB hb);(try clear hb))))
            go_ret
            exact ⟨by first | rfl | (simp [zQq,zQp] <;> rfl) | (simp only [← hji26,← hji29];first | rfl | (simp [zQq,zQp] <;> rfl)) | (simp [*,zQq,zQp] <;> rfl),pB⟩
           ·rw [if_neg c33] at H
            exact absurd H (by simp)
          ·rw [if_neg c31] at H
           exact absurd H (by simp)
         ·rw [if_neg c30] at H
          exact absurd H (by simp)
        ·rw [if_neg c27] at H
         exact absurd H (by simp)
       ·rw [if_neg c25] at H
        exact absurd H (by simp)
      ·rw [if_neg c24] at H
       exact absurd H (by simp)
     ·rw [if_neg c23] at H
      have c23b0 : decide (1 < (a0.size : Int)) = false := decide_eq_false c23
      have c23b1 : decide (1 < a0.size) = false := decide_eq_false (by omega)
      clear c23
      by_cases c35 : a0.size + 2 ≤ 9223372036854775807
      ·rw [if_pos c35] at H
       have c35b0 := eq_true c35
       have c35b1 : decide (a0.size + 2 ≤ 9223372036854775807) = true := decide_eq_true c35
       try have c35b2 : (9223372036854775807 < a0.size + 2) = False := eq_false (Nat.not_lt.2 c35)
       replace H := Option.bind_eq_some_iff.mp H
       obtain ⟨t456,A360,H⟩ := H
       try dsimp only at H
       have A36 := am A360
       clear A360
       by_cases c37 : (a0 ++ (⟨#[101,43]⟩ : ByteArray)).size + t456.size ≤ 9223372036854775807
       ·rw [if_pos c37] at H
        have c37b0 := eq_true c37
        have c37b1 : decide ((a0 ++ (⟨#[101,43]⟩ : ByteArray)).size + t456.size ≤ 9223372036854775807) = true := decide_eq_true c37
        try have c37b2 : (9223372036854775807 < (a0 ++ (⟨#[101,43]⟩ : ByteArray)).size + t456.size) = False := eq_false (Nat.not_lt.2 c37)
        try have c37b3 : (9223372036854775807 < a0.size + 2 + t456.size) = False := by have h_ := c37b2;simp only [ByteArray.size_append] at h_;exact h_
        obtain rfl := Option.some.inj H
        go_wp2_with (first | (go_at_call 40;(with_reducible refine (strconv_Itoa.calls a1 t456 _ ?side1 A36.out).mono ?_);(case side1 => exact pG);rintro e w38 ⟨rfl,hb⟩;replace HB := am (zQf pB hb);(try clear hb)))
        repeat (go_quiet (first | (go_at_call 40;(with_reducible refine (strconv_Itoa.calls a1 t456 _ ?side1 A36.out).mono ?_);(case side1 => exact pG);rintro e w38 ⟨rfl,hb⟩;replace HB := am (zQf pB hb);(try clear hb)));try go_wp2_with (first | (go_at_call 40;(with_reducible refine (strconv_Itoa.calls a1 t456 _ ?side1 A36.out).mono ?_);(case side1 => exact pG);rintro e w38 ⟨rfl,hb⟩;replace HB := am (zQf pB hb);(try clear hb))))
        go_ret
        exact ⟨pE,pB⟩
       ·rw [if_neg c37] at H
        exact absurd H (by simp)
      ·rw [if_neg c35] at H
       exact absurd H (by simp)
   ·replace c5 := Bool.eq_false_iff.mpr c5
    subst c5
    rw [if_neg (show ¬ (false = true) by decide)] at H
    by_cases c39 : a1 < 0
    ·rw [if_pos c39] at H
     have c39b0 : decide (a1 < 0) = true := decide_eq_true c39
     clear c39
     replace H := Option.bind_eq_some_iff.mp H
     obtain ⟨t457,A400,H⟩ := H
     try dsimp only at H
     have A40 := am A400
     clear A400
     by_cases c41 : 2 + t457.size ≤ 9223372036854775807
     ·rw [if_pos c41] at H
      have c41b0 := eq_true c41
      have c41b1 : decide (2 + t457.size ≤ 9223372036854775807) = true := decide_eq_true c41
      try have c41b2 : (9223372036854775807 < 2 + t457.size) = False := eq_false (Nat.not_lt.2 c41)
      by_cases c42 : ((⟨#[48,46]⟩ : ByteArray) ++ t457).size + a0.size ≤ 9223372036854775807
      ·rw [if_pos c42] at H
       have c42b0 := eq_true c42
       have c42b1 : decide (((⟨#[48,46]⟩ : ByteArray) ++ t457).size + a0.size ≤ 9223372036854775807) = true := decide_eq_true c42
       try have c42b2 : (9223372036854775807 < ((⟨#[48,46]⟩ : ByteArray) ++ t457).size + a0.size) = False := eq_false (Nat.not_lt.2 c42)
       try have c42b3 : (9223372036854775807 < 2 + t457.size + a0.size) = False := by have h_ := c42b2;simp only [ByteArray.size_append] at h_;exact h_
       obtain rfl := Option.some.inj H
       go_wp2_with (first | (go_at_call 41;(with_reducible refine (strings_Repeat.calls (⟨#[48]⟩ : ByteArray) (wrap64 ((wrap64 (-a1)) - 1)) t457 _ A40.out).mono ?_);rintro e w43 ⟨rfl,hb⟩;replace HB := am (zQf pB hb);(try clear hb)))
       repeat (go_quiet (first | (go_at_call 41;(with_reducible refine (strings_Repeat.calls (⟨#[48]⟩ : ByteArray) (wrap64 ((wrap64 (-a1)) - 1)) t457 _ A40.out).mono ?_);rintro e w43 ⟨rfl,hb⟩;replace HB := am (zQf pB hb);(try clear hb)));try go_wp2_with (first | (go_at_call 41;(with_reducible refine (strings_Repeat.calls (⟨#[48]⟩ : ByteArray) (wrap64 ((wrap64 (-a1)) - 1)) t457 _ A40.out).mono ?_);rintro e w43 ⟨rfl,hb⟩;replace HB := am (zQf pB hb);(try clear hb))))
       go_ret
       exact ⟨pE,pB⟩
      ·rw [if_neg c42] at H
       exact absurd H (by simp)
     ·rw [if_neg c41] at H
      exact absurd H (by simp)
    ·rw [if_neg c39] at H
     have c39b0 : decide (a1 < 0) = false := decide_eq_false c39
     clear c39
     by_cases c44 : (wrap64 (a1 + 1)) ≥ (a0.size : Int)
     ·rw [if_pos c44] at H
      have c44b0 : decide ((a0.size : Int) ≤ (wrap64 (a1 + 1))) = true := decide_eq_true c44
      clear c44
      replace H := Option.bind_eq_some_iff.mp H
      obtain ⟨t458,A450,H⟩ := H
      try dsimp only at H
      have A45 := am A450
      clear A450
      by_cases c46 : a0.size + t458.size ≤ 9223372036854775807
      ·rw [if_pos c46] at H
       have c46b0 := eq_true c46
       have c46b1 : decide (a0.size + t458.size ≤ 9223372036854775807) = true := decide_eq_true c46
       try have c46b2 : (9223372036854775807 < a0.size + t458.size) = False := eq_false (Nat.not_lt.2 c46)
       obtain rfl := Option.some.inj H
       go_wp2_with (first | (go_at_call 41;(with_reducible refine (strings_Repeat.calls (⟨#[48]⟩ : ByteArray) (wrap64 ((wrap64 (a1 + 1)) - (a0.size : Int))) t458 _ A45.out).mono ?_);rintro e w47 ⟨rfl,hb⟩;replace HB := am (zQf pB hb);(try clear hb)))
       repeat (go_quiet (first | (go_at_call 41;(with_reducible refine (strings_Repeat.calls (⟨#[48]⟩ : ByteArray) (wrap64 ((wrap64 (a1 + 1)) - (a0.size : Int))) t458 _ A45.out).mono ?_);rintro e w47 ⟨rfl,hb⟩;replace HB := am (zQf pB hb);(try clear hb)));try go_wp2_with (first | (go_at_call 41;(with_reducible refine (strings_Repeat.calls (⟨#[48]⟩ : ByteArray) (wrap64 ((wrap64 (a1 + 1)) - (a0.size : Int))) t458 _ A45.out).mono ?_);rintro e w47 ⟨rfl,hb⟩;replace HB := am (zQf pB hb);(try clear hb))))
       go_ret
       exact ⟨pE,pB⟩
      ·rw [if_neg c46] at H
       exact absurd H (by simp)
     ·rw [if_neg c44] at H
      have c44b0 : decide ((a0.size : Int) ≤ (wrap64 (a1 + 1))) = false := decide_eq_false c44
      clear c44
      obtain ⟨ji48,hji48⟩ : ∃ j_ : Int,(wrap64 (a1 + 1)) = j_ := ⟨_,rfl⟩
      replace H : (if 0 ≤ (ji48) then (if (ji48) ≤ (a0.size : Int) then (if (a0.extract 0 ((ji48) : Int).toNat).size + 1 ≤ 9223372036854775807 then (if ((a0.extract 0 ((ji48) : Int).toNat) ++ (⟨#[46]⟩ : ByteArray)).size + (a0.extract ((ji48) : Int).toNat a0.size).size ≤ 9223372036854775807 then (some (((a0.extract 0 ((ji48) : Int).toNat) ++ (⟨#[46]⟩ : ByteArray)) ++ (a0.extract ((ji48) : Int).toNat a0.size))) else (none)) else (none)) else (none)) else (none)) = some r := by first | (rw [hji48] at H;exact H) | (simp only [hji48] at H ⊢;exact H)
      (try rw [hji48] at c44b0)
      have hji48w : (IntKind.i64.wrap (a1 + 1)) = ji48 := (i64_w _).trans hji48
      by_cases c49 : 0 ≤ (ji48)
      ·rw [if_pos c49] at H
       have c49b0 := eq_true c49
       have c49b1 : decide (0 ≤ (ji48)) = true := decide_eq_true c49
       clear c49
       by_cases c50 : (ji48) ≤ (a0.size : Int)
       ·rw [if_pos c50] at H
        have c50b0 := eq_true c50
        have c50b1 : decide ((ji48) ≤ (a0.size : Int)) = true := decide_eq_true c50
        clear c50
        obtain ⟨ji51,hji51⟩ : ∃ j_ : ByteArray,(a0.extract 0 ((ji48) : Int).toNat) = j_ := ⟨_,rfl⟩
        replace H : (if (ji51).size + 1 ≤ 9223372036854775807 then (if ((ji51) ++ (⟨#[46]⟩ : ByteArray)).size + (a0.extract ((ji48) : Int).toNat a0.size).size ≤ 9223372036854775807 then (some (((ji51) ++ (⟨#[46]⟩ : ByteArray)) ++ (a0.extract ((ji48) : Int).toNat a0.size))) else (none)) else (none)) = some r := by first | (rw [hji51] at H;exact H) | (simp only [hji51] at H ⊢;exact H) | exact H
        by_cases c52 : (ji51).size + 1 ≤ 9223372036854775807
        ·rw [if_pos c52] at H
         have c52b0 := eq_true c52
         have c52b1 : decide ((ji51).size + 1 ≤ 9223372036854775807) = true := decide_eq_true c52
         try have c52b2 : (9223372036854775807 < (ji51).size + 1) = False := eq_false (Nat.not_lt.2 c52)
         have c53b0 := eq_true (pD : 0 ≤ (ji48))
         have c54b0 := eq_true (pD : (ji48) ≤ (a0.size : Int))
         obtain ⟨ji55,hji55⟩ : ∃ j_ : ByteArray,(a0.extract ((ji48) : Int).toNat a0.size) = j_ := ⟨_,rfl⟩
         replace H : (if ((ji51) ++ (⟨#[46]⟩ : ByteArray)).size + (ji55).size ≤ 9223372036854775807 then (some (((ji51) ++ (⟨#[46]⟩ : ByteArray)) ++ (ji55))) else (none)) = some r := by first | (rw [hji55] at H;exact H) | (simp only [hji55] at H ⊢;exact H) | exact H
         by_cases c56 : ((ji51) ++ (⟨#[46]⟩ : ByteArray)).size + (ji55).size ≤ 9223372036854775807
         ·rw [if_pos c56] at H
          have c56b0 := eq_true c56
          have c56b1 : decide (((ji51) ++ (⟨#[46]⟩ : ByteArray)).size + (ji55).size ≤ 9223372036854775807) = true := decide_eq_true c56
          try have c56b2 : (9223372036854775807 < ((ji51) ++ (⟨#[46]⟩ : ByteArray)).size + (ji55).size) = False := eq_false (Nat.not_lt.2 c56)
          try have c56b3 : (9223372036854775807 < ji51.size + 1 + ji55.size) = False := by have h_ := c56b2;simp only [ByteArray.size_append] at h_;exact h_
          obtain rfl := Option.some.inj H
          go_wp2
          repeat (go_quiet (fail);try go_wp2)
          go_ret
          exact ⟨by first | rfl | (simp [zQq,zQp] <;> rfl) | (simp only [← hji48,← hji51,← hji55];first | rfl | (simp [zQq,zQp] <;> rfl)) | (simp [*,zQq,zQp] <;> rfl),pB⟩
         ·rw [if_neg c56] at H
          exact absurd H (by simp)
        ·rw [if_neg c52] at H
         exact absurd H (by simp)
       ·rw [if_neg c50] at H
        exact absurd H (by simp)
      ·rw [if_neg c49] at H
       exact absurd H (by simp)
def flo_Parts.f (a0 : Int) : Option (Bool × Int × Int) := (flo_kind.f a0).bind fun t459 => (if t459 = 1 then (some (((a0 / 9223372036854775808) == 1),(-1074),Go.bits .and .u64 a0 4503599627370495)) else (if t459 = 2 then (some (((a0 / 9223372036854775808) == 1),wrap64 ((wrap64 (Go.bits .and .u64 (a0 / 4503599627370496) 2047)) - 1075),Go.bits .or .u64 (Go.bits .and .u64 a0 4503599627370495) 4503599627370496)) else (some (((a0 / 9223372036854775808) == 1),0,0))))
set_option maxHeartbeats 8000000 in
set_option maxRecDepth 100000 in
theorem flo_Parts.calls (a0 : Int) (r1 : Bool) (r2 : Int) (r3 : Int) (w : World) (h : flo_Parts.f a0 = some (r1,r2,r3)) :
  Calls Tryz.prog 74 #[.int .u64 a0] w fun e w' => e = .returned (.tuple #[.bool r1,.int .i64 r2,.int .u64 r3]) ∧ Drawn0 w w' := by
 have H : ((flo_kind.f a0).bind fun t459 => (if t459 = 1 then (some (((a0 / 9223372036854775808) == 1),(-1074),Go.bits .and .u64 a0 4503599627370495)) else (if t459 = 2 then (some (((a0 / 9223372036854775808) == 1),wrap64 ((wrap64 (Go.bits .and .u64 (a0 / 4503599627370496) 2047)) - 1075),Go.bits .or .u64 (Go.bits .and .u64 a0 4503599627370495) 4503599627370496)) else (some (((a0 / 9223372036854775808) == 1),0,0))))) = some (r1,r2,r3) := h
 clear h
 replace H := Option.bind_eq_some_iff.mp H
 obtain ⟨t459,A20,H⟩ := H
 try dsimp only at H
 have A2 := am A20
 clear A20
 by_cases c3 : t459 = 1
 ·rw [if_pos c3] at H
  have c3b0 : (t459 == 1) = true := beq_iff_eq.mpr c3
  have c3b1 : (t459 != 1) = false := bne_eq_false_iff_eq.mpr c3
  clear c3
  simp only [Option.some.injEq,Prod.mk.injEq] at H
  obtain ⟨rfl,rfl,rfl⟩ := H
  go_enter Tryz.func74,Tryz.ntmps74
  go_wp2_with (first | ((with_reducible refine zQe (f := 39) rfl ?_);refine zQr (some 13) rfl rfl Tryz.func39 (by kernel_rfl) rfl #[.int .u64 a0] rfl pM ?_;(with_reducible refine (flo_kind.calls a0 t459 _ A2.out).mono ?_);rintro e w' ⟨rfl,⟨nd,rfl⟩⟩;refine ⟨_,rfl,?_⟩))
  go_ret3
  exact ⟨by first | rfl | (simp;done) | (simp [*];done),by repeat (first | exact Drawn0.refl _ | apply Drawn0.step)⟩
 ·rw [if_neg c3] at H
  have c3b0 : (t459 == 1) = false := beq_eq_false_iff_ne.mpr c3
  have c3b1 : (t459 != 1) = true := bne_iff_ne.mpr c3
  by_cases c4 : t459 = 2
  ·rw [if_pos c4] at H
   have c4b0 : (t459 == 2) = true := beq_iff_eq.mpr c4
   have c4b1 : (t459 != 2) = false := bne_eq_false_iff_eq.mpr c4
   clear c4
   simp only [Option.some.injEq,Prod.mk.injEq] at H
   obtain ⟨rfl,rfl,rfl⟩ := H
   go_enter Tryz.func74,Tryz.ntmps74
   go_wp2_with (first | ((with_reducible refine zQe (f := 39) rfl ?_);refine zQr (some 13) rfl rfl Tryz.func39 (by kernel_rfl) rfl #[.int .u64 a0] rfl pM ?_;(with_reducible refine (flo_kind.calls a0 t459 _ A2.out).mono ?_);rintro e w' ⟨rfl,⟨nd,rfl⟩⟩;refine ⟨_,rfl,?_⟩))
   go_ret3
   exact ⟨by first | rfl | (simp;done) | (simp [*];done),by repeat (first | exact Drawn0.refl _ | apply Drawn0.step)⟩
  ·rw [if_neg c4] at H
   have c4b0 : (t459 == 2) = false := beq_eq_false_iff_ne.mpr c4
   have c4b1 : (t459 != 2) = true := bne_iff_ne.mpr c4
   simp only [Option.some.injEq,Prod.mk.injEq] at H
   obtain ⟨rfl,rfl,rfl⟩ := H
   go_enter Tryz.func74,Tryz.ntmps74
   go_wp2_with (first | ((with_reducible refine zQe (f := 39) rfl ?_);refine zQr (some 13) rfl rfl Tryz.func39 (by kernel_rfl) rfl #[.int .u64 a0] rfl pM ?_;(with_reducible refine (flo_kind.calls a0 t459 _ A2.out).mono ?_);rintro e w' ⟨rfl,⟨nd,rfl⟩⟩;refine ⟨_,rfl,?_⟩))
   go_ret3
   exact ⟨by first | rfl | (simp;done) | (simp [*];done),by repeat (first | exact Drawn0.refl _ | apply Drawn0.step)⟩
def dec_of.f (k : Nat) (a0 : Int) : Option (List Int) := (b_trim.f k (([(a0) % 4294967296,(a0 / 4294967296) % 4294967296] : List Int))).bind fun t463 => (some t463)
theorem dec_of.mono : ∀ a0 k,LeO (dec_of.f k a0) (dec_of.f (k + 1) a0) := by
 intro a0 k
 unfold dec_of.f
 repeat' first
   | (with_reducible exact b_trim.mono _ _)
   | (with_reducible exact LeO.refl _)
   | (with_reducible exact LeO.none _)
   | (with_reducible refine LeO.ite ?_ ?_)
   | (with_reducible refine LeO.bind ?_ (fun _ => ?_))
   | exact b_trim.mono _ _
   | exact LeO.none _
   | refine LeO.ite ?_ ?_
   | refine LeO.bind ?_ (fun _ => ?_)
set_option maxHeartbeats 8000000 in
set_option maxRecDepth 100000 in
theorem dec_of.calls (k : Nat) (a0 : Int) (r : List Int) (w : World) (h : dec_of.f k a0 = some r) :
  Calls Tryz.prog 75 #[.int .u64 a0] w fun e w' => ∃ v0_ : Value,e = .returned (v0_) ∧ Kd.V (Kd.int .u32) 52 w' w.heap.size (fun k_ => (w.heap.size ≤ k_)) v0_ r ∧ Below w.heap.size w w' := by
 have HB := am (Below.refl w.heap.size w)
 have H : ((b_trim.f k (([(a0) % 4294967296,(a0 / 4294967296) % 4294967296] : List Int))).bind fun t463 => (some t463)) = some r := h
 clear h
 obtain ⟨y460,hy460⟩ : ∃ y_ : List Int,y_ = (([(a0) % 4294967296,(a0 / 4294967296) % 4294967296] : List Int)) := ⟨_,rfl⟩
 replace H : ((b_trim.f k y460).bind fun t463 => (some t463)) = some r := by first | (rw [hy460];with_reducible exact H) | (have H2_ := (Option.bind_some _ _).symm.trans H;rw [hy460];with_reducible exact H2_) | (have H2_ := (Option.bind_some _ _).symm.trans H;with_reducible exact H2_) | with_reducible exact H | (rw [hy460];exact H) | exact H
 have Ny460 := am hy460
 clear hy460
 replace H := Option.bind_eq_some_iff.mp H
 obtain ⟨t463,A20,H⟩ := H
 try dsimp only at H
 have A2 := am A20
 clear A20
 obtain rfl := Option.some.inj H
 go_enter Tryz.func75,Tryz.ntmps75
 go_wp2_with (first | ((with_reducible refine zQJ (N := 8) rfl ?_);refine Kd.R_lit (Kd.int .u32) _ 52 ?hg (N := 8) ?hd (xs := ([(a0) % 4294967296,(a0 / 4294967296) % 4294967296] : List Int)) (inner := [.int .u32 ((a0) % 4294967296),.int .u32 ((a0 / 4294967296) % 4294967296)]) (ok := fun _ => True) (okp := fun _ => True) ?hr ?hp (fun _ hk => hk) trivial (Below.refl _ _) (Nat.le_refl _) (by simp) ?_;(case hd => rfl);(case hg => rfl);(case hr => first | (go_simp;done) | (go_simp;rfl));(case hp => exact (Reps.one (show Kd.M (Kd.int .u32) _ _ _ ((a0) % 4294967296) [.int .u32 ((a0) % 4294967296)] from rfl) (Reps.one (show Kd.M (Kd.int .u32) _ _ _ ((a0 / 4294967296) % 4294967296) [.int .u32 ((a0 / 4294967296) % 4294967296)] from rfl) (Reps.none _ _))));intro v461 w3 ho4 hb hg_ hnew_;clear hg_ hnew_;(first | rw [← Ny460.out] at ho4 | (simp only [Int.reduceToNat] at ho4;rw [← Ny460.out] at ho4));have HO462 := am (Kd.zQy (Kd.zYm (M := fun k_ => (w.heap.size ≤ k_)) ho4 (zQc pB) (fun k_ h_ => h_)) (zQc pB));replace HB := am (zQf pB hb);clear hb ho4;obtain ⟨Ao5,co5,eo5⟩ := Kd.zQB HO462.out;subst eo5) | ((with_reducible refine zQe (f := 57) rfl ?_);refine zQr (some 9) rfl rfl Tryz.func57 (by kernel_rfl) rfl #[.slice Ao5 y460.length co5] rfl pM ?_;(with_reducible refine (b_trim.calls k (fun k_ => some k_ = (.slice Ao5 y460.length co5 : Value).ownBlock) _ _ y460 t463 _ ?side1 A2.out).mono ?_);(case side1 => exact Kd.R_V (Kd.zXQ rfl (HO462.out)));rintro e w6 ⟨v464,rfl,ho0,hb⟩;refine ⟨_,rfl,?_⟩;have HO465 := am (Kd.zQQ (Kd.zQk (ok' := fun k_ => (w.heap.size ≤ k_)) ho0 (fun k_ hk_ => Or.elim hk_ (fun hs_ => ((HO462.out).1 k_ hs_.symm).1) (fun hn_ => (Nat.le_trans (zQc pB) hn_)))) (zQc pB));replace HO462 := am (Kd.zQH (pR HO462.out) hb);replace HB := am (zQf pB hb);(try clear hb);(try clear ho0)))
 go_ret
 exact ⟨_,pE,by (with_reducible repeat (first | apply Kd.zQn | apply Kd.zQm | apply Kd.zQo));exact HO465.out,pB⟩
end Go.Proofs.YtflcanpajgpghaaGreatDoor.Pr
end
section
namespace Go.Proofs.YtflcanpajgpghaaGreatDoor.Pr
open Go.RowKit Go.Proofs.YtflcanpajgpghaaGreatDoorW.PrintWords Go.Proofs.YtflcanpajgpghaaGreatDoorW.PrintLast Go.Proofs.YtflcanpajgpghaaGreatDoorW.PrintMore
attribute [local go_sem] zXm zXk zXy zXx zXa zQZ zXl zXj
mutual
def dec_spans.j0 : Nat → Int → Int → Bool → List Int → List Int → List Int → List Int → Option (List Int × List Int × List Int × List Int)
 | 0,_,_,_,_,_,_,_ => none
 | k + 1,x4,x5,x25,x486000,x486001,x486002,x486003 => if x25 = true then ((dec_of.f k x5).bind fun t486 => ((b_up.f k t486 2).bind fun t489 => ((dec_of.f k 4).bind fun t492 => ((dec_of.f k 1).bind fun t495 => ((dec_of.f k 2).bind fun t498 => (dec_spans.j1 k x4 t489 t492 t495 t498)))))) else (dec_spans.j1 k x4 x486000 x486001 x486002 x486003)
def dec_spans.j1 : Nat → Int → List Int → List Int → List Int → List Int → Option (List Int × List Int × List Int × List Int)
 | 0,_,_,_,_,_ => none
 | k + 1,x4,x486000,x486001,x486002,x486003 => if x4 ≥ 0 then ((b_up.f k x486000 x4).bind fun t501 => ((b_up.f k x486002 x4).bind fun t504 => ((b_up.f k x486003 x4).bind fun t507 => (some (t501,x486001,t504,t507))))) else ((b_up.f k x486001 (wrap64 (-x4))).bind fun t510 => (some (x486000,t510,x486002,x486003)))
end
def dec_spans.f (k : Nat) (a0 : Int) : Option (List Int × List Int × List Int × List Int) := (flo_Parts.f a0).bind fun bt467 => ((dec_of.f k bt467.2.2).bind fun t470 => ((b_up.f k t470 1).bind fun t473 => ((dec_of.f k 2).bind fun t476 => ((dec_of.f k 1).bind fun t479 => ((dec_of.f k 1).bind fun t482 => (if bt467.2.2 = 4503599627370496 then (dec_spans.j0 k bt467.2.1 bt467.2.2 (decide (bt467.2.1 > (-1074))) t473 t476 t479 t482) else (dec_spans.j0 k bt467.2.1 bt467.2.2 false t473 t476 t479 t482)))))))
theorem dec_spans.mono_l : ∀ k,(∀ y0 y1 y2 y3 y4 y5 y6,LeO (dec_spans.j0 k y0 y1 y2 y3 y4 y5 y6) (dec_spans.j0 (k + 1) y0 y1 y2 y3 y4 y5 y6)) ∧ (∀ y0 y1 y2 y3 y4,LeO (dec_spans.j1 k y0 y1 y2 y3 y4) (dec_spans.j1 (k + 1) y0 y1 y2 y3 y4))
 | 0 => ⟨fun _ _ _ _ _ _ _ r h => by simp [dec_spans.j0] at h,fun _ _ _ _ _ r h => by simp [dec_spans.j1] at h⟩
 | k + 1 => by
  obtain ⟨ih0,ih1⟩ := dec_spans.mono_l k
  refine ⟨?_,?_⟩
  all_goals intros
  all_goals first | unfold dec_spans.j0 | unfold dec_spans.j1
  all_goals repeat' first
   | (with_reducible exact ih0 _ _ _ _ _ _ _)
   | (with_reducible exact ih1 _ _ _ _ _)
   | (with_reducible exact b_up.mono _ _ _)
   | (with_reducible exact dec_of.mono _ _)
   | (with_reducible exact LeO.refl _)
   | (with_reducible exact LeO.none _)
   | (with_reducible refine LeO.ite ?_ ?_)
   | (with_reducible refine LeO.bind ?_ (fun _ => ?_))
   | exact ih0 _ _ _ _ _ _ _
   | exact ih1 _ _ _ _ _
   | exact b_up.mono _ _ _
   | exact dec_of.mono _ _
   | exact LeO.none _
   | refine LeO.ite ?_ ?_
   | refine LeO.bind ?_ (fun _ => ?_)
theorem dec_spans.mono : ∀ a0 k,LeO (dec_spans.f k a0) (dec_spans.f (k + 1) a0) := by
 intro a0 k
 obtain ⟨ih0,ih1⟩ := dec_spans.mono_l k
 unfold dec_spans.f
 repeat' first
   | (with_reducible exact ih0 _ _ _ _ _ _ _)
   | (with_reducible exact ih1 _ _ _ _ _)
   | (with_reducible exact b_up.mono _ _ _)
   | (with_reducible exact dec_of.mono _ _)
   | (with_reducible exact LeO.refl _)
   | (with_reducible exact LeO.none _)
   | (with_reducible refine LeO.ite ?_ ?_)
   | (with_reducible refine LeO.bind ?_ (fun _ => ?_))
   | exact ih0 _ _ _ _ _ _ _
   | exact ih1 _ _ _ _ _
   | exact b_up.mono _ _ _
   | exact dec_of.mono _ _
   | exact LeO.none _
   | refine LeO.ite ?_ ?_
   | refine LeO.bind ?_ (fun _ => ?_)
def dec_spans.T6 : Bool × List (List Nat × List Nat) := (true,[([],[]),([0],[0]),([],[]),([1,2],[1,2]),([],[]),([4],[4]),([],[]),([5,6,3],[5,6]),([],[]),([8],[8]),([],[]),([9,10,7],[9,10]),([0,1,2,3,4,5,8,9],[]),([12,3,11,0,1,2,3,4,5,8,9],[3,12]),([0,1,2,3,4,5,6,7,8,9,12,13],[]),([14,7,13,0,1,2,3,4,5,6,7,8,9,12,13],[7,14]),([0,1,2,3,4,5,6,7,8,9,10,11,12,13,14,15],[]),([16,11,15,0,1,2,3,4,5,6,7,8,9,10,11,12,13,14,15],[11,16])])
def dec_spans.B6 : List Nat := [0,1,0,7,0,16,0,127,0,256,0,2047,831,8191,16383,32767,65535,131071]
theorem dec_spans.tab6 : rtab .any (opsOf Tryz.f42 6) = dec_spans.T6 := by kernel_rfl
theorem dec_spans.bits6 : zXL dec_spans.T6.2 dec_spans.B6 = true := by kernel_rfl
set_option maxHeartbeats 8000000 in
set_option maxRecDepth 100000 in
theorem dec_spans.calls (k : Nat) (a0 : Int) (r1 : List Int) (r2 : List Int) (r3 : List Int) (r4 : List Int) (w : World) (h : dec_spans.f k a0 = some (r1,r2,r3,r4)) :
  Calls Tryz.prog 42 #[.int .u64 a0] w fun e w' => ∃ v0_ v1_ v2_ v3_ : Value,e = .returned (.agg #[v0_,v1_,v2_,v3_]) ∧ Kd.R (Kd.int .u32) 52 w' w.heap.size (fun k_ => (w.heap.size ≤ k_)) v0_ r1 ∧ Kd.V (Kd.int .u32) 52 w' w.heap.size (fun k_ => (w.heap.size ≤ k_) ∧ some k_ ≠ (v0_ : Value).ownBlock) v1_ r2 ∧ Kd.V (Kd.int .u32) 52 w' w.heap.size (fun k_ => (w.heap.size ≤ k_) ∧ some k_ ≠ (v0_ : Value).ownBlock) v2_ r3 ∧ Kd.V (Kd.int .u32) 52 w' w.heap.size (fun k_ => (w.heap.size ≤ k_) ∧ some k_ ≠ (v0_ : Value).ownBlock) v3_ r4 ∧ Below w.heap.size w w' := by
 have hu70 := Tryz.underlying70
 have HB := am (Below.refl w.heap.size w)
 have H : ((flo_Parts.f a0).bind fun bt467 => ((dec_of.f k bt467.2.2).bind fun t470 => ((b_up.f k t470 1).bind fun t473 => ((dec_of.f k 2).bind fun t476 => ((dec_of.f k 1).bind fun t479 => ((dec_of.f k 1).bind fun t482 => (if bt467.2.2 = 4503599627370496 then (dec_spans.j0 k bt467.2.1 bt467.2.2 (decide (bt467.2.1 > (-1074))) t473 t476 t479 t482) else (dec_spans.j0 k bt467.2.1 bt467.2.2 false t473 t476 t479 t482)))))))) = some (r1,r2,r3,r4) := h
 clear h
 replace H := Option.bind_eq_some_iff.mp H
 obtain ⟨⟨t467,t468,t469⟩,A20,H⟩ := H
 try dsimp only at H
 have A2 := am A20
 clear A20
 replace H := Option.bind_eq_some_iff.mp H
 obtain ⟨t470,A30,H⟩ := H
 try dsimp only at H
 have A3 := am A30
 clear A30
 replace H := Option.bind_eq_some_iff.mp H
 obtain ⟨t473,A40,H⟩ := H
 try dsimp only at H
 have A4 := am A40
 clear A40
 replace H := Option.bind_eq_some_iff.mp H
 obtain ⟨t476,A50,H⟩ := H
 try dsimp only at H
 have A5 := am A50
 clear A50
 replace H := Option.bind_eq_some_iff.mp H
 obtain ⟨t479,A60,H⟩ := H
 try dsimp only at H
 have A6 := am A60
 clear A60
 replace H := Option.bind_eq_some_iff.mp H
 obtain ⟨t482,A70,H⟩ := H
 try dsimp only at H
 have A7 := am A70
 clear A70
 have HC8 := am H
 clear H
 go_enter Tryz.func42,Tryz.ntmps42
 go_upto_region 3 with (first | ((with_reducible refine zQJ (N := 2) rfl ?_);refine zXf ?hg (N := 2) ?hd (cs := #[.slice none 0 0,.slice none 0 0,.slice none 0 0,.slice none 0 0]) (t := 70) ?hr ?_;(case hd => rfl);(case hg => rfl);(case hr => first | (go_simp;done) | (go_simp;rfl));intro gb466 hg w9 hbox hb;have BK466 := am (hbox);have GW466 := am ((by rw [hg];exact (zQc pB) : w.heap.size ≤ gb466));have GE466 := am ((by rw [hg];exact (zQc pB) : w.heap.size ≤ gb466));replace HB := am (zQf pB hb);clear hb hbox hg) | ((with_reducible refine zQe (f := 74) rfl ?_);refine zQr (some 9) rfl rfl Tryz.func74 (by kernel_rfl) rfl #[.int .u64 a0] rfl pM ?_;(with_reducible refine (flo_Parts.calls a0 t467 t468 t469 _ A2.out).mono ?_);rintro e w' ⟨rfl,⟨nd,rfl⟩⟩;refine ⟨_,rfl,?_⟩;(try (rw [zXc w9];generalize hq_ : World.drewN w9 _ = w9;have n0_ : Aside0 (w9.heap[gb466]? = some (.cells #[.slice none 0 0,.slice none 0 0,.slice none 0 0,.slice none 0 0] 70 (0,0))) := ⟨by rw [← hq_];exact (pK BK466.out)⟩;have n1_ : Aside0 (Below w.heap.size w w9) := ⟨by rw [← hq_];exact pB⟩;clear BK466 HB hq_;have BK466 := n0_;have HB := n1_;clear n0_ n1_))) | ((with_reducible refine zQe (f := 75) rfl ?_);refine zQr (some 14) rfl rfl Tryz.func75 (by kernel_rfl) rfl #[.int .u64 t469] rfl pM ?_;(with_reducible refine (dec_of.calls k t469 t470 _ A3.out).mono ?_);rintro e w10 ⟨v471,rfl,ho0,hb⟩;refine ⟨_,rfl,?_⟩;have HO472 := am (Kd.zQQ (Kd.zQk (ok' := fun k_ => (w.heap.size ≤ k_) ∧ k_ ≠ gb466) ho0 (fun k_ hk_ => ⟨(Nat.le_trans (zQc pB) hk_),(Kd.zQV (g := gb466) (o := .cells #[.slice none 0 0,.slice none 0 0,.slice none 0 0,.slice none 0 0] 70 (0,0)) (pK BK466.out) k_ hk_)⟩)) (zQc pB));replace BK466 := am (pkb BK466.out hb);replace HB := am (zQf pB hb);(try clear hb);(try clear ho0);obtain ⟨Ao11,co11,eo11⟩ := Kd.zQF HO472.out;subst eo11) | ((with_reducible refine zQe (f := 28) rfl ?_);refine zQr (some 15) rfl rfl Tryz.func28 (by kernel_rfl) rfl #[.slice Ao11 t470.length co11,.int .i64 1] rfl pM ?_;(with_reducible refine (b_up.calls k _ _ t470 1 t473 _ ?side1 ?side2 A4.out).mono ?_);(case side1 => repeat (first | exact (Kd.zQg HO472.out).2.2 | (with_reducible refine Kd.zQj ?_ _) | (with_reducible refine Kd.zQi ?_ _) | (with_reducible refine Kd.zQv ?_)));(case side2 => exact (Kd.zQg HO472.out).2.1);rintro e w12 ⟨v474,rfl,ho0,hb⟩;refine ⟨_,rfl,?_⟩;replace HO472 := am (Kd.zQG (pV HO472.out) (Kd.zQs ho0) hb);have HO475 := am (Kd.zQy (Kd.zYm (M := fun k_ => (w.heap.size ≤ k_)) ho0 (zQc pB) (fun k_ h_ => h_)) (zQc pB));replace BK466 := am (pkb BK466.out hb);replace HB := am (zQf pB hb);(try clear hb);(try clear ho0)) | ((with_reducible refine zQe (f := 75) rfl ?_);refine zQr (some 16) rfl rfl Tryz.func75 (by kernel_rfl) rfl #[.int .u64 2] rfl pM ?_;(with_reducible refine (dec_of.calls k 2 t476 _ A5.out).mono ?_);rintro e w13 ⟨v477,rfl,ho0,hb⟩;refine ⟨_,rfl,?_⟩;replace HO472 := am (Kd.zQl (pV HO472.out) hb);have HO478 := am (Kd.zQQ (Kd.zQk (ok' := fun k_ => (w.heap.size ≤ k_) ∧ some k_ ≠ (v474 : Value).ownBlock ∧ k_ ≠ gb466) ho0 (fun k_ hk_ => ⟨(Nat.le_trans (zQc pB) hk_),(Kd.fresh' (Kd.R_lt (pR HO475.out)) k_ hk_),(Kd.zQV (g := gb466) (o := .cells #[.slice none 0 0,.slice none 0 0,.slice none 0 0,.slice none 0 0] 70 (0,0)) (pK BK466.out) k_ hk_)⟩)) (zQc pB));replace HO475 := am (Kd.zQH (pR HO475.out) hb);replace BK466 := am (pkb BK466.out hb);replace HB := am (zQf pB hb);(try clear hb);(try clear ho0)) | ((with_reducible refine zQe (f := 75) rfl ?_);refine zQr (some 17) rfl rfl Tryz.func75 (by kernel_rfl) rfl #[.int .u64 1] rfl pM ?_;(with_reducible refine (dec_of.calls k 1 t479 _ A6.out).mono ?_);rintro e w14 ⟨v480,rfl,ho0,hb⟩;refine ⟨_,rfl,?_⟩;replace HO472 := am (Kd.zQl (pV HO472.out) hb);replace HO478 := am (Kd.zQl (pV HO478.out) hb);have HO481 := am (Kd.zQQ (Kd.zQk (ok' := fun k_ => (w.heap.size ≤ k_) ∧ some k_ ≠ (v474 : Value).ownBlock ∧ k_ ≠ gb466) ho0 (fun k_ hk_ => ⟨(Nat.le_trans (zQc pB) hk_),(Kd.fresh' (Kd.R_lt (pR HO475.out)) k_ hk_),(Kd.zQV (g := gb466) (o := .cells #[.slice none 0 0,.slice none 0 0,.slice none 0 0,.slice none 0 0] 70 (0,0)) (pK BK466.out) k_ hk_)⟩)) (zQc pB));replace HO475 := am (Kd.zQH (pR HO475.out) hb);replace BK466 := am (pkb BK466.out hb);replace HB := am (zQf pB hb);(try clear hb);(try clear ho0)) | ((with_reducible refine zQe (f := 75) rfl ?_);refine zQr (some 18) rfl rfl Tryz.func75 (by kernel_rfl) rfl #[.int .u64 1] rfl pM ?_;(with_reducible refine (dec_of.calls k 1 t482 _ A7.out).mono ?_);rintro e w15 ⟨v483,rfl,ho0,hb⟩;refine ⟨_,rfl,?_⟩;replace HO472 := am (Kd.zQl (pV HO472.out) hb);replace HO478 := am (Kd.zQl (pV HO478.out) hb);replace HO481 := am (Kd.zQl (pV HO481.out) hb);have HO484 := am (Kd.zQQ (Kd.zQk (ok' := fun k_ => (w.heap.size ≤ k_) ∧ some k_ ≠ (v474 : Value).ownBlock ∧ k_ ≠ gb466) ho0 (fun k_ hk_ => ⟨(Nat.le_trans (zQc pB) hk_),(Kd.fresh' (Kd.R_lt (pR HO475.out)) k_ hk_),(Kd.zQV (g := gb466) (o := .cells #[.slice none 0 0,.slice none 0 0,.slice none 0 0,.slice none 0 0] 70 (0,0)) (pK BK466.out) k_ hk_)⟩)) (zQc pB));replace HO475 := am (Kd.zQH (pR HO475.out) hb);replace BK466 := am (pkb BK466.out hb);replace HB := am (zQf pB hb);(try clear hb);(try clear ho0);obtain ⟨Ao16,co16,eo16⟩ := Kd.zQF HO484.out;subst eo16;obtain ⟨Ao17,co17,eo17⟩ := Kd.zQF HO481.out;subst eo17;obtain ⟨Ao18,co18,eo18⟩ := Kd.zQF HO478.out;subst eo18;obtain ⟨Ao19,co19,eo19⟩ := Kd.zQB HO475.out;subst eo19) | ((with_reducible refine zQJ (N := 6) rfl ?_);refine zXf ?hg (N := 6) ?hd (cs := #[.slice none 0 0,.slice none 0 0,.slice none 0 0,.slice none 0 0]) (t := 70) ?hr ?_;(case hd => rfl);(case hg => rfl);(case hr => first | (go_simp;done) | (go_simp;rfl));intro gb485 hg w20 hbox hb;replace HO472 := am (Kd.zQl (Kd.zXV (pV HO472.out) gb485 (Nat.le_of_eq hg.symm)) hb);replace HO475 := am (Kd.zQH (pR HO475.out) hb);replace HO478 := am (Kd.zQl (Kd.zXV (pV HO478.out) gb485 (Nat.le_of_eq hg.symm)) hb);replace HO481 := am (Kd.zQl (Kd.zXV (pV HO481.out) gb485 (Nat.le_of_eq hg.symm)) hb);replace HO484 := am (Kd.zQl (Kd.zXV (pV HO484.out) gb485 (Nat.le_of_eq hg.symm)) hb);have BK485 := am (hbox);have GW485 := am ((by rw [hg];exact (zQc pB) : w.heap.size ≤ gb485));have GE485 := am ((by rw [hg];exact (zQc pB) : w.heap.size ≤ gb485));have NB466_485 := am ((by rw [hg];exact Nat.ne_of_lt (pkl BK466.out) : gb466 ≠ gb485));have NB485_466 := am ((by rw [hg];exact Nat.ne_of_gt (pkl BK466.out) : gb485 ≠ gb466));replace BK466 := am (pkb BK466.out hb);replace HB := am (zQf pB hb);clear hb hbox hg;have hnb21 := NB485_466.out;have hnc21 := NB466_485.out;have q22 := cf4 BK485.out))
 (try simp only [Act.put,List.setIfInBounds_toArray,List.set_cons_zero,List.set_cons_succ])
 go_cut [25] (fun v25 wc => ∃ (kq : Nat) (x25_7 : Bool),v25 = .bool x25_7 ∧ Aside0 (dec_spans.j0 kq t468 t469 x25_7 t473 t476 t479 t482 = some (r1,r2,r3,r4)) ∧ Aside0 (kq ≤ k) ∧ Aside0 (Kd.R (Kd.int .u32) 52 wc w.heap.size (fun k_ => (w.heap.size ≤ k_)) (.slice Ao19 t473.length co19) t473) ∧ Aside0 (Kd.V (Kd.int .u32) 52 wc w.heap.size (fun k_ => (w.heap.size ≤ k_) ∧ some k_ ≠ ((.slice Ao19 t473.length co19) : Value).ownBlock ∧ k_ ≠ gb466 ∧ k_ ≠ gb485) (.slice Ao18 t476.length co18) t476) ∧ Aside0 (Kd.V (Kd.int .u32) 52 wc w.heap.size (fun k_ => (w.heap.size ≤ k_) ∧ some k_ ≠ ((.slice Ao19 t473.length co19) : Value).ownBlock ∧ k_ ≠ gb466 ∧ k_ ≠ gb485) (.slice Ao17 t479.length co17) t479) ∧ Aside0 (Kd.V (Kd.int .u32) 52 wc w.heap.size (fun k_ => (w.heap.size ≤ k_) ∧ some k_ ≠ ((.slice Ao19 t473.length co19) : Value).ownBlock ∧ k_ ≠ gb466 ∧ k_ ≠ gb485) (.slice Ao16 t482.length co16) t482) ∧ Aside0 (wc.heap[gb466]? = some (.cells #[(.slice none 0 0),(.slice none 0 0),(.slice none 0 0),(.slice none 0 0)] 70 (0,0))) ∧ Aside0 (wc.heap[gb485]? = some (.cells #[(.slice Ao19 t473.length co19),(.slice Ao18 t476.length co18),(.slice Ao17 t479.length co17),(.slice Ao16 t482.length co16)] 70 (0,0))) ∧ Aside0 (Below w.heap.size w wc))
 case first =>
  have H := HC8.out
  clear HC8
  by_cases c23 : t469 = 4503599627370496
  ·rw [if_pos c23] at H
   have c23b0 : (t469 == 4503599627370496) = true := beq_iff_eq.mpr c23
   have c23b1 : (t469 != 4503599627370496) = false := bne_eq_false_iff_eq.mpr c23
   clear c23
   (first | rw [c23b0] | (simp only [i64_w,i32_w];rw [c23b0]) | rw [c23b1] | (simp only [i64_w,i32_w];rw [c23b1]) | skip)
   have H' := am H
   clear H
   go_wp2
   go_meet
   case rel => exact ⟨_,(decide (t468 > (-1074))),(by first | rfl | (simp;done) | (simp [*];done)),H',⟨by first | omega | exact Nat.le_refl _⟩,⟨by (with_reducible repeat (first | apply Kd.zQw | apply Kd.zQu | apply Kd.zQx));exact Kd.zQE (Kd.R_far (p := ⟨gb485,3,none⟩) (Kd.R_far (p := ⟨gb485,2,none⟩) (Kd.R_far (p := ⟨gb485,1,none⟩) (Kd.R_far (p := ⟨gb485,0,none⟩) (Kd.zQX HO475.out BK485.out (by decide)) (fun _ hk => hk.2) (.slice Ao19 t473.length co19)) (fun _ hk => hk.2) (.slice Ao18 t476.length co18)) (fun _ hk => hk.2) (.slice Ao17 t479.length co17)) (fun _ hk => hk.2) (.slice Ao16 t482.length co16)) (fun _ hk => hk.1.1)⟩,⟨by (with_reducible repeat (first | apply Kd.zQn | apply Kd.zQm | apply Kd.zQo));exact Kd.zQk (Kd.V_far (p := ⟨gb485,3,none⟩) (Kd.V_far (p := ⟨gb485,2,none⟩) (Kd.V_far (p := ⟨gb485,1,none⟩) (Kd.V_far (p := ⟨gb485,0,none⟩) (Kd.zQk HO478.out (fun k_ hk => (⟨hk,hk.2⟩ : _ ∧ k_ ≠ gb485))) (fun _ hk => hk.2) (.slice Ao19 t473.length co19)) (fun _ hk => hk.2) (.slice Ao18 t476.length co18)) (fun _ hk => hk.2) (.slice Ao17 t479.length co17)) (fun _ hk => hk.2) (.slice Ao16 t482.length co16)) (fun _ hk => ⟨hk.1.1.1,⟨hk.1.1.2.1,⟨hk.1.1.2.2,hk.1.2⟩⟩⟩)⟩,⟨by (with_reducible repeat (first | apply Kd.zQn | apply Kd.zQm | apply Kd.zQo));exact Kd.zQk (Kd.V_far (p := ⟨gb485,3,none⟩) (Kd.V_far (p := ⟨gb485,2,none⟩) (Kd.V_far (p := ⟨gb485,1,none⟩) (Kd.V_far (p := ⟨gb485,0,none⟩) (Kd.zQk HO481.out (fun k_ hk => (⟨hk,hk.2⟩ : _ ∧ k_ ≠ gb485))) (fun _ hk => hk.2) (.slice Ao19 t473.length co19)) (fun _ hk => hk.2) (.slice Ao18 t476.length co18)) (fun _ hk => hk.2) (.slice Ao17 t479.length co17)) (fun _ hk => hk.2) (.slice Ao16 t482.length co16)) (fun _ hk => ⟨hk.1.1.1,⟨hk.1.1.2.1,⟨hk.1.1.2.2,hk.1.2⟩⟩⟩)⟩,⟨by (with_reducible repeat (first | apply Kd.zQn | apply Kd.zQm | apply Kd.zQo));exact Kd.zQk (Kd.V_far (p := ⟨gb485,3,none⟩) (Kd.V_far (p := ⟨gb485,2,none⟩) (Kd.V_far (p := ⟨gb485,1,none⟩) (Kd.V_far (p := ⟨gb485,0,none⟩) (Kd.zQk HO484.out (fun k_ hk => (⟨hk,hk.2⟩ : _ ∧ k_ ≠ gb485))) (fun _ hk => hk.2) (.slice Ao19 t473.length co19)) (fun _ hk => hk.2) (.slice Ao18 t476.length co18)) (fun _ hk => hk.2) (.slice Ao17 t479.length co17)) (fun _ hk => hk.2) (.slice Ao16 t482.length co16)) (fun _ hk => ⟨hk.1.1.1,⟨hk.1.1.2.1,⟨hk.1.1.2.2,hk.1.2⟩⟩⟩)⟩,⟨by (with_reducible repeat (first | refine zQa ?_ _ | refine zQd ?_ | refine zQb ?_ _));refine zQL ?_ NB466_485.out _;(with_reducible repeat (first | refine zQa ?_ _ | refine zQd ?_ | refine zQb ?_ _));refine zQL ?_ NB466_485.out _;(with_reducible repeat (first | refine zQa ?_ _ | refine zQd ?_ | refine zQb ?_ _));refine zQL ?_ NB466_485.out _;(with_reducible repeat (first | refine zQa ?_ _ | refine zQd ?_ | refine zQb ?_ _));refine zQL ?_ NB466_485.out _;(with_reducible repeat (first | refine zQa ?_ _ | refine zQd ?_ | refine zQb ?_ _));exact BK466.out⟩,⟨by (with_reducible repeat (first | refine zQa ?_ _ | refine zQd ?_ | refine zQb ?_ _));refine zQz (cs := #[.slice Ao19 t473.length co19,.slice Ao18 t476.length co18,.slice Ao17 t479.length co17,.slice none 0 0]) ?_ 3 _ rfl;(with_reducible repeat (first | refine zQa ?_ _ | refine zQd ?_ | refine zQb ?_ _));refine zQz (cs := #[.slice Ao19 t473.length co19,.slice Ao18 t476.length co18,.slice none 0 0,.slice none 0 0]) ?_ 2 _ rfl;(with_reducible repeat (first | refine zQa ?_ _ | refine zQd ?_ | refine zQb ?_ _));refine zQz (cs := #[.slice Ao19 t473.length co19,.slice none 0 0,.slice none 0 0,.slice none 0 0]) ?_ 1 _ rfl;(with_reducible repeat (first | refine zQa ?_ _ | refine zQd ?_ | refine zQb ?_ _));refine zQz (cs := #[.slice none 0 0,.slice none 0 0,.slice none 0 0,.slice none 0 0]) ?_ 0 _ rfl;(with_reducible repeat (first | refine zQa ?_ _ | refine zQd ?_ | refine zQb ?_ _));exact BK485.out⟩,⟨pB⟩⟩
  ·rw [if_neg c23] at H
   have c23b0 : (t469 == 4503599627370496) = false := beq_eq_false_iff_ne.mpr c23
   have c23b1 : (t469 != 4503599627370496) = true := bne_iff_ne.mpr c23
   (first | rw [c23b0] | (simp only [i64_w,i32_w];rw [c23b0]) | rw [c23b1] | (simp only [i64_w,i32_w];rw [c23b1]) | skip)
   have H' := am H
   clear H
   go_wp2
   go_meet
   case rel => exact ⟨_,(false),(by first | rfl | (simp;done) | (simp [*];done)),H',⟨by first | omega | exact Nat.le_refl _⟩,⟨by (with_reducible repeat (first | apply Kd.zQw | apply Kd.zQu | apply Kd.zQx));exact Kd.zQE (Kd.R_far (p := ⟨gb485,3,none⟩) (Kd.R_far (p := ⟨gb485,2,none⟩) (Kd.R_far (p := ⟨gb485,1,none⟩) (Kd.R_far (p := ⟨gb485,0,none⟩) (Kd.zQX HO475.out BK485.out (by decide)) (fun _ hk => hk.2) (.slice Ao19 t473.length co19)) (fun _ hk => hk.2) (.slice Ao18 t476.length co18)) (fun _ hk => hk.2) (.slice Ao17 t479.length co17)) (fun _ hk => hk.2) (.slice Ao16 t482.length co16)) (fun _ hk => hk.1.1)⟩,⟨by (with_reducible repeat (first | apply Kd.zQn | apply Kd.zQm | apply Kd.zQo));exact Kd.zQk (Kd.V_far (p := ⟨gb485,3,none⟩) (Kd.V_far (p := ⟨gb485,2,none⟩) (Kd.V_far (p := ⟨gb485,1,none⟩) (Kd.V_far (p := ⟨gb485,0,none⟩) (Kd.zQk HO478.out (fun k_ hk => (⟨hk,hk.2⟩ : _ ∧ k_ ≠ gb485))) (fun _ hk => hk.2) (.slice Ao19 t473.length co19)) (fun _ hk => hk.2) (.slice Ao18 t476.length co18)) (fun _ hk => hk.2) (.slice Ao17 t479.length co17)) (fun _ hk => hk.2) (.slice Ao16 t482.length co16)) (fun _ hk => ⟨hk.1.1.1,⟨hk.1.1.2.1,⟨hk.1.1.2.2,hk.1.2⟩⟩⟩)⟩,⟨by (with_reducible repeat (first | apply Kd.zQn | apply Kd.zQm | apply Kd.zQo));exact Kd.zQk (Kd.V_far (p := ⟨gb485,3,none⟩) (Kd.V_far (p := ⟨gb485,2,none⟩) (Kd.V_far (p := ⟨gb485,1,none⟩) (Kd.V_far (p := ⟨gb485,0,none⟩) (Kd.zQk HO481.out (fun k_ hk => (⟨hk,hk.2⟩ : _ ∧ k_ ≠ gb485))) (fun _ hk => hk.2) (.slice Ao19 t473.length co19)) (fun _ hk => hk.2) (.slice Ao18 t476.length co18)) (fun _ hk => hk.2) (.slice Ao17 t479.length co17)) (fun _ hk => hk.2) (.slice Ao16 t482.length co16)) (fun _ hk => ⟨hk.1.1.1,⟨hk.1.1.2.1,⟨hk.1.1.2.2,hk.1.2⟩⟩⟩)⟩,⟨by (with_reducible repeat (first | apply Kd.zQn | apply Kd.zQm | apply Kd.zQo));exact Kd.zQk (Kd.V_far (p := ⟨gb485,3,none⟩) (Kd.V_far (p := ⟨gb485,2,none⟩) (Kd.V_far (p := ⟨gb485,1,none⟩) (Kd.V_far (p := ⟨gb485,0,none⟩) (Kd.zQk HO484.out (fun k_ hk => (⟨hk,hk.2⟩ : _ ∧ k_ ≠ gb485))) (fun _ hk => hk.2) (.slice Ao19 t473.length co19)) (fun _ hk => hk.2) (.slice Ao18 t476.length co18)) (fun _ hk => hk.2) (.slice Ao17 t479.length co17)) (fun _ hk => hk.2) (.slice Ao16 t482.length co16)) (fun _ hk => ⟨hk.1.1.1,⟨hk.1.1.2.1,⟨hk.1.1.2.2,hk.1.2⟩⟩⟩)⟩,⟨by (with_reducible repeat (first | refine zQa ?_ _ | refine zQd ?_ | refine zQb ?_ _));refine zQL ?_ NB466_485.out _;(with_reducible repeat (first | refine zQa ?_ _ | refine zQd ?_ | refine zQb ?_ _));refine zQL ?_ NB466_485.out _;(with_reducible repeat (first | refine zQa ?_ _ | refine zQd ?_ | refine zQb ?_ _));refine zQL ?_ NB466_485.out _;(with_reducible repeat (first | refine zQa ?_ _ | refine zQd ?_ | refine zQb ?_ _));refine zQL ?_ NB466_485.out _;(with_reducible repeat (first | refine zQa ?_ _ | refine zQd ?_ | refine zQb ?_ _));exact BK466.out⟩,⟨by (with_reducible repeat (first | refine zQa ?_ _ | refine zQd ?_ | refine zQb ?_ _));refine zQz (cs := #[.slice Ao19 t473.length co19,.slice Ao18 t476.length co18,.slice Ao17 t479.length co17,.slice none 0 0]) ?_ 3 _ rfl;(with_reducible repeat (first | refine zQa ?_ _ | refine zQd ?_ | refine zQb ?_ _));refine zQz (cs := #[.slice Ao19 t473.length co19,.slice Ao18 t476.length co18,.slice none 0 0,.slice none 0 0]) ?_ 2 _ rfl;(with_reducible repeat (first | refine zQa ?_ _ | refine zQd ?_ | refine zQb ?_ _));refine zQz (cs := #[.slice Ao19 t473.length co19,.slice none 0 0,.slice none 0 0,.slice none 0 0]) ?_ 1 _ rfl;(with_reducible repeat (first | refine zQa ?_ _ | refine zQd ?_ | refine zQb ?_ _));refine zQz (cs := #[.slice none 0 0,.slice none 0 0,.slice none 0 0,.slice none 0 0]) ?_ 0 _ rfl;(with_reducible repeat (first | refine zQa ?_ _ | refine zQd ?_ | refine zQb ?_ _));exact BK485.out⟩,⟨pB⟩⟩
 case rest =>
  clear HC8
  try clear c2
  try clear p2
  try clear c4
  try clear c7
  try clear c21
  try clear c23
  try clear c23b0
  try clear c23b1
  try clear q22
  obtain ⟨kq,x25_7,rfl,HA,HJ7,HO_486000,HO_486001,HO_486002,HO_486003,BK466,BK485,HB⟩ := hcut
  cases kq with
  | zero => exact absurd HA.out (by simp [dec_spans.j0])
  | succ kj7 =>
   have H := HA.out
   clear HA
   simp only [dec_spans.j0] at H
   have HC24 := am H
   clear H
   go_upto_if 25 with (fail)
   go_cut [] (fun wc => ∃ (kq : Nat) (x486000_23 : List Int) (x486001_23 : List Int) (x486002_23 : List Int) (x486003_23 : List Int) (u486000 : Value) (u486001 : Value) (u486002 : Value) (u486003 : Value),Aside0 (dec_spans.j1 kq t468 x486000_23 x486001_23 x486002_23 x486003_23 = some (r1,r2,r3,r4)) ∧ Aside0 (kq ≤ kj7) ∧ Aside0 (Kd.R (Kd.int .u32) 52 wc w.heap.size (fun k_ => (w.heap.size ≤ k_)) u486000 x486000_23) ∧ Aside0 (Kd.V (Kd.int .u32) 52 wc w.heap.size (fun k_ => (w.heap.size ≤ k_) ∧ some k_ ≠ (u486000 : Value).ownBlock ∧ k_ ≠ gb466 ∧ k_ ≠ gb485) u486001 x486001_23) ∧ Aside0 (Kd.V (Kd.int .u32) 52 wc w.heap.size (fun k_ => (w.heap.size ≤ k_) ∧ some k_ ≠ (u486000 : Value).ownBlock ∧ k_ ≠ gb466 ∧ k_ ≠ gb485) u486002 x486002_23) ∧ Aside0 (Kd.V (Kd.int .u32) 52 wc w.heap.size (fun k_ => (w.heap.size ≤ k_) ∧ some k_ ≠ (u486000 : Value).ownBlock ∧ k_ ≠ gb466 ∧ k_ ≠ gb485) u486003 x486003_23) ∧ Aside0 (wc.heap[gb466]? = some (.cells #[(.slice none 0 0),(.slice none 0 0),(.slice none 0 0),(.slice none 0 0)] 70 (0,0))) ∧ Aside0 (wc.heap[gb485]? = some (.cells #[u486000,u486001,u486002,u486003] 70 (0,0))) ∧ Aside0 (Below w.heap.size w wc))
   case first =>
    have H := HC24.out
    clear HC24
    by_cases c25 : x25_7 = true
    ·subst c25
     rw [if_pos rfl] at H
     replace H := Option.bind_eq_some_iff.mp H
     obtain ⟨t486,A260,H⟩ := H
     try dsimp only at H
     have A26 := am A260
     clear A260
     replace H := Option.bind_eq_some_iff.mp H
     obtain ⟨t489,A270,H⟩ := H
     try dsimp only at H
     have A27 := am A270
     clear A270
     replace H := Option.bind_eq_some_iff.mp H
     obtain ⟨t492,A280,H⟩ := H
     try dsimp only at H
     have A28 := am A280
     clear A280
     replace H := Option.bind_eq_some_iff.mp H
     obtain ⟨t495,A290,H⟩ := H
     try dsimp only at H
     have A29 := am A290
     clear A290
     replace H := Option.bind_eq_some_iff.mp H
     obtain ⟨t498,A300,H⟩ := H
     try dsimp only at H
     have A30 := am A300
     clear A300
     have H' := am H
     clear H
     go_wp2_with (first | ((with_reducible refine zQe (f := 75) rfl ?_);refine zQr (some 27) rfl rfl Tryz.func75 (by kernel_rfl) rfl #[.int .u64 t469] rfl pM ?_;(with_reducible refine (dec_of.calls kj7 t469 t486 _ A26.out).mono ?_);rintro e w31 ⟨v487,rfl,ho0,hb⟩;refine ⟨_,rfl,?_⟩;replace HO_486001 := am (Kd.zQl (pV HO_486001.out) hb);replace HO_486002 := am (Kd.zQl (pV HO_486002.out) hb);replace HO_486003 := am (Kd.zQl (pV HO_486003.out) hb);have HO488 := am (Kd.zQQ (Kd.zQk (ok' := fun k_ => (w.heap.size ≤ k_) ∧ some k_ ≠ (.slice Ao19 t473.length co19 : Value).ownBlock ∧ k_ ≠ gb466 ∧ k_ ≠ gb485) ho0 (fun k_ hk_ => ⟨(Nat.le_trans (zQc pB) hk_),(Kd.fresh' (Kd.R_lt (pR HO_486000.out)) k_ hk_),(Kd.zQV (g := gb466) (o := .cells #[.slice none 0 0,.slice none 0 0,.slice none 0 0,.slice none 0 0] 70 (0,0)) (pK BK466.out) k_ hk_),(Kd.zQV (g := gb485) (o := .cells #[.slice Ao19 t473.length co19,.slice Ao18 t476.length co18,.slice Ao17 t479.length co17,.slice Ao16 t482.length co16] 70 (0,0)) (pK BK485.out) k_ hk_)⟩)) (zQc pB));replace HO_486000 := am (Kd.zQH (pR HO_486000.out) hb);replace BK466 := am (pkb BK466.out hb);replace BK485 := am (pkb BK485.out hb);replace HB := am (zQf pB hb);(try clear hb);(try clear ho0);obtain ⟨Ao32,co32,eo32⟩ := Kd.zQF HO488.out;subst eo32) | ((with_reducible refine zQe (f := 28) rfl ?_);refine zQr (some 28) rfl rfl Tryz.func28 (by kernel_rfl) rfl #[.slice Ao32 t486.length co32,.int .i64 2] rfl pM ?_;(with_reducible refine (b_up.calls kj7 _ _ t486 2 t489 _ ?side1 ?side2 A27.out).mono ?_);(case side1 => repeat (first | exact (Kd.zQg HO488.out).2.2 | (with_reducible refine Kd.zQj ?_ _) | (with_reducible refine Kd.zQi ?_ _) | (with_reducible refine Kd.zQv ?_)));(case side2 => exact (Kd.zQg HO488.out).2.1);rintro e w33 ⟨v490,rfl,ho0,hb⟩;refine ⟨_,rfl,?_⟩;replace HO_486001 := am (Kd.zQG (pV HO_486001.out) (Kd.zQs ho0) hb);replace HO_486002 := am (Kd.zQG (pV HO_486002.out) (Kd.zQs ho0) hb);replace HO_486003 := am (Kd.zQG (pV HO_486003.out) (Kd.zQs ho0) hb);replace HO488 := am (Kd.zQG (pV HO488.out) (Kd.zQs ho0) hb);have HO491 := am (Kd.zQy (Kd.zQC (Kd.zYm (M := fun k_ => (w.heap.size ≤ k_)) ho0 (zQc pB) (fun k_ h_ => h_)) (Kd.R_lt (pR HO_486000.out))) (zQc pB));replace HO_486000 := am (Kd.zQt (pR HO_486000.out) (Kd.zQs ho0) hb);replace BK466 := am (pkb BK466.out hb);replace BK485 := am (pkb BK485.out hb);replace HB := am (zQf pB hb);(try clear hb);(try clear ho0)) | ((with_reducible refine zQe (f := 75) rfl ?_);refine zQr (some 29) rfl rfl Tryz.func75 (by kernel_rfl) rfl #[.int .u64 4] rfl pM ?_;(with_reducible refine (dec_of.calls kj7 4 t492 _ A28.out).mono ?_);rintro e w34 ⟨v493,rfl,ho0,hb⟩;refine ⟨_,rfl,?_⟩;replace HO_486001 := am (Kd.zQl (pV HO_486001.out) hb);replace HO_486002 := am (Kd.zQl (pV HO_486002.out) hb);replace HO_486003 := am (Kd.zQl (pV HO_486003.out) hb);replace HO488 := am (Kd.zQl (pV HO488.out) hb);have HO494 := am (Kd.zQQ (Kd.zQk (ok' := fun k_ => (w.heap.size ≤ k_) ∧ some k_ ≠ (.slice Ao19 t473.length co19 : Value).ownBlock ∧ some k_ ≠ (v490 : Value).ownBlock ∧ k_ ≠ gb466 ∧ k_ ≠ gb485) ho0 (fun k_ hk_ => ⟨(Nat.le_trans (zQc pB) hk_),(Kd.fresh' (Kd.R_lt (pR HO_486000.out)) k_ hk_),(Kd.fresh' (Kd.R_lt (pR HO491.out)) k_ hk_),(Kd.zQV (g := gb466) (o := .cells #[.slice none 0 0,.slice none 0 0,.slice none 0 0,.slice none 0 0] 70 (0,0)) (pK BK466.out) k_ hk_),(Kd.zQV (g := gb485) (o := .cells #[.slice Ao19 t473.length co19,.slice Ao18 t476.length co18,.slice Ao17 t479.length co17,.slice Ao16 t482.length co16] 70 (0,0)) (pK BK485.out) k_ hk_)⟩)) (zQc pB));replace HO_486000 := am (Kd.zQH (pR HO_486000.out) hb);replace HO491 := am (Kd.zQH (pR HO491.out) hb);replace BK466 := am (pkb BK466.out hb);replace BK485 := am (pkb BK485.out hb);replace HB := am (zQf pB hb);(try clear hb);(try clear ho0)) | ((with_reducible refine zQe (f := 75) rfl ?_);refine zQr (some 30) rfl rfl Tryz.func75 (by kernel_rfl) rfl #[.int .u64 1] rfl pM ?_;(with_reducible refine (dec_of.calls kj7 1 t495 _ A29.out).mono ?_);rintro e w35 ⟨v496,rfl,ho0,hb⟩;refine ⟨_,rfl,?_⟩;replace HO_486001 := am (Kd.zQl (pV HO_486001.out) hb);replace HO_486002 := am (Kd.zQl (pV HO_486002.out) hb);replace HO_486003 := am (Kd.zQl (pV HO_486003.out) hb);replace HO488 := am (Kd.zQl (pV HO488.out) hb);replace HO494 := am (Kd.zQl (pV HO494.out) hb);have HO497 := am (Kd.zQQ (Kd.zQk (ok' := fun k_ => (w.heap.size ≤ k_) ∧ some k_ ≠ (.slice Ao19 t473.length co19 : Value).ownBlock ∧ some k_ ≠ (v490 : Value).ownBlock ∧ k_ ≠ gb466 ∧ k_ ≠ gb485) ho0 (fun k_ hk_ => ⟨(Nat.le_trans (zQc pB) hk_),(Kd.fresh' (Kd.R_lt (pR HO_486000.out)) k_ hk_),(Kd.fresh' (Kd.R_lt (pR HO491.out)) k_ hk_),(Kd.zQV (g := gb466) (o := .cells #[.slice none 0 0,.slice none 0 0,.slice none 0 0,.slice none 0 0] 70 (0,0)) (pK BK466.out) k_ hk_),(Kd.zQV (g := gb485) (o := .cells #[.slice Ao19 t473.length co19,.slice Ao18 t476.length co18,.slice Ao17 t479.length co17,.slice Ao16 t482.length co16] 70 (0,0)) (pK BK485.out) k_ hk_)⟩)) (zQc pB));replace HO_486000 := am (Kd.zQH (pR HO_486000.out) hb);replace HO491 := am (Kd.zQH (pR HO491.out) hb);replace BK466 := am (pkb BK466.out hb);replace BK485 := am (pkb BK485.out hb);replace HB := am (zQf pB hb);(try clear hb);(try clear ho0)) | ((with_reducible refine zQe (f := 75) rfl ?_);refine zQr (some 31) rfl rfl Tryz.func75 (by kernel_rfl) rfl #[.int .u64 2] rfl pM ?_;(with_reducible refine (dec_of.calls kj7 2 t498 _ A30.out).mono ?_);rintro e w36 ⟨v499,rfl,ho0,hb⟩;refine ⟨_,rfl,?_⟩;replace HO_486001 := am (Kd.zQl (pV HO_486001.out) hb);replace HO_486002 := am (Kd.zQl (pV HO_486002.out) hb);replace HO_486003 := am (Kd.zQl (pV HO_486003.out) hb);replace HO488 := am (Kd.zQl (pV HO488.out) hb);replace HO494 := am (Kd.zQl (pV HO494.out) hb);replace HO497 := am (Kd.zQl (pV HO497.out) hb);have HO500 := am (Kd.zQQ (Kd.zQk (ok' := fun k_ => (w.heap.size ≤ k_) ∧ some k_ ≠ (.slice Ao19 t473.length co19 : Value).ownBlock ∧ some k_ ≠ (v490 : Value).ownBlock ∧ k_ ≠ gb466 ∧ k_ ≠ gb485) ho0 (fun k_ hk_ => ⟨(Nat.le_trans (zQc pB) hk_),(Kd.fresh' (Kd.R_lt (pR HO_486000.out)) k_ hk_),(Kd.fresh' (Kd.R_lt (pR HO491.out)) k_ hk_),(Kd.zQV (g := gb466) (o := .cells #[.slice none 0 0,.slice none 0 0,.slice none 0 0,.slice none 0 0] 70 (0,0)) (pK BK466.out) k_ hk_),(Kd.zQV (g := gb485) (o := .cells #[.slice Ao19 t473.length co19,.slice Ao18 t476.length co18,.slice Ao17 t479.length co17,.slice Ao16 t482.length co16] 70 (0,0)) (pK BK485.out) k_ hk_)⟩)) (zQc pB));replace HO_486000 := am (Kd.zQH (pR HO_486000.out) hb);replace HO491 := am (Kd.zQH (pR HO491.out) hb);replace BK466 := am (pkb BK466.out hb);replace BK485 := am (pkb BK485.out hb);replace HB := am (zQf pB hb);(try clear hb);(try clear ho0);obtain ⟨Ao37,co37,eo37⟩ := Kd.zQF HO500.out;subst eo37;obtain ⟨Ao38,co38,eo38⟩ := Kd.zQF HO497.out;subst eo38;obtain ⟨Ao39,co39,eo39⟩ := Kd.zQF HO494.out;subst eo39;obtain ⟨Ao40,co40,eo40⟩ := Kd.zQB HO491.out;subst eo40;have hnb41 := NB485_466.out;have hnc41 := NB466_485.out;have q42 := cf4 BK485.out))
     go_meet
     case rel => exact ⟨_,(t489),(t492),(t495),(t498),(.slice Ao40 t489.length co40),(.slice Ao39 t492.length co39),(.slice Ao38 t495.length co38),(.slice Ao37 t498.length co37),H',⟨by have := HJ7.out;first | omega | exact Nat.le_refl _⟩,⟨by (with_reducible repeat (first | apply Kd.zQw | apply Kd.zQu | apply Kd.zQx));exact Kd.zQE (Kd.R_far (p := ⟨gb485,3,none⟩) (Kd.R_far (p := ⟨gb485,2,none⟩) (Kd.R_far (p := ⟨gb485,1,none⟩) (Kd.R_far (p := ⟨gb485,0,none⟩) (Kd.zQX HO491.out BK485.out (by decide)) (fun _ hk => hk.2) (.slice Ao40 t489.length co40)) (fun _ hk => hk.2) (.slice Ao39 t492.length co39)) (fun _ hk => hk.2) (.slice Ao38 t495.length co38)) (fun _ hk => hk.2) (.slice Ao37 t498.length co37)) (fun _ hk => hk.1.1.1)⟩,⟨by (with_reducible repeat (first | apply Kd.zQn | apply Kd.zQm | apply Kd.zQo));exact Kd.zQk (Kd.V_far (p := ⟨gb485,3,none⟩) (Kd.V_far (p := ⟨gb485,2,none⟩) (Kd.V_far (p := ⟨gb485,1,none⟩) (Kd.V_far (p := ⟨gb485,0,none⟩) (Kd.zQk HO494.out (fun k_ hk => (⟨hk,hk.2.2.2.2⟩ : _ ∧ k_ ≠ gb485))) (fun _ hk => hk.2) (.slice Ao40 t489.length co40)) (fun _ hk => hk.2) (.slice Ao39 t492.length co39)) (fun _ hk => hk.2) (.slice Ao38 t495.length co38)) (fun _ hk => hk.2) (.slice Ao37 t498.length co37)) (fun _ hk => ⟨hk.1.1,⟨hk.1.2.2.1,⟨hk.1.2.2.2.1,hk.1.2.2.2.2⟩⟩⟩)⟩,⟨by (with_reducible repeat (first | apply Kd.zQn | apply Kd.zQm | apply Kd.zQo));exact Kd.zQk (Kd.V_far (p := ⟨gb485,3,none⟩) (Kd.V_far (p := ⟨gb485,2,none⟩) (Kd.V_far (p := ⟨gb485,1,none⟩) (Kd.V_far (p := ⟨gb485,0,none⟩) (Kd.zQk HO497.out (fun k_ hk => (⟨hk,hk.2.2.2.2⟩ : _ ∧ k_ ≠ gb485))) (fun _ hk => hk.2) (.slice Ao40 t489.length co40)) (fun _ hk => hk.2) (.slice Ao39 t492.length co39)) (fun _ hk => hk.2) (.slice Ao38 t495.length co38)) (fun _ hk => hk.2) (.slice Ao37 t498.length co37)) (fun _ hk => ⟨hk.1.1,⟨hk.1.2.2.1,⟨hk.1.2.2.2.1,hk.1.2.2.2.2⟩⟩⟩)⟩,⟨by (with_reducible repeat (first | apply Kd.zQn | apply Kd.zQm | apply Kd.zQo));exact Kd.zQk (Kd.V_far (p := ⟨gb485,3,none⟩) (Kd.V_far (p := ⟨gb485,2,none⟩) (Kd.V_far (p := ⟨gb485,1,none⟩) (Kd.V_far (p := ⟨gb485,0,none⟩) (Kd.zQk HO500.out (fun k_ hk => (⟨hk,hk.2.2.2.2⟩ : _ ∧ k_ ≠ gb485))) (fun _ hk => hk.2) (.slice Ao40 t489.length co40)) (fun _ hk => hk.2) (.slice Ao39 t492.length co39)) (fun _ hk => hk.2) (.slice Ao38 t495.length co38)) (fun _ hk => hk.2) (.slice Ao37 t498.length co37)) (fun _ hk => ⟨hk.1.1,⟨hk.1.2.2.1,⟨hk.1.2.2.2.1,hk.1.2.2.2.2⟩⟩⟩)⟩,⟨by (with_reducible repeat (first | refine zQa ?_ _ | refine zQd ?_ | refine zQb ?_ _));refine zQL ?_ NB466_485.out _;(with_reducible repeat (first | refine zQa ?_ _ | refine zQd ?_ | refine zQb ?_ _));refine zQL ?_ NB466_485.out _;(with_reducible repeat (first | refine zQa ?_ _ | refine zQd ?_ | refine zQb ?_ _));refine zQL ?_ NB466_485.out _;(with_reducible repeat (first | refine zQa ?_ _ | refine zQd ?_ | refine zQb ?_ _));refine zQL ?_ NB466_485.out _;(with_reducible repeat (first | refine zQa ?_ _ | refine zQd ?_ | refine zQb ?_ _));exact BK466.out⟩,⟨by (with_reducible repeat (first | refine zQa ?_ _ | refine zQd ?_ | refine zQb ?_ _));refine zQz (cs := #[.slice Ao40 t489.length co40,.slice Ao39 t492.length co39,.slice Ao38 t495.length co38,.slice Ao16 t482.length co16]) ?_ 3 _ rfl;(with_reducible repeat (first | refine zQa ?_ _ | refine zQd ?_ | refine zQb ?_ _));refine zQz (cs := #[.slice Ao40 t489.length co40,.slice Ao39 t492.length co39,.slice Ao17 t479.length co17,.slice Ao16 t482.length co16]) ?_ 2 _ rfl;(with_reducible repeat (first | refine zQa ?_ _ | refine zQd ?_ | refine zQb ?_ _));refine zQz (cs := #[.slice Ao40 t489.length co40,.slice Ao18 t476.length co18,.slice Ao17 t479.length co17,.slice Ao16 t482.length co16]) ?_ 1 _ rfl;(with_reducible repeat (first | refine zQa ?_ _ | refine zQd ?_ | refine zQb ?_ _));refine zQz (cs := #[.slice Ao19 t473.length co19,.slice Ao18 t476.length co18,.slice Ao17 t479.length co17,.slice Ao16 t482.length co16]) ?_ 0 _ rfl;(with_reducible repeat (first | refine zQa ?_ _ | refine zQd ?_ | refine zQb ?_ _));exact BK485.out⟩,⟨pB⟩⟩
    ·replace c25 := Bool.eq_false_iff.mpr c25
     subst c25
     rw [if_neg (show ¬ (false = true) by decide)] at H
     have H' := am H
     clear H
     go_wp2
     go_meet
     case rel => exact ⟨_,(t473),(t476),(t479),(t482),(.slice Ao19 t473.length co19),(.slice Ao18 t476.length co18),(.slice Ao17 t479.length co17),(.slice Ao16 t482.length co16),H',⟨by have := HJ7.out;first | omega | exact Nat.le_refl _⟩,⟨by (with_reducible repeat (first | apply Kd.zQw | apply Kd.zQu | apply Kd.zQx));exact HO_486000.out⟩,⟨by (with_reducible repeat (first | apply Kd.zQn | apply Kd.zQm | apply Kd.zQo));exact HO_486001.out⟩,⟨by (with_reducible repeat (first | apply Kd.zQn | apply Kd.zQm | apply Kd.zQo));exact HO_486002.out⟩,⟨by (with_reducible repeat (first | apply Kd.zQn | apply Kd.zQm | apply Kd.zQo));exact HO_486003.out⟩,⟨by (with_reducible repeat (first | refine zQa ?_ _ | refine zQd ?_ | refine zQb ?_ _));exact BK466.out⟩,⟨by (with_reducible repeat (first | refine zQa ?_ _ | refine zQd ?_ | refine zQb ?_ _));exact BK485.out⟩,⟨pB⟩⟩
   case rest =>
    clear HC24
    try clear c2
    try clear p2
    try clear c4
    try clear c7
    try clear c21
    try clear c23
    try clear c23b0
    try clear c23b1
    try clear c25
    try clear c28
    try clear c41
    try clear c42
    try clear q22 q42
    try clear p2
    obtain ⟨kq,x486000_23,x486001_23,x486002_23,x486003_23,u486000,u486001,u486002,u486003,HA,HJ23,HO_486000,HO_486001,HO_486002,HO_486003,BK466,BK485,HB⟩ := hcut
    cases kq with
    | zero => exact absurd HA.out (by simp [dec_spans.j1])
    | succ kj23 =>
     have H := HA.out
     clear HA
     simp only [dec_spans.j1] at H
     by_cases c43 : t468 ≥ 0
     ·rw [if_pos c43] at H
      have c43b0 : decide (0 ≤ t468) = true := decide_eq_true c43
      clear c43
      replace H := Option.bind_eq_some_iff.mp H
      obtain ⟨t501,A440,H⟩ := H
      try dsimp only at H
      have A44 := am A440
      clear A440
      replace H := Option.bind_eq_some_iff.mp H
      obtain ⟨t504,A450,H⟩ := H
      try dsimp only at H
      have A45 := am A450
      clear A450
      replace H := Option.bind_eq_some_iff.mp H
      obtain ⟨t507,A460,H⟩ := H
      try dsimp only at H
      have A46 := am A460
      clear A460
      simp only [Option.some.injEq,Prod.mk.injEq] at H
      obtain ⟨rfl,rfl,rfl,rfl⟩ := H
      try go_wp2
      replace HO_486000 := am (Kd.zQx HO_486000.out)
      replace HO_486001 := am (Kd.zQo HO_486001.out)
      replace HO_486002 := am (Kd.zQo HO_486002.out)
      replace HO_486003 := am (Kd.zQo HO_486003.out)
      replace BK466 := am (zQd BK466.out)
      replace BK485 := am (zQd BK485.out)
      replace HB := am (zQM HB.out)
      obtain ⟨Ao48,co48,eo48⟩ := Kd.zQB HO_486000.out
      (first | subst eo48 | (injection eo48 with f1_ f2_ f3_;have f4_ := f1_.symm;have f5_ := f3_.symm;clear f1_ f2_ f3_;subst f4_;subst f5_))
      refine zXW (n := 18) (S := fun w' => w'.cell? ⟨gb485,0,none⟩ = some (.slice Ao48 x486000_23.length co48) ∧ w'.cell? ⟨gb485,1,none⟩ = some (u486001) ∧ w'.cell? ⟨gb485,2,none⟩ = some (u486002) ∧ w'.cell? ⟨gb485,3,none⟩ = some (u486003)) (ds := [13,15,17]) (bm 18 0) (by kernel_rfl) rfl rfl ⟨cz0 BK485.out,cz1 BK485.out,cz2 BK485.out,cz3 BK485.out⟩ (fun hHeld => ?_);refine zXC dec_spans.tab6 dec_spans.bits6 (fun HT_ HW_ => ?_)
      generalize wc.drew = w47 at HO_486000 HO_486001 HO_486002 HO_486003 BK466 BK485 HB hHeld ⊢
      refine pure_ (i := 0) (N := some 35) (v := ?_) (a' := ?_) (bm 18 1) rfl rfl (zQA HT_.out (by kernel_rfl)) (fun _ _ _ h => h) (Or.inl ⟨by kernel_rfl,?_⟩) ?_ ?_
      rotate_left
      ·intro w'
       go_simp
       with_reducible rfl
      rotate_left
      ·exact pA
      refine pure_ (i := 2) (N := some 37) (v := ?_) (a' := ?_) (bm 18 5) rfl rfl (zQA HT_.out (by kernel_rfl)) (fun _ _ _ h => h) (Or.inl ⟨by kernel_rfl,?_⟩) ?_ ?_
      rotate_left
      ·intro w'
       go_simp
       with_reducible rfl
      rotate_left
      ·exact pA
      refine pure_ (i := 4) (N := some 39) (v := ?_) (a' := ?_) (bm 18 21) rfl rfl (zQA HT_.out (by kernel_rfl)) (fun _ _ _ h => h) (Or.inl ⟨by kernel_rfl,?_⟩) ?_ ?_
      rotate_left
      ·intro w'
       go_simp
       with_reducible rfl
      rotate_left
      ·exact pA
      refine pure_ (i := 6) (N := some 41) (v := ?_) (a' := ?_) (bm 18 85) rfl rfl (zQA HT_.out (by kernel_rfl)) (fun _ _ _ h => h) (Or.inl ⟨by kernel_rfl,?_⟩) ?_ ?_
      rotate_left
      ·intro w'
       go_simp
       with_reducible rfl
      rotate_left
      ·exact pA
      refine pure_ (i := 8) (N := some 43) (v := ?_) (a' := ?_) (bm 18 341) rfl rfl (zQA HT_.out (by kernel_rfl)) (fun _ _ _ h => h) (Or.inl ⟨by kernel_rfl,?_⟩) ?_ ?_
      rotate_left
      ·intro w'
       go_simp
       with_reducible rfl
      rotate_left
      ·exact pA
      refine pure_ (i := 10) (N := some 45) (v := ?_) (a' := ?_) (bm 18 1365) rfl rfl (zQA HT_.out (by kernel_rfl)) (fun _ _ _ h => h) (Or.inl ⟨by kernel_rfl,?_⟩) ?_ ?_
      rotate_left
      ·intro w'
       go_simp
       with_reducible rfl
      rotate_left
      ·exact pA
      refine take_ (i := 1) (N := some 36) (v := ?_) (a' := ?_) (bm 18 1367) rfl rfl (zXo HT_.out HW_.out (by kernel_rfl)) (fun _ _ _ h => h) (Or.inl ⟨by kernel_rfl,?_⟩) hHeld ?_ ?_
      rotate_left
      ·rintro w' ⟨s0,s1,s2,s3⟩
       go_simp
       with_reducible rfl
      rotate_left
      ·exact pA
      refine take_ (i := 5) (N := some 40) (v := ?_) (a' := ?_) (bm 18 1399) rfl rfl (zXo HT_.out HW_.out (by kernel_rfl)) (fun _ _ _ h => h) (Or.inl ⟨by kernel_rfl,?_⟩) hHeld ?_ ?_
      rotate_left
      ·rintro w' ⟨s0,s1,s2,s3⟩
       go_simp
       with_reducible rfl
      rotate_left
      ·exact pA
      refine take_ (i := 9) (N := some 44) (v := ?_) (a' := ?_) (bm 18 1911) rfl rfl (zXo HT_.out HW_.out (by kernel_rfl)) (fun _ _ _ h => h) (Or.inl ⟨by kernel_rfl,?_⟩) hHeld ?_ ?_
      rotate_left
      ·rintro w' ⟨s0,s1,s2,s3⟩
       go_simp
       with_reducible rfl
      rotate_left
      ·exact pA
      refine one_ (i := 3) (N := some 38) (bm 18 1919) rfl rfl (zQW HT_.out (by kernel_rfl)) (by decide) (fun K hK => ?_)
      refine goes_ Tryz.func28 (by kernel_rfl) rfl #[.slice Ao48 x486000_23.length co48,.int .i64 t468] (by rfl) rfl rfl pM ?_
      with_reducible refine (b_up.calls kj23 _ _ x486000_23 t468 t501 _ ?side1 ?side2 A44.out).mono ?_
      (case side1 => repeat (first | exact (Kd.zQh HO_486000.out).2.2 | (with_reducible refine Kd.zQj ?_ _) | (with_reducible refine Kd.zQi ?_ _) | (with_reducible refine Kd.zQv ?_)))
      (case side2 => exact (Kd.zQh HO_486000.out).2.1)
      rintro e w49 ⟨v502,rfl,ho0,hb⟩
      refine ⟨_,rfl,?_⟩
      have n0_ := am (Kd.zQt (pR HO_486000.out) (Kd.zQs ho0) hb)
      have n1_ := am (Kd.zQG (pV HO_486001.out) (Kd.zQs ho0) hb)
      have n2_ := am (Kd.zQG (pV HO_486002.out) (Kd.zQs ho0) hb)
      have n3_ := am (Kd.zQG (pV HO_486003.out) (Kd.zQs ho0) hb)
      have n4_ := am (Kd.zQy (Kd.zQC (Kd.zYm (M := fun k_ => (w.heap.size ≤ k_)) ho0 (zQc pB) (fun k_ h_ => h_)) (Kd.R_lt (pR HO_486000.out))) (zQc pB))
      have n5_ := am (pkb BK466.out hb)
      have n6_ := am (pkb BK485.out hb)
      have n7_ := am (zQf pB hb)
      clear HO_486000 HO_486001 HO_486002 HO_486003 BK466 BK485 HB;have HO_486000 := n0_;have HO_486001 := n1_;have HO_486002 := n2_;have HO_486003 := n3_;have HO503 := n4_;have BK466 := n5_;have BK485 := n6_;have HB := n7_;clear n0_ n1_ n2_ n3_ n4_ n5_ n6_ n7_;(try clear hb);(try clear ho0)
      obtain ⟨Ao50,co50,eo50⟩ := Kd.zQF HO_486002.out
      (first | subst eo50 | (injection eo50 with f1_ f2_ f3_;have f4_ := f1_.symm;have f5_ := f3_.symm;clear f1_ f2_ f3_;subst f4_;subst f5_))
      refine hK.out _ _ ⟨cz0 BK485.out,cz1 BK485.out,cz2 BK485.out,cz3 BK485.out⟩ (fun hHeld => ?_)
      clear hK K
      refine norm_ (a' := ?_) ?_ ?_
      rotate_left
      ·show Act.put _ (some 38) _ = _
       exact pA
      refine pure_ (i := 12) (N := some 47) (v := ?_) (a' := ?_) (bm 18 6015) rfl rfl (zQA HT_.out (by kernel_rfl)) (fun _ _ _ h => h) (Or.inl ⟨by kernel_rfl,?_⟩) ?_ ?_
      rotate_left
      ·intro w'
       go_simp
       with_reducible rfl
      rotate_left
      ·exact pA
      refine one_ (i := 7) (N := some 42) (bm 18 6143) rfl rfl (zQW HT_.out (by kernel_rfl)) (by decide) (fun K hK => ?_)
      refine goes_ Tryz.func28 (by kernel_rfl) rfl #[.slice Ao50 x486002_23.length co50,.int .i64 t468] (by rfl) rfl rfl pM ?_
      with_reducible refine (b_up.calls kj23 _ _ x486002_23 t468 t504 _ ?side1 ?side2 A45.out).mono ?_
      (case side1 => repeat (first | exact (Kd.zQg HO_486002.out).2.2 | (with_reducible refine Kd.zQj ?_ _) | (with_reducible refine Kd.zQi ?_ _) | (with_reducible refine Kd.zQv ?_)))
      (case side2 => exact (Kd.zQg HO_486002.out).2.1)
      rintro e w51 ⟨v505,rfl,ho0,hb⟩
      refine ⟨_,rfl,?_⟩
      have n0_ := am (Kd.zQt (pR HO_486000.out) (Kd.zQs ho0) hb)
      have n1_ := am (Kd.zQG (pV HO_486001.out) (Kd.zQs ho0) hb)
      have n2_ := am (Kd.zQG (pV HO_486002.out) (Kd.zQs ho0) hb)
      have n3_ := am (Kd.zQG (pV HO_486003.out) (Kd.zQs ho0) hb)
      have n4_ := am (Kd.zQt (pR HO503.out) (Kd.zQs ho0) hb)
      have n5_ := am (Kd.zQy (Kd.zQC (Kd.zQC (Kd.zYm (M := fun k_ => (w.heap.size ≤ k_)) ho0 (zQc pB) (fun k_ h_ => h_)) (Kd.R_lt (pR HO_486000.out))) (Kd.R_lt (pR HO503.out))) (zQc pB))
      have n6_ := am (pkb BK466.out hb)
      have n7_ := am (pkb BK485.out hb)
      have n8_ := am (zQf pB hb)
      clear HO_486000 HO_486001 HO_486002 HO_486003 HO503 BK466 BK485 HB;have HO_486000 := n0_;have HO_486001 := n1_;have HO_486002 := n2_;have HO_486003 := n3_;have HO503 := n4_;have HO506 := n5_;have BK466 := n6_;have BK485 := n7_;have HB := n8_;clear n0_ n1_ n2_ n3_ n4_ n5_ n6_ n7_ n8_;(try clear hb);(try clear ho0)
      obtain ⟨Ao52,co52,eo52⟩ := Kd.zQF HO_486003.out
      (first | subst eo52 | (injection eo52 with f1_ f2_ f3_;have f4_ := f1_.symm;have f5_ := f3_.symm;clear f1_ f2_ f3_;subst f4_;subst f5_))
      refine hK.out _ _ ⟨cz0 BK485.out,cz1 BK485.out,cz2 BK485.out,cz3 BK485.out⟩ (fun hHeld => ?_)
      clear hK K
      refine norm_ (a' := ?_) ?_ ?_
      rotate_left
      ·show Act.put _ (some 42) _ = _
       exact pA
      refine one_ (i := 11) (N := some 46) (bm 18 8191) rfl rfl (zQW HT_.out (by kernel_rfl)) (by decide) (fun K hK => ?_)
      refine goes_ Tryz.func28 (by kernel_rfl) rfl #[.slice Ao52 x486003_23.length co52,.int .i64 t468] (by rfl) rfl rfl pM ?_
      with_reducible refine (b_up.calls kj23 _ _ x486003_23 t468 t507 _ ?side1 ?side2 A46.out).mono ?_
      (case side1 => repeat (first | exact (Kd.zQg HO_486003.out).2.2 | (with_reducible refine Kd.zQj ?_ _) | (with_reducible refine Kd.zQi ?_ _) | (with_reducible refine Kd.zQv ?_)))
      (case side2 => exact (Kd.zQg HO_486003.out).2.1)
      rintro e w53 ⟨v508,rfl,ho0,hb⟩
      refine ⟨_,rfl,?_⟩
      have n0_ := am (Kd.zQt (pR HO_486000.out) (Kd.zQs ho0) hb)
      have n1_ := am (Kd.zQG (pV HO_486001.out) (Kd.zQs ho0) hb)
      have n2_ := am (Kd.zQG (pV HO_486002.out) (Kd.zQs ho0) hb)
      have n3_ := am (Kd.zQG (pV HO_486003.out) (Kd.zQs ho0) hb)
      have n4_ := am (Kd.zQt (pR HO503.out) (Kd.zQs ho0) hb)
      have n5_ := am (Kd.zQt (pR HO506.out) (Kd.zQs ho0) hb)
      have n6_ := am (Kd.zQy (Kd.zQC (Kd.zQC (Kd.zQC (Kd.zYm (M := fun k_ => (w.heap.size ≤ k_)) ho0 (zQc pB) (fun k_ h_ => h_)) (Kd.R_lt (pR HO_486000.out))) (Kd.R_lt (pR HO503.out))) (Kd.R_lt (pR HO506.out))) (zQc pB))
      have n7_ := am (pkb BK466.out hb)
      have n8_ := am (pkb BK485.out hb)
      have n9_ := am (zQf pB hb)
      clear HO_486000 HO_486001 HO_486002 HO_486003 HO503 HO506 BK466 BK485 HB;have HO_486000 := n0_;have HO_486001 := n1_;have HO_486002 := n2_;have HO_486003 := n3_;have HO503 := n4_;have HO506 := n5_;have HO509 := n6_;have BK466 := n7_;have BK485 := n8_;have HB := n9_;clear n0_ n1_ n2_ n3_ n4_ n5_ n6_ n7_ n8_ n9_;(try clear hb);(try clear ho0)
      obtain ⟨Ao54,co54,eo54⟩ := Kd.zQB HO503.out
      (first | subst eo54 | (injection eo54 with f1_ f2_ f3_;have f4_ := f1_.symm;have f5_ := f3_.symm;clear f1_ f2_ f3_;subst f4_;subst f5_))
      obtain ⟨Ao56,co56,eo56⟩ := Kd.zQB HO506.out
      (first | subst eo56 | (injection eo56 with f1_ f2_ f3_;have f4_ := f1_.symm;have f5_ := f3_.symm;clear f1_ f2_ f3_;subst f4_;subst f5_))
      obtain ⟨Ao58,co58,eo58⟩ := Kd.zQB HO509.out
      (first | subst eo58 | (injection eo58 with f1_ f2_ f3_;have f4_ := f1_.symm;have f5_ := f3_.symm;clear f1_ f2_ f3_;subst f4_;subst f5_))
      refine hK.out _ _ ⟨cz0 BK485.out,cz1 BK485.out,cz2 BK485.out,cz3 BK485.out⟩ (fun hHeld => ?_)
      clear hK K
      refine norm_ (a' := ?_) ?_ ?_
      rotate_left
      ·show Act.put _ (some 46) _ = _
       exact pA
      refine last_ (i := 13) (N := none) (bm 18 16383) rfl rfl (zQW HT_.out (by kernel_rfl)) (by decide) (fun K hK => ?_)
      have hs55 : w53.cell? ⟨gb485,0,none⟩ = some (.slice Ao48 x486000_23.length co48) := cz0 BK485.out
      have hfs55 := zQK BK485.out 0
      have hns55_0 := NB466_485.out
      have hms55_0 := NB485_466.out
      refine skip_ (w1 := ?_) ?hw rfl ?_ ?_;(case hw => kernel_rfl)
      rotate_left
      ·go_simp
       rfl
      refine hK.out _ _ ?_
      clear hK K
      refine pure_ (i := 14) (N := some 48) (v := ?_) (a' := ?_) (bm 18 32767) rfl rfl (zQA HT_.out (by kernel_rfl)) (fun _ _ _ h => h) (Or.inl ⟨by kernel_rfl,?_⟩) ?_ ?_
      rotate_left
      ·intro w'
       go_simp
       with_reducible rfl
      rotate_left
      ·exact pA
      refine last_ (i := 15) (N := none) (bm 18 65535) rfl rfl (zQW HT_.out (by kernel_rfl)) (by decide) (fun K hK => ?_)
      have hs57 : w53.cell? ⟨gb485,2,none⟩ = some (.slice Ao50 x486002_23.length co50) := cz2 BK485.out
      have hfs57 := zQK BK485.out 2
      have hns57_0 := NB466_485.out
      have hms57_0 := NB485_466.out
      refine skip_ (w1 := ?_) ?hw rfl ?_ ?_;(case hw => kernel_rfl)
      rotate_left
      ·go_simp
       rfl
      refine hK.out _ _ ?_
      clear hK K
      refine pure_ (i := 16) (N := some 49) (v := ?_) (a' := ?_) (bm 18 131071) rfl rfl (zQA HT_.out (by kernel_rfl)) (fun _ _ _ h => h) (Or.inl ⟨by kernel_rfl,?_⟩) ?_ ?_
      rotate_left
      ·intro w'
       go_simp
       with_reducible rfl
      rotate_left
      ·exact pA
      refine last_ (i := 17) (N := none) (bm 18 262143) rfl rfl (zQW HT_.out (by kernel_rfl)) (by decide) (fun K hK => ?_)
      have hs59 : w53.cell? ⟨gb485,3,none⟩ = some (.slice Ao52 x486003_23.length co52) := cz3 BK485.out
      have hfs59 := zQK BK485.out 3
      have hns59_0 := NB466_485.out
      have hms59_0 := NB485_466.out
      refine skip_ (w1 := ?_) ?hw rfl ?_ ?_;(case hw => kernel_rfl)
      rotate_left
      ·go_simp
       rfl
      refine hK.out _ _ ?_
      clear hK K
      refine done_ (zYh HT_.out (by kernel_rfl)) ?_
      have hnb60 := NB485_466.out
      have hnc60 := NB466_485.out
      have q61 := cf4 BK485.out
      have q62 := cf4 BK466.out
      obtain ⟨Ao63,co63,eo63⟩ := Kd.zQF HO_486001.out
      subst eo63
      try go_wp2
      refine bodyPost_ret (results_cell_row rfl _ _ gb466 70 #[.slice Ao54 t501.length co54,.slice Ao63 x486001_23.length co63,.slice Ao56 t504.length co56,.slice Ao58 t507.length co58] (0,0) _ rfl (by (with_reducible repeat (first | refine zQa ?_ _ | refine zQd ?_ | refine zQb ?_ _));refine zQz (cs := #[.slice Ao54 t501.length co54,.slice Ao63 x486001_23.length co63,.slice Ao56 t504.length co56,.slice none 0 0]) ?_ 3 _ rfl;(with_reducible repeat (first | refine zQa ?_ _ | refine zQd ?_ | refine zQb ?_ _));refine zQz (cs := #[.slice Ao54 t501.length co54,.slice Ao63 x486001_23.length co63,.slice none 0 0,.slice none 0 0]) ?_ 2 _ rfl;(with_reducible repeat (first | refine zQa ?_ _ | refine zQd ?_ | refine zQb ?_ _));refine zQz (cs := #[.slice Ao54 t501.length co54,.slice none 0 0,.slice none 0 0,.slice none 0 0]) ?_ 1 _ rfl;(with_reducible repeat (first | refine zQa ?_ _ | refine zQd ?_ | refine zQb ?_ _));refine zQz (cs := #[.slice none 0 0,.slice none 0 0,.slice none 0 0,.slice none 0 0]) ?_ 0 _ rfl;(with_reducible repeat (first | refine zQa ?_ _ | refine zQd ?_ | refine zQb ?_ _));refine zQL ?_ NB466_485.out _;(with_reducible repeat (first | refine zQa ?_ _ | refine zQd ?_ | refine zQb ?_ _));refine zQL ?_ NB466_485.out _;(with_reducible repeat (first | refine zQa ?_ _ | refine zQd ?_ | refine zQb ?_ _));refine zQL ?_ NB466_485.out _;(with_reducible repeat (first | refine zQa ?_ _ | refine zQd ?_ | refine zQb ?_ _));exact BK466.out) Tryz.underlying70 rfl (by kernel_rfl)) rfl ?_
      exact ⟨_,_,_,_,pE,by (with_reducible repeat (first | apply Kd.zQw | apply Kd.zQu | apply Kd.zQx));exact Kd.zQE (Kd.R_far (p := ⟨gb466,3,none⟩) (Kd.R_far (p := ⟨gb466,2,none⟩) (Kd.R_far (p := ⟨gb466,1,none⟩) (Kd.R_far (p := ⟨gb466,0,none⟩) (Kd.R_far (p := ⟨gb485,3,none⟩) (Kd.R_far (p := ⟨gb485,2,none⟩) (Kd.R_far (p := ⟨gb485,0,none⟩) (Kd.zQX (Kd.zQX HO503.out BK485.out (by decide)) BK466.out (by decide)) (fun _ hk => hk.1.2) (.slice Ao54 t501.length co54)) (fun _ hk => hk.1.2) (.slice Ao56 t504.length co56)) (fun _ hk => hk.1.2) (.slice Ao58 t507.length co58)) (fun _ hk => hk.2) (.slice Ao54 t501.length co54)) (fun _ hk => hk.2) (.slice Ao63 x486001_23.length co63)) (fun _ hk => hk.2) (.slice Ao56 t504.length co56)) (fun _ hk => hk.2) (.slice Ao58 t507.length co58)) (fun _ hk => hk.1.1.1.1.1.1),by (with_reducible repeat (first | apply Kd.zQn | apply Kd.zQm | apply Kd.zQo));exact Kd.zQk (Kd.V_far (p := ⟨gb466,3,none⟩) (Kd.V_far (p := ⟨gb466,2,none⟩) (Kd.V_far (p := ⟨gb466,1,none⟩) (Kd.V_far (p := ⟨gb466,0,none⟩) (Kd.V_far (p := ⟨gb485,3,none⟩) (Kd.V_far (p := ⟨gb485,2,none⟩) (Kd.V_far (p := ⟨gb485,0,none⟩) (Kd.zQk (Kd.zQk HO_486001.out (fun k_ hk => (⟨hk,hk.1.1.1.2.2.2⟩ : _ ∧ k_ ≠ gb485))) (fun k_ hk => (⟨hk,hk.1.1.1.1.2.2.1⟩ : _ ∧ k_ ≠ gb466))) (fun _ hk => hk.1.2) (.slice Ao54 t501.length co54)) (fun _ hk => hk.1.2) (.slice Ao56 t504.length co56)) (fun _ hk => hk.1.2) (.slice Ao58 t507.length co58)) (fun _ hk => hk.2) (.slice Ao54 t501.length co54)) (fun _ hk => hk.2) (.slice Ao63 x486001_23.length co63)) (fun _ hk => hk.2) (.slice Ao56 t504.length co56)) (fun _ hk => hk.2) (.slice Ao58 t507.length co58)) (fun _ hk => ⟨hk.1.1.1.1.1.1,hk.1.1.1.1.2⟩),Kd.R_V (by (with_reducible repeat (first | apply Kd.zQw | apply Kd.zQu | apply Kd.zQx));exact Kd.zQE (Kd.R_far (p := ⟨gb466,3,none⟩) (Kd.R_far (p := ⟨gb466,2,none⟩) (Kd.R_far (p := ⟨gb466,1,none⟩) (Kd.R_far (p := ⟨gb466,0,none⟩) (Kd.R_far (p := ⟨gb485,3,none⟩) (Kd.R_far (p := ⟨gb485,2,none⟩) (Kd.R_far (p := ⟨gb485,0,none⟩) (Kd.zQX (Kd.zQX HO506.out BK485.out (by decide)) BK466.out (by decide)) (fun _ hk => hk.1.2) (.slice Ao54 t501.length co54)) (fun _ hk => hk.1.2) (.slice Ao56 t504.length co56)) (fun _ hk => hk.1.2) (.slice Ao58 t507.length co58)) (fun _ hk => hk.2) (.slice Ao54 t501.length co54)) (fun _ hk => hk.2) (.slice Ao63 x486001_23.length co63)) (fun _ hk => hk.2) (.slice Ao56 t504.length co56)) (fun _ hk => hk.2) (.slice Ao58 t507.length co58)) (fun _ hk => ⟨hk.1.1.1.1.1.1,hk.1.1.1.2⟩)),Kd.R_V (by (with_reducible repeat (first | apply Kd.zQw | apply Kd.zQu | apply Kd.zQx));exact Kd.zQE (Kd.R_far (p := ⟨gb466,3,none⟩) (Kd.R_far (p := ⟨gb466,2,none⟩) (Kd.R_far (p := ⟨gb466,1,none⟩) (Kd.R_far (p := ⟨gb466,0,none⟩) (Kd.R_far (p := ⟨gb485,3,none⟩) (Kd.R_far (p := ⟨gb485,2,none⟩) (Kd.R_far (p := ⟨gb485,0,none⟩) (Kd.zQX (Kd.zQX HO509.out BK485.out (by decide)) BK466.out (by decide)) (fun _ hk => hk.1.2) (.slice Ao54 t501.length co54)) (fun _ hk => hk.1.2) (.slice Ao56 t504.length co56)) (fun _ hk => hk.1.2) (.slice Ao58 t507.length co58)) (fun _ hk => hk.2) (.slice Ao54 t501.length co54)) (fun _ hk => hk.2) (.slice Ao63 x486001_23.length co63)) (fun _ hk => hk.2) (.slice Ao56 t504.length co56)) (fun _ hk => hk.2) (.slice Ao58 t507.length co58)) (fun _ hk => ⟨hk.1.1.1.1.1.1,hk.1.1.1.2⟩)),pB⟩
     ·rw [if_neg c43] at H
      have c43b0 : decide (0 ≤ t468) = false := decide_eq_false c43
      clear c43
      replace H := Option.bind_eq_some_iff.mp H
      obtain ⟨t510,A640,H⟩ := H
      try dsimp only at H
      have A64 := am A640
      clear A640
      simp only [Option.some.injEq,Prod.mk.injEq] at H
      obtain ⟨rfl,rfl,rfl,rfl⟩ := H
      have hnb65 := NB485_466.out
      have hnc65 := NB466_485.out
      have q66 := cf4 BK485.out
      obtain ⟨Ao67,co67,eo67⟩ := Kd.zQF HO_486001.out
      subst eo67
      go_wp2_with (first | ((with_reducible refine zQe (f := 28) rfl ?_);refine zQr (some 54) rfl rfl Tryz.func28 (by kernel_rfl) rfl #[.slice Ao67 x486001_23.length co67,.int .i64 (wrap64 (-t468))] rfl pM ?_;(with_reducible refine (b_up.calls kj23 _ _ x486001_23 (wrap64 (-t468)) t510 _ ?side1 ?side2 A64.out).mono ?_);(case side1 => repeat (first | exact (Kd.zQg HO_486001.out).2.2 | (with_reducible refine Kd.zQj ?_ _) | (with_reducible refine Kd.zQi ?_ _) | (with_reducible refine Kd.zQv ?_)));(case side2 => exact (Kd.zQg HO_486001.out).2.1);rintro e w68 ⟨v511,rfl,ho0,hb⟩;refine ⟨_,rfl,?_⟩;replace HO_486001 := am (Kd.zQG (pV HO_486001.out) (Kd.zQs ho0) hb);replace HO_486002 := am (Kd.zQG (pV HO_486002.out) (Kd.zQs ho0) hb);replace HO_486003 := am (Kd.zQG (pV HO_486003.out) (Kd.zQs ho0) hb);have HO512 := am (Kd.zQy (Kd.zQC (Kd.zYm (M := fun k_ => (w.heap.size ≤ k_)) ho0 (zQc pB) (fun k_ h_ => h_)) (Kd.R_lt (pR HO_486000.out))) (zQc pB));replace HO_486000 := am (Kd.zQt (pR HO_486000.out) (Kd.zQs ho0) hb);replace BK466 := am (pkb BK466.out hb);replace BK485 := am (pkb BK485.out hb);replace HB := am (zQf pB hb);(try clear hb);(try clear ho0);obtain ⟨Ao69,co69,eo69⟩ := Kd.zQB HO512.out;subst eo69;have q70 := cf4 BK485.out;obtain ⟨Ao71,co71,eo71⟩ := Kd.zQB HO_486000.out;subst eo71;have q72 := cf4 BK466.out;obtain ⟨Ao73,co73,eo73⟩ := Kd.zQF HO_486002.out;subst eo73;obtain ⟨Ao74,co74,eo74⟩ := Kd.zQF HO_486003.out;subst eo74))
      refine bodyPost_ret (results_cell_row rfl _ _ gb466 70 #[.slice Ao71 x486000_23.length co71,.slice Ao69 t510.length co69,.slice Ao73 x486002_23.length co73,.slice Ao74 x486003_23.length co74] (0,0) _ rfl (by (with_reducible repeat (first | refine zQa ?_ _ | refine zQd ?_ | refine zQb ?_ _));refine zQz (cs := #[.slice Ao71 x486000_23.length co71,.slice Ao69 t510.length co69,.slice Ao73 x486002_23.length co73,.slice none 0 0]) ?_ 3 _ rfl;(with_reducible repeat (first | refine zQa ?_ _ | refine zQd ?_ | refine zQb ?_ _));refine zQz (cs := #[.slice Ao71 x486000_23.length co71,.slice Ao69 t510.length co69,.slice none 0 0,.slice none 0 0]) ?_ 2 _ rfl;(with_reducible repeat (first | refine zQa ?_ _ | refine zQd ?_ | refine zQb ?_ _));refine zQz (cs := #[.slice Ao71 x486000_23.length co71,.slice none 0 0,.slice none 0 0,.slice none 0 0]) ?_ 1 _ rfl;(with_reducible repeat (first | refine zQa ?_ _ | refine zQd ?_ | refine zQb ?_ _));refine zQz (cs := #[.slice none 0 0,.slice none 0 0,.slice none 0 0,.slice none 0 0]) ?_ 0 _ rfl;(with_reducible repeat (first | refine zQa ?_ _ | refine zQd ?_ | refine zQb ?_ _));refine zQL ?_ NB466_485.out _;(with_reducible repeat (first | refine zQa ?_ _ | refine zQd ?_ | refine zQb ?_ _));exact BK466.out) Tryz.underlying70 rfl (by kernel_rfl)) rfl ?_
      exact ⟨_,_,_,_,pE,by (with_reducible repeat (first | apply Kd.zQw | apply Kd.zQu | apply Kd.zQx));exact Kd.zQE (Kd.R_far (p := ⟨gb466,3,none⟩) (Kd.R_far (p := ⟨gb466,2,none⟩) (Kd.R_far (p := ⟨gb466,1,none⟩) (Kd.R_far (p := ⟨gb466,0,none⟩) (Kd.R_far (p := ⟨gb485,1,none⟩) (Kd.zQX (Kd.zQX HO_486000.out BK485.out (by decide)) BK466.out (by decide)) (fun _ hk => hk.1.2) (.slice Ao69 t510.length co69)) (fun _ hk => hk.2) (.slice Ao71 x486000_23.length co71)) (fun _ hk => hk.2) (.slice Ao69 t510.length co69)) (fun _ hk => hk.2) (.slice Ao73 x486002_23.length co73)) (fun _ hk => hk.2) (.slice Ao74 x486003_23.length co74)) (fun _ hk => hk.1.1.1),Kd.R_V (by (with_reducible repeat (first | apply Kd.zQw | apply Kd.zQu | apply Kd.zQx));exact Kd.zQE (Kd.R_far (p := ⟨gb466,3,none⟩) (Kd.R_far (p := ⟨gb466,2,none⟩) (Kd.R_far (p := ⟨gb466,1,none⟩) (Kd.R_far (p := ⟨gb466,0,none⟩) (Kd.R_far (p := ⟨gb485,1,none⟩) (Kd.zQX (Kd.zQX HO512.out BK485.out (by decide)) BK466.out (by decide)) (fun _ hk => hk.1.2) (.slice Ao69 t510.length co69)) (fun _ hk => hk.2) (.slice Ao71 x486000_23.length co71)) (fun _ hk => hk.2) (.slice Ao69 t510.length co69)) (fun _ hk => hk.2) (.slice Ao73 x486002_23.length co73)) (fun _ hk => hk.2) (.slice Ao74 x486003_23.length co74)) (fun _ hk => ⟨hk.1.1.1.1,hk.1.1.2⟩)),by (with_reducible repeat (first | apply Kd.zQn | apply Kd.zQm | apply Kd.zQo));exact Kd.zQk (Kd.V_far (p := ⟨gb466,3,none⟩) (Kd.V_far (p := ⟨gb466,2,none⟩) (Kd.V_far (p := ⟨gb466,1,none⟩) (Kd.V_far (p := ⟨gb466,0,none⟩) (Kd.V_far (p := ⟨gb485,1,none⟩) (Kd.zQk (Kd.zQk HO_486002.out (fun k_ hk => (⟨hk,hk.1.2.2.2⟩ : _ ∧ k_ ≠ gb485))) (fun k_ hk => (⟨hk,hk.1.1.2.2.1⟩ : _ ∧ k_ ≠ gb466))) (fun _ hk => hk.1.2) (.slice Ao69 t510.length co69)) (fun _ hk => hk.2) (.slice Ao71 x486000_23.length co71)) (fun _ hk => hk.2) (.slice Ao69 t510.length co69)) (fun _ hk => hk.2) (.slice Ao73 x486002_23.length co73)) (fun _ hk => hk.2) (.slice Ao74 x486003_23.length co74)) (fun _ hk => ⟨hk.1.1.1.1,hk.1.1.1.2.1⟩),by (with_reducible repeat (first | apply Kd.zQn | apply Kd.zQm | apply Kd.zQo));exact Kd.zQk (Kd.V_far (p := ⟨gb466,3,none⟩) (Kd.V_far (p := ⟨gb466,2,none⟩) (Kd.V_far (p := ⟨gb466,1,none⟩) (Kd.V_far (p := ⟨gb466,0,none⟩) (Kd.V_far (p := ⟨gb485,1,none⟩) (Kd.zQk (Kd.zQk HO_486003.out (fun k_ hk => (⟨hk,hk.1.2.2.2⟩ : _ ∧ k_ ≠ gb485))) (fun k_ hk => (⟨hk,hk.1.1.2.2.1⟩ : _ ∧ k_ ≠ gb466))) (fun _ hk => hk.1.2) (.slice Ao69 t510.length co69)) (fun _ hk => hk.2) (.slice Ao71 x486000_23.length co71)) (fun _ hk => hk.2) (.slice Ao69 t510.length co69)) (fun _ hk => hk.2) (.slice Ao73 x486002_23.length co73)) (fun _ hk => hk.2) (.slice Ao74 x486003_23.length co74)) (fun _ hk => ⟨hk.1.1.1.1,hk.1.1.1.2.1⟩),pB⟩
end Go.Proofs.YtflcanpajgpghaaGreatDoor.Pr
end
