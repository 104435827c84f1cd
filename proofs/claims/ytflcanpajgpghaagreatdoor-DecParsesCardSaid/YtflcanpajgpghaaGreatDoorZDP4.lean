/- A part of the proof of the law that RowDecParses shows: lemmas, and contracts of the calls that it reaches. -/
import Derived.Test.YtflcanpajgpghaaGreatDoorProg
import Derived.Below
import Derived.Deep.Draws
import Derived.Deep.AppendLies
import Derived.Maps.AppendAt
import Derived.OwnWalk
import Derived.Laws.BytesArg
import Derived.Laws.MakeOwn
import Derived.Laws.OwnMore
import Derived.Deep.OwnRows
import Derived.Tactics
import Derived.Lib.ConvBytes
import Derived.Laws.Slices
import Derived.WalkKit
import Derived.KernelRfl
import Derived.RowKit3
import Derived.Deep.LoopGhost
import Derived.Deep.QuietTactic
import Derived.BigQuiet
import Derived.WideLaws
import Derived.Deep.DeepCutAuto
import Derived.Deep.CutBlock
import Derived.Deep.RegionHeld3
import Derived.Laws.Rows
import Derived.Lib.AppendStr
import Derived.ArgAppend
import Derived.Laws.IdiomCopy
import Derived.OrdersHeld
import Derived.Laws.BitsLemmas
import Derived.RowKit
import Derived.Test.YtflcanpajgpghaaGreatDoorZDP0
import Derived.Test.YtflcanpajgpghaaGreatDoorZDP1
import Derived.Lib.SliceRun
import Derived.Test.YtflcanpajgpghaaGreatDoorZDP2
import Derived.Test.YtflcanpajgpghaaGreatDoorZDP3
set_option linter.unusedVariables false
set_option linter.unusedSimpArgs false
section
namespace Go.Proofs.YtflcanpajgpghaaGreatDoor.Pr
open Go.RowKit Go.Proofs.YtflcanpajgpghaaGreatDoorW.PrintWords Go.Proofs.YtflcanpajgpghaaGreatDoorW.PrintLast Go.Proofs.YtflcanpajgpghaaGreatDoorW.PrintMore
attribute [local go_sem] zXm zXk zXy zXx zXa zQZ zXl zXj
mutual
def dec_tidy.l0 : Nat → List Int → Int → Int → Option (ByteArray × Int)
 | 0,_,_,_ => none
 | k + 1,x0,x1,x6 => if x6 ≥ 0 then (if 0 ≤ x6 then (if x6 < (x0.length : Int) then (dec_tidy.j1 k x0 x1 x6 (decide ((rd x0 x6) > 57))) else (none)) else (none)) else (dec_tidy.j1 k x0 x1 x6 false)
def dec_tidy.j1 : Nat → List Int → Int → Int → Bool → Option (ByteArray × Int)
 | 0,_,_,_,_ => none
 | k + 1,x0,x1,x6,x18 => if x18 = true then (if 0 ≤ x6 then (if x6 < (x0.length : Int) then ((some (x0.set (x6 : Int).toNat 48 : List Int)).bind fun y514 => (if x6 > 0 then (if 0 ≤ (wrap64 (x6 - 1)) then (if (wrap64 (x6 - 1)) < (x0.length : Int) then (dec_tidy.l0 k (y514.set ((wrap64 (x6 - 1)) : Int).toNat (((rd y514 (wrap64 (x6 - 1))) + 1) % 256)) x1 (wrap64 (x6 - 1))) else (none)) else (none)) else ((some (([49] : List Int) : List Int)).bind fun y517 => (if y517.length + y514.length < 140737488355328 then (dec_tidy.l0 k (y517 ++ y514) (wrap64 (x1 + 1)) (wrap64 (x6 - 1))) else (none))))) else (none)) else (none)) else ((strings_TrimRight.f (strOfNums x0) (⟨#[48]⟩ : ByteArray)).bind fun t523 => (some (t523,x1)))
end
def dec_tidy.f (k : Nat) (l0 : List Int) (a1 : Int) : Option (ByteArray × Int) := dec_tidy.l0 k l0 a1 (wrap64 ((l0.length : Int) - 1))
theorem dec_tidy.mono_l : ∀ k,(∀ y0 y1 y2,LeO (dec_tidy.l0 k y0 y1 y2) (dec_tidy.l0 (k + 1) y0 y1 y2)) ∧ (∀ y0 y1 y2 y3,LeO (dec_tidy.j1 k y0 y1 y2 y3) (dec_tidy.j1 (k + 1) y0 y1 y2 y3))
 | 0 => ⟨fun _ _ _ r h => by simp [dec_tidy.l0] at h,fun _ _ _ _ r h => by simp [dec_tidy.j1] at h⟩
 | k + 1 => by
  obtain ⟨ih0,ih1⟩ := dec_tidy.mono_l k
  refine ⟨?_,?_⟩
  all_goals intros
  all_goals first | unfold dec_tidy.l0 | unfold dec_tidy.j1
  all_goals repeat' first
   | (with_reducible exact ih0 _ _ _)
   | (with_reducible exact ih1 _ _ _ _)
   | (with_reducible exact LeO.refl _)
   | (with_reducible exact LeO.none _)
   | (with_reducible refine LeO.ite ?_ ?_)
   | (with_reducible refine LeO.bind ?_ (fun _ => ?_))
   | exact ih0 _ _ _
   | exact ih1 _ _ _ _
   | exact LeO.none _
   | refine LeO.ite ?_ ?_
   | refine LeO.bind ?_ (fun _ => ?_)
theorem dec_tidy.mono : ∀ a0 a1 k,LeO (dec_tidy.f k a0 a1) (dec_tidy.f (k + 1) a0 a1) := by
 intro a0 a1 k
 obtain ⟨ih0,ih1⟩ := dec_tidy.mono_l k
 unfold dec_tidy.f
 repeat' first
   | (with_reducible exact ih0 _ _ _)
   | (with_reducible exact ih1 _ _ _ _)
   | (with_reducible exact LeO.refl _)
   | (with_reducible exact LeO.none _)
   | (with_reducible refine LeO.ite ?_ ?_)
   | (with_reducible refine LeO.bind ?_ (fun _ => ?_))
   | exact ih0 _ _ _
   | exact ih1 _ _ _ _
   | exact LeO.none _
   | refine LeO.ite ?_ ?_
   | refine LeO.bind ?_ (fun _ => ?_)
set_option maxHeartbeats 8000000 in
set_option maxRecDepth 100000 in
theorem dec_tidy.calls (k : Nat) (P0_ : Nat → Prop) (u9000_ : Value) (l0 : List Int) (a1 : Int) (r1 : ByteArray) (r2 : Int) (w0 w : World) (hB : Below w0.heap.size w0 w) (ho0 : Kd.R (Kd.int .u8) 5 w w0.heap.size P0_ u9000_ l0) (h : dec_tidy.f k l0 a1 = some (r1,r2)) :
  Calls Tryz.prog 47 #[u9000_,.int .i64 a1] w fun e w' => e = .returned (.tuple #[.string r1,.int .i64 r2]) ∧ Below w0.heap.size w0 w' ∧ Kept w w' (fun k_ => P0_ k_) := by
 have HO0 := am (show Kd.R (Kd.int .u8) 5 w w0.heap.size (fun k_ => (P0_ k_ ∨ w.heap.size ≤ k_)) u9000_ l0 from Kd.zQE ho0 (fun k_ hk => (.inl hk)))
 have HK := am (Kept.refl w (fun k_ => P0_ k_))
 have HW0 := am hB.size
 have HB := am hB
 clear hB
 have H : (dec_tidy.l0 k l0 a1 (wrap64 ((l0.length : Int) - 1))) = some (r1,r2) := h
 clear h
 have H' := am H
 clear H
 obtain ⟨Ao3,co3,eo3⟩ := Kd.zQB HO0.out
 subst eo3
 go_enter Tryz.func47,Tryz.ntmps47
 go_wp2
 go_loopg [0,1,6] k (fun kq v0 v1 v6 w' => ∃ (x0_1 : List Int) (x1_1 : Int) (x6_1 : Int),v1 = .int .i64 x1_1 ∧ v6 = .int .i64 x6_1 ∧ Aside0 (dec_tidy.l0 kq x0_1 x1_1 x6_1 = some (r1,r2)) ∧ Aside0 (kq ≤ k) ∧ Aside0 (Kd.R (Kd.int .u8) 5 w' w0.heap.size (fun k_ => (P0_ k_ ∨ w.heap.size ≤ k_)) v0 x0_1) ∧ Aside0 (Kept w w' (fun k_ => P0_ k_)) ∧ Aside0 (Below w0.heap.size w0 w'))
 case atStart => exact ⟨(l0),(a1),(wrap64 ((l0.length : Int) - 1)),(by first | rfl | (simp;done) | (simp [*];done)),(by first | rfl | (simp;done) | (simp [*];done)),H',⟨Nat.le_refl _⟩,⟨by (with_reducible repeat (first | apply Kd.zQw | apply Kd.zQu | apply Kd.zQx));exact HO0.out⟩,⟨by repeat (first | (with_reducible first | exact HK.out | apply Kept.alloc | apply Kept.drewN | apply Kept.drew) | exact HK.out)⟩,⟨pB⟩⟩
 case round =>
  clear H'
  try clear p2
  obtain ⟨x0_1,x1_1,x6_1,rfl,rfl,HA,HK1,HO_0,HK,HB⟩ := hrel
  cases gk with
  | zero => exact absurd HA.out (by simp [dec_tidy.l0])
  | succ k1 =>
   have H := HA.out
   clear HA
   simp only [dec_tidy.l0] at H
   have HC4 := am H
   clear H
   go_upto_region 2 with (fail)
   go_cut [18] (fun v18 wc => ∃ (kq : Nat) (x18_3 : Bool),v18 = .bool x18_3 ∧ Aside0 (dec_tidy.j1 kq x0_1 x1_1 x6_1 x18_3 = some (r1,r2)) ∧ Aside0 (kq ≤ k1) ∧ Aside0 (Kd.R (Kd.int .u8) 5 wc w0.heap.size (fun k_ => (P0_ k_ ∨ w.heap.size ≤ k_)) u0 x0_1) ∧ Aside0 (Kept w wc (fun k_ => P0_ k_)) ∧ Aside0 (Below w0.heap.size w0 wc))
   case first =>
    have H := HC4.out
    clear HC4
    by_cases c5 : x6_1 ≥ 0
    ·rw [if_pos c5] at H
     have c5b0 : decide (0 ≤ x6_1) = true := decide_eq_true c5
     clear c5
     (first | rw [c5b0] | (simp only [i64_w,i32_w];rw [c5b0]) | rw [c5b1] | (simp only [i64_w,i32_w];rw [c5b1]) | skip)
     by_cases c6 : 0 ≤ x6_1
     ·rw [if_pos c6] at H
      have c6b0 : decide (0 ≤ x6_1) = true := decide_eq_true c6
      clear c6
      by_cases c7 : x6_1 < (x0_1.length : Int)
      ·rw [if_pos c7] at H
       have c7b0 : decide (x6_1 < (x0_1.length : Int)) = true := decide_eq_true c7
       clear c7
       have H' := am H
       clear H
       obtain ⟨Ao8,co8,eo8⟩ := Kd.zQB HO_0.out
       subst eo8
       have p513 : 0 ≤ (x6_1 : Int) := pD
       have q513 : x6_1 < (x0_1.length : Int) := pD
       obtain ⟨ad513,e513,hx513_0⟩ := Kd.zXe (Kd.zQh HO_0.out).2.2 x6_1 p513 q513
       cases e513
       replace p513 := eq_true p513
       replace q513 := eq_true q513
       go_wp2
       go_meet
       case rel => exact ⟨_,(decide ((rd x0_1 x6_1) > 57)),(by first | rfl | (simp;done) | (simp [*];done)),H',⟨by have := HK1.out;first | omega | exact Nat.le_refl _⟩,⟨by (with_reducible repeat (first | apply Kd.zQw | apply Kd.zQu | apply Kd.zQx));exact HO_0.out⟩,⟨by repeat (first | (with_reducible first | exact HK.out | apply Kept.alloc | apply Kept.drewN | apply Kept.drew) | exact HK.out)⟩,⟨pB⟩⟩
      ·rw [if_neg c7] at H
       exact absurd H (by simp)
     ·rw [if_neg c6] at H
      exact absurd H (by simp)
    ·rw [if_neg c5] at H
     have c5b0 : decide (0 ≤ x6_1) = false := decide_eq_false c5
     clear c5
     (first | rw [c5b0] | (simp only [i64_w,i32_w];rw [c5b0]) | rw [c5b1] | (simp only [i64_w,i32_w];rw [c5b1]) | skip)
     have H' := am H
     clear H
     go_wp2
     go_meet
     case rel => exact ⟨_,(false),(by first | rfl | (simp;done) | (simp [*];done)),H',⟨by have := HK1.out;first | omega | exact Nat.le_refl _⟩,⟨by (with_reducible repeat (first | apply Kd.zQw | apply Kd.zQu | apply Kd.zQx));exact HO_0.out⟩,⟨by repeat (first | (with_reducible first | exact HK.out | apply Kept.alloc | apply Kept.drewN | apply Kept.drew) | exact HK.out)⟩,⟨pB⟩⟩
   case rest =>
    clear HC4
    try clear p2
    try clear c4
    try clear c5
    try clear c5b0
    try clear c5b1
    try clear p5
    try clear q5
    try clear hx5
    try clear c6
    try clear c6b0
    try clear p6
    try clear c7
    try clear c7b0
    try clear hx513_0
    try clear p2
    try clear p513
    try clear q513
    obtain ⟨kq,x18_3,rfl,HA,HJ3,HO_0,HK,HB⟩ := hcut
    cases kq with
    | zero => exact absurd HA.out (by simp [dec_tidy.j1])
    | succ kj3 =>
     have H := HA.out
     clear HA
     simp only [dec_tidy.j1] at H
     by_cases c9 : x18_3 = true
     ·subst c9
      rw [if_pos rfl] at H
      by_cases c10 : 0 ≤ x6_1
      ·rw [if_pos c10] at H
       have c10b0 : decide (0 ≤ x6_1) = true := decide_eq_true c10
       clear c10
       by_cases c11 : x6_1 < (x0_1.length : Int)
       ·rw [if_pos c11] at H
        have c11b0 : decide (x6_1 < (x0_1.length : Int)) = true := decide_eq_true c11
        clear c11
        obtain ⟨y514,hy514⟩ : ∃ y_ : List Int,y_ = (x0_1.set (x6_1 : Int).toNat 48) := ⟨_,rfl⟩
        replace H : (if x6_1 > 0 then (if 0 ≤ (wrap64 (x6_1 - 1)) then (if (wrap64 (x6_1 - 1)) < (x0_1.length : Int) then (dec_tidy.l0 kj3 (y514.set ((wrap64 (x6_1 - 1)) : Int).toNat (((rd y514 (wrap64 (x6_1 - 1))) + 1) % 256)) x1_1 (wrap64 (x6_1 - 1))) else (none)) else (none)) else ((some (([49] : List Int) : List Int)).bind fun y517 => (if y517.length + y514.length < 140737488355328 then (dec_tidy.l0 kj3 (y517 ++ y514) (wrap64 (x1_1 + 1)) (wrap64 (x6_1 - 1))) else (none)))) = some (r1,r2) := by first | (rw [hy514];with_reducible exact H) | (have H2_ := (Option.bind_some _ _).symm.trans H;rw [hy514];with_reducible exact H2_) | (have H2_ := (Option.bind_some _ _).symm.trans H;with_reducible exact H2_) | with_reducible exact H | (rw [hy514];exact H) | exact H
        have Ny514 := am hy514
        clear hy514
        by_cases c13 : x6_1 > 0
        ·rw [if_pos c13] at H
         have c13b0 : decide (0 < x6_1) = true := decide_eq_true c13
         clear c13
         obtain ⟨ji14,hji14⟩ : ∃ j_ : Int,(wrap64 (x6_1 - 1)) = j_ := ⟨_,rfl⟩
         replace H : (if 0 ≤ (ji14) then (if (ji14) < (x0_1.length : Int) then (dec_tidy.l0 kj3 (y514.set ((ji14) : Int).toNat (((rd y514 (ji14)) + 1) % 256)) x1_1 ji14) else (none)) else (none)) = some (r1,r2) := by first | (rw [hji14] at H;exact H) | (simp only [hji14] at H ⊢;exact H)
         have hji14w : (IntKind.i64.wrap (x6_1 - 1)) = ji14 := (i64_w _).trans hji14
         by_cases c15 : 0 ≤ (ji14)
         ·rw [if_pos c15] at H
          have c15b0 : decide (0 ≤ (ji14)) = true := decide_eq_true c15
          clear c15
          by_cases c16 : (ji14) < (x0_1.length : Int)
          ·rw [if_pos c16] at H
           have c16b0 : decide ((ji14) < (x0_1.length : Int)) = true := decide_eq_true c16
           clear c16
           obtain ⟨y516,hy516⟩ : ∃ y_ : List Int,y_ = (y514.set ((ji14) : Int).toNat (((rd y514 (ji14)) + 1) % 256)) := ⟨_,rfl⟩
           replace H : (dec_tidy.l0 kj3 y516 x1_1 ji14) = some (r1,r2) := by first | (rw [hy516];with_reducible exact H) | (have H2_ := (Option.bind_some _ _).symm.trans H;rw [hy516];with_reducible exact H2_) | (have H2_ := (Option.bind_some _ _).symm.trans H;with_reducible exact H2_) | with_reducible exact H | (rw [hy516];exact H) | exact H
           have Ny516 := am hy516
           clear hy516
           have H' := am H
           clear H
           have p12 : 0 ≤ (x6_1 : Int) := pD
           have q12 : (x6_1 : Int) < ((x0_1.length : Int) : Int) := pD
           obtain ⟨go12,co12,eo12,gb12,gl12,cl12,HG12⟩ := Kd.zWr HO_0.out (by omega)
           (first | cases eo12 | (injection eo12 with ea_ en_ ec_;(first | subst ea_ | (injection ea_ with ea_;subst ea_));subst ec_;clear en_))
           have GB12 := am gb12
           have GG12 := am HG12
           clear gb12 gl12 HG12
           have HMgo12 := am (show (P0_ go12 ∨ w.heap.size ≤ go12) from (HO_0.out.1 _ rfl))
           obtain ⟨hx12_0,hf12_0⟩ := Kd.zXR 0 HO_0.out (x6_1 : Int) p12 q12
           replace p12 := eq_true p12
           replace q12 := eq_true q12
           have HP18 := Kd.zYD HO_0.out (x6_1 : Int) 48
           go_wp2_with (first | ((with_reducible refine zXw (t := 5) (p := 23) rfl ?_);refine zXs (t := 5) (p := 23) (v := ?vo_w19) (w1 := (wc.setCell ⟨go12,(x6_1 : Int).toNat,none⟩ (.int .u8 48))) ?hg ?ho ?hn ?hr ?_;(case ho => rfl);(case hg => rfl);(case hn => rfl);(case hr => first | (go_simp;done) | (go_simp;rfl));intro w19 hw;have hg : wc.grownBy w19 (some go12) := (by rw [hw];exact HP18.2);have hp_ : Kd.R (Kd.int .u8) 5 w19 w0.heap.size (fun k_ => (P0_ k_ ∨ w.heap.size ≤ k_)) (.slice (some ⟨go12,0,none⟩) x0_1.length co12) y514 := (by rw [hw,Ny514.out];exact HP18.1);clear HP18;replace HB := am ((by rw [hw];exact zQS (HB.out) GB12.out : Below w0.heap.size w0 w19));replace HK := am (Kept.of_grown (S := (fun k_ => P0_ k_)) hg (by repeat (first | (with_reducible first | exact HK.out | apply Kept.alloc | apply Kept.drewN | apply Kept.drew) | exact HK.out)) (fun k_ e_ => (HO_0.out.1 k_ e_)));replace HO_0 := am (hp_);clear hg hw hp_;have p515 : 0 ≤ ((ji14) : Int) := pD;have q515 : (ji14) < (y514.length : Int) := (by have h_ : ((ji14) : Int) < ((x0_1.length : Int) : Int) := pD;first | (have e_ := (Kd.zQh HO_0.out).1;omega) | simpa only [Ny514.out,List.length_set] using h_);have ql515 : (((ji14) : Int) < ((x0_1.length : Int) : Int)) = True := eq_true pD;obtain ⟨ad515,e515,hx515_0⟩ := Kd.zXe (Kd.zQh HO_0.out).2.2 (ji14) p515 q515;obtain rfl : (⟨go12,0,none⟩ : Addr) = ad515 := (by injection e515);(first | simp only [add_plain] at hx515_0 | simp only [add_at] at hx515_0 | simp only [Addr.add,Nat.zero_add] at hx515_0 | skip);replace p515 := eq_true p515;replace q515 := eq_true q515;have p17 : 0 ≤ ((ji14) : Int) := pD;have q17 : ((ji14) : Int) < ((x0_1.length : Int) : Int) := pD;obtain ⟨hx17_0,hf17_0⟩ := Kd.zXR 0 HO_0.out ((ji14) : Int) p17 q17;replace p17 := eq_true p17;replace q17 := eq_true q17;obtain ⟨hy20_,hz20_⟩ := Kd.zXR 0 HO_0.out ((ji14) : Int) pD pD;have HP20 := Kd.zYD HO_0.out ((ji14) : Int) (((rd y514 (ji14)) + 1) % 256)) | ((with_reducible refine zXw (t := 5) (p := 32) rfl ?_);refine zXs (t := 5) (p := 32) (v := ?vo_w21) (w1 := (w19.setCell ⟨go12,((ji14) : Int).toNat,none⟩ (.int .u8 (((rd y514 (ji14)) + 1) % 256)))) ?hg ?ho ?hn ?hr ?_;(case ho => rfl);(case hg => rfl);(case hn => rfl);(case hr => first | (go_simp;done) | (go_simp;rfl));intro w21 hw;have hg : w19.grownBy w21 (some go12) := (by rw [hw];exact HP20.2);have hp_ : Kd.R (Kd.int .u8) 5 w21 w0.heap.size (fun k_ => (P0_ k_ ∨ w.heap.size ≤ k_)) (.slice (some ⟨go12,0,none⟩) x0_1.length co12) y516 := (by rw [hw,Ny516.out];exact HP20.1);clear HP20;replace HB := am ((by rw [hw];exact zQS (HB.out) GB12.out : Below w0.heap.size w0 w21));replace HK := am (Kept.of_grown (S := (fun k_ => P0_ k_)) hg (by repeat (first | (with_reducible first | exact HK.out | apply Kept.alloc | apply Kept.drewN | apply Kept.drew) | exact HK.out)) (fun k_ e_ => (HO_0.out.1 k_ e_)));replace HO_0 := am (hp_);clear hg hw hp_))
           go_roundg kj3
           case measure => have := HK1.out;have := HJ3.out;omega
           case rel => exact ⟨(y516),(x1_1),(ji14),(by first | rfl | (simp;done) | (simp [*];done)),(by first | rfl | (simp;done) | (simp only [← hji14] <;> (first | rfl | simp)) | (simp [*];done)),H',⟨by have := HK1.out;have := HJ3.out;omega⟩,⟨by (with_reducible repeat (first | apply Kd.zQw | apply Kd.zQu | apply Kd.zQx));exact HO_0.out⟩,⟨by repeat (first | (with_reducible first | exact HK.out | apply Kept.alloc | apply Kept.drewN | apply Kept.drew) | exact HK.out)⟩,⟨pB⟩⟩
          ·rw [if_neg c16] at H
           exact absurd H (by simp)
         ·rw [if_neg c15] at H
          exact absurd H (by simp)
        ·rw [if_neg c13] at H
         have c13b0 : decide (0 < x6_1) = false := decide_eq_false c13
         clear c13
         obtain ⟨y517,hy517⟩ : ∃ y_ : List Int,y_ = (([49] : List Int)) := ⟨_,rfl⟩
         replace H : (if y517.length + y514.length < 140737488355328 then (dec_tidy.l0 kj3 (y517 ++ y514) (wrap64 (x1_1 + 1)) (wrap64 (x6_1 - 1))) else (none)) = some (r1,r2) := by first | (rw [hy517];with_reducible exact H) | (have H2_ := (Option.bind_some _ _).symm.trans H;rw [hy517];with_reducible exact H2_) | (have H2_ := (Option.bind_some _ _).symm.trans H;with_reducible exact H2_) | with_reducible exact H | (rw [hy517];exact H) | exact H
         have Ny517 := am hy517
         clear hy517
         by_cases c22 : y517.length + y514.length < 140737488355328
         ·rw [if_pos c22] at H
          have LMc22 := am c22
          clear c22
          obtain ⟨y520,hy520⟩ : ∃ y_ : List Int,y_ = (y517 ++ y514) := ⟨_,rfl⟩
          replace H : (dec_tidy.l0 kj3 y520 (wrap64 (x1_1 + 1)) (wrap64 (x6_1 - 1))) = some (r1,r2) := by first | (rw [hy520];with_reducible exact H) | (have H2_ := (Option.bind_some _ _).symm.trans H;rw [hy520];with_reducible exact H2_) | (have H2_ := (Option.bind_some _ _).symm.trans H;with_reducible exact H2_) | with_reducible exact H | (rw [hy520];exact H) | exact H
          have Ny520 := am hy520
          clear hy520
          have H' := am H
          clear H
          have p12 : 0 ≤ (x6_1 : Int) := pD
          have q12 : (x6_1 : Int) < ((x0_1.length : Int) : Int) := pD
          obtain ⟨go12,co12,eo12,gb12,gl12,cl12,HG12⟩ := Kd.zWr HO_0.out (by omega)
          (first | cases eo12 | (injection eo12 with ea_ en_ ec_;(first | subst ea_ | (injection ea_ with ea_;subst ea_));subst ec_;clear en_))
          have GB12 := am gb12
          have GG12 := am HG12
          clear gb12 gl12 HG12
          have HMgo12 := am (show (P0_ go12 ∨ w.heap.size ≤ go12) from (HO_0.out.1 _ rfl))
          obtain ⟨hx12_0,hf12_0⟩ := Kd.zXR 0 HO_0.out (x6_1 : Int) p12 q12
          replace p12 := eq_true p12
          replace q12 := eq_true q12
          have HP23 := Kd.zYD HO_0.out (x6_1 : Int) 48
          go_wp2_with (first | ((with_reducible refine zXw (t := 5) (p := 23) rfl ?_);refine zXs (t := 5) (p := 23) (v := ?vo_w24) (w1 := (wc.setCell ⟨go12,(x6_1 : Int).toNat,none⟩ (.int .u8 48))) ?hg ?ho ?hn ?hr ?_;(case ho => rfl);(case hg => rfl);(case hn => rfl);(case hr => first | (go_simp;done) | (go_simp;rfl));intro w24 hw;have hg : wc.grownBy w24 (some go12) := (by rw [hw];exact HP23.2);have hp_ : Kd.R (Kd.int .u8) 5 w24 w0.heap.size (fun k_ => (P0_ k_ ∨ w.heap.size ≤ k_)) (.slice (some ⟨go12,0,none⟩) x0_1.length co12) y514 := (by rw [hw,Ny514.out];exact HP23.1);clear HP23;replace HB := am ((by rw [hw];exact zQS (HB.out) GB12.out : Below w0.heap.size w0 w24));replace HK := am (Kept.of_grown (S := (fun k_ => P0_ k_)) hg (by repeat (first | (with_reducible first | exact HK.out | apply Kept.alloc | apply Kept.drewN | apply Kept.drew) | exact HK.out)) (fun k_ e_ => (HO_0.out.1 k_ e_)));replace HO_0 := am (hp_);clear hg hw hp_) | ((with_reducible refine zQJ (N := 33) rfl ?_);refine Kd.R_lit (Kd.int .u8) _ 5 ?hg (N := 33) ?hd (xs := ([49] : List Int)) (inner := [.int .u8 49]) (ok := fun _ => True) (okp := fun _ => True) ?hr ?hp (fun _ hk => hk) trivial (Below.refl _ _) (Nat.le_refl _) (by simp) ?_;(case hd => rfl);(case hg => rfl);(case hr => first | (go_simp;done) | (go_simp;rfl));(case hp => exact (Reps.one (show Kd.M (Kd.int .u8) _ _ _ 49 [.int .u8 49] from rfl) (Reps.none _ _)));intro v518 w25 ho26 hb hg_ hnew_;clear hg_ hnew_;(first | rw [← Ny517.out] at ho26 | (simp only [Int.reduceToNat] at ho26;rw [← Ny517.out] at ho26));have HO519 := am (Kd.zQy (Kd.zQC (Kd.zYm (M := fun k_ => (P0_ k_ ∨ w.heap.size ≤ k_)) ho26 (by first | exact HK.out.1 | exact (show Kept w _ (fun k_ => P0_ k_) from by repeat (first | (with_reducible first | exact HK.out | apply Kept.alloc | apply Kept.drewN | apply Kept.drew) | exact HK.out)).1) (fun k_ h_ => .inr h_)) (Kd.R_lt (pR HO_0.out))) (zQc pB));replace HO_0 := am (Kd.zQt (pR HO_0.out) (Kd.zQs ho26) hb);replace HK := am (Kept.below (S := (fun k_ => P0_ k_)) (by repeat (first | (with_reducible first | exact HK.out | apply Kept.alloc | apply Kept.drewN | apply Kept.drew) | exact HK.out)) hb);replace HB := am (zQf pB hb);clear hb ho26) | ((with_reducible refine zQD (b := .append) (xs := #[.tmp 33,.tmp 34]) rfl ?_);at_builtin;refine Kd.zXG (Kd.int .u8) (w0 := w0) w0.heap.size rfl (.tmp 33) (.tmp 34) 75 5 (.int .u8 0) 1 rfl Tryz.underlying75 info5 rfl (by decide) (by omega) v518 y517 y514 _ _ _ (fun k_ => (P0_ k_ ∨ w.heap.size ≤ k_) ∧ some k_ ≠ (.slice (some ⟨go12,0,none⟩) x0_1.length co12 : Value).ownBlock) (fun _ => False) rfl rfl ?aO ?aR (fun _ _ h => h) (fun _ h => h.elim) ?aF ?aB ?aS ?aL ?_;(case aR => rw [show x0_1.length = y514.length from (Kd.zQh HO_0.out).1];repeat (first | exact (Kd.zQh HO_0.out).2.2 | (with_reducible refine Kd.zQj ?_ _) | (with_reducible refine Kd.zQi ?_ _) | (with_reducible refine Kd.zQv ?_)));(case aB => exact pB);(case aF => exact (fun k_ hk => ⟨(.inr (Nat.le_trans (by first | exact HK.out.1 | exact (show Kept w _ (fun k_ => P0_ k_) from by repeat (first | (with_reducible first | exact HK.out | apply Kept.alloc | apply Kept.drewN | apply Kept.drew) | exact HK.out)).1) hk)),Kd.fresh' (Kd.R_lt (pR HO_0.out)) k_ hk⟩));(case aO => exact (by (with_reducible repeat (first | apply Kd.zQw | apply Kd.zQu | apply Kd.zQx));exact Kd.zQE HO519.out (fun _ hk => ⟨hk.1.1,hk.2⟩)));(case aS => exact (zQc pB));(case aL => have := LMc22.out;have hlx_ := (Kd.zQh HO_0.out).1;omega);intro v521 w27 ho hb hg hat;rw [← Ny520.out] at ho;replace HO_0 := am (Kd.zZo (ok := (fun k_ => (P0_ k_ ∨ w.heap.size ≤ k_))) (pR HO_0.out) hg hat);replace HB := am (hb);replace HK := am (Kept.of_grown (S := (fun k_ => P0_ k_)) hg (by repeat (first | (with_reducible first | exact HK.out | apply Kept.alloc | apply Kept.drewN | apply Kept.drew) | exact HK.out)) (fun k_ e_ => (HO519.out.1 k_ e_).1.1));have HO522 := am (ho);clear HO519;clear ho hb hg hat))
          go_roundg kj3
          case measure => have := HK1.out;have := HJ3.out;omega
          case rel => exact ⟨(y520),(wrap64 (x1_1 + 1)),(wrap64 (x6_1 - 1)),(by first | rfl | (simp;done) | (simp [*];done)),(by first | rfl | (simp;done) | (simp [*];done)),H',⟨by have := HK1.out;have := HJ3.out;omega⟩,⟨by (with_reducible repeat (first | apply Kd.zQw | apply Kd.zQu | apply Kd.zQx));exact Kd.zQE HO522.out (fun _ hk => hk.1)⟩,⟨by repeat (first | (with_reducible first | exact HK.out | apply Kept.alloc | apply Kept.drewN | apply Kept.drew) | exact HK.out)⟩,⟨pB⟩⟩
         ·rw [if_neg c22] at H
          exact absurd H (by simp)
       ·rw [if_neg c11] at H
        exact absurd H (by simp)
      ·rw [if_neg c10] at H
       exact absurd H (by simp)
     ·replace c9 := Bool.eq_false_iff.mpr c9
      subst c9
      rw [if_neg (show ¬ (false = true) by decide)] at H
      replace H := Option.bind_eq_some_iff.mp H
      obtain ⟨t523,A280,H⟩ := H
      try dsimp only at H
      have A28 := am A280
      clear A280
      simp only [Option.some.injEq,Prod.mk.injEq] at H
      obtain ⟨rfl,rfl⟩ := H
      have hcv29 := zKq (P := Tryz.prog) Tryz.underlying75 Tryz.underlying5 Tryz.underlying9 (Kd.zZA HO_0.out)
      try have hcq30 := fun n_ : Nat => zKq (P := Tryz.prog) Tryz.underlying75 Tryz.underlying5 Tryz.underlying9 (Kd.zZA (Kd.zQu HO_0.out n_))
      go_wp2_with (first | ((with_reducible refine zQe (f := 76) rfl ?_);refine zQr (some 40) rfl rfl Tryz.func76 (by kernel_rfl) rfl #[.string (strOfNums x0_1),.string (⟨#[48]⟩ : ByteArray)] rfl pM ?_;(with_reducible refine (strings_TrimRight.calls (strOfNums x0_1) (⟨#[48]⟩ : ByteArray) t523 _ A28.out).mono ?_);rintro e w' ⟨rfl,⟨nd,rfl⟩⟩;refine ⟨_,rfl,?_⟩))
      go_ret2
      exact ⟨pE,pB,by repeat (first | (with_reducible first | exact HK.out | apply Kept.alloc | apply Kept.drewN | apply Kept.drew) | exact HK.out)⟩
end Go.Proofs.YtflcanpajgpghaaGreatDoor.Pr
end
section
namespace Go.Proofs.YtflcanpajgpghaaGreatDoorW.PrintWords
open Go.RowKit Go.Proofs.YtflcanpajgpghaaGreatDoorW.PrintLast
section
variable {P : Program} {ops : Array Oper} {rest : List Oper} {o : Oper} {a : Act} {Q : Exit → Act → World → Prop} {W : World}
end
end Go.Proofs.YtflcanpajgpghaaGreatDoorW.PrintWords
namespace Go.Proofs.YtflcanpajgpghaaGreatDoor.Pr
open Go.RowKit Go.Proofs.YtflcanpajgpghaaGreatDoorW.PrintWords Go.Proofs.YtflcanpajgpghaaGreatDoorW.PrintLast Go.Proofs.YtflcanpajgpghaaGreatDoorW.PrintMore
def dec_high.f (k : Nat) (l0 l1 l3 : List Int) (b : Bool) : Option Bool := (b_plus.f k l1 l3).bind fun t => (b_cmp.f k t l0).bind fun c => some (decide (c > 0) || (b && decide (c = 0)))
theorem dec_high.mono : ∀ a0 a1 a2 a3 k,LeO (dec_high.f k a0 a1 a2 a3) (dec_high.f (k + 1) a0 a1 a2 a3) := by
 intro a0 a1 a2 a3 k r h
 unfold dec_high.f at h ⊢
 obtain ⟨t,ht,h⟩ := Option.bind_eq_some_iff.mp h
 obtain ⟨c,hc,h⟩ := Option.bind_eq_some_iff.mp h
 exact Option.bind_eq_some_iff.mpr ⟨t,b_plus.mono _ _ _ _ ht,Option.bind_eq_some_iff.mpr ⟨c,b_cmp.mono _ _ _ _ hc,h⟩⟩
set_option maxRecDepth 100000 in
theorem dec_high.calls (k : Nat) (A0 : Option Addr) (c0 : Nat) (l0 : List Int) (A1 : Option Addr) (c1 : Nat) (l1 : List Int) (A3 : Option Addr) (c3 : Nat) (l3 : List Int) (b r : Bool) (w : World) (hr0 : Kd.C (Kd.int .u32) w A0 l0.length l0) (hc0 : l0.length ≤ c0) (hr1 : Kd.C (Kd.int .u32) w A1 l1.length l1) (hc1 : l1.length ≤ c1) (hr3 : Kd.C (Kd.int .u32) w A3 l3.length l3) (hc3 : l3.length ≤ c3) (h : dec_high.f k l0 l1 l3 b = some r)
  (gx ge : Nat) (hx0 : w.cell? ⟨gx,0,none⟩ = some (.slice A1 l1.length c1)) (hx3 : w.cell? ⟨gx,3,none⟩ = some (.slice A3 l3.length c3)) (he : w.cell? ⟨ge,0,none⟩ = some (.bool b)) :
  Calls Tryz.prog 43 #[.slice A0 l0.length c0,.pointer (some ⟨gx,0,none⟩),.pointer (some ⟨ge,0,none⟩)] w fun e w' => e = .returned (.bool r) ∧ Below w.heap.size w w' := by
 have hu66 := Tryz.underlying70
 have HB := Aside0.mk (Below.refl w.heap.size w)
 unfold dec_high.f at h
 obtain ⟨t,ht,h⟩ := Option.bind_eq_some_iff.mp h
 obtain ⟨c,hc,h⟩ := Option.bind_eq_some_iff.mp h
 obtain rfl := Option.some.inj h
 have HT := Aside0.mk ht
 have HC := Aside0.mk hc
 clear ht hc h
 have HR0 := Aside0.mk hr0
 have HC0 := Aside0.mk hc0
 have HR1 := Aside0.mk hr1
 have HC1 := Aside0.mk hc1
 have HR3 := Aside0.mk hr3
 have HC3 := Aside0.mk hc3
 have HE := Aside0.mk he
 clear hr0 hc0 hr1 hc1 hr3 hc3
 cases b with
 | true =>
  go_enter Tryz.func43,Tryz.ntmps43
  go_wp2_with (first | ((with_reducible refine zQe (f := 44) rfl ?_);refine zQr (some 10) rfl rfl Tryz.func44 (by kernel_rfl) rfl #[.slice A1 l1.length c1,.slice A3 l3.length c3] rfl (by (try simp only [List.map_toArray,List.map_cons,List.map_nil]);first | done | rfl) ?_;(with_reducible refine (b_plus.calls k A1 c1 l1 A3 c3 l3 t _ HR1.out HC1.out HR3.out HC3.out HT.out).mono ?_);rintro e w1 ⟨v,rfl,ho,hb⟩;refine ⟨_,rfl,?_⟩;have HO := Aside0.mk ho;clear ho;obtain ⟨Ao,co,eo⟩ := Kd.zQF HO.out;subst eo;have HE1 := Aside0.mk ((hb.cell (World.block_lt_of_cell? w _ HE.out)).trans HE.out);have HB1 := Aside0.mk hb;have HR01 := Aside0.mk (Kd.zQO HR0.out hb);clear hb) | ((with_reducible refine zQe (f := 45) rfl ?_);refine zQr (some 12) rfl rfl Tryz.func45 (by kernel_rfl) rfl #[.slice Ao t.length co,.slice A0 l0.length c0] rfl (by (try simp only [List.map_toArray,List.map_cons,List.map_nil]);first | done | rfl) ?_;(with_reducible refine (b_cmp.calls k Ao co t A0 c0 l0 c _ ?side1 ?side2 ?side3 HC0.out HC.out).mono ?_);(case side1 => repeat (first | exact (Kd.zQg HO.out).2.2 | (with_reducible refine Kd.zQi ?_ _) | (with_reducible refine Kd.zQv ?_)));(case side2 => exact (Kd.zQg HO.out).2.1);(case side3 => repeat (first | exact HR01.out | (with_reducible refine Kd.zQi ?_ _) | (with_reducible refine Kd.zQv ?_)));rintro e w2 ⟨rfl,⟨nd,rfl⟩⟩;refine ⟨_,rfl,?_⟩;have he1 := HE1.out))
  all_goals (go_ret;exact ⟨by first | rfl | (simp;done) | (simp [*];done) | (simp [*,Int.beq_eq_decide];done) | (by_cases hz_ : c = 0 <;> simp_all),by first | exact zQN HB1.out _ | exact HB1.out⟩)
 | false =>
  go_enter Tryz.func43,Tryz.ntmps43
  go_wp2_with (first | ((with_reducible refine zQe (f := 44) rfl ?_);refine zQr (some 10) rfl rfl Tryz.func44 (by kernel_rfl) rfl #[.slice A1 l1.length c1,.slice A3 l3.length c3] rfl (by (try simp only [List.map_toArray,List.map_cons,List.map_nil]);first | done | rfl) ?_;(with_reducible refine (b_plus.calls k A1 c1 l1 A3 c3 l3 t _ HR1.out HC1.out HR3.out HC3.out HT.out).mono ?_);rintro e w1 ⟨v,rfl,ho,hb⟩;refine ⟨_,rfl,?_⟩;have HO := Aside0.mk ho;clear ho;obtain ⟨Ao,co,eo⟩ := Kd.zQF HO.out;subst eo;have HE1 := Aside0.mk ((hb.cell (World.block_lt_of_cell? w _ HE.out)).trans HE.out);have HB1 := Aside0.mk hb;have HR01 := Aside0.mk (Kd.zQO HR0.out hb);clear hb) | ((with_reducible refine zQe (f := 45) rfl ?_);refine zQr (some 12) rfl rfl Tryz.func45 (by kernel_rfl) rfl #[.slice Ao t.length co,.slice A0 l0.length c0] rfl (by (try simp only [List.map_toArray,List.map_cons,List.map_nil]);first | done | rfl) ?_;(with_reducible refine (b_cmp.calls k Ao co t A0 c0 l0 c _ ?side1 ?side2 ?side3 HC0.out HC.out).mono ?_);(case side1 => repeat (first | exact (Kd.zQg HO.out).2.2 | (with_reducible refine Kd.zQi ?_ _) | (with_reducible refine Kd.zQv ?_)));(case side2 => exact (Kd.zQg HO.out).2.1);(case side3 => repeat (first | exact HR01.out | (with_reducible refine Kd.zQi ?_ _) | (with_reducible refine Kd.zQv ?_)));rintro e w2 ⟨rfl,⟨nd,rfl⟩⟩;refine ⟨_,rfl,?_⟩;have he1 := HE1.out))
  all_goals (go_ret;exact ⟨by first | rfl | (simp;done) | (simp [*];done) | (simp [*,Int.beq_eq_decide];done) | (by_cases hz_ : c = 0 <;> simp_all),by first | exact zQN HB1.out _ | exact HB1.out⟩)
end Go.Proofs.YtflcanpajgpghaaGreatDoor.Pr
end
section
namespace Go.Proofs.YtflcanpajgpghaaGreatDoor.Pr
open Go.RowKit Go.Proofs.YtflcanpajgpghaaGreatDoorW.PrintWords Go.Proofs.YtflcanpajgpghaaGreatDoorW.PrintLast Go.Proofs.YtflcanpajgpghaaGreatDoorW.PrintMore
attribute [local go_sem] zXm zXk zXy zXx zXa zQZ zXl zXj
mutual
def dec_shortest.j0 : Nat → Int → List Int → List Int → List Int → List Int → Bool → Option (ByteArray × Int)
 | 0,_,_,_,_,_,_ => none
 | k + 1,x7,x537000,x537001,x537002,x537003,x538000 => dec_shortest.l0 k x7 x537000 x537001 x537002 x537003 x538000
def dec_shortest.l0 : Nat → Int → List Int → List Int → List Int → List Int → Bool → Option (ByteArray × Int)
 | 0,_,_,_,_,_,_ => none
 | k + 1,x7,x537000,x537001,x537002,x537003,x538000 => (b_times.f k x537001 10 0).bind fun t552 => ((dec_high.f k t552 x537000 x537003 x538000).bind fun t555 => (if t555 = true then ((b_times.f k x537001 10 0).bind fun t556 => (dec_shortest.l0 k (wrap64 (x7 + 1)) x537000 t556 x537002 x537003 x538000)) else (dec_shortest.l1 k x7 x537000 x537001 x537002 x537003 x538000)))
def dec_shortest.l1 : Nat → Int → List Int → List Int → List Int → List Int → Bool → Option (ByteArray × Int)
 | 0,_,_,_,_,_,_ => none
 | k + 1,x7,x537000,x537001,x537002,x537003,x538000 => (dec_high.f k x537001 x537000 x537003 x538000).bind fun t559 => (if t559 = true then (dec_shortest.l2 k x7 ([] : List Int) x537000 x537001 x537002 x537003 x538000) else ((b_times.f k x537000 10 0).bind fun t560 => ((b_times.f k x537002 10 0).bind fun t563 => ((b_times.f k x537003 10 0).bind fun t566 => (dec_shortest.l1 k (wrap64 (x7 - 1)) t560 x537001 t563 t566 x538000)))))
def dec_shortest.l2 : Nat → Int → List Int → List Int → List Int → List Int → List Int → Bool → Option (ByteArray × Int)
 | 0,_,_,_,_,_,_,_ => none
 | k + 1,x7,x8,x537000,x537001,x537002,x537003,x538000 => dec_shortest.l3 k x7 x8 0 x537000 x537001 x537002 x537003 x538000
def dec_shortest.l3 : Nat → Int → List Int → Int → List Int → List Int → List Int → List Int → Bool → Option (ByteArray × Int)
 | 0,_,_,_,_,_,_,_,_ => none
 | k + 1,x7,x8,x9,x537000,x537001,x537002,x537003,x538000 => (b_cmp.f k x537000 x537001).bind fun t569 => (if t569 ≥ 0 then ((b_minus.f k x537000 x537001).bind fun t570 => (dec_shortest.l3 k x7 x8 ((x9 + 1) % 256) t570 x537001 x537002 x537003 x538000)) else ((b_cmp.f k x537000 x537002).bind fun t573 => (if t573 < 0 then ((dec_high.f k x537001 x537000 x537003 x538000).bind fun t574 => (dec_shortest.j5 k x7 x8 x9 true t574 x537000 x537001 x537002 x537003 x538000)) else (if x538000 = true then ((dec_high.f k x537001 x537000 x537003 x538000).bind fun t575 => (dec_shortest.j5 k x7 x8 x9 (t573 == 0) t575 x537000 x537001 x537002 x537003 x538000)) else ((dec_high.f k x537001 x537000 x537003 x538000).bind fun t576 => (dec_shortest.j5 k x7 x8 x9 false t576 x537000 x537001 x537002 x537003 x538000))))))
def dec_shortest.j5 : Nat → Int → List Int → Int → Bool → Bool → List Int → List Int → List Int → List Int → Bool → Option (ByteArray × Int)
 | 0,_,_,_,_,_,_,_,_,_,_ => none
 | k + 1,x7,x8,x9,x11,x12,x537000,x537001,x537002,x537003,x538000 => if x11 = true then (dec_shortest.j6 k x7 x8 x9 x11 x12 false x537000 x537001 x537002 x537003 x538000) else (dec_shortest.j6 k x7 x8 x9 x11 x12 (!x12) x537000 x537001 x537002 x537003 x538000)
def dec_shortest.j6 : Nat → Int → List Int → Int → Bool → Bool → Bool → List Int → List Int → List Int → List Int → Bool → Option (ByteArray × Int)
 | 0,_,_,_,_,_,_,_,_,_,_,_ => none
 | k + 1,x7,x8,x9,x11,x12,x121,x537000,x537001,x537002,x537003,x538000 => if x121 = true then (if x8.length < 140737488355328 then ((b_times.f k x537000 10 0).bind fun t580 => ((b_times.f k x537002 10 0).bind fun t583 => ((b_times.f k x537003 10 0).bind fun t586 => (dec_shortest.l2 k x7 (x8 ++ [(48 + x9) % 256]) t580 x537001 t583 t586 x538000)))) else (none)) else ((b_up.f k x537000 1).bind fun t589 => ((b_cmp.f k t589 x537001).bind fun t592 => (if x12 = true then (if x11 = true then (if t592 > 0 then (if x8.length < 140737488355328 then ((dec_tidy.f k (x8 ++ [(48 + ((x9 + 1) % 256)) % 256]) x7).bind fun bt596 => (some (bt596.1,bt596.2))) else (none)) else (if t592 = 0 then (if (Int.tmod x9 2) = 1 then (if x8.length < 140737488355328 then ((dec_tidy.f k (x8 ++ [(48 + ((x9 + 1) % 256)) % 256]) x7).bind fun bt601 => (some (bt601.1,bt601.2))) else (none)) else (if x8.length < 140737488355328 then ((dec_tidy.f k (x8 ++ [(48 + x9) % 256]) x7).bind fun bt606 => (some (bt606.1,bt606.2))) else (none))) else (if x8.length < 140737488355328 then ((dec_tidy.f k (x8 ++ [(48 + x9) % 256]) x7).bind fun bt611 => (some (bt611.1,bt611.2))) else (none)))) else (if x8.length < 140737488355328 then ((dec_tidy.f k (x8 ++ [(48 + ((x9 + 1) % 256)) % 256]) x7).bind fun bt616 => (some (bt616.1,bt616.2))) else (none))) else (if x8.length < 140737488355328 then ((dec_tidy.f k (x8 ++ [(48 + x9) % 256]) x7).bind fun bt621 => (some (bt621.1,bt621.2))) else (none)))))
end
def dec_shortest.f (k : Nat) (a0 : Int) : Option (ByteArray × Int) := (dec_spans.f k a0).bind fun bt524 => ((b_len.f bt524.1).bind fun t538 => ((b_len.f bt524.2.1).bind fun t539 => (if ((wrap64 ((wrap64 (t538 - t539)) * 1233)) / 4096) ≥ 0 then ((b_tens.f k bt524.2.1 ((wrap64 ((wrap64 (t538 - t539)) * 1233)) / 4096)).bind fun t540 => (dec_shortest.j0 k ((wrap64 ((wrap64 (t538 - t539)) * 1233)) / 4096) bt524.1 t540 bt524.2.2.1 bt524.2.2.2 ((Go.bits .and .u64 a0 1) == 0))) else ((b_tens.f k bt524.1 (wrap64 (-((wrap64 ((wrap64 (t538 - t539)) * 1233)) / 4096)))).bind fun t543 => ((b_tens.f k bt524.2.2.1 (wrap64 (-((wrap64 ((wrap64 (t538 - t539)) * 1233)) / 4096)))).bind fun t546 => ((b_tens.f k bt524.2.2.2 (wrap64 (-((wrap64 ((wrap64 (t538 - t539)) * 1233)) / 4096)))).bind fun t549 => (dec_shortest.j0 k ((wrap64 ((wrap64 (t538 - t539)) * 1233)) / 4096) t543 bt524.2.1 t546 t549 ((Go.bits .and .u64 a0 1) == 0))))))))
theorem dec_shortest.mono_l : ∀ k,(∀ y0 y1 y2 y3 y4 y5,LeO (dec_shortest.j0 k y0 y1 y2 y3 y4 y5) (dec_shortest.j0 (k + 1) y0 y1 y2 y3 y4 y5)) ∧ (∀ y0 y1 y2 y3 y4 y5,LeO (dec_shortest.l0 k y0 y1 y2 y3 y4 y5) (dec_shortest.l0 (k + 1) y0 y1 y2 y3 y4 y5)) ∧ (∀ y0 y1 y2 y3 y4 y5,LeO (dec_shortest.l1 k y0 y1 y2 y3 y4 y5) (dec_shortest.l1 (k + 1) y0 y1 y2 y3 y4 y5)) ∧ (∀ y0 y1 y2 y3 y4 y5 y6,LeO (dec_shortest.l2 k y0 y1 y2 y3 y4 y5 y6) (dec_shortest.l2 (k + 1) y0 y1 y2 y3 y4 y5 y6)) ∧ (∀ y0 y1 y2 y3 y4 y5 y6 y7,LeO (dec_shortest.l3 k y0 y1 y2 y3 y4 y5 y6 y7) (dec_shortest.l3 (k + 1) y0 y1 y2 y3 y4 y5 y6 y7)) ∧ (∀ y0 y1 y2 y3 y4 y5 y6 y7 y8 y9,LeO (dec_shortest.j5 k y0 y1 y2 y3 y4 y5 y6 y7 y8 y9) (dec_shortest.j5 (k + 1) y0 y1 y2 y3 y4 y5 y6 y7 y8 y9)) ∧ (∀ y0 y1 y2 y3 y4 y5 y6 y7 y8 y9 y10,LeO (dec_shortest.j6 k y0 y1 y2 y3 y4 y5 y6 y7 y8 y9 y10) (dec_shortest.j6 (k + 1) y0 y1 y2 y3 y4 y5 y6 y7 y8 y9 y10))
 | 0 => ⟨fun _ _ _ _ _ _ r h => by simp [dec_shortest.j0] at h,fun _ _ _ _ _ _ r h => by simp [dec_shortest.l0] at h,fun _ _ _ _ _ _ r h => by simp [dec_shortest.l1] at h,fun _ _ _ _ _ _ _ r h => by simp [dec_shortest.l2] at h,fun _ _ _ _ _ _ _ _ r h => by simp [dec_shortest.l3] at h,fun _ _ _ _ _ _ _ _ _ _ r h => by simp [dec_shortest.j5] at h,fun _ _ _ _ _ _ _ _ _ _ _ r h => by simp [dec_shortest.j6] at h⟩
 | k + 1 => by
  obtain ⟨ih0,ih1,ih2,ih3,ih4,ih5,ih6⟩ := dec_shortest.mono_l k
  refine ⟨?_,?_,?_,?_,?_,?_,?_⟩
  all_goals intros
  all_goals first | unfold dec_shortest.j0 | unfold dec_shortest.l0 | unfold dec_shortest.l1 | unfold dec_shortest.l2 | unfold dec_shortest.l3 | unfold dec_shortest.j5 | unfold dec_shortest.j6
  all_goals repeat' first
   | (with_reducible exact ih0 _ _ _ _ _ _)
   | (with_reducible exact ih1 _ _ _ _ _ _)
   | (with_reducible exact ih2 _ _ _ _ _ _)
   | (with_reducible exact ih3 _ _ _ _ _ _ _)
   | (with_reducible exact ih4 _ _ _ _ _ _ _ _)
   | (with_reducible exact ih5 _ _ _ _ _ _ _ _ _ _)
   | (with_reducible exact ih6 _ _ _ _ _ _ _ _ _ _ _)
   | (with_reducible exact b_cmp.mono _ _ _)
   | (with_reducible exact b_minus.mono _ _ _)
   | (with_reducible exact b_tens.mono _ _ _)
   | (with_reducible exact b_times.mono _ _ _ _)
   | (with_reducible exact b_up.mono _ _ _)
   | (with_reducible exact dec_high.mono _ _ _ _ _)
   | (with_reducible exact dec_spans.mono _ _)
   | (with_reducible exact dec_tidy.mono _ _ _)
   | (with_reducible exact LeO.refl _)
   | (with_reducible exact LeO.none _)
   | (with_reducible refine LeO.ite ?_ ?_)
   | (with_reducible refine LeO.bind ?_ (fun _ => ?_))
   | exact ih0 _ _ _ _ _ _
   | exact ih1 _ _ _ _ _ _
   | exact ih2 _ _ _ _ _ _
   | exact ih3 _ _ _ _ _ _ _
   | exact ih4 _ _ _ _ _ _ _ _
   | exact ih5 _ _ _ _ _ _ _ _ _ _
   | exact ih6 _ _ _ _ _ _ _ _ _ _ _
   | exact b_cmp.mono _ _ _
   | exact b_minus.mono _ _ _
   | exact b_tens.mono _ _ _
   | exact b_times.mono _ _ _ _
   | exact b_up.mono _ _ _
   | exact dec_high.mono _ _ _ _ _
   | exact dec_spans.mono _ _
   | exact dec_tidy.mono _ _ _
   | exact LeO.none _
   | refine LeO.ite ?_ ?_
   | refine LeO.bind ?_ (fun _ => ?_)
theorem dec_shortest.mono : ∀ a0 k,LeO (dec_shortest.f k a0) (dec_shortest.f (k + 1) a0) := by
 intro a0 k
 obtain ⟨ih0,ih1,ih2,ih3,ih4,ih5,ih6⟩ := dec_shortest.mono_l k
 unfold dec_shortest.f
 repeat' first
   | (with_reducible exact ih0 _ _ _ _ _ _)
   | (with_reducible exact ih1 _ _ _ _ _ _)
   | (with_reducible exact ih2 _ _ _ _ _ _)
   | (with_reducible exact ih3 _ _ _ _ _ _ _)
   | (with_reducible exact ih4 _ _ _ _ _ _ _ _)
   | (with_reducible exact ih5 _ _ _ _ _ _ _ _ _ _)
   | (with_reducible exact ih6 _ _ _ _ _ _ _ _ _ _ _)
   | (with_reducible exact b_cmp.mono _ _ _)
   | (with_reducible exact b_minus.mono _ _ _)
   | (with_reducible exact b_tens.mono _ _ _)
   | (with_reducible exact b_times.mono _ _ _ _)
   | (with_reducible exact b_up.mono _ _ _)
   | (with_reducible exact dec_high.mono _ _ _ _ _)
   | (with_reducible exact dec_spans.mono _ _)
   | (with_reducible exact dec_tidy.mono _ _ _)
   | (with_reducible exact LeO.refl _)
   | (with_reducible exact LeO.none _)
   | (with_reducible refine LeO.ite ?_ ?_)
   | (with_reducible refine LeO.bind ?_ (fun _ => ?_))
   | exact ih0 _ _ _ _ _ _
   | exact ih1 _ _ _ _ _ _
   | exact ih2 _ _ _ _ _ _
   | exact ih3 _ _ _ _ _ _ _
   | exact ih4 _ _ _ _ _ _ _ _
   | exact ih5 _ _ _ _ _ _ _ _ _ _
   | exact ih6 _ _ _ _ _ _ _ _ _ _ _
   | exact b_cmp.mono _ _ _
   | exact b_minus.mono _ _ _
   | exact b_tens.mono _ _ _
   | exact b_times.mono _ _ _ _
   | exact b_up.mono _ _ _
   | exact dec_high.mono _ _ _ _ _
   | exact dec_spans.mono _ _
   | exact dec_tidy.mono _ _ _
   | exact LeO.none _
   | refine LeO.ite ?_ ?_
   | refine LeO.bind ?_ (fun _ => ?_)
def dec_shortest.T4 : Bool × List (List Nat × List Nat) := (true,[([],[]),([0],[0]),([1],[1]),([],[]),([3],[3]),([4,2],[4]),([2,5],[2,5]),([6],[6]),([7],[7]),([8,5,0,1,2,3,4,5,6,7,8],[8])])
def dec_shortest.B4 : List Nat := [0,1,3,0,8,31,63,127,255,511]
theorem dec_shortest.tab4 : rtab .any (opsOf Tryz.f16 4) = dec_shortest.T4 := by kernel_rfl
theorem dec_shortest.bits4 : zXL dec_shortest.T4.2 dec_shortest.B4 = true := by kernel_rfl
def dec_shortest.T7 : Bool × List (List Nat × List Nat) := (true,[([],[]),([0],[0]),([],[]),([2],[2]),([1,3],[1,3]),([],[]),([5],[5]),([],[]),([7],[7]),([6,8,4],[6,8]),([],[]),([10],[10]),([],[]),([12],[12]),([11,13,9],[11,13]),([0,1,2,3,4,5,6,10,11],[]),([15,4,14,0,1,2,3,4,5,6,10,11],[4,15]),([0,1,2,3,4,5,6,7,8,9,10,11,15,16],[]),([17,9,16,0,1,2,3,4,5,6,7,8,9,10,11,15,16],[9,17]),([0,1,2,3,4,5,6,7,8,9,10,11,12,13,14,15,16,17,18],[]),([19,14,18,0,1,2,3,4,5,6,7,8,9,10,11,12,13,14,15,16,17,18],[14,19])])
def dec_shortest.B7 : List Nat := [0,1,0,4,15,0,32,0,128,511,0,1024,0,4096,16383,3199,65535,131071,262143,524287,1048575]
theorem dec_shortest.tab7 : rtab .any (opsOf Tryz.f16 7) = dec_shortest.T7 := by kernel_rfl
theorem dec_shortest.bits7 : zXL dec_shortest.T7.2 dec_shortest.B7 = true := by kernel_rfl
def dec_shortest.T11 : Bool × List (List Nat × List Nat) := (true,[([],[]),([0],[0]),([1],[1]),([],[]),([3],[3]),([4,2],[4]),([],[]),([6],[6]),([7,5],[7]),([],[]),([9],[9]),([0,1,2,3,4,6,7],[]),([11,2,8,0,1,2,3,4,6,7],[2,11]),([0,1,2,3,4,5,6,7,11,12],[]),([13,5,12,0,1,2,3,4,5,6,7,11,12],[5,13]),([0,1,2,3,4,5,6,7,8,11,12,13,14],[]),([15,8,14,0,1,2,3,4,5,6,7,8,11,12,13,14],[8,15]),([10,16,0,1,2,3,4,5,6,7,8,9,10,11,12,13,14,15,16],[9,10])])
def dec_shortest.B11 : List Nat := [0,1,3,0,8,31,0,64,255,0,512,223,2559,6655,14847,31231,63999,131071]
theorem dec_shortest.tab11 : rtab .any (opsOf Tryz.f16 11) = dec_shortest.T11 := by kernel_rfl
theorem dec_shortest.bits11 : zXL dec_shortest.T11.2 dec_shortest.B11 = true := by kernel_rfl
def dec_shortest.T20 : Bool × List (List Nat × List Nat) := (true,[([],[]),([0],[0]),([1],[1]),([],[]),([3],[3]),([4,2],[4]),([],[]),([6],[6]),([7,5],[7]),([0,1,2,3,4,6,7],[]),([9,2,8,0,1,2,3,4,6,7],[2,9]),([0,1,2,3,4,5,6,7,9,10],[]),([11,5,10,0,1,2,3,4,5,6,7,9,10],[5,11]),([0,1,2,3,4,5,6,7,8,9,10,11,12],[]),([13,8,12,0,1,2,3,4,5,6,7,8,9,10,11,12],[8,13])])
def dec_shortest.B20 : List Nat := [0,1,3,0,8,31,0,64,255,223,1023,2047,4095,8191,16383]
theorem dec_shortest.tab20 : rtab .any (opsOf Tryz.f16 20) = dec_shortest.T20 := by kernel_rfl
theorem dec_shortest.bits20 : zXL dec_shortest.T20.2 dec_shortest.B20 = true := by kernel_rfl
set_option maxHeartbeats 8000000 in
set_option maxRecDepth 100000 in
theorem dec_shortest.calls (k : Nat) (a0 : Int) (r1 : ByteArray) (r2 : Int) (w : World) (h : dec_shortest.f k a0 = some (r1,r2)) :
  Calls Tryz.prog 16 #[.int .u64 a0] w fun e w' => e = .returned (.tuple #[.string r1,.int .i64 r2]) ∧ Below w.heap.size w w' := by
 have hu70 := Tryz.underlying70
 have HB := am (Below.refl w.heap.size w)
 have H : ((dec_spans.f k a0).bind fun bt524 => ((b_len.f bt524.1).bind fun t538 => ((b_len.f bt524.2.1).bind fun t539 => (if ((wrap64 ((wrap64 (t538 - t539)) * 1233)) / 4096) ≥ 0 then ((b_tens.f k bt524.2.1 ((wrap64 ((wrap64 (t538 - t539)) * 1233)) / 4096)).bind fun t540 => (dec_shortest.j0 k ((wrap64 ((wrap64 (t538 - t539)) * 1233)) / 4096) bt524.1 t540 bt524.2.2.1 bt524.2.2.2 ((Go.bits .and .u64 a0 1) == 0))) else ((b_tens.f k bt524.1 (wrap64 (-((wrap64 ((wrap64 (t538 - t539)) * 1233)) / 4096)))).bind fun t543 => ((b_tens.f k bt524.2.2.1 (wrap64 (-((wrap64 ((wrap64 (t538 - t539)) * 1233)) / 4096)))).bind fun t546 => ((b_tens.f k bt524.2.2.2 (wrap64 (-((wrap64 ((wrap64 (t538 - t539)) * 1233)) / 4096)))).bind fun t549 => (dec_shortest.j0 k ((wrap64 ((wrap64 (t538 - t539)) * 1233)) / 4096) t543 bt524.2.1 t546 t549 ((Go.bits .and .u64 a0 1) == 0))))))))) = some (r1,r2) := h
 clear h
 replace H := Option.bind_eq_some_iff.mp H
 obtain ⟨⟨t524,t527,t530,t533⟩,A20,H⟩ := H
 try dsimp only at H
 have A2 := am A20
 clear A20
 replace H := Option.bind_eq_some_iff.mp H
 obtain ⟨t538,A30,H⟩ := H
 try dsimp only at H
 have A3 := am A30
 clear A30
 replace H := Option.bind_eq_some_iff.mp H
 obtain ⟨t539,A40,H⟩ := H
 try dsimp only at H
 have A4 := am A40
 clear A40
 have HC5 := am H
 clear H
 go_enter Tryz.func16,Tryz.ntmps16
 try go_wp2_with (first | ((with_reducible refine zQe (f := 42) rfl ?_);refine zQr (some 15) rfl rfl Tryz.func42 (by kernel_rfl) rfl #[.int .u64 a0] rfl pM ?_;(with_reducible refine (dec_spans.calls k a0 t524 t527 t530 t533 _ A2.out).mono ?_);rintro e w6 ⟨v525,v528,v531,v534,rfl,ho0,ho1,ho2,ho3,hb⟩;refine ⟨_,rfl,?_⟩;have HO526 := am (Kd.zQy (Kd.zQE (ok' := fun k_ => True) ho0 (fun _ hk_ => trivial)) (zQc pB));have HO529 := am (Kd.zQQ (Kd.zQk (ok' := fun k_ => some k_ ≠ (v525 : Value).ownBlock) ho1 (fun k_ hk_ => hk_.2)) (zQc pB));have HO532 := am (Kd.zQQ (Kd.zQk (ok' := fun k_ => some k_ ≠ (v525 : Value).ownBlock) ho2 (fun k_ hk_ => hk_.2)) (zQc pB));have HO535 := am (Kd.zQQ (Kd.zQk (ok' := fun k_ => some k_ ≠ (v525 : Value).ownBlock) ho3 (fun k_ hk_ => hk_.2)) (zQc pB));replace HB := am (zQf pB hb);(try clear hb);(try clear ho0);(try clear ho1);(try clear ho2);(try clear ho3)) | ((with_reducible refine zQJ (N := 4) rfl ?_);refine zXf ?hg (N := 4) ?hd (cs := #[.slice none 0 0,.slice none 0 0,.slice none 0 0,.slice none 0 0]) (t := 70) ?hr ?_;(case hd => rfl);(case hg => rfl);(case hr => first | (go_simp;done) | (go_simp;rfl));intro gb536 hg w7 hbox hb;replace HO526 := am (Kd.zQH (pR HO526.out) hb);replace HO529 := am (Kd.zQl (Kd.zXV (pV HO529.out) gb536 (Nat.le_of_eq hg.symm)) hb);replace HO532 := am (Kd.zQl (Kd.zXV (pV HO532.out) gb536 (Nat.le_of_eq hg.symm)) hb);replace HO535 := am (Kd.zQl (Kd.zXV (pV HO535.out) gb536 (Nat.le_of_eq hg.symm)) hb);have BK536 := am (hbox);have GW536 := am ((by rw [hg];exact (zQc pB) : w.heap.size ≤ gb536));have GE536 := am ((by rw [hg];exact (zQc pB) : w.heap.size ≤ gb536));replace HB := am (zQf pB hb);clear hb hbox hg;obtain ⟨Ao8,co8,eo8⟩ := Kd.zQB HO526.out;subst eo8;have q9 := cf4 BK536.out;obtain ⟨Ao10,co10,eo10⟩ := Kd.zQF HO529.out;subst eo10;obtain ⟨Ao11,co11,eo11⟩ := Kd.zQF HO532.out;subst eo11;obtain ⟨Ao12,co12,eo12⟩ := Kd.zQF HO535.out;subst eo12) | ((with_reducible refine zQJ (N := 5) rfl ?_);refine zXf ?hg (N := 5) ?hd (cs := #[.bool false]) (t := 4) ?hr ?_;(case hd => rfl);(case hg => rfl);(case hr => first | (go_simp;done) | (go_simp;rfl));intro gb537 hg w13 hbox hb;replace HO526 := am (Kd.zQH (by (with_reducible repeat (first | apply Kd.zQw | apply Kd.zQu | apply Kd.zQx));exact (Kd.zQE (Kd.R_far (p := ⟨gb536,3,none⟩) (Kd.R_far (p := ⟨gb536,2,none⟩) (Kd.R_far (p := ⟨gb536,1,none⟩) (Kd.R_far (p := ⟨gb536,0,none⟩) (Kd.zQX HO526.out BK536.out (by decide)) (fun _ hk => hk.2) (.slice Ao8 t524.length co8)) (fun _ hk => hk.2) (.slice Ao10 t527.length co10)) (fun _ hk => hk.2) (.slice Ao11 t530.length co11)) (fun _ hk => hk.2) (.slice Ao12 t533.length co12)) (fun _ h_ => h_.1))) hb);replace HO529 := am (Kd.zQl (Kd.zXV (by (with_reducible repeat (first | apply Kd.zQn | apply Kd.zQm | apply Kd.zQo));exact (Kd.zQk (Kd.V_far (p := ⟨gb536,3,none⟩) (Kd.V_far (p := ⟨gb536,2,none⟩) (Kd.V_far (p := ⟨gb536,1,none⟩) (Kd.V_far (p := ⟨gb536,0,none⟩) (Kd.zQk HO529.out (fun k_ hk => (⟨hk,hk.2⟩ : _ ∧ k_ ≠ gb536))) (fun _ hk => hk.2) (.slice Ao8 t524.length co8)) (fun _ hk => hk.2) (.slice Ao10 t527.length co10)) (fun _ hk => hk.2) (.slice Ao11 t530.length co11)) (fun _ hk => hk.2) (.slice Ao12 t533.length co12)) (fun _ h_ => h_.1))) gb537 (Nat.le_of_eq hg.symm)) hb);replace HO532 := am (Kd.zQl (Kd.zXV (by (with_reducible repeat (first | apply Kd.zQn | apply Kd.zQm | apply Kd.zQo));exact (Kd.zQk (Kd.V_far (p := ⟨gb536,3,none⟩) (Kd.V_far (p := ⟨gb536,2,none⟩) (Kd.V_far (p := ⟨gb536,1,none⟩) (Kd.V_far (p := ⟨gb536,0,none⟩) (Kd.zQk HO532.out (fun k_ hk => (⟨hk,hk.2⟩ : _ ∧ k_ ≠ gb536))) (fun _ hk => hk.2) (.slice Ao8 t524.length co8)) (fun _ hk => hk.2) (.slice Ao10 t527.length co10)) (fun _ hk => hk.2) (.slice Ao11 t530.length co11)) (fun _ hk => hk.2) (.slice Ao12 t533.length co12)) (fun _ h_ => h_.1))) gb537 (Nat.le_of_eq hg.symm)) hb);replace HO535 := am (Kd.zQl (Kd.zXV (by (with_reducible repeat (first | apply Kd.zQn | apply Kd.zQm | apply Kd.zQo));exact (Kd.zQk (Kd.V_far (p := ⟨gb536,3,none⟩) (Kd.V_far (p := ⟨gb536,2,none⟩) (Kd.V_far (p := ⟨gb536,1,none⟩) (Kd.V_far (p := ⟨gb536,0,none⟩) (Kd.zQk HO535.out (fun k_ hk => (⟨hk,hk.2⟩ : _ ∧ k_ ≠ gb536))) (fun _ hk => hk.2) (.slice Ao8 t524.length co8)) (fun _ hk => hk.2) (.slice Ao10 t527.length co10)) (fun _ hk => hk.2) (.slice Ao11 t530.length co11)) (fun _ hk => hk.2) (.slice Ao12 t533.length co12)) (fun _ h_ => h_.1))) gb537 (Nat.le_of_eq hg.symm)) hb);have BK537 := am (hbox);have GW537 := am ((by rw [hg];exact (zQc pB) : w.heap.size ≤ gb537));have GE537 := am ((by rw [hg];exact (zQc pB) : w.heap.size ≤ gb537));replace HB := am (zQf pB hb);have NB536_537 := am ((by rw [hg];exact Nat.ne_of_lt (zZb (g := gb536) (o := .cells #[.slice Ao8 t524.length co8,.slice Ao10 t527.length co10,.slice Ao11 t530.length co11,.slice Ao12 t533.length co12] 70 (0,0)) (by (with_reducible repeat (first | refine zQa ?_ _ | refine zQd ?_ | refine zQb ?_ _));refine zQz (cs := #[.slice Ao8 t524.length co8,.slice Ao10 t527.length co10,.slice Ao11 t530.length co11,.slice none 0 0]) ?_ 3 _ rfl;(with_reducible repeat (first | refine zQa ?_ _ | refine zQd ?_ | refine zQb ?_ _));refine zQz (cs := #[.slice Ao8 t524.length co8,.slice Ao10 t527.length co10,.slice none 0 0,.slice none 0 0]) ?_ 2 _ rfl;(with_reducible repeat (first | refine zQa ?_ _ | refine zQd ?_ | refine zQb ?_ _));refine zQz (cs := #[.slice Ao8 t524.length co8,.slice none 0 0,.slice none 0 0,.slice none 0 0]) ?_ 1 _ rfl;(with_reducible repeat (first | refine zQa ?_ _ | refine zQd ?_ | refine zQb ?_ _));refine zQz (cs := #[.slice none 0 0,.slice none 0 0,.slice none 0 0,.slice none 0 0]) ?_ 0 _ rfl;(with_reducible repeat (first | refine zQa ?_ _ | refine zQd ?_ | refine zQb ?_ _));exact BK536.out)) : gb536 ≠ gb537));have NB537_536 := am ((by rw [hg];exact Nat.ne_of_gt (zZb (g := gb536) (o := .cells #[.slice Ao8 t524.length co8,.slice Ao10 t527.length co10,.slice Ao11 t530.length co11,.slice Ao12 t533.length co12] 70 (0,0)) (by (with_reducible repeat (first | refine zQa ?_ _ | refine zQd ?_ | refine zQb ?_ _));refine zQz (cs := #[.slice Ao8 t524.length co8,.slice Ao10 t527.length co10,.slice Ao11 t530.length co11,.slice none 0 0]) ?_ 3 _ rfl;(with_reducible repeat (first | refine zQa ?_ _ | refine zQd ?_ | refine zQb ?_ _));refine zQz (cs := #[.slice Ao8 t524.length co8,.slice Ao10 t527.length co10,.slice none 0 0,.slice none 0 0]) ?_ 2 _ rfl;(with_reducible repeat (first | refine zQa ?_ _ | refine zQd ?_ | refine zQb ?_ _));refine zQz (cs := #[.slice Ao8 t524.length co8,.slice none 0 0,.slice none 0 0,.slice none 0 0]) ?_ 1 _ rfl;(with_reducible repeat (first | refine zQa ?_ _ | refine zQd ?_ | refine zQb ?_ _));refine zQz (cs := #[.slice none 0 0,.slice none 0 0,.slice none 0 0,.slice none 0 0]) ?_ 0 _ rfl;(with_reducible repeat (first | refine zQa ?_ _ | refine zQd ?_ | refine zQb ?_ _));exact BK536.out)) : gb537 ≠ gb536));replace BK536 := am (zZc (g := gb536) (o := .cells #[.slice Ao8 t524.length co8,.slice Ao10 t527.length co10,.slice Ao11 t530.length co11,.slice Ao12 t533.length co12] 70 (0,0)) (by (with_reducible repeat (first | refine zQa ?_ _ | refine zQd ?_ | refine zQb ?_ _));refine zQz (cs := #[.slice Ao8 t524.length co8,.slice Ao10 t527.length co10,.slice Ao11 t530.length co11,.slice none 0 0]) ?_ 3 _ rfl;(with_reducible repeat (first | refine zQa ?_ _ | refine zQd ?_ | refine zQb ?_ _));refine zQz (cs := #[.slice Ao8 t524.length co8,.slice Ao10 t527.length co10,.slice none 0 0,.slice none 0 0]) ?_ 2 _ rfl;(with_reducible repeat (first | refine zQa ?_ _ | refine zQd ?_ | refine zQb ?_ _));refine zQz (cs := #[.slice Ao8 t524.length co8,.slice none 0 0,.slice none 0 0,.slice none 0 0]) ?_ 1 _ rfl;(with_reducible repeat (first | refine zQa ?_ _ | refine zQd ?_ | refine zQb ?_ _));refine zQz (cs := #[.slice none 0 0,.slice none 0 0,.slice none 0 0,.slice none 0 0]) ?_ 0 _ rfl;(with_reducible repeat (first | refine zQa ?_ _ | refine zQd ?_ | refine zQb ?_ _));exact BK536.out) hb);clear hb hbox hg;have hnb14 := NB537_536.out;have hnc14 := NB536_537.out;have q15 := cf1 BK537.out))
 have n0_ : Aside0 (Kd.R (Kd.int .u32) 52 (w13.setCell ⟨gb537,0,none⟩ (.bool ((Go.bits .and .u64 a0 1) == 0))) w.heap.size (fun _ => True) (.slice Ao8 t524.length co8) t524) := ⟨by (with_reducible repeat (first | apply Kd.zQw | apply Kd.zQu | apply Kd.zQx));exact Kd.zQE (Kd.R_far (p := ⟨gb537,0,none⟩) (Kd.zQX HO526.out BK537.out (by decide)) (fun _ hk => hk.2) (.bool ((Go.bits .and .u64 a0 1) == 0))) (fun _ hk => trivial)⟩
 have n1_ : Aside0 (Kd.V (Kd.int .u32) 52 (w13.setCell ⟨gb537,0,none⟩ (.bool ((Go.bits .and .u64 a0 1) == 0))) w.heap.size (fun k_ => some k_ ≠ (.slice Ao8 t524.length co8 : Value).ownBlock ∧ k_ ≠ gb536 ∧ k_ ≠ gb537) (.slice Ao10 t527.length co10) t527) := ⟨by (with_reducible repeat (first | apply Kd.zQn | apply Kd.zQm | apply Kd.zQo));exact Kd.zQk (Kd.V_far (p := ⟨gb537,0,none⟩) (Kd.zQk HO529.out (fun k_ hk => (⟨hk,hk.2⟩ : _ ∧ k_ ≠ gb537))) (fun _ hk => hk.2) (.bool ((Go.bits .and .u64 a0 1) == 0))) (fun _ hk => ⟨hk.1.1.1,⟨hk.1.1.2,hk.1.2⟩⟩)⟩
 have n2_ : Aside0 (Kd.V (Kd.int .u32) 52 (w13.setCell ⟨gb537,0,none⟩ (.bool ((Go.bits .and .u64 a0 1) == 0))) w.heap.size (fun k_ => some k_ ≠ (.slice Ao8 t524.length co8 : Value).ownBlock ∧ k_ ≠ gb536 ∧ k_ ≠ gb537) (.slice Ao11 t530.length co11) t530) := ⟨by (with_reducible repeat (first | apply Kd.zQn | apply Kd.zQm | apply Kd.zQo));exact Kd.zQk (Kd.V_far (p := ⟨gb537,0,none⟩) (Kd.zQk HO532.out (fun k_ hk => (⟨hk,hk.2⟩ : _ ∧ k_ ≠ gb537))) (fun _ hk => hk.2) (.bool ((Go.bits .and .u64 a0 1) == 0))) (fun _ hk => ⟨hk.1.1.1,⟨hk.1.1.2,hk.1.2⟩⟩)⟩
 have n3_ : Aside0 (Kd.V (Kd.int .u32) 52 (w13.setCell ⟨gb537,0,none⟩ (.bool ((Go.bits .and .u64 a0 1) == 0))) w.heap.size (fun k_ => some k_ ≠ (.slice Ao8 t524.length co8 : Value).ownBlock ∧ k_ ≠ gb536 ∧ k_ ≠ gb537) (.slice Ao12 t533.length co12) t533) := ⟨by (with_reducible repeat (first | apply Kd.zQn | apply Kd.zQm | apply Kd.zQo));exact Kd.zQk (Kd.V_far (p := ⟨gb537,0,none⟩) (Kd.zQk HO535.out (fun k_ hk => (⟨hk,hk.2⟩ : _ ∧ k_ ≠ gb537))) (fun _ hk => hk.2) (.bool ((Go.bits .and .u64 a0 1) == 0))) (fun _ hk => ⟨hk.1.1.1,⟨hk.1.1.2,hk.1.2⟩⟩)⟩
 have n4_ : Aside0 ((w13.setCell ⟨gb537,0,none⟩ (.bool ((Go.bits .and .u64 a0 1) == 0))).heap[gb536]? = some (.cells #[.slice Ao8 t524.length co8,.slice Ao10 t527.length co10,.slice Ao11 t530.length co11,.slice Ao12 t533.length co12] 70 (0,0))) := ⟨by (with_reducible repeat (first | refine zQa ?_ _ | refine zQd ?_ | refine zQb ?_ _));refine zQL ?_ NB536_537.out _;(with_reducible repeat (first | refine zQa ?_ _ | refine zQd ?_ | refine zQb ?_ _));exact BK536.out⟩
 have n5_ : Aside0 ((w13.setCell ⟨gb537,0,none⟩ (.bool ((Go.bits .and .u64 a0 1) == 0))).heap[gb537]? = some (.cells #[.bool ((Go.bits .and .u64 a0 1) == 0)] 4 (0,0))) := ⟨by (with_reducible repeat (first | refine zQa ?_ _ | refine zQd ?_ | refine zQb ?_ _));refine zQz (cs := #[.bool false]) ?_ 0 _ rfl;(with_reducible repeat (first | refine zQa ?_ _ | refine zQd ?_ | refine zQb ?_ _));exact BK537.out⟩
 have n6_ : Aside0 (Below w.heap.size w (w13.setCell ⟨gb537,0,none⟩ (.bool ((Go.bits .and .u64 a0 1) == 0)))) := ⟨pB⟩
 (try clear HO526);(try clear HO529);(try clear HO532);(try clear HO535);(try clear BK536);(try clear BK537);(try clear HB)
 generalize (w13.setCell ⟨gb537,0,none⟩ (.bool ((Go.bits .and .u64 a0 1) == 0))) = w16 at n0_ n1_ n2_ n3_ n4_ n5_ n6_ ⊢
 have HO526 := n0_;have HO529 := n1_;have HO532 := n2_;have HO535 := n3_;have BK536 := n4_;have BK537 := n5_;have HB := n6_;clear n0_ n1_ n2_ n3_ n4_ n5_ n6_
 replace HO526 := am (Kd.zQx HO526.out)
 replace HO529 := am (Kd.zQo HO529.out)
 replace HO532 := am (Kd.zQo HO532.out)
 replace HO535 := am (Kd.zQo HO535.out)
 replace BK536 := am (zQd BK536.out)
 replace BK537 := am (zQd BK537.out)
 replace HB := am (zQM HB.out)
 refine zXW (n := 10) (S := fun w' => w'.cell? ⟨gb536,0,none⟩ = some (.slice Ao8 t524.length co8) ∧ w'.cell? ⟨gb536,1,none⟩ = some (.slice Ao10 t527.length co10) ∧ w'.cell? ⟨gb536,2,none⟩ = some (.slice Ao11 t530.length co11) ∧ w'.cell? ⟨gb536,3,none⟩ = some (.slice Ao12 t533.length co12)) (ds := []) (bm 10 0) (by kernel_rfl) rfl rfl ⟨cz0 BK536.out,cz1 BK536.out,cz2 BK536.out,cz3 BK536.out⟩ (fun hHeld => ?_);refine zXC dec_shortest.tab4 dec_shortest.bits4 (fun HT_ HW_ => ?_)
 generalize w16.drew = w17 at HO526 HO529 HO532 HO535 BK536 BK537 HB hHeld ⊢
 refine pure_ (i := 0) (N := some 20) (v := ?_) (a' := ?_) (bm 10 1) rfl rfl (zQA HT_.out (by kernel_rfl)) (fun _ _ _ h => h) (Or.inl ⟨by kernel_rfl,?_⟩) ?_ ?_
 rotate_left
 ·intro w'
  go_simp
  with_reducible rfl
 rotate_left
 ·exact pA
 refine pure_ (i := 3) (N := some 23) (v := ?_) (a' := ?_) (bm 10 9) rfl rfl (zQA HT_.out (by kernel_rfl)) (fun _ _ _ h => h) (Or.inl ⟨by kernel_rfl,?_⟩) ?_ ?_
 rotate_left
 ·intro w'
  go_simp
  with_reducible rfl
 rotate_left
 ·exact pA
 refine take_ (i := 1) (N := some 21) (v := ?_) (a' := ?_) (bm 10 11) rfl rfl (zXo HT_.out HW_.out (by kernel_rfl)) (fun _ _ _ h => h) (Or.inl ⟨by kernel_rfl,?_⟩) hHeld ?_ ?_
 rotate_left
 ·rintro w' ⟨s0,s1,s2,s3⟩
  go_simp
  with_reducible rfl
 rotate_left
 ·exact pA
 refine take_ (i := 4) (N := some 24) (v := ?_) (a' := ?_) (bm 10 27) rfl rfl (zXo HT_.out HW_.out (by kernel_rfl)) (fun _ _ _ h => h) (Or.inl ⟨by kernel_rfl,?_⟩) hHeld ?_ ?_
 rotate_left
 ·rintro w' ⟨s0,s1,s2,s3⟩
  go_simp
  with_reducible rfl
 rotate_left
 ·exact pA
 refine one_ (i := 2) (N := some 22) (bm 10 31) rfl rfl (zQW HT_.out (by kernel_rfl)) (by decide) (fun K hK => ?_)
 refine goes_ Tryz.func27 (by kernel_rfl) rfl #[.slice Ao8 t524.length co8] (by rfl) rfl rfl pM ?_
 with_reducible refine (b_len.calls _ _ t524 t538 _ ?side1 ?side2 A3.out).mono ?_
 (case side1 => repeat (first | exact (Kd.zQh HO526.out).2.2 | (with_reducible refine Kd.zQj ?_ _) | (with_reducible refine Kd.zQi ?_ _) | (with_reducible refine Kd.zQv ?_)))
 (case side2 => exact (Kd.zQh HO526.out).2.1)
 rintro e w' ⟨rfl,⟨nd1_,rfl⟩⟩
 refine ⟨_,rfl,?_⟩
 refine hK.out _ _ ⟨cz0 BK536.out,cz1 BK536.out,cz2 BK536.out,cz3 BK536.out⟩ (fun hHeld => ?_)
 clear hK K
 refine norm_ (a' := ?_) ?_ ?_
 rotate_left
 ·show Act.put _ (some 22) _ = _
  exact pA
 refine one_ (i := 5) (N := some 25) (bm 10 63) rfl rfl (zQW HT_.out (by kernel_rfl)) (by decide) (fun K hK => ?_)
 refine goes_ Tryz.func27 (by kernel_rfl) rfl #[.slice Ao10 t527.length co10] (by rfl) rfl rfl pM ?_
 with_reducible refine (b_len.calls _ _ t527 t539 _ ?side1 ?side2 A4.out).mono ?_
 (case side1 => repeat (first | exact (Kd.zQg HO529.out).2.2 | (with_reducible refine Kd.zQj ?_ _) | (with_reducible refine Kd.zQi ?_ _) | (with_reducible refine Kd.zQv ?_)))
 (case side2 => exact (Kd.zQg HO529.out).2.1)
 rintro e w' ⟨rfl,⟨nd2_,rfl⟩⟩
 refine ⟨_,rfl,?_⟩
 refine hK.out _ _ ⟨cz0 BK536.out,cz1 BK536.out,cz2 BK536.out,cz3 BK536.out⟩ (fun hHeld => ?_)
 clear hK K
 refine norm_ (a' := ?_) ?_ ?_
 rotate_left
 ·show Act.put _ (some 25) _ = _
  exact pA
 refine pure_ (i := 6) (N := some 26) (v := ?_) (a' := ?_) (bm 10 127) rfl rfl (zQA HT_.out (by kernel_rfl)) (fun _ _ _ h => h) (Or.inl ⟨by kernel_rfl,?_⟩) ?_ ?_
 rotate_left
 ·intro w'
  go_simp
  with_reducible rfl
 rotate_left
 ·exact pA
 refine pure_ (i := 7) (N := some 27) (v := ?_) (a' := ?_) (bm 10 255) rfl rfl (zQA HT_.out (by kernel_rfl)) (fun _ _ _ h => h) (Or.inl ⟨by kernel_rfl,?_⟩) ?_ ?_
 rotate_left
 ·intro w'
  go_simp
  with_reducible rfl
 rotate_left
 ·exact pA
 refine pure_ (i := 8) (N := some 28) (v := ?_) (a' := ?_) (bm 10 511) rfl rfl (zQA HT_.out (by kernel_rfl)) (fun _ _ _ h => h) (Or.inl ⟨by kernel_rfl,?_⟩) ?_ ?_
 rotate_left
 ·intro w'
  go_simp
  with_reducible rfl
 rotate_left
 ·exact pA
 refine pure_ (i := 9) (N := some 7) (v := ?_) (a' := ?_) (bm 10 1023) rfl rfl (zQA HT_.out (by kernel_rfl)) (fun _ _ _ h => h) (Or.inl ⟨by kernel_rfl,?_⟩) ?_ ?_
 rotate_left
 ·intro w'
  go_simp
  with_reducible rfl
 rotate_left
 ·exact pA
 refine done_ (zYh HT_.out (by kernel_rfl)) ?_
 go_upto_if 30 with (fail)
 go_cut [] (fun wc => ∃ (kq : Nat) (x537000_4 : List Int) (x537001_4 : List Int) (x537002_4 : List Int) (x537003_4 : List Int) (u537000 : Value) (u537001 : Value) (u537002 : Value) (u537003 : Value),Aside0 (dec_shortest.j0 kq ((wrap64 ((wrap64 (t538 - t539)) * 1233)) / 4096) x537000_4 x537001_4 x537002_4 x537003_4 ((Go.bits .and .u64 a0 1) == 0) = some (r1,r2)) ∧ Aside0 (kq ≤ k) ∧ Aside0 (Kd.V (Kd.int .u32) 52 wc w.heap.size (fun k_ => k_ ≠ gb536 ∧ k_ ≠ gb537) u537000 x537000_4) ∧ Aside0 (Kd.V (Kd.int .u32) 52 wc w.heap.size (fun k_ => k_ ≠ gb536 ∧ k_ ≠ gb537) u537001 x537001_4) ∧ Aside0 (Kd.V (Kd.int .u32) 52 wc w.heap.size (fun k_ => k_ ≠ gb536 ∧ k_ ≠ gb537) u537002 x537002_4) ∧ Aside0 (Kd.V (Kd.int .u32) 52 wc w.heap.size (fun k_ => k_ ≠ gb536 ∧ k_ ≠ gb537) u537003 x537003_4) ∧ Aside0 (wc.heap[gb536]? = some (.cells #[u537000,u537001,u537002,u537003] 70 (0,0))) ∧ Aside0 (wc.heap[gb537]? = some (.cells #[.bool ((Go.bits .and .u64 a0 1) == 0)] 4 (0,0))) ∧ Aside0 (Below w.heap.size w wc))
 case first =>
  have H := HC5.out
  clear HC5
  by_cases c18 : ((wrap64 ((wrap64 (t538 - t539)) * 1233)) / 4096) ≥ 0
  ·rw [if_pos c18] at H
   have c18b0 : decide (0 ≤ ((wrap64 ((wrap64 (t538 - t539)) * 1233)) / 4096)) = true := decide_eq_true c18
   clear c18
   (first | rw [c18b0] | (simp only [i64_w,i32_w];rw [c18b0]) | rw [c18b1] | (simp only [i64_w,i32_w];rw [c18b1]) | skip)
   replace H := Option.bind_eq_some_iff.mp H
   obtain ⟨t540,A190,H⟩ := H
   try dsimp only at H
   have A19 := am A190
   clear A190
   have H' := am H
   clear H
   have hnb20 := NB536_537.out
   have hnc20 := NB537_536.out
   have q21 := cf4 BK536.out
   go_wp2_with (first | ((with_reducible refine zQe (f := 26) rfl ?_);refine zQr (some 34) rfl rfl Tryz.func26 (by kernel_rfl) rfl #[.slice Ao10 t527.length co10,.int .i64 ((wrap64 ((wrap64 (t538 - t539)) * 1233)) / 4096)] rfl pM ?_;(with_reducible refine (b_tens.calls k (fun k_ => (some k_ ≠ (.slice Ao8 t524.length co8 : Value).ownBlock ∧ (k_ ≠ gb536 ∧ k_ ≠ gb537))) _ _ t527 ((wrap64 ((wrap64 (t538 - t539)) * 1233)) / 4096) t540 _ ?side1 A19.out).mono ?_);(case side1 => exact HO529.out);rintro e w22 ⟨v541,rfl,ho0,hb⟩;refine ⟨_,rfl,?_⟩;replace HO529 := am (Kd.zQl (pV HO529.out) hb);replace HO532 := am (Kd.zQl (pV HO532.out) hb);replace HO535 := am (Kd.zQl (pV HO535.out) hb);have HO542 := am (Kd.zQQ (Kd.zQk (ok' := fun k_ => some k_ ≠ (.slice Ao8 t524.length co8 : Value).ownBlock ∧ k_ ≠ gb536 ∧ k_ ≠ gb537) ho0 (fun k_ hk_ => ⟨Or.elim hk_ (fun hs_ => hs_.1) (fun hn_ => (Kd.fresh' (Kd.R_lt (pR HO526.out)) k_ hn_)),Or.elim hk_ (fun hs_ => hs_.2.1) (fun hn_ => (Kd.zQV (g := gb536) (o := .cells #[.slice Ao8 t524.length co8,.slice Ao10 t527.length co10,.slice Ao11 t530.length co11,.slice Ao12 t533.length co12] 70 (0,0)) (pK BK536.out) k_ hn_)),Or.elim hk_ (fun hs_ => hs_.2.2) (fun hn_ => (Kd.zQV (g := gb537) (o := .cells #[.bool ((Go.bits .and .u64 a0 1) == 0)] 4 (0,0)) (pK BK537.out) k_ hn_))⟩)) (zQc pB));replace HO526 := am (Kd.zQH (pR HO526.out) hb);replace BK536 := am (pkb BK536.out hb);replace BK537 := am (pkb BK537.out hb);replace HB := am (zQf pB hb);(try clear hb);(try clear ho0);obtain ⟨Ao23,co23,eo23⟩ := Kd.zQF HO542.out;subst eo23;have q24 := cf4 BK536.out))
   go_meet
   case rel => exact ⟨_,(t524),(t540),(t530),(t533),(.slice Ao8 t524.length co8),(.slice Ao23 t540.length co23),(.slice Ao11 t530.length co11),(.slice Ao12 t533.length co12),H',⟨by first | omega | exact Nat.le_refl _⟩,⟨Kd.R_V (by (with_reducible repeat (first | apply Kd.zQw | apply Kd.zQu | apply Kd.zQx));exact Kd.zQE (Kd.R_far (p := ⟨gb536,1,none⟩) (Kd.zQX (Kd.zQX (Kd.zQX HO526.out BK536.out (by decide)) BK537.out (by decide)) BK536.out (by decide)) (fun _ hk => hk.2) (.slice Ao23 t540.length co23)) (fun _ hk => ⟨hk.1.1.2,hk.1.2⟩))⟩,⟨by (with_reducible repeat (first | apply Kd.zQn | apply Kd.zQm | apply Kd.zQo));exact Kd.zQk (Kd.V_far (p := ⟨gb536,1,none⟩) (Kd.zQk HO542.out (fun k_ hk => (⟨hk,hk.2.1⟩ : _ ∧ k_ ≠ gb536))) (fun _ hk => hk.2) (.slice Ao23 t540.length co23)) (fun _ hk => ⟨hk.1.2.1,hk.1.2.2⟩)⟩,⟨by (with_reducible repeat (first | apply Kd.zQn | apply Kd.zQm | apply Kd.zQo));exact Kd.zQk (Kd.V_far (p := ⟨gb536,1,none⟩) (Kd.zQk HO532.out (fun k_ hk => (⟨hk,hk.2.1⟩ : _ ∧ k_ ≠ gb536))) (fun _ hk => hk.2) (.slice Ao23 t540.length co23)) (fun _ hk => ⟨hk.1.2.1,hk.1.2.2⟩)⟩,⟨by (with_reducible repeat (first | apply Kd.zQn | apply Kd.zQm | apply Kd.zQo));exact Kd.zQk (Kd.V_far (p := ⟨gb536,1,none⟩) (Kd.zQk HO535.out (fun k_ hk => (⟨hk,hk.2.1⟩ : _ ∧ k_ ≠ gb536))) (fun _ hk => hk.2) (.slice Ao23 t540.length co23)) (fun _ hk => ⟨hk.1.2.1,hk.1.2.2⟩)⟩,⟨by (with_reducible repeat (first | refine zQa ?_ _ | refine zQd ?_ | refine zQb ?_ _));refine zQz (cs := #[.slice Ao8 t524.length co8,.slice Ao10 t527.length co10,.slice Ao11 t530.length co11,.slice Ao12 t533.length co12]) ?_ 1 _ rfl;(with_reducible repeat (first | refine zQa ?_ _ | refine zQd ?_ | refine zQb ?_ _));exact BK536.out⟩,⟨by (with_reducible repeat (first | refine zQa ?_ _ | refine zQd ?_ | refine zQb ?_ _));refine zQL ?_ NB537_536.out _;(with_reducible repeat (first | refine zQa ?_ _ | refine zQd ?_ | refine zQb ?_ _));exact BK537.out⟩,⟨pB⟩⟩
  ·rw [if_neg c18] at H
   have c18b0 : decide (0 ≤ ((wrap64 ((wrap64 (t538 - t539)) * 1233)) / 4096)) = false := decide_eq_false c18
   clear c18
   (first | rw [c18b0] | (simp only [i64_w,i32_w];rw [c18b0]) | rw [c18b1] | (simp only [i64_w,i32_w];rw [c18b1]) | skip)
   replace H := Option.bind_eq_some_iff.mp H
   obtain ⟨t543,A250,H⟩ := H
   try dsimp only at H
   have A25 := am A250
   clear A250
   replace H := Option.bind_eq_some_iff.mp H
   obtain ⟨t546,A260,H⟩ := H
   try dsimp only at H
   have A26 := am A260
   clear A260
   replace H := Option.bind_eq_some_iff.mp H
   obtain ⟨t549,A270,H⟩ := H
   try dsimp only at H
   have A27 := am A270
   clear A270
   have H' := am H
   clear H
   try go_wp2
   replace HO526 := am (Kd.zQx (Kd.zQu HO526.out (nd1_ + nd2_)))
   replace HO529 := am (Kd.zQo (Kd.zQm HO529.out (nd1_ + nd2_)))
   replace HO532 := am (Kd.zQo (Kd.zQm HO532.out (nd1_ + nd2_)))
   replace HO535 := am (Kd.zQo (Kd.zQm HO535.out (nd1_ + nd2_)))
   replace BK536 := am (zQd (zQa BK536.out (nd1_ + nd2_)))
   replace BK537 := am (zQd (zQa BK537.out (nd1_ + nd2_)))
   replace HB := am (zQM (zQN HB.out (nd1_ + nd2_)))
   refine zXW (n := 21) (S := fun w' => w'.cell? ⟨gb536,0,none⟩ = some (.slice Ao8 t524.length co8) ∧ w'.cell? ⟨gb536,1,none⟩ = some (.slice Ao10 t527.length co10) ∧ w'.cell? ⟨gb536,2,none⟩ = some (.slice Ao11 t530.length co11) ∧ w'.cell? ⟨gb536,3,none⟩ = some (.slice Ao12 t533.length co12)) (ds := [16,18,20]) (bm 21 0) (by kernel_rfl) rfl rfl ⟨cz0 BK536.out,cz1 BK536.out,cz2 BK536.out,cz3 BK536.out⟩ (fun hHeld => ?_);refine zXC dec_shortest.tab7 dec_shortest.bits7 (fun HT_ HW_ => ?_)
   generalize (w17.drewN (nd1_ + nd2_)).drew = w28 at HO526 HO529 HO532 HO535 BK536 BK537 HB hHeld ⊢
   refine pure_ (i := 0) (N := some 36) (v := ?_) (a' := ?_) (bm 21 1) rfl rfl (zQA HT_.out (by kernel_rfl)) (fun _ _ _ h => h) (Or.inl ⟨by kernel_rfl,?_⟩) ?_ ?_
   rotate_left
   ·intro w'
    go_simp
    with_reducible rfl
   rotate_left
   ·exact pA
   refine pure_ (i := 2) (N := some 38) (v := ?_) (a' := ?_) (bm 21 5) rfl rfl (zQA HT_.out (by kernel_rfl)) (fun _ _ _ h => h) (Or.inl ⟨by kernel_rfl,?_⟩) ?_ ?_
   rotate_left
   ·intro w'
    go_simp
    with_reducible rfl
   rotate_left
   ·exact pA
   refine pure_ (i := 3) (N := some 39) (v := ?_) (a' := ?_) (bm 21 13) rfl rfl (zQA HT_.out (by kernel_rfl)) (fun _ _ _ h => h) (Or.inl ⟨by kernel_rfl,?_⟩) ?_ ?_
   rotate_left
   ·intro w'
    go_simp
    with_reducible rfl
   rotate_left
   ·exact pA
   refine pure_ (i := 5) (N := some 41) (v := ?_) (a' := ?_) (bm 21 45) rfl rfl (zQA HT_.out (by kernel_rfl)) (fun _ _ _ h => h) (Or.inl ⟨by kernel_rfl,?_⟩) ?_ ?_
   rotate_left
   ·intro w'
    go_simp
    with_reducible rfl
   rotate_left
   ·exact pA
   refine pure_ (i := 7) (N := some 43) (v := ?_) (a' := ?_) (bm 21 173) rfl rfl (zQA HT_.out (by kernel_rfl)) (fun _ _ _ h => h) (Or.inl ⟨by kernel_rfl,?_⟩) ?_ ?_
   rotate_left
   ·intro w'
    go_simp
    with_reducible rfl
   rotate_left
   ·exact pA
   refine pure_ (i := 8) (N := some 44) (v := ?_) (a' := ?_) (bm 21 429) rfl rfl (zQA HT_.out (by kernel_rfl)) (fun _ _ _ h => h) (Or.inl ⟨by kernel_rfl,?_⟩) ?_ ?_
   rotate_left
   ·intro w'
    go_simp
    with_reducible rfl
   rotate_left
   ·exact pA
   refine pure_ (i := 10) (N := some 46) (v := ?_) (a' := ?_) (bm 21 1453) rfl rfl (zQA HT_.out (by kernel_rfl)) (fun _ _ _ h => h) (Or.inl ⟨by kernel_rfl,?_⟩) ?_ ?_
   rotate_left
   ·intro w'
    go_simp
    with_reducible rfl
   rotate_left
   ·exact pA
   refine pure_ (i := 12) (N := some 48) (v := ?_) (a' := ?_) (bm 21 5549) rfl rfl (zQA HT_.out (by kernel_rfl)) (fun _ _ _ h => h) (Or.inl ⟨by kernel_rfl,?_⟩) ?_ ?_
   rotate_left
   ·intro w'
    go_simp
    with_reducible rfl
   rotate_left
   ·exact pA
   refine pure_ (i := 13) (N := some 49) (v := ?_) (a' := ?_) (bm 21 13741) rfl rfl (zQA HT_.out (by kernel_rfl)) (fun _ _ _ h => h) (Or.inl ⟨by kernel_rfl,?_⟩) ?_ ?_
   rotate_left
   ·intro w'
    go_simp
    with_reducible rfl
   rotate_left
   ·exact pA
   refine take_ (i := 1) (N := some 37) (v := ?_) (a' := ?_) (bm 21 13743) rfl rfl (zXo HT_.out HW_.out (by kernel_rfl)) (fun _ _ _ h => h) (Or.inl ⟨by kernel_rfl,?_⟩) hHeld ?_ ?_
   rotate_left
   ·rintro w' ⟨s0,s1,s2,s3⟩
    go_simp
    with_reducible rfl
   rotate_left
   ·exact pA
   refine take_ (i := 6) (N := some 42) (v := ?_) (a' := ?_) (bm 21 13807) rfl rfl (zXo HT_.out HW_.out (by kernel_rfl)) (fun _ _ _ h => h) (Or.inl ⟨by kernel_rfl,?_⟩) hHeld ?_ ?_
   rotate_left
   ·rintro w' ⟨s0,s1,s2,s3⟩
    go_simp
    with_reducible rfl
   rotate_left
   ·exact pA
   refine take_ (i := 11) (N := some 47) (v := ?_) (a' := ?_) (bm 21 15855) rfl rfl (zXo HT_.out HW_.out (by kernel_rfl)) (fun _ _ _ h => h) (Or.inl ⟨by kernel_rfl,?_⟩) hHeld ?_ ?_
   rotate_left
   ·rintro w' ⟨s0,s1,s2,s3⟩
    go_simp
    with_reducible rfl
   rotate_left
   ·exact pA
   refine one_ (i := 4) (N := some 40) (bm 21 15871) rfl rfl (zQW HT_.out (by kernel_rfl)) (by decide) (fun K hK => ?_)
   refine goes_ Tryz.func26 (by kernel_rfl) rfl #[.slice Ao8 t524.length co8,.int .i64 (wrap64 (-((wrap64 ((wrap64 (t538 - t539)) * 1233)) / 4096)))] (by rfl) rfl rfl pM ?_
   with_reducible refine (b_tens.calls k (fun k_ => some k_ = (.slice Ao8 t524.length co8 : Value).ownBlock) _ _ t524 (wrap64 (-((wrap64 ((wrap64 (t538 - t539)) * 1233)) / 4096))) t543 _ ?side1 A25.out).mono ?_
   (case side1 => exact Kd.R_V (Kd.zXQ rfl (Kd.zQX (Kd.zQX (HO526.out) BK536.out (by decide)) BK537.out (by decide))))
   rintro e w29 ⟨v544,rfl,ho0,hb⟩
   refine ⟨_,rfl,?_⟩
   have n0_ := am (Kd.zQH (pR HO526.out) hb)
   have n1_ := am (Kd.zQl (pV HO529.out) hb)
   have n2_ := am (Kd.zQl (pV HO532.out) hb)
   have n3_ := am (Kd.zQl (pV HO535.out) hb)
   have n4_ := am (Kd.zQQ (Kd.zQk (ok' := fun k_ => k_ ≠ gb536 ∧ k_ ≠ gb537) ho0 (fun k_ hk_ => ⟨Or.elim hk_ (fun hs_ => ((Kd.zQX (Kd.zQX (HO526.out) BK536.out (by decide)) BK537.out (by decide)).1 k_ hs_.symm).1.2) (fun hn_ => (Kd.zQV (g := gb536) (o := .cells #[.slice Ao8 t524.length co8,.slice Ao10 t527.length co10,.slice Ao11 t530.length co11,.slice Ao12 t533.length co12] 70 (0,0)) (pK BK536.out) k_ hn_)),Or.elim hk_ (fun hs_ => ((Kd.zQX (Kd.zQX (HO526.out) BK536.out (by decide)) BK537.out (by decide)).1 k_ hs_.symm).2) (fun hn_ => (Kd.zQV (g := gb537) (o := .cells #[.bool ((Go.bits .and .u64 a0 1) == 0)] 4 (0,0)) (pK BK537.out) k_ hn_))⟩)) (zQc pB))
   have n5_ := am (pkb BK536.out hb)
   have n6_ := am (pkb BK537.out hb)
   have n7_ := am (zQf pB hb)
   clear HO526 HO529 HO532 HO535 BK536 BK537 HB;have HO526 := n0_;have HO529 := n1_;have HO532 := n2_;have HO535 := n3_;have HO545 := n4_;have BK536 := n5_;have BK537 := n6_;have HB := n7_;clear n0_ n1_ n2_ n3_ n4_ n5_ n6_ n7_;(try clear hb);(try clear ho0)
   refine hK.out _ _ ⟨cz0 BK536.out,cz1 BK536.out,cz2 BK536.out,cz3 BK536.out⟩ (fun hHeld => ?_)
   clear hK K
   refine norm_ (a' := ?_) ?_ ?_
   rotate_left
   ·show Act.put _ (some 40) _ = _
    exact pA
   refine pure_ (i := 15) (N := some 51) (v := ?_) (a' := ?_) (bm 21 48639) rfl rfl (zQA HT_.out (by kernel_rfl)) (fun _ _ _ h => h) (Or.inl ⟨by kernel_rfl,?_⟩) ?_ ?_
   rotate_left
   ·intro w'
    go_simp
    with_reducible rfl
   rotate_left
   ·exact pA
   refine one_ (i := 9) (N := some 45) (bm 21 49151) rfl rfl (zQW HT_.out (by kernel_rfl)) (by decide) (fun K hK => ?_)
   refine goes_ Tryz.func26 (by kernel_rfl) rfl #[.slice Ao11 t530.length co11,.int .i64 (wrap64 (-((wrap64 ((wrap64 (t538 - t539)) * 1233)) / 4096)))] (by rfl) rfl rfl pM ?_
   with_reducible refine (b_tens.calls k (fun k_ => (some k_ ≠ (.slice Ao8 t524.length co8 : Value).ownBlock ∧ (k_ ≠ gb536 ∧ k_ ≠ gb537))) _ _ t530 (wrap64 (-((wrap64 ((wrap64 (t538 - t539)) * 1233)) / 4096))) t546 _ ?side1 A26.out).mono ?_
   (case side1 => exact HO532.out)
   rintro e w30 ⟨v547,rfl,ho0,hb⟩
   refine ⟨_,rfl,?_⟩
   have n0_ := am (Kd.zQH (pR HO526.out) hb)
   have n1_ := am (Kd.zQl (pV HO529.out) hb)
   have n2_ := am (Kd.zQl (pV HO532.out) hb)
   have n3_ := am (Kd.zQl (pV HO535.out) hb)
   have n4_ := am (Kd.zQl (pV HO545.out) hb)
   have n5_ := am (Kd.zQQ (Kd.zQk (ok' := fun k_ => some k_ ≠ (.slice Ao8 t524.length co8 : Value).ownBlock ∧ k_ ≠ gb536 ∧ k_ ≠ gb537) ho0 (fun k_ hk_ => ⟨Or.elim hk_ (fun hs_ => hs_.1) (fun hn_ => (Kd.fresh' (Kd.R_lt (pR HO526.out)) k_ hn_)),Or.elim hk_ (fun hs_ => hs_.2.1) (fun hn_ => (Kd.zQV (g := gb536) (o := .cells #[.slice Ao8 t524.length co8,.slice Ao10 t527.length co10,.slice Ao11 t530.length co11,.slice Ao12 t533.length co12] 70 (0,0)) (pK BK536.out) k_ hn_)),Or.elim hk_ (fun hs_ => hs_.2.2) (fun hn_ => (Kd.zQV (g := gb537) (o := .cells #[.bool ((Go.bits .and .u64 a0 1) == 0)] 4 (0,0)) (pK BK537.out) k_ hn_))⟩)) (zQc pB))
   have n6_ := am (pkb BK536.out hb)
   have n7_ := am (pkb BK537.out hb)
   have n8_ := am (zQf pB hb)
   clear HO526 HO529 HO532 HO535 HO545 BK536 BK537 HB;have HO526 := n0_;have HO529 := n1_;have HO532 := n2_;have HO535 := n3_;have HO545 := n4_;have HO548 := n5_;have BK536 := n6_;have BK537 := n7_;have HB := n8_;clear n0_ n1_ n2_ n3_ n4_ n5_ n6_ n7_ n8_;(try clear hb);(try clear ho0)
   refine hK.out _ _ ⟨cz0 BK536.out,cz1 BK536.out,cz2 BK536.out,cz3 BK536.out⟩ (fun hHeld => ?_)
   clear hK K
   refine norm_ (a' := ?_) ?_ ?_
   rotate_left
   ·show Act.put _ (some 45) _ = _
    exact pA
   refine one_ (i := 14) (N := some 50) (bm 21 65535) rfl rfl (zQW HT_.out (by kernel_rfl)) (by decide) (fun K hK => ?_)
   refine goes_ Tryz.func26 (by kernel_rfl) rfl #[.slice Ao12 t533.length co12,.int .i64 (wrap64 (-((wrap64 ((wrap64 (t538 - t539)) * 1233)) / 4096)))] (by rfl) rfl rfl pM ?_
   with_reducible refine (b_tens.calls k (fun k_ => (some k_ ≠ (.slice Ao8 t524.length co8 : Value).ownBlock ∧ (k_ ≠ gb536 ∧ k_ ≠ gb537))) _ _ t533 (wrap64 (-((wrap64 ((wrap64 (t538 - t539)) * 1233)) / 4096))) t549 _ ?side1 A27.out).mono ?_
   (case side1 => exact HO535.out)
   rintro e w31 ⟨v550,rfl,ho0,hb⟩
   refine ⟨_,rfl,?_⟩
   have n0_ := am (Kd.zQH (pR HO526.out) hb)
   have n1_ := am (Kd.zQl (pV HO529.out) hb)
   have n2_ := am (Kd.zQl (pV HO532.out) hb)
   have n3_ := am (Kd.zQl (pV HO535.out) hb)
   have n4_ := am (Kd.zQl (pV HO545.out) hb)
   have n5_ := am (Kd.zQl (pV HO548.out) hb)
   have n6_ := am (Kd.zQQ (Kd.zQk (ok' := fun k_ => some k_ ≠ (.slice Ao8 t524.length co8 : Value).ownBlock ∧ k_ ≠ gb536 ∧ k_ ≠ gb537) ho0 (fun k_ hk_ => ⟨Or.elim hk_ (fun hs_ => hs_.1) (fun hn_ => (Kd.fresh' (Kd.R_lt (pR HO526.out)) k_ hn_)),Or.elim hk_ (fun hs_ => hs_.2.1) (fun hn_ => (Kd.zQV (g := gb536) (o := .cells #[.slice Ao8 t524.length co8,.slice Ao10 t527.length co10,.slice Ao11 t530.length co11,.slice Ao12 t533.length co12] 70 (0,0)) (pK BK536.out) k_ hn_)),Or.elim hk_ (fun hs_ => hs_.2.2) (fun hn_ => (Kd.zQV (g := gb537) (o := .cells #[.bool ((Go.bits .and .u64 a0 1) == 0)] 4 (0,0)) (pK BK537.out) k_ hn_))⟩)) (zQc pB))
   have n7_ := am (pkb BK536.out hb)
   have n8_ := am (pkb BK537.out hb)
   have n9_ := am (zQf pB hb)
   clear HO526 HO529 HO532 HO535 HO545 HO548 BK536 BK537 HB;have HO526 := n0_;have HO529 := n1_;have HO532 := n2_;have HO535 := n3_;have HO545 := n4_;have HO548 := n5_;have HO551 := n6_;have BK536 := n7_;have BK537 := n8_;have HB := n9_;clear n0_ n1_ n2_ n3_ n4_ n5_ n6_ n7_ n8_ n9_;(try clear hb);(try clear ho0)
   obtain ⟨Ao32,co32,eo32⟩ := Kd.zQF HO545.out
   (first | subst eo32 | (injection eo32 with f1_ f2_ f3_;have f4_ := f1_.symm;have f5_ := f3_.symm;clear f1_ f2_ f3_;subst f4_;subst f5_))
   obtain ⟨Ao34,co34,eo34⟩ := Kd.zQF HO548.out
   (first | subst eo34 | (injection eo34 with f1_ f2_ f3_;have f4_ := f1_.symm;have f5_ := f3_.symm;clear f1_ f2_ f3_;subst f4_;subst f5_))
   obtain ⟨Ao36,co36,eo36⟩ := Kd.zQF HO551.out
   (first | subst eo36 | (injection eo36 with f1_ f2_ f3_;have f4_ := f1_.symm;have f5_ := f3_.symm;clear f1_ f2_ f3_;subst f4_;subst f5_))
   refine hK.out _ _ ⟨cz0 BK536.out,cz1 BK536.out,cz2 BK536.out,cz3 BK536.out⟩ (fun hHeld => ?_)
   clear hK K
   refine norm_ (a' := ?_) ?_ ?_
   rotate_left
   ·show Act.put _ (some 50) _ = _
    exact pA
   refine last_ (i := 16) (N := none) (bm 21 131071) rfl rfl (zQW HT_.out (by kernel_rfl)) (by decide) (fun K hK => ?_)
   have hs33 : w31.cell? ⟨gb536,0,none⟩ = some (.slice Ao8 t524.length co8) := cz0 BK536.out
   have hfs33 := zQK BK536.out 0
   have hns33_1 := NB537_536.out
   have hms33_1 := NB536_537.out
   refine skip_ (w1 := ?_) ?hw rfl ?_ ?_;(case hw => kernel_rfl)
   rotate_left
   ·go_simp
    rfl
   refine hK.out _ _ ?_
   clear hK K
   refine pure_ (i := 17) (N := some 52) (v := ?_) (a' := ?_) (bm 21 262143) rfl rfl (zQA HT_.out (by kernel_rfl)) (fun _ _ _ h => h) (Or.inl ⟨by kernel_rfl,?_⟩) ?_ ?_
   rotate_left
   ·intro w'
    go_simp
    with_reducible rfl
   rotate_left
   ·exact pA
   refine last_ (i := 18) (N := none) (bm 21 524287) rfl rfl (zQW HT_.out (by kernel_rfl)) (by decide) (fun K hK => ?_)
   have hs35 : w31.cell? ⟨gb536,2,none⟩ = some (.slice Ao11 t530.length co11) := cz2 BK536.out
   have hfs35 := zQK BK536.out 2
   have hns35_1 := NB537_536.out
   have hms35_1 := NB536_537.out
   refine skip_ (w1 := ?_) ?hw rfl ?_ ?_;(case hw => kernel_rfl)
   rotate_left
   ·go_simp
    rfl
   refine hK.out _ _ ?_
   clear hK K
   refine pure_ (i := 19) (N := some 53) (v := ?_) (a' := ?_) (bm 21 1048575) rfl rfl (zQA HT_.out (by kernel_rfl)) (fun _ _ _ h => h) (Or.inl ⟨by kernel_rfl,?_⟩) ?_ ?_
   rotate_left
   ·intro w'
    go_simp
    with_reducible rfl
   rotate_left
   ·exact pA
   refine last_ (i := 20) (N := none) (bm 21 2097151) rfl rfl (zQW HT_.out (by kernel_rfl)) (by decide) (fun K hK => ?_)
   have hs37 : w31.cell? ⟨gb536,3,none⟩ = some (.slice Ao12 t533.length co12) := cz3 BK536.out
   have hfs37 := zQK BK536.out 3
   have hns37_1 := NB537_536.out
   have hms37_1 := NB536_537.out
   refine skip_ (w1 := ?_) ?hw rfl ?_ ?_;(case hw => kernel_rfl)
   rotate_left
   ·go_simp
    rfl
   refine hK.out _ _ ?_
   clear hK K
   refine done_ (zYh HT_.out (by kernel_rfl)) ?_
   try go_wp2
   go_meet
   case rel => exact ⟨_,(t543),(t527),(t546),(t549),(.slice Ao32 t543.length co32),(.slice Ao10 t527.length co10),(.slice Ao34 t546.length co34),(.slice Ao36 t549.length co36),H',⟨by first | omega | exact Nat.le_refl _⟩,⟨by (with_reducible repeat (first | apply Kd.zQn | apply Kd.zQm | apply Kd.zQo));exact Kd.zQk (Kd.V_far (p := ⟨gb536,3,none⟩) (Kd.V_far (p := ⟨gb536,2,none⟩) (Kd.V_far (p := ⟨gb536,0,none⟩) (Kd.zQk HO545.out (fun k_ hk => (⟨hk,hk.1⟩ : _ ∧ k_ ≠ gb536))) (fun _ hk => hk.2) (.slice Ao32 t543.length co32)) (fun _ hk => hk.2) (.slice Ao34 t546.length co34)) (fun _ hk => hk.2) (.slice Ao36 t549.length co36)) (fun _ hk => ⟨hk.1.1,hk.1.2⟩)⟩,⟨by (with_reducible repeat (first | apply Kd.zQn | apply Kd.zQm | apply Kd.zQo));exact Kd.zQk (Kd.V_far (p := ⟨gb536,3,none⟩) (Kd.V_far (p := ⟨gb536,2,none⟩) (Kd.V_far (p := ⟨gb536,0,none⟩) (Kd.zQk HO529.out (fun k_ hk => (⟨hk,hk.2.1⟩ : _ ∧ k_ ≠ gb536))) (fun _ hk => hk.2) (.slice Ao32 t543.length co32)) (fun _ hk => hk.2) (.slice Ao34 t546.length co34)) (fun _ hk => hk.2) (.slice Ao36 t549.length co36)) (fun _ hk => ⟨hk.1.2.1,hk.1.2.2⟩)⟩,⟨by (with_reducible repeat (first | apply Kd.zQn | apply Kd.zQm | apply Kd.zQo));exact Kd.zQk (Kd.V_far (p := ⟨gb536,3,none⟩) (Kd.V_far (p := ⟨gb536,2,none⟩) (Kd.V_far (p := ⟨gb536,0,none⟩) (Kd.zQk HO548.out (fun k_ hk => (⟨hk,hk.2.1⟩ : _ ∧ k_ ≠ gb536))) (fun _ hk => hk.2) (.slice Ao32 t543.length co32)) (fun _ hk => hk.2) (.slice Ao34 t546.length co34)) (fun _ hk => hk.2) (.slice Ao36 t549.length co36)) (fun _ hk => ⟨hk.1.2.1,hk.1.2.2⟩)⟩,⟨by (with_reducible repeat (first | apply Kd.zQn | apply Kd.zQm | apply Kd.zQo));exact Kd.zQk (Kd.V_far (p := ⟨gb536,3,none⟩) (Kd.V_far (p := ⟨gb536,2,none⟩) (Kd.V_far (p := ⟨gb536,0,none⟩) (Kd.zQk HO551.out (fun k_ hk => (⟨hk,hk.2.1⟩ : _ ∧ k_ ≠ gb536))) (fun _ hk => hk.2) (.slice Ao32 t543.length co32)) (fun _ hk => hk.2) (.slice Ao34 t546.length co34)) (fun _ hk => hk.2) (.slice Ao36 t549.length co36)) (fun _ hk => ⟨hk.1.2.1,hk.1.2.2⟩)⟩,⟨by (with_reducible repeat (first | refine zQa ?_ _ | refine zQd ?_ | refine zQb ?_ _));refine zQz (cs := #[.slice Ao32 t543.length co32,.slice Ao10 t527.length co10,.slice Ao34 t546.length co34,.slice Ao12 t533.length co12]) ?_ 3 _ rfl;(with_reducible repeat (first | refine zQa ?_ _ | refine zQd ?_ | refine zQb ?_ _));refine zQz (cs := #[.slice Ao32 t543.length co32,.slice Ao10 t527.length co10,.slice Ao11 t530.length co11,.slice Ao12 t533.length co12]) ?_ 2 _ rfl;(with_reducible repeat (first | refine zQa ?_ _ | refine zQd ?_ | refine zQb ?_ _));refine zQz (cs := #[.slice Ao8 t524.length co8,.slice Ao10 t527.length co10,.slice Ao11 t530.length co11,.slice Ao12 t533.length co12]) ?_ 0 _ rfl;(with_reducible repeat (first | refine zQa ?_ _ | refine zQd ?_ | refine zQb ?_ _));exact BK536.out⟩,⟨by (with_reducible repeat (first | refine zQa ?_ _ | refine zQd ?_ | refine zQb ?_ _));refine zQL ?_ NB537_536.out _;(with_reducible repeat (first | refine zQa ?_ _ | refine zQd ?_ | refine zQb ?_ _));refine zQL ?_ NB537_536.out _;(with_reducible repeat (first | refine zQa ?_ _ | refine zQd ?_ | refine zQb ?_ _));refine zQL ?_ NB537_536.out _;(with_reducible repeat (first | refine zQa ?_ _ | refine zQd ?_ | refine zQb ?_ _));exact BK537.out⟩,⟨pB⟩⟩
 case rest =>
  clear HC5
  try clear c1
  try clear c2
  try clear p2
  try clear c4
  try clear p6
  try clear c14
  try clear c16
  try clear c18
  try clear c18b0
  try clear c18b1
  try clear c20
  try clear c26
  try clear c27
  try clear q15 q21 q24 q9
  obtain ⟨kq,x537000_4,x537001_4,x537002_4,x537003_4,u537000,u537001,u537002,u537003,HA,HJ4,HO_537000,HO_537001,HO_537002,HO_537003,BK536,BK537,HB⟩ := hcut
  cases kq with
  | zero => exact absurd HA.out (by simp [dec_shortest.j0])
  | succ kj4 =>
   have H := HA.out
   clear HA
   simp only [dec_shortest.j0] at H
   have H' := am H
   clear H
   go_wp2
   go_loopg [7] kj4 (fun kq v7 w' => ∃ (x7_2 : Int) (x537001_2 : List Int) (u537001 : Value),v7 = .int .i64 x7_2 ∧ Aside0 (dec_shortest.l0 kq x7_2 x537000_4 x537001_2 x537002_4 x537003_4 ((Go.bits .and .u64 a0 1) == 0) = some (r1,r2)) ∧ Aside0 (kq ≤ kj4) ∧ Aside0 (Kd.V (Kd.int .u32) 52 w' w.heap.size (fun k_ => k_ ≠ gb536 ∧ k_ ≠ gb537) u537000 x537000_4) ∧ Aside0 (Kd.V (Kd.int .u32) 52 w' w.heap.size (fun k_ => k_ ≠ gb536 ∧ k_ ≠ gb537) u537001 x537001_2) ∧ Aside0 (Kd.V (Kd.int .u32) 52 w' w.heap.size (fun k_ => k_ ≠ gb536 ∧ k_ ≠ gb537) u537002 x537002_4) ∧ Aside0 (Kd.V (Kd.int .u32) 52 w' w.heap.size (fun k_ => k_ ≠ gb536 ∧ k_ ≠ gb537) u537003 x537003_4) ∧ Aside0 (w'.heap[gb536]? = some (.cells #[u537000,u537001,u537002,u537003] 70 (0,0))) ∧ Aside0 (w'.heap[gb537]? = some (.cells #[.bool ((Go.bits .and .u64 a0 1) == 0)] 4 (0,0))) ∧ Aside0 (Below w.heap.size w w'))
   case atStart => exact ⟨(((wrap64 ((wrap64 (t538 - t539)) * 1233)) / 4096)),(x537001_4),(u537001),(by first | rfl | (simp;done) | (simp [*];done)),H',⟨Nat.le_refl _⟩,⟨by (with_reducible repeat (first | apply Kd.zQn | apply Kd.zQm | apply Kd.zQo));exact HO_537000.out⟩,⟨by (with_reducible repeat (first | apply Kd.zQn | apply Kd.zQm | apply Kd.zQo));exact HO_537001.out⟩,⟨by (with_reducible repeat (first | apply Kd.zQn | apply Kd.zQm | apply Kd.zQo));exact HO_537002.out⟩,⟨by (with_reducible repeat (first | apply Kd.zQn | apply Kd.zQm | apply Kd.zQo));exact HO_537003.out⟩,⟨by (with_reducible repeat (first | refine zQa ?_ _ | refine zQd ?_ | refine zQb ?_ _));exact BK536.out⟩,⟨by (with_reducible repeat (first | refine zQa ?_ _ | refine zQd ?_ | refine zQb ?_ _));exact BK537.out⟩,⟨pB⟩⟩
   case round =>
    clear H'
    try clear c1
    try clear c2
    try clear p2
    try clear c4
    try clear p6
    try clear c14
    try clear c16
    try clear c18
    try clear c18b0
    try clear c18b1
    try clear c20
    try clear c26
    try clear c27
    try clear q15 q21 q24 q9
    try clear p2
    try clear p6
    obtain ⟨x7_2,x537001_2,u537001,rfl,HA,HK2,HO_537000,HO_537001,HO_537002,HO_537003,BK536,BK537,HB⟩ := hrel
    cases gk with
    | zero => exact absurd HA.out (by simp [dec_shortest.l0])
    | succ k2 =>
     have H := HA.out
     clear HA
     simp only [dec_shortest.l0] at H
     replace H := Option.bind_eq_some_iff.mp H
     obtain ⟨t552,A380,H⟩ := H
     try dsimp only at H
     have A38 := am A380
     clear A380
     replace H := Option.bind_eq_some_iff.mp H
     obtain ⟨t555,A390,H⟩ := H
     try dsimp only at H
     have A39 := am A390
     clear A390
     by_cases c40 : t555 = true
     ·subst c40
      rw [if_pos rfl] at H
      replace H := Option.bind_eq_some_iff.mp H
      obtain ⟨t556,A410,H⟩ := H
      try dsimp only at H
      have A41 := am A410
      clear A410
      have H' := am H
      clear H
      have hnb42 := NB536_537.out
      have hnc42 := NB537_536.out
      have q43 := cf4 BK536.out
      obtain ⟨Ao44,co44,eo44⟩ := Kd.zQF HO_537001.out
      subst eo44
      go_wp2_with (first | ((with_reducible refine zQe (f := 24) rfl ?_);refine zQr (some 57) rfl rfl Tryz.func24 (by kernel_rfl) rfl #[.slice Ao44 x537001_2.length co44,.int .u32 10,.int .u32 0] rfl pM ?_;(with_reducible refine (b_times.calls k2 _ _ x537001_2 10 0 t552 _ ?side1 ?side2 A38.out).mono ?_);(case side1 => repeat (first | exact (Kd.zQg HO_537001.out).2.2 | (with_reducible refine Kd.zQj ?_ _) | (with_reducible refine Kd.zQi ?_ _) | (with_reducible refine Kd.zQv ?_)));(case side2 => exact (Kd.zQg HO_537001.out).2.1);rintro e w45 ⟨v553,rfl,ho0,hb⟩;refine ⟨_,rfl,?_⟩;replace HO_537000 := am (Kd.zQl (pV HO_537000.out) hb);replace HO_537001 := am (Kd.zQl (pV HO_537001.out) hb);replace HO_537002 := am (Kd.zQl (pV HO_537002.out) hb);replace HO_537003 := am (Kd.zQl (pV HO_537003.out) hb);have HO554 := am (Kd.zQQ (Kd.zQk (ok' := fun k_ => k_ ≠ gb536 ∧ k_ ≠ gb537) ho0 (fun k_ hk_ => ⟨(Kd.zQV (g := gb536) (o := .cells #[u537000,.slice Ao44 x537001_2.length co44,u537002,u537003] 70 (0,0)) (pK BK536.out) k_ hk_),(Kd.zQV (g := gb537) (o := .cells #[.bool ((Go.bits .and .u64 a0 1) == 0)] 4 (0,0)) (pK BK537.out) k_ hk_)⟩)) (zQc pB));replace BK536 := am (pkb BK536.out hb);replace BK537 := am (pkb BK537.out hb);replace HB := am (zQf pB hb);(try clear hb);(try clear ho0);have q46 := cf4 BK536.out;have q47 := cf1 BK537.out;obtain ⟨Ao48,co48,eo48⟩ := Kd.zQF HO554.out;subst eo48;obtain ⟨Ao49,co49,eo49⟩ := Kd.zQF HO_537000.out;subst eo49;obtain ⟨Ao50,co50,eo50⟩ := Kd.zQF HO_537003.out;subst eo50) | (go_at_call 43;(with_reducible refine (dec_high.calls k2 _ _ t552 Ao49 co49 x537000_4 Ao50 co50 x537003_4 ((Go.bits .and .u64 a0 1) == 0) true _ ?side1 ?side2 ?side3 ?side4 ?side5 ?side6 A39.out gb536 gb537 ?side7 ?side8 ?side9).mono ?_);(case side7 => first | exact cz0 BK536.out | exact (zQP (pK BK536.out) 0).trans rfl);(case side8 => first | exact cz3 BK536.out | exact (zQP (pK BK536.out) 3).trans rfl);(case side9 => first | exact cz0 BK537.out | exact (zQP (pK BK537.out) 0).trans rfl);(case side1 => repeat (first | exact (Kd.zQg HO554.out).2.2 | (with_reducible refine Kd.zQj ?_ _) | (with_reducible refine Kd.zQi ?_ _) | (with_reducible refine Kd.zQv ?_)));(case side2 => exact (Kd.zQg HO554.out).2.1);(case side3 => repeat (first | exact (Kd.zQg HO_537000.out).2.2 | (with_reducible refine Kd.zQj ?_ _) | (with_reducible refine Kd.zQi ?_ _) | (with_reducible refine Kd.zQv ?_)));(case side4 => exact (Kd.zQg HO_537000.out).2.1);(case side5 => repeat (first | exact (Kd.zQg HO_537003.out).2.2 | (with_reducible refine Kd.zQj ?_ _) | (with_reducible refine Kd.zQi ?_ _) | (with_reducible refine Kd.zQv ?_)));(case side6 => exact (Kd.zQg HO_537003.out).2.1);rintro e w51 ⟨rfl,hb⟩;replace HO_537000 := am (Kd.zQl (pV HO_537000.out) hb);replace HO_537001 := am (Kd.zQl (pV HO_537001.out) hb);replace HO_537002 := am (Kd.zQl (pV HO_537002.out) hb);replace HO_537003 := am (Kd.zQl (pV HO_537003.out) hb);replace HO554 := am (Kd.zQl (pV HO554.out) hb);replace BK536 := am (pkb BK536.out hb);replace BK537 := am (pkb BK537.out hb);replace HB := am (zQf pB hb);(try clear hb);have q52 := cf4 BK536.out) | ((with_reducible refine zQe (f := 24) rfl ?_);refine zQr (some 61) rfl rfl Tryz.func24 (by kernel_rfl) rfl #[.slice Ao44 x537001_2.length co44,.int .u32 10,.int .u32 0] rfl pM ?_;(with_reducible refine (b_times.calls k2 _ _ x537001_2 10 0 t556 _ ?side1 ?side2 A41.out).mono ?_);(case side1 => repeat (first | exact (Kd.zQg HO_537001.out).2.2 | (with_reducible refine Kd.zQj ?_ _) | (with_reducible refine Kd.zQi ?_ _) | (with_reducible refine Kd.zQv ?_)));(case side2 => exact (Kd.zQg HO_537001.out).2.1);rintro e w53 ⟨v557,rfl,ho0,hb⟩;refine ⟨_,rfl,?_⟩;replace HO_537000 := am (Kd.zQl (pV HO_537000.out) hb);replace HO_537001 := am (Kd.zQl (pV HO_537001.out) hb);replace HO_537002 := am (Kd.zQl (pV HO_537002.out) hb);replace HO_537003 := am (Kd.zQl (pV HO_537003.out) hb);replace HO554 := am (Kd.zQl (pV HO554.out) hb);have HO558 := am (Kd.zQQ (Kd.zQk (ok' := fun k_ => k_ ≠ gb536 ∧ k_ ≠ gb537) ho0 (fun k_ hk_ => ⟨(Kd.zQV (g := gb536) (o := .cells #[.slice Ao49 x537000_4.length co49,.slice Ao44 x537001_2.length co44,u537002,.slice Ao50 x537003_4.length co50] 70 (0,0)) (pK BK536.out) k_ hk_),(Kd.zQV (g := gb537) (o := .cells #[.bool ((Go.bits .and .u64 a0 1) == 0)] 4 (0,0)) (pK BK537.out) k_ hk_)⟩)) (zQc pB));replace BK536 := am (pkb BK536.out hb);replace BK537 := am (pkb BK537.out hb);replace HB := am (zQf pB hb);(try clear hb);(try clear ho0);obtain ⟨Ao54,co54,eo54⟩ := Kd.zQF HO558.out;subst eo54;have q55 := cf4 BK536.out))
      go_roundg k2
      case measure => have := HJ4.out;have := HK2.out;omega
      case rel => exact ⟨(wrap64 (x7_2 + 1)),(t556),(.slice Ao54 t556.length co54),(by first | rfl | (simp;done) | (simp [*];done)),H',⟨by have := HJ4.out;have := HK2.out;omega⟩,⟨by (with_reducible repeat (first | apply Kd.zQn | apply Kd.zQm | apply Kd.zQo));exact Kd.zQk (Kd.V_far (p := ⟨gb536,1,none⟩) (Kd.zQk HO_537000.out (fun k_ hk => (⟨hk,hk.1⟩ : _ ∧ k_ ≠ gb536))) (fun _ hk => hk.2) (.slice Ao54 t556.length co54)) (fun _ hk => ⟨hk.1.1,hk.1.2⟩)⟩,⟨by (with_reducible repeat (first | apply Kd.zQn | apply Kd.zQm | apply Kd.zQo));exact Kd.zQk (Kd.V_far (p := ⟨gb536,1,none⟩) (Kd.zQk HO558.out (fun k_ hk => (⟨hk,hk.1⟩ : _ ∧ k_ ≠ gb536))) (fun _ hk => hk.2) (.slice Ao54 t556.length co54)) (fun _ hk => ⟨hk.1.1,hk.1.2⟩)⟩,⟨by (with_reducible repeat (first | apply Kd.zQn | apply Kd.zQm | apply Kd.zQo));exact Kd.zQk (Kd.V_far (p := ⟨gb536,1,none⟩) (Kd.zQk HO_537002.out (fun k_ hk => (⟨hk,hk.1⟩ : _ ∧ k_ ≠ gb536))) (fun _ hk => hk.2) (.slice Ao54 t556.length co54)) (fun _ hk => ⟨hk.1.1,hk.1.2⟩)⟩,⟨by (with_reducible repeat (first | apply Kd.zQn | apply Kd.zQm | apply Kd.zQo));exact Kd.zQk (Kd.V_far (p := ⟨gb536,1,none⟩) (Kd.zQk HO_537003.out (fun k_ hk => (⟨hk,hk.1⟩ : _ ∧ k_ ≠ gb536))) (fun _ hk => hk.2) (.slice Ao54 t556.length co54)) (fun _ hk => ⟨hk.1.1,hk.1.2⟩)⟩,⟨by (with_reducible repeat (first | refine zQa ?_ _ | refine zQd ?_ | refine zQb ?_ _));refine zQz (cs := #[.slice Ao49 x537000_4.length co49,.slice Ao44 x537001_2.length co44,u537002,.slice Ao50 x537003_4.length co50]) ?_ 1 _ rfl;(with_reducible repeat (first | refine zQa ?_ _ | refine zQd ?_ | refine zQb ?_ _));exact BK536.out⟩,⟨by (with_reducible repeat (first | refine zQa ?_ _ | refine zQd ?_ | refine zQb ?_ _));refine zQL ?_ NB537_536.out _;(with_reducible repeat (first | refine zQa ?_ _ | refine zQd ?_ | refine zQb ?_ _));exact BK537.out⟩,⟨pB⟩⟩
     ·replace c40 := Bool.eq_false_iff.mpr c40
      subst c40
      rw [if_neg (show ¬ (false = true) by decide)] at H
      have H' := am H
      clear H
      have hnb56 := NB536_537.out
      have hnc56 := NB537_536.out
      have q57 := cf4 BK536.out
      obtain ⟨Ao58,co58,eo58⟩ := Kd.zQF HO_537001.out
      subst eo58
      go_wp2_with (first | ((with_reducible refine zQe (f := 24) rfl ?_);refine zQr (some 57) rfl rfl Tryz.func24 (by kernel_rfl) rfl #[.slice Ao58 x537001_2.length co58,.int .u32 10,.int .u32 0] rfl pM ?_;(with_reducible refine (b_times.calls k2 _ _ x537001_2 10 0 t552 _ ?side1 ?side2 A38.out).mono ?_);(case side1 => repeat (first | exact (Kd.zQg HO_537001.out).2.2 | (with_reducible refine Kd.zQj ?_ _) | (with_reducible refine Kd.zQi ?_ _) | (with_reducible refine Kd.zQv ?_)));(case side2 => exact (Kd.zQg HO_537001.out).2.1);rintro e w59 ⟨v553,rfl,ho0,hb⟩;refine ⟨_,rfl,?_⟩;replace HO_537000 := am (Kd.zQl (pV HO_537000.out) hb);replace HO_537001 := am (Kd.zQl (pV HO_537001.out) hb);replace HO_537002 := am (Kd.zQl (pV HO_537002.out) hb);replace HO_537003 := am (Kd.zQl (pV HO_537003.out) hb);have HO554 := am (Kd.zQQ (Kd.zQk (ok' := fun k_ => k_ ≠ gb536 ∧ k_ ≠ gb537) ho0 (fun k_ hk_ => ⟨(Kd.zQV (g := gb536) (o := .cells #[u537000,.slice Ao58 x537001_2.length co58,u537002,u537003] 70 (0,0)) (pK BK536.out) k_ hk_),(Kd.zQV (g := gb537) (o := .cells #[.bool ((Go.bits .and .u64 a0 1) == 0)] 4 (0,0)) (pK BK537.out) k_ hk_)⟩)) (zQc pB));replace BK536 := am (pkb BK536.out hb);replace BK537 := am (pkb BK537.out hb);replace HB := am (zQf pB hb);(try clear hb);(try clear ho0);have q60 := cf4 BK536.out;have q61 := cf1 BK537.out;obtain ⟨Ao62,co62,eo62⟩ := Kd.zQF HO554.out;subst eo62;obtain ⟨Ao63,co63,eo63⟩ := Kd.zQF HO_537000.out;subst eo63;obtain ⟨Ao64,co64,eo64⟩ := Kd.zQF HO_537003.out;subst eo64) | (go_at_call 43;(with_reducible refine (dec_high.calls k2 _ _ t552 Ao63 co63 x537000_4 Ao64 co64 x537003_4 ((Go.bits .and .u64 a0 1) == 0) false _ ?side1 ?side2 ?side3 ?side4 ?side5 ?side6 A39.out gb536 gb537 ?side7 ?side8 ?side9).mono ?_);(case side7 => first | exact cz0 BK536.out | exact (zQP (pK BK536.out) 0).trans rfl);(case side8 => first | exact cz3 BK536.out | exact (zQP (pK BK536.out) 3).trans rfl);(case side9 => first | exact cz0 BK537.out | exact (zQP (pK BK537.out) 0).trans rfl);(case side1 => repeat (first | exact (Kd.zQg HO554.out).2.2 | (with_reducible refine Kd.zQj ?_ _) | (with_reducible refine Kd.zQi ?_ _) | (with_reducible refine Kd.zQv ?_)));(case side2 => exact (Kd.zQg HO554.out).2.1);(case side3 => repeat (first | exact (Kd.zQg HO_537000.out).2.2 | (with_reducible refine Kd.zQj ?_ _) | (with_reducible refine Kd.zQi ?_ _) | (with_reducible refine Kd.zQv ?_)));(case side4 => exact (Kd.zQg HO_537000.out).2.1);(case side5 => repeat (first | exact (Kd.zQg HO_537003.out).2.2 | (with_reducible refine Kd.zQj ?_ _) | (with_reducible refine Kd.zQi ?_ _) | (with_reducible refine Kd.zQv ?_)));(case side6 => exact (Kd.zQg HO_537003.out).2.1);rintro e w65 ⟨rfl,hb⟩;replace HO_537000 := am (Kd.zQl (pV HO_537000.out) hb);replace HO_537001 := am (Kd.zQl (pV HO_537001.out) hb);replace HO_537002 := am (Kd.zQl (pV HO_537002.out) hb);replace HO_537003 := am (Kd.zQl (pV HO_537003.out) hb);replace HO554 := am (Kd.zQl (pV HO554.out) hb);replace BK536 := am (pkb BK536.out hb);replace BK537 := am (pkb BK537.out hb);replace HB := am (zQf pB hb);(try clear hb)))
      go_loopg [7] k2 (fun kq v7 w' => ∃ (x7_3 : Int) (x537000_3 : List Int) (x537002_3 : List Int) (x537003_3 : List Int) (u537000 : Value) (u537002 : Value) (u537003 : Value),v7 = .int .i64 x7_3 ∧ Aside0 (dec_shortest.l1 kq x7_3 x537000_3 x537001_2 x537002_3 x537003_3 ((Go.bits .and .u64 a0 1) == 0) = some (r1,r2)) ∧ Aside0 (kq ≤ k2) ∧ Aside0 (Kd.V (Kd.int .u32) 52 w' w.heap.size (fun k_ => k_ ≠ gb536 ∧ k_ ≠ gb537) u537000 x537000_3) ∧ Aside0 (Kd.V (Kd.int .u32) 52 w' w.heap.size (fun k_ => k_ ≠ gb536 ∧ k_ ≠ gb537) (.slice Ao58 x537001_2.length co58) x537001_2) ∧ Aside0 (Kd.V (Kd.int .u32) 52 w' w.heap.size (fun k_ => k_ ≠ gb536 ∧ k_ ≠ gb537) u537002 x537002_3) ∧ Aside0 (Kd.V (Kd.int .u32) 52 w' w.heap.size (fun k_ => k_ ≠ gb536 ∧ k_ ≠ gb537) u537003 x537003_3) ∧ Aside0 (w'.heap[gb536]? = some (.cells #[u537000,(.slice Ao58 x537001_2.length co58),u537002,u537003] 70 (0,0))) ∧ Aside0 (w'.heap[gb537]? = some (.cells #[.bool ((Go.bits .and .u64 a0 1) == 0)] 4 (0,0))) ∧ Aside0 (Below w.heap.size w w'))
      case atStart => exact ⟨(x7_2),(x537000_4),(x537002_4),(x537003_4),(.slice Ao63 x537000_4.length co63),(u537002),(.slice Ao64 x537003_4.length co64),(by first | rfl | (simp;done) | (simp [*];done)),H',⟨Nat.le_refl _⟩,⟨by (with_reducible repeat (first | apply Kd.zQn | apply Kd.zQm | apply Kd.zQo));exact HO_537000.out⟩,⟨by (with_reducible repeat (first | apply Kd.zQn | apply Kd.zQm | apply Kd.zQo));exact HO_537001.out⟩,⟨by (with_reducible repeat (first | apply Kd.zQn | apply Kd.zQm | apply Kd.zQo));exact HO_537002.out⟩,⟨by (with_reducible repeat (first | apply Kd.zQn | apply Kd.zQm | apply Kd.zQo));exact HO_537003.out⟩,⟨by (with_reducible repeat (first | refine zQa ?_ _ | refine zQd ?_ | refine zQb ?_ _));exact BK536.out⟩,⟨by (with_reducible repeat (first | refine zQa ?_ _ | refine zQd ?_ | refine zQb ?_ _));exact BK537.out⟩,⟨pB⟩⟩
      case round =>
       clear H'
       try clear c1
       try clear c2
       try clear p2
       try clear c4
       try clear c5
       try clear p6
       try clear c14
       try clear c16
       try clear c18
       try clear c18b0
       try clear c18b1
       try clear c20
       try clear c24
       try clear c26
       try clear c27
       try clear c40
       try clear c42
       try clear c43
       try clear c56
       try clear p64
       try clear q15 q21 q24 q43 q46 q47 q52 q55 q57 q60 q61 q9
       try clear p2
       try clear p6
       obtain ⟨x7_3,x537000_3,x537002_3,x537003_3,u537000,u537002,u537003,rfl,HA,HK3,HO_537000,HO_537001,HO_537002,HO_537003,BK536,BK537,HB⟩ := hrel
       cases gk with
       | zero => exact absurd HA.out (by simp [dec_shortest.l1])
       | succ k3 =>
        have H := HA.out
        clear HA
        simp only [dec_shortest.l1] at H
        replace H := Option.bind_eq_some_iff.mp H
        obtain ⟨t559,A660,H⟩ := H
        try dsimp only at H
        have A66 := am A660
        clear A660
        by_cases c67 : t559 = true
        ·subst c67
         rw [if_pos rfl] at H
         have H' := am H
         clear H
         have hnb68 := NB536_537.out
         have hnc68 := NB537_536.out
         have q69 := cf4 BK536.out
         have q70 := cf1 BK537.out
         obtain ⟨Ao71,co71,eo71⟩ := Kd.zQF HO_537000.out
         subst eo71
         obtain ⟨Ao72,co72,eo72⟩ := Kd.zQF HO_537003.out
         subst eo72
         go_wp2_with (first | (go_at_call 43;(with_reducible refine (dec_high.calls k3 _ _ x537001_2 Ao71 co71 x537000_3 Ao72 co72 x537003_3 ((Go.bits .and .u64 a0 1) == 0) true _ ?side1 ?side2 ?side3 ?side4 ?side5 ?side6 A66.out gb536 gb537 ?side7 ?side8 ?side9).mono ?_);(case side7 => first | exact cz0 BK536.out | exact (zQP (pK BK536.out) 0).trans rfl);(case side8 => first | exact cz3 BK536.out | exact (zQP (pK BK536.out) 3).trans rfl);(case side9 => first | exact cz0 BK537.out | exact (zQP (pK BK537.out) 0).trans rfl);(case side1 => repeat (first | exact (Kd.zQg HO_537001.out).2.2 | (with_reducible refine Kd.zQj ?_ _) | (with_reducible refine Kd.zQi ?_ _) | (with_reducible refine Kd.zQv ?_)));(case side2 => exact (Kd.zQg HO_537001.out).2.1);(case side3 => repeat (first | exact (Kd.zQg HO_537000.out).2.2 | (with_reducible refine Kd.zQj ?_ _) | (with_reducible refine Kd.zQi ?_ _) | (with_reducible refine Kd.zQv ?_)));(case side4 => exact (Kd.zQg HO_537000.out).2.1);(case side5 => repeat (first | exact (Kd.zQg HO_537003.out).2.2 | (with_reducible refine Kd.zQj ?_ _) | (with_reducible refine Kd.zQi ?_ _) | (with_reducible refine Kd.zQv ?_)));(case side6 => exact (Kd.zQg HO_537003.out).2.1);rintro e w73 ⟨rfl,hb⟩;replace HO_537000 := am (Kd.zQl (pV HO_537000.out) hb);replace HO_537001 := am (Kd.zQl (pV HO_537001.out) hb);replace HO_537002 := am (Kd.zQl (pV HO_537002.out) hb);replace HO_537003 := am (Kd.zQl (pV HO_537003.out) hb);replace BK536 := am (pkb BK536.out hb);replace BK537 := am (pkb BK537.out hb);replace HB := am (zQf pB hb);(try clear hb)))
         go_loopg [8] k3 (fun kq v8 w' => ∃ (x8_4 : List Int) (x537000_4 : List Int) (x537002_4 : List Int) (x537003_4 : List Int) (u537000 : Value) (u537002 : Value) (u537003 : Value),Aside0 (dec_shortest.l2 kq x7_3 x8_4 x537000_4 x537001_2 x537002_4 x537003_4 ((Go.bits .and .u64 a0 1) == 0) = some (r1,r2)) ∧ Aside0 (kq ≤ k3) ∧ Aside0 (Kd.R (Kd.int .u8) 5 w' w.heap.size (fun _ => True) v8 x8_4) ∧ Aside0 (Kd.V (Kd.int .u32) 52 w' w.heap.size (fun k_ => some k_ ≠ (v8 : Value).ownBlock ∧ k_ ≠ gb536 ∧ k_ ≠ gb537) u537000 x537000_4) ∧ Aside0 (Kd.V (Kd.int .u32) 52 w' w.heap.size (fun k_ => some k_ ≠ (v8 : Value).ownBlock ∧ k_ ≠ gb536 ∧ k_ ≠ gb537) (.slice Ao58 x537001_2.length co58) x537001_2) ∧ Aside0 (Kd.V (Kd.int .u32) 52 w' w.heap.size (fun k_ => some k_ ≠ (v8 : Value).ownBlock ∧ k_ ≠ gb536 ∧ k_ ≠ gb537) u537002 x537002_4) ∧ Aside0 (Kd.V (Kd.int .u32) 52 w' w.heap.size (fun k_ => some k_ ≠ (v8 : Value).ownBlock ∧ k_ ≠ gb536 ∧ k_ ≠ gb537) u537003 x537003_4) ∧ Aside0 (w'.heap[gb536]? = some (.cells #[u537000,(.slice Ao58 x537001_2.length co58),u537002,u537003] 70 (0,0))) ∧ Aside0 (w'.heap[gb537]? = some (.cells #[.bool ((Go.bits .and .u64 a0 1) == 0)] 4 (0,0))) ∧ Aside0 (Below w.heap.size w w'))
         case atStart => exact ⟨(([] : List Int)),(x537000_3),(x537002_3),(x537003_3),(.slice Ao71 x537000_3.length co71),(u537002),(.slice Ao72 x537003_3.length co72),H',⟨Nat.le_refl _⟩,⟨pZ⟩,⟨by (with_reducible repeat (first | apply Kd.zQn | apply Kd.zQm | apply Kd.zQo));exact Kd.zQk HO_537000.out (fun _ hk => ⟨(by simp [Value.ownBlock]),⟨hk.1,hk.2⟩⟩)⟩,⟨by (with_reducible repeat (first | apply Kd.zQn | apply Kd.zQm | apply Kd.zQo));exact Kd.zQk HO_537001.out (fun _ hk => ⟨(by simp [Value.ownBlock]),⟨hk.1,hk.2⟩⟩)⟩,⟨by (with_reducible repeat (first | apply Kd.zQn | apply Kd.zQm | apply Kd.zQo));exact Kd.zQk HO_537002.out (fun _ hk => ⟨(by simp [Value.ownBlock]),⟨hk.1,hk.2⟩⟩)⟩,⟨by (with_reducible repeat (first | apply Kd.zQn | apply Kd.zQm | apply Kd.zQo));exact Kd.zQk HO_537003.out (fun _ hk => ⟨(by simp [Value.ownBlock]),⟨hk.1,hk.2⟩⟩)⟩,⟨by (with_reducible repeat (first | refine zQa ?_ _ | refine zQd ?_ | refine zQb ?_ _));exact BK536.out⟩,⟨by (with_reducible repeat (first | refine zQa ?_ _ | refine zQd ?_ | refine zQb ?_ _));exact BK537.out⟩,⟨pB⟩⟩
         case round =>
          clear H'
          try clear c1
          try clear c2
          try clear p2
          try clear c4
          try clear c5
          try clear c6
          try clear p6
          try clear c14
          try clear c16
          try clear c18
          try clear c18b0
          try clear c18b1
          try clear c20
          try clear c24
          try clear c26
          try clear c27
          try clear c40
          try clear c42
          try clear c43
          try clear c56
          try clear p64
          try clear c67
          try clear c68
          try clear q15 q21 q24 q43 q46 q47 q52 q55 q57 q60 q61 q69 q70 q9
          try clear p2
          try clear p6
          try clear p64
          obtain ⟨x8_4,x537000_4,x537002_4,x537003_4,u537000,u537002,u537003,HA,HK4,HO_8,HO_537000,HO_537001,HO_537002,HO_537003,BK536,BK537,HB⟩ := hrel
          cases gk with
          | zero => exact absurd HA.out (by simp [dec_shortest.l2])
          | succ k4 =>
           have H := HA.out
           clear HA
           simp only [dec_shortest.l2] at H
           have H' := am H
           clear H
           go_wp2
           go_loopg [9] k4 (fun kq v9 w' => ∃ (x9_5 : Int) (x537000_5 : List Int) (u537000 : Value),v9 = .int .u8 x9_5 ∧ Aside0 (dec_shortest.l3 kq x7_3 x8_4 x9_5 x537000_5 x537001_2 x537002_4 x537003_4 ((Go.bits .and .u64 a0 1) == 0) = some (r1,r2)) ∧ Aside0 (kq ≤ k4) ∧ Aside0 (Kd.R (Kd.int .u8) 5 w' w.heap.size (fun _ => True) u8 x8_4) ∧ Aside0 (Kd.V (Kd.int .u32) 52 w' w.heap.size (fun k_ => some k_ ≠ (u8 : Value).ownBlock ∧ k_ ≠ gb536 ∧ k_ ≠ gb537) u537000 x537000_5) ∧ Aside0 (Kd.V (Kd.int .u32) 52 w' w.heap.size (fun k_ => some k_ ≠ (u8 : Value).ownBlock ∧ k_ ≠ gb536 ∧ k_ ≠ gb537) (.slice Ao58 x537001_2.length co58) x537001_2) ∧ Aside0 (Kd.V (Kd.int .u32) 52 w' w.heap.size (fun k_ => some k_ ≠ (u8 : Value).ownBlock ∧ k_ ≠ gb536 ∧ k_ ≠ gb537) u537002 x537002_4) ∧ Aside0 (Kd.V (Kd.int .u32) 52 w' w.heap.size (fun k_ => some k_ ≠ (u8 : Value).ownBlock ∧ k_ ≠ gb536 ∧ k_ ≠ gb537) u537003 x537003_4) ∧ Aside0 (w'.heap[gb536]? = some (.cells #[u537000,(.slice Ao58 x537001_2.length co58),u537002,u537003] 70 (0,0))) ∧ Aside0 (w'.heap[gb537]? = some (.cells #[.bool ((Go.bits .and .u64 a0 1) == 0)] 4 (0,0))) ∧ Aside0 (Below w.heap.size w w'))
           case atStart => exact ⟨(0),(x537000_4),(u537000),(by first | rfl | (simp;done) | (simp [*];done)),H',⟨Nat.le_refl _⟩,⟨by (with_reducible repeat (first | apply Kd.zQw | apply Kd.zQu | apply Kd.zQx));exact HO_8.out⟩,⟨by (with_reducible repeat (first | apply Kd.zQn | apply Kd.zQm | apply Kd.zQo));exact HO_537000.out⟩,⟨by (with_reducible repeat (first | apply Kd.zQn | apply Kd.zQm | apply Kd.zQo));exact HO_537001.out⟩,⟨by (with_reducible repeat (first | apply Kd.zQn | apply Kd.zQm | apply Kd.zQo));exact HO_537002.out⟩,⟨by (with_reducible repeat (first | apply Kd.zQn | apply Kd.zQm | apply Kd.zQo));exact HO_537003.out⟩,⟨by (with_reducible repeat (first | refine zQa ?_ _ | refine zQd ?_ | refine zQb ?_ _));exact BK536.out⟩,⟨by (with_reducible repeat (first | refine zQa ?_ _ | refine zQd ?_ | refine zQb ?_ _));exact BK537.out⟩,⟨pB⟩⟩
           case round =>
            clear H'
            try clear c1
            try clear c2
            try clear p2
            try clear c4
            try clear c5
            try clear c6
            try clear p6
            try clear c14
            try clear c16
            try clear c18
            try clear c18b0
            try clear c18b1
            try clear c20
            try clear c24
            try clear c26
            try clear c27
            try clear c40
            try clear c42
            try clear c43
            try clear c56
            try clear p64
            try clear c67
            try clear c68
            try clear q15 q21 q24 q43 q46 q47 q52 q55 q57 q60 q61 q69 q70 q9
            try clear p2
            try clear p6
            try clear p64
            obtain ⟨x9_5,x537000_5,u537000,rfl,HA,HK5,HO_8,HO_537000,HO_537001,HO_537002,HO_537003,BK536,BK537,HB⟩ := hrel
            cases gk with
            | zero => exact absurd HA.out (by simp [dec_shortest.l3])
            | succ k5 =>
             have H := HA.out
             clear HA
             simp only [dec_shortest.l3] at H
             replace H := Option.bind_eq_some_iff.mp H
             obtain ⟨t569,A740,H⟩ := H
             try dsimp only at H
             have A74 := am A740
             clear A740
             by_cases c75 : t569 ≥ 0
             ·rw [if_pos c75] at H
              have c75b0 : decide (0 ≤ t569) = true := decide_eq_true c75
              clear c75
              replace H := Option.bind_eq_some_iff.mp H
              obtain ⟨t570,A760,H⟩ := H
              try dsimp only at H
              have A76 := am A760
              clear A760
              have H' := am H
              clear H
              have hnb77 := NB536_537.out
              have hnc77 := NB537_536.out
              have q78 := cf4 BK536.out
              obtain ⟨Ao79,co79,eo79⟩ := Kd.zQF HO_537000.out
              subst eo79
              go_wp2_with (first | ((with_reducible refine zQe (f := 45) rfl ?_);refine zQr (some 88) rfl rfl Tryz.func45 (by kernel_rfl) rfl #[.slice Ao79 x537000_5.length co79,.slice Ao58 x537001_2.length co58] rfl pM ?_;(with_reducible refine (b_cmp.calls k5 _ _ x537000_5 _ _ x537001_2 t569 _ ?side1 ?side2 ?side3 ?side4 A74.out).mono ?_);(case side1 => repeat (first | exact (Kd.zQg HO_537000.out).2.2 | (with_reducible refine Kd.zQj ?_ _) | (with_reducible refine Kd.zQi ?_ _) | (with_reducible refine Kd.zQv ?_)));(case side2 => exact (Kd.zQg HO_537000.out).2.1);(case side3 => repeat (first | exact (Kd.zQg HO_537001.out).2.2 | (with_reducible refine Kd.zQj ?_ _) | (with_reducible refine Kd.zQi ?_ _) | (with_reducible refine Kd.zQv ?_)));(case side4 => exact (Kd.zQg HO_537001.out).2.1);rintro e w' ⟨rfl,⟨nd,rfl⟩⟩;refine ⟨_,rfl,?_⟩;(try (rw [zXc wr];generalize hq_ : World.drewN wr _ = wr;have n0_ : Aside0 (Kd.V (Kd.int .u32) 52 wr w.heap.size (fun k_ => some k_ ≠ (u8 : Value).ownBlock ∧ k_ ≠ gb536 ∧ k_ ≠ gb537) (.slice Ao79 x537000_5.length co79) x537000_5) := ⟨by rw [← hq_];exact (pV HO_537000.out)⟩;have n1_ : Aside0 (Kd.V (Kd.int .u32) 52 wr w.heap.size (fun k_ => some k_ ≠ (u8 : Value).ownBlock ∧ k_ ≠ gb536 ∧ k_ ≠ gb537) (.slice Ao58 x537001_2.length co58) x537001_2) := ⟨by rw [← hq_];exact (pV HO_537001.out)⟩;have n2_ : Aside0 (Kd.V (Kd.int .u32) 52 wr w.heap.size (fun k_ => some k_ ≠ (u8 : Value).ownBlock ∧ k_ ≠ gb536 ∧ k_ ≠ gb537) u537002 x537002_4) := ⟨by rw [← hq_];exact (pV HO_537002.out)⟩;have n3_ : Aside0 (Kd.V (Kd.int .u32) 52 wr w.heap.size (fun k_ => some k_ ≠ (u8 : Value).ownBlock ∧ k_ ≠ gb536 ∧ k_ ≠ gb537) u537003 x537003_4) := ⟨by rw [← hq_];exact (pV HO_537003.out)⟩;have n4_ : Aside0 (Kd.R (Kd.int .u8) 5 wr w.heap.size (fun _ => True) u8 x8_4) := ⟨by rw [← hq_];exact (pR HO_8.out)⟩;have n5_ : Aside0 (wr.heap[gb536]? = some (.cells #[.slice Ao79 x537000_5.length co79,.slice Ao58 x537001_2.length co58,u537002,u537003] 70 (0,0))) := ⟨by rw [← hq_];exact (pK BK536.out)⟩;have n6_ : Aside0 (wr.heap[gb537]? = some (.cells #[.bool ((Go.bits .and .u64 a0 1) == 0)] 4 (0,0))) := ⟨by rw [← hq_];exact (pK BK537.out)⟩;have n7_ : Aside0 (Below w.heap.size w wr) := ⟨by rw [← hq_];exact pB⟩;clear HO_537000 HO_537001 HO_537002 HO_537003 HO_8 BK536 BK537 HB hq_;have HO_537000 := n0_;have HO_537001 := n1_;have HO_537002 := n2_;have HO_537003 := n3_;have HO_8 := n4_;have BK536 := n5_;have BK537 := n6_;have HB := n7_;clear n0_ n1_ n2_ n3_ n4_ n5_ n6_ n7_;have qw_gb536 := cf1 BK536.out;have hczw_gb536_1 : wr.cell? ⟨gb536,1,none⟩ = some (.slice Ao58 x537001_2.length co58) := cz1 BK536.out;have hfzw_gb536_1 := zQK BK536.out 1;have hczw_gb536_2 : wr.cell? ⟨gb536,2,none⟩ = some (u537002) := cz2 BK536.out;have hfzw_gb536_2 := zQK BK536.out 2;have hczw_gb536_3 : wr.cell? ⟨gb536,3,none⟩ = some (u537003) := cz3 BK536.out;have hfzw_gb536_3 := zQK BK536.out 3;have qw_gb537 := cf1 BK537.out))) | ((with_reducible refine zQe (f := 46) rfl ?_);refine zQr (some 94) rfl rfl Tryz.func46 (by kernel_rfl) rfl #[.slice Ao79 x537000_5.length co79,.slice Ao58 x537001_2.length co58] rfl pM ?_;(with_reducible refine (b_minus.calls k5 _ _ x537000_5 _ _ x537001_2 t570 _ ?side1 ?side2 ?side3 ?side4 A76.out).mono ?_);(case side1 => repeat (first | exact (Kd.zQg HO_537000.out).2.2 | (with_reducible refine Kd.zQj ?_ _) | (with_reducible refine Kd.zQi ?_ _) | (with_reducible refine Kd.zQv ?_)));(case side2 => exact (Kd.zQg HO_537000.out).2.1);(case side3 => repeat (first | exact (Kd.zQg HO_537001.out).2.2 | (with_reducible refine Kd.zQj ?_ _) | (with_reducible refine Kd.zQi ?_ _) | (with_reducible refine Kd.zQv ?_)));(case side4 => exact (Kd.zQg HO_537001.out).2.1);rintro e w80 ⟨v571,rfl,ho0,hb⟩;refine ⟨_,rfl,?_⟩;replace HO_537000 := am (Kd.zQl (pV HO_537000.out) hb);replace HO_537001 := am (Kd.zQl (pV HO_537001.out) hb);replace HO_537002 := am (Kd.zQl (pV HO_537002.out) hb);replace HO_537003 := am (Kd.zQl (pV HO_537003.out) hb);have HO572 := am (Kd.zQQ (Kd.zQk (ok' := fun k_ => some k_ ≠ (u8 : Value).ownBlock ∧ k_ ≠ gb536 ∧ k_ ≠ gb537) ho0 (fun k_ hk_ => ⟨(Kd.fresh' (Kd.R_lt (pR HO_8.out)) k_ hk_),(Kd.zQV (g := gb536) (o := .cells #[.slice Ao79 x537000_5.length co79,.slice Ao58 x537001_2.length co58,u537002,u537003] 70 (0,0)) (pK BK536.out) k_ hk_),(Kd.zQV (g := gb537) (o := .cells #[.bool ((Go.bits .and .u64 a0 1) == 0)] 4 (0,0)) (pK BK537.out) k_ hk_)⟩)) (zQc pB));replace HO_8 := am (Kd.zQH (pR HO_8.out) hb);replace BK536 := am (pkb BK536.out hb);replace BK537 := am (pkb BK537.out hb);replace HB := am (zQf pB hb);(try clear hb);(try clear ho0);obtain ⟨Ao81,co81,eo81⟩ := Kd.zQF HO572.out;subst eo81;have q82 := cf4 BK536.out))
              go_roundg k5
              case measure => have := HJ4.out;have := HK2.out;have := HK3.out;have := HK4.out;have := HK5.out;omega
              case rel => exact ⟨((x9_5 + 1) % 256),(t570),(.slice Ao81 t570.length co81),(by first | rfl | (simp;done) | (simp [*];done)),H',⟨by have := HJ4.out;have := HK2.out;have := HK3.out;have := HK4.out;have := HK5.out;omega⟩,⟨by (with_reducible repeat (first | apply Kd.zQw | apply Kd.zQu | apply Kd.zQx));exact Kd.zQE (Kd.R_far (p := ⟨gb536,0,none⟩) (Kd.zQX HO_8.out BK536.out (by decide)) (fun _ hk => hk.2) (.slice Ao81 t570.length co81)) (fun _ hk => trivial)⟩,⟨by (with_reducible repeat (first | apply Kd.zQn | apply Kd.zQm | apply Kd.zQo));exact Kd.zQk (Kd.V_far (p := ⟨gb536,0,none⟩) (Kd.zQk HO572.out (fun k_ hk => (⟨hk,hk.2.1⟩ : _ ∧ k_ ≠ gb536))) (fun _ hk => hk.2) (.slice Ao81 t570.length co81)) (fun _ hk => ⟨hk.1.1,⟨hk.1.2.1,hk.1.2.2⟩⟩)⟩,⟨by (with_reducible repeat (first | apply Kd.zQn | apply Kd.zQm | apply Kd.zQo));exact Kd.zQk (Kd.V_far (p := ⟨gb536,0,none⟩) (Kd.zQk HO_537001.out (fun k_ hk => (⟨hk,hk.2.1⟩ : _ ∧ k_ ≠ gb536))) (fun _ hk => hk.2) (.slice Ao81 t570.length co81)) (fun _ hk => ⟨hk.1.1,⟨hk.1.2.1,hk.1.2.2⟩⟩)⟩,⟨by (with_reducible repeat (first | apply Kd.zQn | apply Kd.zQm | apply Kd.zQo));exact Kd.zQk (Kd.V_far (p := ⟨gb536,0,none⟩) (Kd.zQk HO_537002.out (fun k_ hk => (⟨hk,hk.2.1⟩ : _ ∧ k_ ≠ gb536))) (fun _ hk => hk.2) (.slice Ao81 t570.length co81)) (fun _ hk => ⟨hk.1.1,⟨hk.1.2.1,hk.1.2.2⟩⟩)⟩,⟨by (with_reducible repeat (first | apply Kd.zQn | apply Kd.zQm | apply Kd.zQo));exact Kd.zQk (Kd.V_far (p := ⟨gb536,0,none⟩) (Kd.zQk HO_537003.out (fun k_ hk => (⟨hk,hk.2.1⟩ : _ ∧ k_ ≠ gb536))) (fun _ hk => hk.2) (.slice Ao81 t570.length co81)) (fun _ hk => ⟨hk.1.1,⟨hk.1.2.1,hk.1.2.2⟩⟩)⟩,⟨by (with_reducible repeat (first | refine zQa ?_ _ | refine zQd ?_ | refine zQb ?_ _));refine zQz (cs := #[.slice Ao79 x537000_5.length co79,.slice Ao58 x537001_2.length co58,u537002,u537003]) ?_ 0 _ rfl;(with_reducible repeat (first | refine zQa ?_ _ | refine zQd ?_ | refine zQb ?_ _));exact BK536.out⟩,⟨by (with_reducible repeat (first | refine zQa ?_ _ | refine zQd ?_ | refine zQb ?_ _));refine zQL ?_ NB537_536.out _;(with_reducible repeat (first | refine zQa ?_ _ | refine zQd ?_ | refine zQb ?_ _));exact BK537.out⟩,⟨pB⟩⟩
             ·rw [if_neg c75] at H
              have c75b0 : decide (0 ≤ t569) = false := decide_eq_false c75
              clear c75
              replace H := Option.bind_eq_some_iff.mp H
              obtain ⟨t573,A830,H⟩ := H
              try dsimp only at H
              have A83 := am A830
              clear A830
              have HC84 := am H
              clear H
              have hnb85 := NB536_537.out
              have hnc85 := NB537_536.out
              have q86 := cf4 BK536.out
              obtain ⟨Ao87,co87,eo87⟩ := Kd.zQF HO_537000.out
              subst eo87
              go_upto_region 17 with (first | ((with_reducible refine zQe (f := 45) rfl ?_);refine zQr (some 88) rfl rfl Tryz.func45 (by kernel_rfl) rfl #[.slice Ao87 x537000_5.length co87,.slice Ao58 x537001_2.length co58] rfl pM ?_;(with_reducible refine (b_cmp.calls k5 _ _ x537000_5 _ _ x537001_2 t569 _ ?side1 ?side2 ?side3 ?side4 A74.out).mono ?_);(case side1 => repeat (first | exact (Kd.zQg HO_537000.out).2.2 | (with_reducible refine Kd.zQj ?_ _) | (with_reducible refine Kd.zQi ?_ _) | (with_reducible refine Kd.zQv ?_)));(case side2 => exact (Kd.zQg HO_537000.out).2.1);(case side3 => repeat (first | exact (Kd.zQg HO_537001.out).2.2 | (with_reducible refine Kd.zQj ?_ _) | (with_reducible refine Kd.zQi ?_ _) | (with_reducible refine Kd.zQv ?_)));(case side4 => exact (Kd.zQg HO_537001.out).2.1);rintro e w' ⟨rfl,⟨nd,rfl⟩⟩;refine ⟨_,rfl,?_⟩;obtain ⟨Ao88,co88,eo88⟩ := Kd.zQF HO_537002.out;subst eo88) | ((with_reducible refine zQe (f := 45) rfl ?_);refine zQr (some 102) rfl rfl Tryz.func45 (by kernel_rfl) rfl #[.slice Ao87 x537000_5.length co87,.slice Ao88 x537002_4.length co88] rfl pM ?_;(with_reducible refine (b_cmp.calls k5 _ _ x537000_5 _ _ x537002_4 t573 _ ?side1 ?side2 ?side3 ?side4 A83.out).mono ?_);(case side1 => repeat (first | exact (Kd.zQg HO_537000.out).2.2 | (with_reducible refine Kd.zQj ?_ _) | (with_reducible refine Kd.zQi ?_ _) | (with_reducible refine Kd.zQv ?_)));(case side2 => exact (Kd.zQg HO_537000.out).2.1);(case side3 => repeat (first | exact (Kd.zQg HO_537002.out).2.2 | (with_reducible refine Kd.zQj ?_ _) | (with_reducible refine Kd.zQi ?_ _) | (with_reducible refine Kd.zQv ?_)));(case side4 => exact (Kd.zQg HO_537002.out).2.1);rintro e w' ⟨rfl,⟨nd,rfl⟩⟩;refine ⟨_,rfl,?_⟩))
              (try simp only [Act.put,List.setIfInBounds_toArray,List.set_cons_zero,List.set_cons_succ])
              go_cut [11,12] (fun v11 v12 wc => ∃ (kq : Nat) (x11_83 : Bool) (x12_83 : Bool),v11 = .bool x11_83 ∧ v12 = .bool x12_83 ∧ Aside0 (dec_shortest.j5 kq x7_3 x8_4 x9_5 x11_83 x12_83 x537000_5 x537001_2 x537002_4 x537003_4 ((Go.bits .and .u64 a0 1) == 0) = some (r1,r2)) ∧ Aside0 (kq ≤ k5) ∧ Aside0 (Kd.R (Kd.int .u8) 5 wc w.heap.size (fun _ => True) u8 x8_4) ∧ Aside0 (Kd.V (Kd.int .u32) 52 wc w.heap.size (fun k_ => some k_ ≠ (u8 : Value).ownBlock ∧ k_ ≠ gb536 ∧ k_ ≠ gb537) (.slice Ao87 x537000_5.length co87) x537000_5) ∧ Aside0 (Kd.V (Kd.int .u32) 52 wc w.heap.size (fun k_ => some k_ ≠ (u8 : Value).ownBlock ∧ k_ ≠ gb536 ∧ k_ ≠ gb537) (.slice Ao58 x537001_2.length co58) x537001_2) ∧ Aside0 (Kd.V (Kd.int .u32) 52 wc w.heap.size (fun k_ => some k_ ≠ (u8 : Value).ownBlock ∧ k_ ≠ gb536 ∧ k_ ≠ gb537) (.slice Ao88 x537002_4.length co88) x537002_4) ∧ Aside0 (Kd.V (Kd.int .u32) 52 wc w.heap.size (fun k_ => some k_ ≠ (u8 : Value).ownBlock ∧ k_ ≠ gb536 ∧ k_ ≠ gb537) u537003 x537003_4) ∧ Aside0 (wc.heap[gb536]? = some (.cells #[(.slice Ao87 x537000_5.length co87),(.slice Ao58 x537001_2.length co58),(.slice Ao88 x537002_4.length co88),u537003] 70 (0,0))) ∧ Aside0 (wc.heap[gb537]? = some (.cells #[.bool ((Go.bits .and .u64 a0 1) == 0)] 4 (0,0))) ∧ Aside0 (Below w.heap.size w wc))
              case first =>
               have H := HC84.out
               clear HC84
               by_cases c89 : t573 < 0
               ·rw [if_pos c89] at H
                have c89b0 : decide (t573 < 0) = true := decide_eq_true c89
                clear c89
                (first | rw [c89b0] | (simp only [i64_w,i32_w];rw [c89b0]) | rw [c89b1] | (simp only [i64_w,i32_w];rw [c89b1]) | skip)
                replace H := Option.bind_eq_some_iff.mp H
                obtain ⟨t574,A900,H⟩ := H
                try dsimp only at H
                have A90 := am A900
                clear A900
                have H' := am H
                clear H
                have hnb91 := NB536_537.out
                have hnc91 := NB537_536.out
                have q92 := cf4 BK536.out
                have q93 := cf1 BK537.out
                obtain ⟨Ao94,co94,eo94⟩ := Kd.zQF HO_537003.out
                subst eo94
                go_wp2_with (first | (go_at_call 43;(with_reducible refine (dec_high.calls k5 _ _ x537001_2 Ao87 co87 x537000_5 Ao94 co94 x537003_4 ((Go.bits .and .u64 a0 1) == 0) t574 _ ?side1 ?side2 ?side3 ?side4 ?side5 ?side6 A90.out gb536 gb537 ?side7 ?side8 ?side9).mono ?_);(case side7 => first | exact cz0 BK536.out | exact (zQP (pK BK536.out) 0).trans rfl);(case side8 => first | exact cz3 BK536.out | exact (zQP (pK BK536.out) 3).trans rfl);(case side9 => first | exact cz0 BK537.out | exact (zQP (pK BK537.out) 0).trans rfl);(case side1 => repeat (first | exact (Kd.zQg HO_537001.out).2.2 | (with_reducible refine Kd.zQj ?_ _) | (with_reducible refine Kd.zQi ?_ _) | (with_reducible refine Kd.zQv ?_)));(case side2 => exact (Kd.zQg HO_537001.out).2.1);(case side3 => repeat (first | exact (Kd.zQg HO_537000.out).2.2 | (with_reducible refine Kd.zQj ?_ _) | (with_reducible refine Kd.zQi ?_ _) | (with_reducible refine Kd.zQv ?_)));(case side4 => exact (Kd.zQg HO_537000.out).2.1);(case side5 => repeat (first | exact (Kd.zQg HO_537003.out).2.2 | (with_reducible refine Kd.zQj ?_ _) | (with_reducible refine Kd.zQi ?_ _) | (with_reducible refine Kd.zQv ?_)));(case side6 => exact (Kd.zQg HO_537003.out).2.1);rintro e w95 ⟨rfl,hb⟩;replace HO_8 := am (Kd.zQH (pR HO_8.out) hb);replace HO_537000 := am (Kd.zQl (pV HO_537000.out) hb);replace HO_537001 := am (Kd.zQl (pV HO_537001.out) hb);replace HO_537002 := am (Kd.zQl (pV HO_537002.out) hb);replace HO_537003 := am (Kd.zQl (pV HO_537003.out) hb);replace BK536 := am (pkb BK536.out hb);replace BK537 := am (pkb BK537.out hb);replace HB := am (zQf pB hb);(try clear hb)))
                go_meet
                case rel => exact ⟨_,(true),(t574),(by first | rfl | (simp;done) | (simp [*];done)),(by first | rfl | (simp;done) | (simp [*];done)),H',⟨by have := HJ4.out;have := HK2.out;have := HK3.out;have := HK4.out;have := HK5.out;first | omega | exact Nat.le_refl _⟩,⟨by (with_reducible repeat (first | apply Kd.zQw | apply Kd.zQu | apply Kd.zQx));exact HO_8.out⟩,⟨by (with_reducible repeat (first | apply Kd.zQn | apply Kd.zQm | apply Kd.zQo));exact HO_537000.out⟩,⟨by (with_reducible repeat (first | apply Kd.zQn | apply Kd.zQm | apply Kd.zQo));exact HO_537001.out⟩,⟨by (with_reducible repeat (first | apply Kd.zQn | apply Kd.zQm | apply Kd.zQo));exact HO_537002.out⟩,⟨by (with_reducible repeat (first | apply Kd.zQn | apply Kd.zQm | apply Kd.zQo));exact HO_537003.out⟩,⟨by (with_reducible repeat (first | refine zQa ?_ _ | refine zQd ?_ | refine zQb ?_ _));exact BK536.out⟩,⟨by (with_reducible repeat (first | refine zQa ?_ _ | refine zQd ?_ | refine zQb ?_ _));exact BK537.out⟩,⟨pB⟩⟩
               ·rw [if_neg c89] at H
                have c89b0 : decide (t573 < 0) = false := decide_eq_false c89
                clear c89
                (first | rw [c89b0] | (simp only [i64_w,i32_w];rw [c89b0]) | rw [c89b1] | (simp only [i64_w,i32_w];rw [c89b1]) | skip)
                by_cases c96 : ((Go.bits .and .u64 a0 1) == 0) = true
                ·rw [if_pos c96] at H
                 have c96b0 : ((Go.bits .and .u64 a0 1) == 0) = true := c96
                 (try (have c96b1 : decide ((Go.bits .and .u64 a0 1) = 0) = true := by simpa using c96))
                 (try (have c96b2 : ((Go.bits .and .u64 a0 1) == 0) = true := by simpa using c96))
                 clear c96
                 replace H := Option.bind_eq_some_iff.mp H
                 obtain ⟨t575,A970,H⟩ := H
                 try dsimp only at H
                 have A97 := am A970
                 clear A970
                 have H' := am H
                 clear H
                 have hnb98 := NB537_536.out
                 have hnc98 := NB536_537.out
                 have q99 := cf1 BK537.out
                 have q100 := cf4 BK536.out
                 obtain ⟨Ao101,co101,eo101⟩ := Kd.zQF HO_537003.out
                 subst eo101
                 go_wp2_with (first | (go_at_call 43;(with_reducible refine (dec_high.calls k5 _ _ x537001_2 Ao87 co87 x537000_5 Ao101 co101 x537003_4 ((Go.bits .and .u64 a0 1) == 0) t575 _ ?side1 ?side2 ?side3 ?side4 ?side5 ?side6 A97.out gb536 gb537 ?side7 ?side8 ?side9).mono ?_);(case side7 => first | exact cz0 BK536.out | exact (zQP (pK BK536.out) 0).trans rfl);(case side8 => first | exact cz3 BK536.out | exact (zQP (pK BK536.out) 3).trans rfl);(case side9 => first | exact cz0 BK537.out | exact (zQP (pK BK537.out) 0).trans rfl);(case side1 => repeat (first | exact (Kd.zQg HO_537001.out).2.2 | (with_reducible refine Kd.zQj ?_ _) | (with_reducible refine Kd.zQi ?_ _) | (with_reducible refine Kd.zQv ?_)));(case side2 => exact (Kd.zQg HO_537001.out).2.1);(case side3 => repeat (first | exact (Kd.zQg HO_537000.out).2.2 | (with_reducible refine Kd.zQj ?_ _) | (with_reducible refine Kd.zQi ?_ _) | (with_reducible refine Kd.zQv ?_)));(case side4 => exact (Kd.zQg HO_537000.out).2.1);(case side5 => repeat (first | exact (Kd.zQg HO_537003.out).2.2 | (with_reducible refine Kd.zQj ?_ _) | (with_reducible refine Kd.zQi ?_ _) | (with_reducible refine Kd.zQv ?_)));(case side6 => exact (Kd.zQg HO_537003.out).2.1);rintro e w102 ⟨rfl,hb⟩;replace HO_8 := am (Kd.zQH (pR HO_8.out) hb);replace HO_537000 := am (Kd.zQl (pV HO_537000.out) hb);replace HO_537001 := am (Kd.zQl (pV HO_537001.out) hb);replace HO_537002 := am (Kd.zQl (pV HO_537002.out) hb);replace HO_537003 := am (Kd.zQl (pV HO_537003.out) hb);replace BK536 := am (pkb BK536.out hb);replace BK537 := am (pkb BK537.out hb);replace HB := am (zQf pB hb);(try clear hb)))
                 go_meet
                 case rel => exact ⟨_,((t573 == 0)),(t575),(by first | rfl | (simp;done) | (simp [*];done)),(by first | rfl | (simp;done) | (simp [*];done)),H',⟨by have := HJ4.out;have := HK2.out;have := HK3.out;have := HK4.out;have := HK5.out;first | omega | exact Nat.le_refl _⟩,⟨by (with_reducible repeat (first | apply Kd.zQw | apply Kd.zQu | apply Kd.zQx));exact HO_8.out⟩,⟨by (with_reducible repeat (first | apply Kd.zQn | apply Kd.zQm | apply Kd.zQo));exact HO_537000.out⟩,⟨by (with_reducible repeat (first | apply Kd.zQn | apply Kd.zQm | apply Kd.zQo));exact HO_537001.out⟩,⟨by (with_reducible repeat (first | apply Kd.zQn | apply Kd.zQm | apply Kd.zQo));exact HO_537002.out⟩,⟨by (with_reducible repeat (first | apply Kd.zQn | apply Kd.zQm | apply Kd.zQo));exact HO_537003.out⟩,⟨by (with_reducible repeat (first | refine zQa ?_ _ | refine zQd ?_ | refine zQb ?_ _));exact BK536.out⟩,⟨by (with_reducible repeat (first | refine zQa ?_ _ | refine zQd ?_ | refine zQb ?_ _));exact BK537.out⟩,⟨pB⟩⟩
                ·rw [if_neg c96] at H
                 have c96b0 : ((Go.bits .and .u64 a0 1) == 0) = false := by simpa using c96
                 (try (have c96b1 : decide ((Go.bits .and .u64 a0 1) = 0) = false := by simpa using c96))
                 (try (have c96b2 : ((Go.bits .and .u64 a0 1) == 0) = false := by simpa using c96))
                 (try (have c96b3 : ¬ ((Go.bits .and .u64 a0 1) = 0) := by simpa using c96))
                 clear c96
                 replace H := Option.bind_eq_some_iff.mp H
                 obtain ⟨t576,A1030,H⟩ := H
                 try dsimp only at H
                 have A103 := am A1030
                 clear A1030
                 have H' := am H
                 clear H
                 have hnb104 := NB537_536.out
                 have hnc104 := NB536_537.out
                 have q105 := cf1 BK537.out
                 have q106 := cf4 BK536.out
                 obtain ⟨Ao107,co107,eo107⟩ := Kd.zQF HO_537003.out
                 subst eo107
                 go_wp2_with (first | (go_at_call 43;(with_reducible refine (dec_high.calls k5 _ _ x537001_2 Ao87 co87 x537000_5 Ao107 co107 x537003_4 ((Go.bits .and .u64 a0 1) == 0) t576 _ ?side1 ?side2 ?side3 ?side4 ?side5 ?side6 A103.out gb536 gb537 ?side7 ?side8 ?side9).mono ?_);(case side7 => first | exact cz0 BK536.out | exact (zQP (pK BK536.out) 0).trans rfl);(case side8 => first | exact cz3 BK536.out | exact (zQP (pK BK536.out) 3).trans rfl);(case side9 => first | exact cz0 BK537.out | exact (zQP (pK BK537.out) 0).trans rfl);(case side1 => repeat (first | exact (Kd.zQg HO_537001.out).2.2 | (with_reducible refine Kd.zQj ?_ _) | (with_reducible refine Kd.zQi ?_ _) | (with_reducible refine Kd.zQv ?_)));(case side2 => exact (Kd.zQg HO_537001.out).2.1);(case side3 => repeat (first | exact (Kd.zQg HO_537000.out).2.2 | (with_reducible refine Kd.zQj ?_ _) | (with_reducible refine Kd.zQi ?_ _) | (with_reducible refine Kd.zQv ?_)));(case side4 => exact (Kd.zQg HO_537000.out).2.1);(case side5 => repeat (first | exact (Kd.zQg HO_537003.out).2.2 | (with_reducible refine Kd.zQj ?_ _) | (with_reducible refine Kd.zQi ?_ _) | (with_reducible refine Kd.zQv ?_)));(case side6 => exact (Kd.zQg HO_537003.out).2.1);rintro e w108 ⟨rfl,hb⟩;replace HO_8 := am (Kd.zQH (pR HO_8.out) hb);replace HO_537000 := am (Kd.zQl (pV HO_537000.out) hb);replace HO_537001 := am (Kd.zQl (pV HO_537001.out) hb);replace HO_537002 := am (Kd.zQl (pV HO_537002.out) hb);replace HO_537003 := am (Kd.zQl (pV HO_537003.out) hb);replace BK536 := am (pkb BK536.out hb);replace BK537 := am (pkb BK537.out hb);replace HB := am (zQf pB hb);(try clear hb)))
                 go_meet
                 case rel => exact ⟨_,(false),(t576),(by first | rfl | (simp;done) | (simp [*];done)),(by first | rfl | (simp;done) | (simp [*];done)),H',⟨by have := HJ4.out;have := HK2.out;have := HK3.out;have := HK4.out;have := HK5.out;first | omega | exact Nat.le_refl _⟩,⟨by (with_reducible repeat (first | apply Kd.zQw | apply Kd.zQu | apply Kd.zQx));exact HO_8.out⟩,⟨by (with_reducible repeat (first | apply Kd.zQn | apply Kd.zQm | apply Kd.zQo));exact HO_537000.out⟩,⟨by (with_reducible repeat (first | apply Kd.zQn | apply Kd.zQm | apply Kd.zQo));exact HO_537001.out⟩,⟨by (with_reducible repeat (first | apply Kd.zQn | apply Kd.zQm | apply Kd.zQo));exact HO_537002.out⟩,⟨by (with_reducible repeat (first | apply Kd.zQn | apply Kd.zQm | apply Kd.zQo));exact HO_537003.out⟩,⟨by (with_reducible repeat (first | refine zQa ?_ _ | refine zQd ?_ | refine zQb ?_ _));exact BK536.out⟩,⟨by (with_reducible repeat (first | refine zQa ?_ _ | refine zQd ?_ | refine zQb ?_ _));exact BK537.out⟩,⟨pB⟩⟩
              case rest =>
               clear HC84
               try clear c1
               try clear c2
               try clear p2
               try clear c4
               try clear c5
               try clear c6
               try clear p6
               try clear c7
               try clear c8
               try clear c9
               try clear c10
               try clear c14
               try clear c16
               try clear c18
               try clear c18b0
               try clear c18b1
               try clear c20
               try clear c24
               try clear c26
               try clear c27
               try clear c40
               try clear c42
               try clear c43
               try clear c45
               try clear c46
               try clear c56
               try clear p64
               try clear c67
               try clear c68
               try clear c75
               try clear c75b0
               try clear c77
               try clear c85
               try clear c89
               try clear c89b0
               try clear c89b1
               try clear c91
               try clear c96
               try clear c96b0
               try clear c96b1
               try clear c96b2
               try clear c98
               try clear c104
               try clear q100 q105 q106 q15 q21 q24 q43 q46 q47 q52 q55 q57 q60 q61 q69 q70 q78 q82 q86 q92 q93 q99 q9
               try clear p2
               try clear p6
               try clear p64
               obtain ⟨kq,x11_83,x12_83,rfl,rfl,HA,HJ83,HO_8,HO_537000,HO_537001,HO_537002,HO_537003,BK536,BK537,HB⟩ := hcut
               cases kq with
               | zero => exact absurd HA.out (by simp [dec_shortest.j5])
               | succ kj83 =>
                have H := HA.out
                clear HA
                simp only [dec_shortest.j5] at H
                have HC109 := am H
                clear H
                go_upto_region 18 with (fail)
                go_cut [121] (fun v121 wc => ∃ (kq : Nat) (x121_108 : Bool),v121 = .bool x121_108 ∧ Aside0 (dec_shortest.j6 kq x7_3 x8_4 x9_5 x11_83 x12_83 x121_108 x537000_5 x537001_2 x537002_4 x537003_4 ((Go.bits .and .u64 a0 1) == 0) = some (r1,r2)) ∧ Aside0 (kq ≤ kj83) ∧ Aside0 (Kd.R (Kd.int .u8) 5 wc w.heap.size (fun _ => True) u8 x8_4) ∧ Aside0 (Kd.V (Kd.int .u32) 52 wc w.heap.size (fun k_ => some k_ ≠ (u8 : Value).ownBlock ∧ k_ ≠ gb536 ∧ k_ ≠ gb537) (.slice Ao87 x537000_5.length co87) x537000_5) ∧ Aside0 (Kd.V (Kd.int .u32) 52 wc w.heap.size (fun k_ => some k_ ≠ (u8 : Value).ownBlock ∧ k_ ≠ gb536 ∧ k_ ≠ gb537) (.slice Ao58 x537001_2.length co58) x537001_2) ∧ Aside0 (Kd.V (Kd.int .u32) 52 wc w.heap.size (fun k_ => some k_ ≠ (u8 : Value).ownBlock ∧ k_ ≠ gb536 ∧ k_ ≠ gb537) (.slice Ao88 x537002_4.length co88) x537002_4) ∧ Aside0 (Kd.V (Kd.int .u32) 52 wc w.heap.size (fun k_ => some k_ ≠ (u8 : Value).ownBlock ∧ k_ ≠ gb536 ∧ k_ ≠ gb537) u537003 x537003_4) ∧ Aside0 (wc.heap[gb536]? = some (.cells #[(.slice Ao87 x537000_5.length co87),(.slice Ao58 x537001_2.length co58),(.slice Ao88 x537002_4.length co88),u537003] 70 (0,0))) ∧ Aside0 (wc.heap[gb537]? = some (.cells #[.bool ((Go.bits .and .u64 a0 1) == 0)] 4 (0,0))) ∧ Aside0 (Below w.heap.size w wc))
                case first =>
                 have H := HC109.out
                 clear HC109
                 by_cases c110 : x11_83 = true
                 ·subst c110
                  rw [if_pos rfl] at H
                  have H' := am H
                  clear H
                  go_wp2
                  go_meet
                  case rel => exact ⟨_,(false),(by first | rfl | (simp;done) | (simp [*];done)),H',⟨by have := HJ4.out;have := HK2.out;have := HK3.out;have := HK4.out;have := HK5.out;have := HJ83.out;first | omega | exact Nat.le_refl _⟩,⟨by (with_reducible repeat (first | apply Kd.zQw | apply Kd.zQu | apply Kd.zQx));exact HO_8.out⟩,⟨by (with_reducible repeat (first | apply Kd.zQn | apply Kd.zQm | apply Kd.zQo));exact HO_537000.out⟩,⟨by (with_reducible repeat (first | apply Kd.zQn | apply Kd.zQm | apply Kd.zQo));exact HO_537001.out⟩,⟨by (with_reducible repeat (first | apply Kd.zQn | apply Kd.zQm | apply Kd.zQo));exact HO_537002.out⟩,⟨by (with_reducible repeat (first | apply Kd.zQn | apply Kd.zQm | apply Kd.zQo));exact HO_537003.out⟩,⟨by (with_reducible repeat (first | refine zQa ?_ _ | refine zQd ?_ | refine zQb ?_ _));exact BK536.out⟩,⟨by (with_reducible repeat (first | refine zQa ?_ _ | refine zQd ?_ | refine zQb ?_ _));exact BK537.out⟩,⟨pB⟩⟩
                 ·replace c110 := Bool.eq_false_iff.mpr c110
                  subst c110
                  rw [if_neg (show ¬ (false = true) by decide)] at H
                  have H' := am H
                  clear H
                  go_wp2
                  go_meet
                  case rel => exact ⟨_,(!x12_83),(by first | rfl | (simp;done) | (simp [*];done)),H',⟨by have := HJ4.out;have := HK2.out;have := HK3.out;have := HK4.out;have := HK5.out;have := HJ83.out;first | omega | exact Nat.le_refl _⟩,⟨by (with_reducible repeat (first | apply Kd.zQw | apply Kd.zQu | apply Kd.zQx));exact HO_8.out⟩,⟨by (with_reducible repeat (first | apply Kd.zQn | apply Kd.zQm | apply Kd.zQo));exact HO_537000.out⟩,⟨by (with_reducible repeat (first | apply Kd.zQn | apply Kd.zQm | apply Kd.zQo));exact HO_537001.out⟩,⟨by (with_reducible repeat (first | apply Kd.zQn | apply Kd.zQm | apply Kd.zQo));exact HO_537002.out⟩,⟨by (with_reducible repeat (first | apply Kd.zQn | apply Kd.zQm | apply Kd.zQo));exact HO_537003.out⟩,⟨by (with_reducible repeat (first | refine zQa ?_ _ | refine zQd ?_ | refine zQb ?_ _));exact BK536.out⟩,⟨by (with_reducible repeat (first | refine zQa ?_ _ | refine zQd ?_ | refine zQb ?_ _));exact BK537.out⟩,⟨pB⟩⟩
                case rest =>
                 clear HC109
                 try clear c1
                 try clear c2
                 try clear p2
                 try clear c4
                 try clear c5
                 try clear c6
                 try clear p6
                 try clear c7
                 try clear c8
                 try clear c9
                 try clear c10
                 try clear c11
                 try clear c14
                 try clear c16
                 try clear c18
                 try clear c18b0
                 try clear c18b1
                 try clear c20
                 try clear c24
                 try clear c26
                 try clear c27
                 try clear c40
                 try clear c42
                 try clear c43
                 try clear c45
                 try clear c46
                 try clear c56
                 try clear p64
                 try clear c67
                 try clear c68
                 try clear c75
                 try clear c75b0
                 try clear c77
                 try clear c85
                 try clear c89
                 try clear c89b0
                 try clear c89b1
                 try clear c91
                 try clear c96
                 try clear c96b0
                 try clear c96b1
                 try clear c96b2
                 try clear c98
                 try clear c104
                 try clear c110
                 try clear q100 q105 q106 q15 q21 q24 q43 q46 q47 q52 q55 q57 q60 q61 q69 q70 q78 q82 q86 q92 q93 q99 q9
                 try clear p2
                 try clear p6
                 try clear p64
                 obtain ⟨kq,x121_108,rfl,HA,HJ108,HO_8,HO_537000,HO_537001,HO_537002,HO_537003,BK536,BK537,HB⟩ := hcut
                 cases kq with
                 | zero => exact absurd HA.out (by simp [dec_shortest.j6])
                 | succ kj108 =>
                  have H := HA.out
                  clear HA
                  simp only [dec_shortest.j6] at H
                  by_cases c111 : x121_108 = true
                  ·subst c111
                   rw [if_pos rfl] at H
                   by_cases c112 : x8_4.length < 140737488355328
                   ·rw [if_pos c112] at H
                    have LMc112 := am c112
                    clear c112
                    obtain ⟨y577,hy577⟩ : ∃ y_ : List Int,y_ = (x8_4 ++ [(48 + x9_5) % 256]) := ⟨_,rfl⟩
                    replace H : ((b_times.f kj108 x537000_5 10 0).bind fun t580 => ((b_times.f kj108 x537002_4 10 0).bind fun t583 => ((b_times.f kj108 x537003_4 10 0).bind fun t586 => (dec_shortest.l2 kj108 x7_3 y577 t580 x537001_2 t583 t586 ((Go.bits .and .u64 a0 1) == 0))))) = some (r1,r2) := by first | (rw [hy577];with_reducible exact H) | (have H2_ := (Option.bind_some _ _).symm.trans H;rw [hy577];with_reducible exact H2_) | (have H2_ := (Option.bind_some _ _).symm.trans H;with_reducible exact H2_) | with_reducible exact H | (rw [hy577];exact H) | exact H
                    have Ny577 := am hy577
                    clear hy577
                    replace H := Option.bind_eq_some_iff.mp H
                    obtain ⟨t580,A1130,H⟩ := H
                    try dsimp only at H
                    have A113 := am A1130
                    clear A1130
                    replace H := Option.bind_eq_some_iff.mp H
                    obtain ⟨t583,A1140,H⟩ := H
                    try dsimp only at H
                    have A114 := am A1140
                    clear A1140
                    replace H := Option.bind_eq_some_iff.mp H
                    obtain ⟨t586,A1150,H⟩ := H
                    try dsimp only at H
                    have A115 := am A1150
                    clear A1150
                    have H' := am H
                    clear H
                    try go_wp2_with (first | ((with_reducible refine zQD (b := .append) (xs := #[.tmp 122,.tmp 125]) rfl ?_);at_builtin;refine Kd.zQU (Kd.int .u8) (w0 := w) w.heap.size rfl (.tmp 122) (.tmp 125) 75 5 (.int .u8 0) 1 rfl Tryz.underlying75 info5 rfl (by decide) (by omega) u8 x8_4 ((48 + x9_5) % 256) [.int .u8 ((48 + x9_5) % 256)] (fun _ => True) (fun _ => False) rfl rfl ?aP (fun _ hk => hk.elim) ?aF ?aO ?aB ?aS ?aL ?_;(case aP => exact rfl);(case aB => exact pB);(case aF => exact (fun _ _ => trivial));(case aO => exact (pR HO_8.out));(case aS => exact (zQc pB));(case aL => have := LMc112.out;omega);intro v578 w116 ho hb hg hat;rw [← Ny577.out] at ho;replace HO_537000 := am (Kd.zQR (ok := (fun k_ => k_ ≠ gb536 ∧ k_ ≠ gb537)) (by (with_reducible repeat (first | apply Kd.zQn | apply Kd.zQm | apply Kd.zQo));exact Kd.zQk HO_537000.out (fun _ hk => ⟨⟨hk.2.1,hk.2.2⟩,hk.1⟩)) hg hat);replace HO_537001 := am (Kd.zQR (ok := (fun k_ => k_ ≠ gb536 ∧ k_ ≠ gb537)) (by (with_reducible repeat (first | apply Kd.zQn | apply Kd.zQm | apply Kd.zQo));exact Kd.zQk HO_537001.out (fun _ hk => ⟨⟨hk.2.1,hk.2.2⟩,hk.1⟩)) hg hat);replace HO_537002 := am (Kd.zQR (ok := (fun k_ => k_ ≠ gb536 ∧ k_ ≠ gb537)) (by (with_reducible repeat (first | apply Kd.zQn | apply Kd.zQm | apply Kd.zQo));exact Kd.zQk HO_537002.out (fun _ hk => ⟨⟨hk.2.1,hk.2.2⟩,hk.1⟩)) hg hat);replace HO_537003 := am (Kd.zQR (ok := (fun k_ => k_ ≠ gb536 ∧ k_ ≠ gb537)) (by (with_reducible repeat (first | apply Kd.zQn | apply Kd.zQm | apply Kd.zQo));exact Kd.zQk HO_537003.out (fun _ hk => ⟨⟨hk.2.1,hk.2.2⟩,hk.1⟩)) hg hat);replace BK536 := am (zXq (g := gb536) (o := .cells #[.slice Ao87 x537000_5.length co87,.slice Ao58 x537001_2.length co58,.slice Ao88 x537002_4.length co88,u537003] 70 (0,0)) (pK BK536.out) hg (pX HO_8.out BK536.out));replace BK537 := am (zXq (g := gb537) (o := .cells #[.bool ((Go.bits .and .u64 a0 1) == 0)] 4 (0,0)) (pK BK537.out) hg (pX HO_8.out BK537.out));replace HB := am (hb);have HO579 := am (ho);clear HO_8;clear ho hb hg hat))
                    replace HO_537000 := am (Kd.zQo HO_537000.out)
                    replace HO_537001 := am (Kd.zQo HO_537001.out)
                    replace HO_537002 := am (Kd.zQo HO_537002.out)
                    replace HO_537003 := am (Kd.zQo HO_537003.out)
                    replace HO579 := am (Kd.zQx HO579.out)
                    replace BK536 := am (zQd BK536.out)
                    replace BK537 := am (zQd BK537.out)
                    replace HB := am (zQM HB.out)
                    refine zXW (n := 15) (S := fun w' => w'.cell? ⟨gb536,0,none⟩ = some (.slice Ao87 x537000_5.length co87) ∧ w'.cell? ⟨gb536,1,none⟩ = some (.slice Ao58 x537001_2.length co58) ∧ w'.cell? ⟨gb536,2,none⟩ = some (.slice Ao88 x537002_4.length co88) ∧ w'.cell? ⟨gb536,3,none⟩ = some (u537003)) (ds := [10,12,14]) (bm 15 0) (by kernel_rfl) rfl rfl ⟨cz0 BK536.out,cz1 BK536.out,cz2 BK536.out,cz3 BK536.out⟩ (fun hHeld => ?_);refine zXC dec_shortest.tab20 dec_shortest.bits20 (fun HT_ HW_ => ?_)
                    generalize w116.drew = w117 at HO_537000 HO_537001 HO_537002 HO_537003 HO579 BK536 BK537 HB hHeld ⊢
                    refine pure_ (i := 0) (N := some 127) (v := ?_) (a' := ?_) (bm 15 1) rfl rfl (zQA HT_.out (by kernel_rfl)) (fun _ _ _ h => h) (Or.inl ⟨by kernel_rfl,?_⟩) ?_ ?_
                    rotate_left
                    ·intro w'
                     go_simp
                     with_reducible rfl
                    rotate_left
                    ·exact pA
                    refine pure_ (i := 3) (N := some 130) (v := ?_) (a' := ?_) (bm 15 9) rfl rfl (zQA HT_.out (by kernel_rfl)) (fun _ _ _ h => h) (Or.inl ⟨by kernel_rfl,?_⟩) ?_ ?_
                    rotate_left
                    ·intro w'
                     go_simp
                     with_reducible rfl
                    rotate_left
                    ·exact pA
                    refine pure_ (i := 6) (N := some 133) (v := ?_) (a' := ?_) (bm 15 73) rfl rfl (zQA HT_.out (by kernel_rfl)) (fun _ _ _ h => h) (Or.inl ⟨by kernel_rfl,?_⟩) ?_ ?_
                    rotate_left
                    ·intro w'
                     go_simp
                     with_reducible rfl
                    rotate_left
                    ·exact pA
                    refine take_ (i := 1) (N := some 128) (v := ?_) (a' := ?_) (bm 15 75) rfl rfl (zXo HT_.out HW_.out (by kernel_rfl)) (fun _ _ _ h => h) (Or.inl ⟨by kernel_rfl,?_⟩) hHeld ?_ ?_
                    rotate_left
                    ·rintro w' ⟨s0,s1,s2,s3⟩
                     go_simp
                     with_reducible rfl
                    rotate_left
                    ·exact pA
                    refine take_ (i := 4) (N := some 131) (v := ?_) (a' := ?_) (bm 15 91) rfl rfl (zXo HT_.out HW_.out (by kernel_rfl)) (fun _ _ _ h => h) (Or.inl ⟨by kernel_rfl,?_⟩) hHeld ?_ ?_
                    rotate_left
                    ·rintro w' ⟨s0,s1,s2,s3⟩
                     go_simp
                     with_reducible rfl
                    rotate_left
                    ·exact pA
                    refine take_ (i := 7) (N := some 134) (v := ?_) (a' := ?_) (bm 15 219) rfl rfl (zXo HT_.out HW_.out (by kernel_rfl)) (fun _ _ _ h => h) (Or.inl ⟨by kernel_rfl,?_⟩) hHeld ?_ ?_
                    rotate_left
                    ·rintro w' ⟨s0,s1,s2,s3⟩
                     go_simp
                     with_reducible rfl
                    rotate_left
                    ·exact pA
                    refine one_ (i := 2) (N := some 129) (bm 15 223) rfl rfl (zQW HT_.out (by kernel_rfl)) (by decide) (fun K hK => ?_)
                    refine goes_ Tryz.func24 (by kernel_rfl) rfl #[.slice Ao87 x537000_5.length co87,.int .u32 10,.int .u32 0] (by rfl) rfl rfl pM ?_
                    with_reducible refine (b_times.calls kj108 _ _ x537000_5 10 0 t580 _ ?side1 ?side2 A113.out).mono ?_
                    (case side1 => repeat (first | exact (Kd.zQg HO_537000.out).2.2 | (with_reducible refine Kd.zQj ?_ _) | (with_reducible refine Kd.zQi ?_ _) | (with_reducible refine Kd.zQv ?_)))
                    (case side2 => exact (Kd.zQg HO_537000.out).2.1)
                    rintro e w118 ⟨v581,rfl,ho0,hb⟩
                    refine ⟨_,rfl,?_⟩
                    have n0_ := am (Kd.zQl (pV HO_537000.out) hb)
                    have n1_ := am (Kd.zQl (pV HO_537001.out) hb)
                    have n2_ := am (Kd.zQl (pV HO_537002.out) hb)
                    have n3_ := am (Kd.zQl (pV HO_537003.out) hb)
                    have n4_ := am (Kd.zQH (pR HO579.out) hb)
                    have n5_ := am (Kd.zQQ (Kd.zQk (ok' := fun k_ => some k_ ≠ (v578 : Value).ownBlock ∧ k_ ≠ gb536 ∧ k_ ≠ gb537) ho0 (fun k_ hk_ => ⟨(Kd.fresh' (Kd.R_lt (pR HO579.out)) k_ hk_),(Kd.zQV (g := gb536) (o := .cells #[.slice Ao87 x537000_5.length co87,.slice Ao58 x537001_2.length co58,.slice Ao88 x537002_4.length co88,u537003] 70 (0,0)) (pK BK536.out) k_ hk_),(Kd.zQV (g := gb537) (o := .cells #[.bool ((Go.bits .and .u64 a0 1) == 0)] 4 (0,0)) (pK BK537.out) k_ hk_)⟩)) (zQc pB))
                    have n6_ := am (pkb BK536.out hb)
                    have n7_ := am (pkb BK537.out hb)
                    have n8_ := am (zQf pB hb)
                    clear HO_537000 HO_537001 HO_537002 HO_537003 HO579 BK536 BK537 HB;have HO_537000 := n0_;have HO_537001 := n1_;have HO_537002 := n2_;have HO_537003 := n3_;have HO579 := n4_;have HO582 := n5_;have BK536 := n6_;have BK537 := n7_;have HB := n8_;clear n0_ n1_ n2_ n3_ n4_ n5_ n6_ n7_ n8_;(try clear hb);(try clear ho0)
                    refine hK.out _ _ ⟨cz0 BK536.out,cz1 BK536.out,cz2 BK536.out,cz3 BK536.out⟩ (fun hHeld => ?_)
                    clear hK K
                    refine norm_ (a' := ?_) ?_ ?_
                    rotate_left
                    ·show Act.put _ (some 129) _ = _
                     exact pA
                    refine pure_ (i := 9) (N := some 136) (v := ?_) (a' := ?_) (bm 15 735) rfl rfl (zQA HT_.out (by kernel_rfl)) (fun _ _ _ h => h) (Or.inl ⟨by kernel_rfl,?_⟩) ?_ ?_
                    rotate_left
                    ·intro w'
                     go_simp
                     with_reducible rfl
                    rotate_left
                    ·exact pA
                    refine one_ (i := 5) (N := some 132) (bm 15 767) rfl rfl (zQW HT_.out (by kernel_rfl)) (by decide) (fun K hK => ?_)
                    refine goes_ Tryz.func24 (by kernel_rfl) rfl #[.slice Ao88 x537002_4.length co88,.int .u32 10,.int .u32 0] (by rfl) rfl rfl pM ?_
                    with_reducible refine (b_times.calls kj108 _ _ x537002_4 10 0 t583 _ ?side1 ?side2 A114.out).mono ?_
                    (case side1 => repeat (first | exact (Kd.zQg HO_537002.out).2.2 | (with_reducible refine Kd.zQj ?_ _) | (with_reducible refine Kd.zQi ?_ _) | (with_reducible refine Kd.zQv ?_)))
                    (case side2 => exact (Kd.zQg HO_537002.out).2.1)
                    rintro e w119 ⟨v584,rfl,ho0,hb⟩
                    refine ⟨_,rfl,?_⟩
                    have n0_ := am (Kd.zQl (pV HO_537000.out) hb)
                    have n1_ := am (Kd.zQl (pV HO_537001.out) hb)
                    have n2_ := am (Kd.zQl (pV HO_537002.out) hb)
                    have n3_ := am (Kd.zQl (pV HO_537003.out) hb)
                    have n4_ := am (Kd.zQH (pR HO579.out) hb)
                    have n5_ := am (Kd.zQl (pV HO582.out) hb)
                    have n6_ := am (Kd.zQQ (Kd.zQk (ok' := fun k_ => some k_ ≠ (v578 : Value).ownBlock ∧ k_ ≠ gb536 ∧ k_ ≠ gb537) ho0 (fun k_ hk_ => ⟨(Kd.fresh' (Kd.R_lt (pR HO579.out)) k_ hk_),(Kd.zQV (g := gb536) (o := .cells #[.slice Ao87 x537000_5.length co87,.slice Ao58 x537001_2.length co58,.slice Ao88 x537002_4.length co88,u537003] 70 (0,0)) (pK BK536.out) k_ hk_),(Kd.zQV (g := gb537) (o := .cells #[.bool ((Go.bits .and .u64 a0 1) == 0)] 4 (0,0)) (pK BK537.out) k_ hk_)⟩)) (zQc pB))
                    have n7_ := am (pkb BK536.out hb)
                    have n8_ := am (pkb BK537.out hb)
                    have n9_ := am (zQf pB hb)
                    clear HO_537000 HO_537001 HO_537002 HO_537003 HO579 HO582 BK536 BK537 HB;have HO_537000 := n0_;have HO_537001 := n1_;have HO_537002 := n2_;have HO_537003 := n3_;have HO579 := n4_;have HO582 := n5_;have HO585 := n6_;have BK536 := n7_;have BK537 := n8_;have HB := n9_;clear n0_ n1_ n2_ n3_ n4_ n5_ n6_ n7_ n8_ n9_;(try clear hb);(try clear ho0)
                    obtain ⟨Ao120,co120,eo120⟩ := Kd.zQF HO_537003.out
                    (first | subst eo120 | (injection eo120 with f1_ f2_ f3_;have f4_ := f1_.symm;have f5_ := f3_.symm;clear f1_ f2_ f3_;subst f4_;subst f5_))
                    refine hK.out _ _ ⟨cz0 BK536.out,cz1 BK536.out,cz2 BK536.out,cz3 BK536.out⟩ (fun hHeld => ?_)
                    clear hK K
                    refine norm_ (a' := ?_) ?_ ?_
                    rotate_left
                    ·show Act.put _ (some 132) _ = _
                     exact pA
                    refine one_ (i := 8) (N := some 135) (bm 15 1023) rfl rfl (zQW HT_.out (by kernel_rfl)) (by decide) (fun K hK => ?_)
                    refine goes_ Tryz.func24 (by kernel_rfl) rfl #[.slice Ao120 x537003_4.length co120,.int .u32 10,.int .u32 0] (by rfl) rfl rfl pM ?_
                    with_reducible refine (b_times.calls kj108 _ _ x537003_4 10 0 t586 _ ?side1 ?side2 A115.out).mono ?_
                    (case side1 => repeat (first | exact (Kd.zQg HO_537003.out).2.2 | (with_reducible refine Kd.zQj ?_ _) | (with_reducible refine Kd.zQi ?_ _) | (with_reducible refine Kd.zQv ?_)))
                    (case side2 => exact (Kd.zQg HO_537003.out).2.1)
                    rintro e w121 ⟨v587,rfl,ho0,hb⟩
                    refine ⟨_,rfl,?_⟩
                    have n0_ := am (Kd.zQl (pV HO_537000.out) hb)
                    have n1_ := am (Kd.zQl (pV HO_537001.out) hb)
                    have n2_ := am (Kd.zQl (pV HO_537002.out) hb)
                    have n3_ := am (Kd.zQl (pV HO_537003.out) hb)
                    have n4_ := am (Kd.zQH (pR HO579.out) hb)
                    have n5_ := am (Kd.zQl (pV HO582.out) hb)
                    have n6_ := am (Kd.zQl (pV HO585.out) hb)
                    have n7_ := am (Kd.zQQ (Kd.zQk (ok' := fun k_ => some k_ ≠ (v578 : Value).ownBlock ∧ k_ ≠ gb536 ∧ k_ ≠ gb537) ho0 (fun k_ hk_ => ⟨(Kd.fresh' (Kd.R_lt (pR HO579.out)) k_ hk_),(Kd.zQV (g := gb536) (o := .cells #[.slice Ao87 x537000_5.length co87,.slice Ao58 x537001_2.length co58,.slice Ao88 x537002_4.length co88,.slice Ao120 x537003_4.length co120] 70 (0,0)) (pK BK536.out) k_ hk_),(Kd.zQV (g := gb537) (o := .cells #[.bool ((Go.bits .and .u64 a0 1) == 0)] 4 (0,0)) (pK BK537.out) k_ hk_)⟩)) (zQc pB))
                    have n8_ := am (pkb BK536.out hb)
                    have n9_ := am (pkb BK537.out hb)
                    have n10_ := am (zQf pB hb)
                    clear HO_537000 HO_537001 HO_537002 HO_537003 HO579 HO582 HO585 BK536 BK537 HB;have HO_537000 := n0_;have HO_537001 := n1_;have HO_537002 := n2_;have HO_537003 := n3_;have HO579 := n4_;have HO582 := n5_;have HO585 := n6_;have HO588 := n7_;have BK536 := n8_;have BK537 := n9_;have HB := n10_;clear n0_ n1_ n2_ n3_ n4_ n5_ n6_ n7_ n8_ n9_ n10_;(try clear hb);(try clear ho0)
                    obtain ⟨Ao122,co122,eo122⟩ := Kd.zQF HO582.out
                    (first | subst eo122 | (injection eo122 with f1_ f2_ f3_;have f4_ := f1_.symm;have f5_ := f3_.symm;clear f1_ f2_ f3_;subst f4_;subst f5_))
                    obtain ⟨Ao124,co124,eo124⟩ := Kd.zQF HO585.out
                    (first | subst eo124 | (injection eo124 with f1_ f2_ f3_;have f4_ := f1_.symm;have f5_ := f3_.symm;clear f1_ f2_ f3_;subst f4_;subst f5_))
                    obtain ⟨Ao126,co126,eo126⟩ := Kd.zQF HO588.out
                    (first | subst eo126 | (injection eo126 with f1_ f2_ f3_;have f4_ := f1_.symm;have f5_ := f3_.symm;clear f1_ f2_ f3_;subst f4_;subst f5_))
                    refine hK.out _ _ ⟨cz0 BK536.out,cz1 BK536.out,cz2 BK536.out,cz3 BK536.out⟩ (fun hHeld => ?_)
                    clear hK K
                    refine norm_ (a' := ?_) ?_ ?_
                    rotate_left
                    ·show Act.put _ (some 135) _ = _
                     exact pA
                    refine last_ (i := 10) (N := none) (bm 15 2047) rfl rfl (zQW HT_.out (by kernel_rfl)) (by decide) (fun K hK => ?_)
                    have hs123 : w121.cell? ⟨gb536,0,none⟩ = some (.slice Ao87 x537000_5.length co87) := cz0 BK536.out
                    have hfs123 := zQK BK536.out 0
                    have hns123_1 := NB537_536.out
                    have hms123_1 := NB536_537.out
                    refine skip_ (w1 := ?_) ?hw rfl ?_ ?_;(case hw => kernel_rfl)
                    rotate_left
                    ·go_simp
                     rfl
                    refine hK.out _ _ ?_
                    clear hK K
                    refine pure_ (i := 11) (N := some 137) (v := ?_) (a' := ?_) (bm 15 4095) rfl rfl (zQA HT_.out (by kernel_rfl)) (fun _ _ _ h => h) (Or.inl ⟨by kernel_rfl,?_⟩) ?_ ?_
                    rotate_left
                    ·intro w'
                     go_simp
                     with_reducible rfl
                    rotate_left
                    ·exact pA
                    refine last_ (i := 12) (N := none) (bm 15 8191) rfl rfl (zQW HT_.out (by kernel_rfl)) (by decide) (fun K hK => ?_)
                    have hs125 : w121.cell? ⟨gb536,2,none⟩ = some (.slice Ao88 x537002_4.length co88) := cz2 BK536.out
                    have hfs125 := zQK BK536.out 2
                    have hns125_1 := NB537_536.out
                    have hms125_1 := NB536_537.out
                    refine skip_ (w1 := ?_) ?hw rfl ?_ ?_;(case hw => kernel_rfl)
                    rotate_left
                    ·go_simp
                     rfl
                    refine hK.out _ _ ?_
                    clear hK K
                    refine pure_ (i := 13) (N := some 138) (v := ?_) (a' := ?_) (bm 15 16383) rfl rfl (zQA HT_.out (by kernel_rfl)) (fun _ _ _ h => h) (Or.inl ⟨by kernel_rfl,?_⟩) ?_ ?_
                    rotate_left
                    ·intro w'
                     go_simp
                     with_reducible rfl
                    rotate_left
                    ·exact pA
                    refine last_ (i := 14) (N := none) (bm 15 32767) rfl rfl (zQW HT_.out (by kernel_rfl)) (by decide) (fun K hK => ?_)
                    have hs127 : w121.cell? ⟨gb536,3,none⟩ = some (.slice Ao120 x537003_4.length co120) := cz3 BK536.out
                    have hfs127 := zQK BK536.out 3
                    have hns127_1 := NB537_536.out
                    have hms127_1 := NB536_537.out
                    refine skip_ (w1 := ?_) ?hw rfl ?_ ?_;(case hw => kernel_rfl)
                    rotate_left
                    ·go_simp
                     rfl
                    refine hK.out _ _ ?_
                    clear hK K
                    refine done_ (zYh HT_.out (by kernel_rfl)) ?_
                    try go_wp2
                    go_roundg kj108
                    case measure => have := HJ4.out;have := HK2.out;have := HK3.out;have := HK4.out;have := HK5.out;have := HJ83.out;have := HJ108.out;omega
                    case rel => exact ⟨(y577),(t580),(t583),(t586),(.slice Ao122 t580.length co122),(.slice Ao124 t583.length co124),(.slice Ao126 t586.length co126),H',⟨by have := HJ4.out;have := HK2.out;have := HK3.out;have := HK4.out;have := HK5.out;have := HJ83.out;have := HJ108.out;omega⟩,⟨by (with_reducible repeat (first | apply Kd.zQw | apply Kd.zQu | apply Kd.zQx));exact Kd.zQE (Kd.R_far (p := ⟨gb536,3,none⟩) (Kd.R_far (p := ⟨gb536,2,none⟩) (Kd.R_far (p := ⟨gb536,0,none⟩) (Kd.zQX HO579.out BK536.out (by decide)) (fun _ hk => hk.2) (.slice Ao122 t580.length co122)) (fun _ hk => hk.2) (.slice Ao124 t583.length co124)) (fun _ hk => hk.2) (.slice Ao126 t586.length co126)) (fun _ hk => trivial)⟩,⟨by (with_reducible repeat (first | apply Kd.zQn | apply Kd.zQm | apply Kd.zQo));exact Kd.zQk (Kd.V_far (p := ⟨gb536,3,none⟩) (Kd.V_far (p := ⟨gb536,2,none⟩) (Kd.V_far (p := ⟨gb536,0,none⟩) (Kd.zQk HO582.out (fun k_ hk => (⟨hk,hk.2.1⟩ : _ ∧ k_ ≠ gb536))) (fun _ hk => hk.2) (.slice Ao122 t580.length co122)) (fun _ hk => hk.2) (.slice Ao124 t583.length co124)) (fun _ hk => hk.2) (.slice Ao126 t586.length co126)) (fun _ hk => ⟨hk.1.1,⟨hk.1.2.1,hk.1.2.2⟩⟩)⟩,⟨by (with_reducible repeat (first | apply Kd.zQn | apply Kd.zQm | apply Kd.zQo));exact Kd.zQk (Kd.V_far (p := ⟨gb536,3,none⟩) (Kd.V_far (p := ⟨gb536,2,none⟩) (Kd.V_far (p := ⟨gb536,0,none⟩) (Kd.zQk HO_537001.out (fun k_ hk => (⟨hk,hk.1.1⟩ : _ ∧ k_ ≠ gb536))) (fun _ hk => hk.2) (.slice Ao122 t580.length co122)) (fun _ hk => hk.2) (.slice Ao124 t583.length co124)) (fun _ hk => hk.2) (.slice Ao126 t586.length co126)) (fun _ hk => ⟨hk.1.2,⟨hk.1.1.1,hk.1.1.2⟩⟩)⟩,⟨by (with_reducible repeat (first | apply Kd.zQn | apply Kd.zQm | apply Kd.zQo));exact Kd.zQk (Kd.V_far (p := ⟨gb536,3,none⟩) (Kd.V_far (p := ⟨gb536,2,none⟩) (Kd.V_far (p := ⟨gb536,0,none⟩) (Kd.zQk HO585.out (fun k_ hk => (⟨hk,hk.2.1⟩ : _ ∧ k_ ≠ gb536))) (fun _ hk => hk.2) (.slice Ao122 t580.length co122)) (fun _ hk => hk.2) (.slice Ao124 t583.length co124)) (fun _ hk => hk.2) (.slice Ao126 t586.length co126)) (fun _ hk => ⟨hk.1.1,⟨hk.1.2.1,hk.1.2.2⟩⟩)⟩,⟨by (with_reducible repeat (first | apply Kd.zQn | apply Kd.zQm | apply Kd.zQo));exact Kd.zQk (Kd.V_far (p := ⟨gb536,3,none⟩) (Kd.V_far (p := ⟨gb536,2,none⟩) (Kd.V_far (p := ⟨gb536,0,none⟩) (Kd.zQk HO588.out (fun k_ hk => (⟨hk,hk.2.1⟩ : _ ∧ k_ ≠ gb536))) (fun _ hk => hk.2) (.slice Ao122 t580.length co122)) (fun _ hk => hk.2) (.slice Ao124 t583.length co124)) (fun _ hk => hk.2) (.slice Ao126 t586.length co126)) (fun _ hk => ⟨hk.1.1,⟨hk.1.2.1,hk.1.2.2⟩⟩)⟩,⟨by (with_reducible repeat (first | refine zQa ?_ _ | refine zQd ?_ | refine zQb ?_ _));refine zQz (cs := #[.slice Ao122 t580.length co122,.slice Ao58 x537001_2.length co58,.slice Ao124 t583.length co124,.slice Ao120 x537003_4.length co120]) ?_ 3 _ rfl;(with_reducible repeat (first | refine zQa ?_ _ | refine zQd ?_ | refine zQb ?_ _));refine zQz (cs := #[.slice Ao122 t580.length co122,.slice Ao58 x537001_2.length co58,.slice Ao88 x537002_4.length co88,.slice Ao120 x537003_4.length co120]) ?_ 2 _ rfl;(with_reducible repeat (first | refine zQa ?_ _ | refine zQd ?_ | refine zQb ?_ _));refine zQz (cs := #[.slice Ao87 x537000_5.length co87,.slice Ao58 x537001_2.length co58,.slice Ao88 x537002_4.length co88,.slice Ao120 x537003_4.length co120]) ?_ 0 _ rfl;(with_reducible repeat (first | refine zQa ?_ _ | refine zQd ?_ | refine zQb ?_ _));exact BK536.out⟩,⟨by (with_reducible repeat (first | refine zQa ?_ _ | refine zQd ?_ | refine zQb ?_ _));refine zQL ?_ NB537_536.out _;(with_reducible repeat (first | refine zQa ?_ _ | refine zQd ?_ | refine zQb ?_ _));refine zQL ?_ NB537_536.out _;(with_reducible repeat (first | refine zQa ?_ _ | refine zQd ?_ | refine zQb ?_ _));refine zQL ?_ NB537_536.out _;(with_reducible repeat (first | refine zQa ?_ _ | refine zQd ?_ | refine zQb ?_ _));exact BK537.out⟩,⟨pB⟩⟩
                   ·rw [if_neg c112] at H
                    exact absurd H (by simp)
                  ·replace c111 := Bool.eq_false_iff.mpr c111
                   subst c111
                   rw [if_neg (show ¬ (false = true) by decide)] at H
                   replace H := Option.bind_eq_some_iff.mp H
                   obtain ⟨t589,A1280,H⟩ := H
                   try dsimp only at H
                   have A128 := am A1280
                   clear A1280
                   replace H := Option.bind_eq_some_iff.mp H
                   obtain ⟨t592,A1290,H⟩ := H
                   try dsimp only at H
                   have A129 := am A1290
                   clear A1290
                   by_cases c130 : x12_83 = true
                   ·subst c130
                    rw [if_pos rfl] at H
                    by_cases c131 : x11_83 = true
                    ·subst c131
                     rw [if_pos rfl] at H
                     by_cases c132 : t592 > 0
                     ·rw [if_pos c132] at H
                      have c132b0 : decide (0 < t592) = true := decide_eq_true c132
                      clear c132
                      by_cases c133 : x8_4.length < 140737488355328
                      ·rw [if_pos c133] at H
                       have LMc133 := am c133
                       clear c133
                       obtain ⟨y593,hy593⟩ : ∃ y_ : List Int,y_ = (x8_4 ++ [(48 + ((x9_5 + 1) % 256)) % 256]) := ⟨_,rfl⟩
                       replace H : ((dec_tidy.f kj108 y593 x7_3).bind fun bt596 => (some (bt596.1,bt596.2))) = some (r1,r2) := by first | (rw [hy593];with_reducible exact H) | (have H2_ := (Option.bind_some _ _).symm.trans H;rw [hy593];with_reducible exact H2_) | (have H2_ := (Option.bind_some _ _).symm.trans H;with_reducible exact H2_) | with_reducible exact H | (rw [hy593];exact H) | exact H
                       have Ny593 := am hy593
                       clear hy593
                       replace H := Option.bind_eq_some_iff.mp H
                       obtain ⟨⟨t596,t597⟩,A1340,H⟩ := H
                       try dsimp only at H
                       have A134 := am A1340
                       clear A1340
                       simp only [Option.some.injEq,Prod.mk.injEq] at H
                       obtain ⟨rfl,rfl⟩ := H
                       try go_wp2
                       replace HO_8 := am (Kd.zQx HO_8.out)
                       replace HO_537000 := am (Kd.zQo HO_537000.out)
                       replace HO_537001 := am (Kd.zQo HO_537001.out)
                       replace HO_537002 := am (Kd.zQo HO_537002.out)
                       replace HO_537003 := am (Kd.zQo HO_537003.out)
                       replace BK536 := am (zQd BK536.out)
                       replace BK537 := am (zQd BK537.out)
                       replace HB := am (zQM HB.out)
                       refine zXW (n := 7) (S := fun w' => w'.cell? ⟨gb536,0,none⟩ = some (.slice Ao87 x537000_5.length co87) ∧ w'.cell? ⟨gb536,1,none⟩ = some (.slice Ao58 x537001_2.length co58) ∧ w'.cell? ⟨gb536,2,none⟩ = some (.slice Ao88 x537002_4.length co88) ∧ w'.cell? ⟨gb536,3,none⟩ = some (u537003)) (ds := []) (bm 7 0) (by kernel_rfl) rfl rfl ⟨cz0 BK536.out,cz1 BK536.out,cz2 BK536.out,cz3 BK536.out⟩ (fun hHeld => ?_)
                       generalize wc.drew = w135 at HO_8 HO_537000 HO_537001 HO_537002 HO_537003 BK536 BK537 HB hHeld ⊢
                       refine pure_ (i := 0) (N := some 139) (v := ?_) (a' := ?_) (bm 7 1) rfl rfl (by kernel_rfl) (fun _ _ _ h => h) (Or.inl ⟨by kernel_rfl,?_⟩) ?_ ?_
                       rotate_left
                       ·intro w'
                        go_simp
                        with_reducible rfl
                       rotate_left
                       ·exact pA
                       refine pure_ (i := 3) (N := some 142) (v := ?_) (a' := ?_) (bm 7 9) rfl rfl (by kernel_rfl) (fun _ _ _ h => h) (Or.inl ⟨by kernel_rfl,?_⟩) ?_ ?_
                       rotate_left
                       ·intro w'
                        go_simp
                        with_reducible rfl
                       rotate_left
                       ·exact pA
                       refine take_ (i := 1) (N := some 140) (v := ?_) (a' := ?_) (bm 7 11) rfl rfl (by kernel_rfl) (fun _ _ _ h => h) (Or.inl ⟨by kernel_rfl,?_⟩) hHeld ?_ ?_
                       rotate_left
                       ·rintro w' ⟨s0,s1,s2,s3⟩
                        go_simp
                        with_reducible rfl
                       rotate_left
                       ·exact pA
                       refine take_ (i := 4) (N := some 143) (v := ?_) (a' := ?_) (bm 7 27) rfl rfl (by kernel_rfl) (fun _ _ _ h => h) (Or.inl ⟨by kernel_rfl,?_⟩) hHeld ?_ ?_
                       rotate_left
                       ·rintro w' ⟨s0,s1,s2,s3⟩
                        go_simp
                        with_reducible rfl
                       rotate_left
                       ·exact pA
                       refine one_ (i := 2) (N := some 141) (bm 7 31) rfl rfl (by kernel_rfl) (by decide) (fun K hK => ?_)
                       refine goes_ Tryz.func28 (by kernel_rfl) rfl #[.slice Ao87 x537000_5.length co87,.int .i64 1] (by rfl) rfl rfl pM ?_
                       with_reducible refine (b_up.calls kj108 _ _ x537000_5 1 t589 _ ?side1 ?side2 A128.out).mono ?_
                       (case side1 => repeat (first | exact (Kd.zQg HO_537000.out).2.2 | (with_reducible refine Kd.zQj ?_ _) | (with_reducible refine Kd.zQi ?_ _) | (with_reducible refine Kd.zQv ?_)))
                       (case side2 => exact (Kd.zQg HO_537000.out).2.1)
                       rintro e w136 ⟨v590,rfl,ho0,hb⟩
                       refine ⟨_,rfl,?_⟩
                       have n0_ := am (Kd.zQH (pR HO_8.out) hb)
                       have n1_ := am (Kd.zQG (pV HO_537000.out) (Kd.zQs ho0) hb)
                       have n2_ := am (Kd.zQG (pV HO_537001.out) (Kd.zQs ho0) hb)
                       have n3_ := am (Kd.zQG (pV HO_537002.out) (Kd.zQs ho0) hb)
                       have n4_ := am (Kd.zQG (pV HO_537003.out) (Kd.zQs ho0) hb)
                       have n5_ := am (Kd.zQy ho0 (zQc pB))
                       have n6_ := am (pkb BK536.out hb)
                       have n7_ := am (pkb BK537.out hb)
                       have n8_ := am (zQf pB hb)
                       clear HO_8 HO_537000 HO_537001 HO_537002 HO_537003 BK536 BK537 HB;have HO_8 := n0_;have HO_537000 := n1_;have HO_537001 := n2_;have HO_537002 := n3_;have HO_537003 := n4_;have HO591 := n5_;have BK536 := n6_;have BK537 := n7_;have HB := n8_;clear n0_ n1_ n2_ n3_ n4_ n5_ n6_ n7_ n8_;(try clear hb);(try clear ho0)
                       obtain ⟨Ao137,co137,eo137⟩ := Kd.zQB HO591.out
                       (first | subst eo137 | (injection eo137 with f1_ f2_ f3_;have f4_ := f1_.symm;have f5_ := f3_.symm;clear f1_ f2_ f3_;subst f4_;subst f5_))
                       refine hK.out _ _ ⟨cz0 BK536.out,cz1 BK536.out,cz2 BK536.out,cz3 BK536.out⟩ (fun hHeld => ?_)
                       clear hK K
                       refine norm_ (a' := ?_) ?_ ?_
                       rotate_left
                       ·show Act.put _ (some 141) _ = _
                        exact pA
                       refine one_ (i := 5) (N := some 144) (bm 7 63) rfl rfl (by kernel_rfl) (by decide) (fun K hK => ?_)
                       refine goes_ Tryz.func45 (by kernel_rfl) rfl #[.slice Ao137 t589.length co137,.slice Ao58 x537001_2.length co58] (by rfl) rfl rfl pM ?_
                       with_reducible refine (b_cmp.calls kj108 _ _ t589 _ _ x537001_2 t592 _ ?side1 ?side2 ?side3 ?side4 A129.out).mono ?_
                       (case side1 => repeat (first | exact (Kd.zQh HO591.out).2.2 | (with_reducible refine Kd.zQj ?_ _) | (with_reducible refine Kd.zQi ?_ _) | (with_reducible refine Kd.zQv ?_)))
                       (case side2 => exact (Kd.zQh HO591.out).2.1)
                       (case side3 => repeat (first | exact (Kd.zQg HO_537001.out).2.2 | (with_reducible refine Kd.zQj ?_ _) | (with_reducible refine Kd.zQi ?_ _) | (with_reducible refine Kd.zQv ?_)))
                       (case side4 => exact (Kd.zQg HO_537001.out).2.1)
                       rintro e w' ⟨rfl,⟨nd,rfl⟩⟩
                       refine ⟨_,rfl,?_⟩
                       refine hK.out _ _ ⟨cz0 BK536.out,cz1 BK536.out,cz2 BK536.out,cz3 BK536.out⟩ (fun hHeld => ?_)
                       clear hK K
                       refine norm_ (a' := ?_) ?_ ?_
                       rotate_left
                       ·show Act.put _ (some 144) _ = _
                        exact pA
                       refine pure_ (i := 6) (N := some 13) (v := ?_) (a' := ?_) (bm 7 127) rfl rfl (by kernel_rfl) (fun _ _ _ h => h) (Or.inl ⟨by kernel_rfl,?_⟩) ?_ ?_
                       rotate_left
                       ·intro w'
                        go_simp
                        with_reducible rfl
                       rotate_left
                       ·exact pA
                       refine done_ (by kernel_rfl) ?_
                       obtain ⟨jn_,hjn_⟩ : ∃ z_ : Int,(x9_5 + 1) % 256 = z_ := ⟨_,rfl⟩
                       have nyb_ := Ny593.out
                       rw [hjn_] at nyb_
                       clear Ny593
                       have Ny593 := am nyb_
                       clear nyb_
                       try go_wp2_with (first | ((with_reducible refine zQD (b := .append) (xs := #[.tmp 165,.tmp 168]) rfl ?_);at_builtin;refine Kd.zQU (Kd.int .u8) (w0 := w) w.heap.size rfl (.tmp 165) (.tmp 168) 75 5 (.int .u8 0) 1 rfl Tryz.underlying75 info5 rfl (by decide) (by omega) u8 x8_4 ((48 + jn_) % 256) [.int .u8 ((48 + jn_) % 256)] (fun _ => True) (fun _ => False) rfl rfl ?aP (fun _ hk => hk.elim) ?aF ?aO ?aB ?aS ?aL ?_;(case aP => exact rfl);(case aB => exact pB);(case aF => exact (fun _ _ => trivial));(case aO => exact (pR HO_8.out));(case aS => exact (zQc pB));(case aL => have := LMc133.out;omega);intro v594 w138 ho hb hg hat;rw [← Ny593.out] at ho;replace HO_537000 := am (Kd.zQR (ok := (fun k_ => some k_ ≠ (.slice Ao137 t589.length co137 : Value).ownBlock ∧ k_ ≠ gb536 ∧ k_ ≠ gb537)) (by (with_reducible repeat (first | apply Kd.zQn | apply Kd.zQm | apply Kd.zQo));exact Kd.zQk HO_537000.out (fun _ hk => ⟨⟨hk.2,⟨hk.1.2.1,hk.1.2.2⟩⟩,hk.1.1⟩)) hg hat);replace HO_537001 := am (Kd.zQR (ok := (fun k_ => some k_ ≠ (.slice Ao137 t589.length co137 : Value).ownBlock ∧ k_ ≠ gb536 ∧ k_ ≠ gb537)) (by (with_reducible repeat (first | apply Kd.zQn | apply Kd.zQm | apply Kd.zQo));exact Kd.zQk HO_537001.out (fun _ hk => ⟨⟨hk.2,⟨hk.1.2.1,hk.1.2.2⟩⟩,hk.1.1⟩)) hg hat);replace HO_537002 := am (Kd.zQR (ok := (fun k_ => some k_ ≠ (.slice Ao137 t589.length co137 : Value).ownBlock ∧ k_ ≠ gb536 ∧ k_ ≠ gb537)) (by (with_reducible repeat (first | apply Kd.zQn | apply Kd.zQm | apply Kd.zQo));exact Kd.zQk HO_537002.out (fun _ hk => ⟨⟨hk.2,⟨hk.1.2.1,hk.1.2.2⟩⟩,hk.1.1⟩)) hg hat);replace HO_537003 := am (Kd.zQR (ok := (fun k_ => some k_ ≠ (.slice Ao137 t589.length co137 : Value).ownBlock ∧ k_ ≠ gb536 ∧ k_ ≠ gb537)) (by (with_reducible repeat (first | apply Kd.zQn | apply Kd.zQm | apply Kd.zQo));exact Kd.zQk HO_537003.out (fun _ hk => ⟨⟨hk.2,⟨hk.1.2.1,hk.1.2.2⟩⟩,hk.1.1⟩)) hg hat);replace BK536 := am (zXq (g := gb536) (o := .cells #[.slice Ao87 x537000_5.length co87,.slice Ao58 x537001_2.length co58,.slice Ao88 x537002_4.length co88,u537003] 70 (0,0)) (pK BK536.out) hg (pX HO_8.out BK536.out));replace BK537 := am (zXq (g := gb537) (o := .cells #[.bool ((Go.bits .and .u64 a0 1) == 0)] 4 (0,0)) (pK BK537.out) hg (pX HO_8.out BK537.out));replace HO591 := am (Kd.zZm (pR HO591.out) (Kd.zXX (pR HO_8.out)) (by decide) hg);replace HB := am (hb);have HO595 := am (ho);clear HO_8;clear ho hb hg hat;obtain ⟨Ao139,co139,eo139⟩ := Kd.zQB HO595.out;subst eo139) | ((with_reducible refine zQe (f := 47) rfl ?_);refine zQr (some 171) rfl rfl Tryz.func47 (by kernel_rfl) rfl #[.slice Ao139 y593.length co139,.int .i64 x7_3] rfl pM ?_;(with_reducible refine (dec_tidy.calls kj108 (fun k_ => some k_ = (.slice Ao139 y593.length co139 : Value).ownBlock) (.slice Ao139 y593.length co139) y593 x7_3 t596 t597 w _ ?side1 ?side2 A134.out).mono ?_);(case side1 => repeat (first | (with_reducible first | exact HB.out | apply zQT | apply zQN | apply zQM | refine zQS ?_ GE536.out | refine zQS ?_ GE537.out) | exact HB.out));(case side2 => exact Kd.zXQ rfl HO595.out);rintro e w140 ⟨rfl,hb,hkp⟩;refine ⟨_,rfl,?_⟩;replace HO_537000 := am (Kd.zQk (ok' := fun k_ => some k_ ≠ (.slice Ao137 t589.length co137 : Value).ownBlock ∧ k_ ≠ gb536 ∧ k_ ≠ gb537) (Kd.zXh (HO_537000.out) hkp (fun k_ hk_ hs_ => (hk_.2) hs_)) (fun k_ hk_ => ⟨hk_.1.1.1,hk_.1.1.2.1,hk_.1.1.2.2⟩));replace HO_537001 := am (Kd.zQk (ok' := fun k_ => some k_ ≠ (.slice Ao137 t589.length co137 : Value).ownBlock ∧ k_ ≠ gb536 ∧ k_ ≠ gb537) (Kd.zXh (HO_537001.out) hkp (fun k_ hk_ hs_ => (hk_.2) hs_)) (fun k_ hk_ => ⟨hk_.1.1.1,hk_.1.1.2.1,hk_.1.1.2.2⟩));replace HO_537002 := am (Kd.zQk (ok' := fun k_ => some k_ ≠ (.slice Ao137 t589.length co137 : Value).ownBlock ∧ k_ ≠ gb536 ∧ k_ ≠ gb537) (Kd.zXh (HO_537002.out) hkp (fun k_ hk_ hs_ => (hk_.2) hs_)) (fun k_ hk_ => ⟨hk_.1.1.1,hk_.1.1.2.1,hk_.1.1.2.2⟩));replace HO_537003 := am (Kd.zQk (ok' := fun k_ => some k_ ≠ (.slice Ao137 t589.length co137 : Value).ownBlock ∧ k_ ≠ gb536 ∧ k_ ≠ gb537) (Kd.zXh (HO_537003.out) hkp (fun k_ hk_ hs_ => (hk_.2) hs_)) (fun k_ hk_ => ⟨hk_.1.1.1,hk_.1.1.2.1,hk_.1.1.2.2⟩));replace BK536 := am (zXJ (pK BK536.out) hkp (fun hs_ => (fun e_ => (pX HO595.out BK536.out) e_) hs_));replace BK537 := am (zXJ (pK BK537.out) hkp (fun hs_ => (fun e_ => (pX HO595.out BK537.out) e_) hs_));replace HO591 := am (Kd.zQE (ok' := fun k_ => True) (Kd.zZn ((Kd.zYL HO591.out (Kd.zXX HO595.out) (by decide))) hkp (fun k_ hk_ hs_ => (hk_.2) hs_)) (fun k_ hk_ => trivial));replace HB := am (hb);clear HO595;(try clear hb);(try clear hkp)))
                       go_ret2
                       exact ⟨pE,pB⟩
                      ·rw [if_neg c133] at H
                       exact absurd H (by simp)
                     ·rw [if_neg c132] at H
                      have c132b0 : decide (0 < t592) = false := decide_eq_false c132
                      clear c132
                      by_cases c141 : t592 = 0
                      ·rw [if_pos c141] at H
                       have c141b0 : (t592 == 0) = true := beq_iff_eq.mpr c141
                       have c141b1 : (t592 != 0) = false := bne_eq_false_iff_eq.mpr c141
                       clear c141
                       by_cases c142 : (Int.tmod x9_5 2) = 1
                       ·rw [if_pos c142] at H
                        have c142b0 : ((Int.tmod x9_5 2) == 1) = true := beq_iff_eq.mpr c142
                        have c142b1 : ((Int.tmod x9_5 2) != 1) = false := bne_eq_false_iff_eq.mpr c142
                        clear c142
                        by_cases c143 : x8_4.length < 140737488355328
                        ·rw [if_pos c143] at H
                         have LMc143 := am c143
                         clear c143
                         obtain ⟨y598,hy598⟩ : ∃ y_ : List Int,y_ = (x8_4 ++ [(48 + ((x9_5 + 1) % 256)) % 256]) := ⟨_,rfl⟩
                         replace H : ((dec_tidy.f kj108 y598 x7_3).bind fun bt601 => (some (bt601.1,bt601.2))) = some (r1,r2) := by first | (rw [hy598];with_reducible exact H) | (have H2_ := (Option.bind_some _ _).symm.trans H;rw [hy598];with_reducible exact H2_) | (have H2_ := (Option.bind_some _ _).symm.trans H;with_reducible exact H2_) | with_reducible exact H | (rw [hy598];exact H) | exact H
                         have Ny598 := am hy598
                         clear hy598
                         replace H := Option.bind_eq_some_iff.mp H
                         obtain ⟨⟨t601,t602⟩,A1440,H⟩ := H
                         try dsimp only at H
                         have A144 := am A1440
                         clear A1440
                         simp only [Option.some.injEq,Prod.mk.injEq] at H
                         obtain ⟨rfl,rfl⟩ := H
                         try go_wp2
                         replace HO_8 := am (Kd.zQx HO_8.out)
                         replace HO_537000 := am (Kd.zQo HO_537000.out)
                         replace HO_537001 := am (Kd.zQo HO_537001.out)
                         replace HO_537002 := am (Kd.zQo HO_537002.out)
                         replace HO_537003 := am (Kd.zQo HO_537003.out)
                         replace BK536 := am (zQd BK536.out)
                         replace BK537 := am (zQd BK537.out)
                         replace HB := am (zQM HB.out)
                         refine zXW (n := 7) (S := fun w' => w'.cell? ⟨gb536,0,none⟩ = some (.slice Ao87 x537000_5.length co87) ∧ w'.cell? ⟨gb536,1,none⟩ = some (.slice Ao58 x537001_2.length co58) ∧ w'.cell? ⟨gb536,2,none⟩ = some (.slice Ao88 x537002_4.length co88) ∧ w'.cell? ⟨gb536,3,none⟩ = some (u537003)) (ds := []) (bm 7 0) (by kernel_rfl) rfl rfl ⟨cz0 BK536.out,cz1 BK536.out,cz2 BK536.out,cz3 BK536.out⟩ (fun hHeld => ?_)
                         generalize wc.drew = w145 at HO_8 HO_537000 HO_537001 HO_537002 HO_537003 BK536 BK537 HB hHeld ⊢
                         refine pure_ (i := 0) (N := some 139) (v := ?_) (a' := ?_) (bm 7 1) rfl rfl (by kernel_rfl) (fun _ _ _ h => h) (Or.inl ⟨by kernel_rfl,?_⟩) ?_ ?_
                         rotate_left
                         ·intro w'
                          go_simp
                          with_reducible rfl
                         rotate_left
                         ·exact pA
                         refine pure_ (i := 3) (N := some 142) (v := ?_) (a' := ?_) (bm 7 9) rfl rfl (by kernel_rfl) (fun _ _ _ h => h) (Or.inl ⟨by kernel_rfl,?_⟩) ?_ ?_
                         rotate_left
                         ·intro w'
                          go_simp
                          with_reducible rfl
                         rotate_left
                         ·exact pA
                         refine take_ (i := 1) (N := some 140) (v := ?_) (a' := ?_) (bm 7 11) rfl rfl (by kernel_rfl) (fun _ _ _ h => h) (Or.inl ⟨by kernel_rfl,?_⟩) hHeld ?_ ?_
                         rotate_left
                         ·rintro w' ⟨s0,s1,s2,s3⟩
                          go_simp
                          with_reducible rfl
                         rotate_left
                         ·exact pA
                         refine take_ (i := 4) (N := some 143) (v := ?_) (a' := ?_) (bm 7 27) rfl rfl (by kernel_rfl) (fun _ _ _ h => h) (Or.inl ⟨by kernel_rfl,?_⟩) hHeld ?_ ?_
                         rotate_left
                         ·rintro w' ⟨s0,s1,s2,s3⟩
                          go_simp
                          with_reducible rfl
                         rotate_left
                         ·exact pA
                         refine one_ (i := 2) (N := some 141) (bm 7 31) rfl rfl (by kernel_rfl) (by decide) (fun K hK => ?_)
                         refine goes_ Tryz.func28 (by kernel_rfl) rfl #[.slice Ao87 x537000_5.length co87,.int .i64 1] (by rfl) rfl rfl pM ?_
                         with_reducible refine (b_up.calls kj108 _ _ x537000_5 1 t589 _ ?side1 ?side2 A128.out).mono ?_
                         (case side1 => repeat (first | exact (Kd.zQg HO_537000.out).2.2 | (with_reducible refine Kd.zQj ?_ _) | (with_reducible refine Kd.zQi ?_ _) | (with_reducible refine Kd.zQv ?_)))
                         (case side2 => exact (Kd.zQg HO_537000.out).2.1)
                         rintro e w146 ⟨v590,rfl,ho0,hb⟩
                         refine ⟨_,rfl,?_⟩
                         have n0_ := am (Kd.zQH (pR HO_8.out) hb)
                         have n1_ := am (Kd.zQG (pV HO_537000.out) (Kd.zQs ho0) hb)
                         have n2_ := am (Kd.zQG (pV HO_537001.out) (Kd.zQs ho0) hb)
                         have n3_ := am (Kd.zQG (pV HO_537002.out) (Kd.zQs ho0) hb)
                         have n4_ := am (Kd.zQG (pV HO_537003.out) (Kd.zQs ho0) hb)
                         have n5_ := am (Kd.zQy ho0 (zQc pB))
                         have n6_ := am (pkb BK536.out hb)
                         have n7_ := am (pkb BK537.out hb)
                         have n8_ := am (zQf pB hb)
                         clear HO_8 HO_537000 HO_537001 HO_537002 HO_537003 BK536 BK537 HB;have HO_8 := n0_;have HO_537000 := n1_;have HO_537001 := n2_;have HO_537002 := n3_;have HO_537003 := n4_;have HO591 := n5_;have BK536 := n6_;have BK537 := n7_;have HB := n8_;clear n0_ n1_ n2_ n3_ n4_ n5_ n6_ n7_ n8_;(try clear hb);(try clear ho0)
                         obtain ⟨Ao147,co147,eo147⟩ := Kd.zQB HO591.out
                         (first | subst eo147 | (injection eo147 with f1_ f2_ f3_;have f4_ := f1_.symm;have f5_ := f3_.symm;clear f1_ f2_ f3_;subst f4_;subst f5_))
                         refine hK.out _ _ ⟨cz0 BK536.out,cz1 BK536.out,cz2 BK536.out,cz3 BK536.out⟩ (fun hHeld => ?_)
                         clear hK K
                         refine norm_ (a' := ?_) ?_ ?_
                         rotate_left
                         ·show Act.put _ (some 141) _ = _
                          exact pA
                         refine one_ (i := 5) (N := some 144) (bm 7 63) rfl rfl (by kernel_rfl) (by decide) (fun K hK => ?_)
                         refine goes_ Tryz.func45 (by kernel_rfl) rfl #[.slice Ao147 t589.length co147,.slice Ao58 x537001_2.length co58] (by rfl) rfl rfl pM ?_
                         with_reducible refine (b_cmp.calls kj108 _ _ t589 _ _ x537001_2 t592 _ ?side1 ?side2 ?side3 ?side4 A129.out).mono ?_
                         (case side1 => repeat (first | exact (Kd.zQh HO591.out).2.2 | (with_reducible refine Kd.zQj ?_ _) | (with_reducible refine Kd.zQi ?_ _) | (with_reducible refine Kd.zQv ?_)))
                         (case side2 => exact (Kd.zQh HO591.out).2.1)
                         (case side3 => repeat (first | exact (Kd.zQg HO_537001.out).2.2 | (with_reducible refine Kd.zQj ?_ _) | (with_reducible refine Kd.zQi ?_ _) | (with_reducible refine Kd.zQv ?_)))
                         (case side4 => exact (Kd.zQg HO_537001.out).2.1)
                         rintro e w' ⟨rfl,⟨nd,rfl⟩⟩
                         refine ⟨_,rfl,?_⟩
                         refine hK.out _ _ ⟨cz0 BK536.out,cz1 BK536.out,cz2 BK536.out,cz3 BK536.out⟩ (fun hHeld => ?_)
                         clear hK K
                         refine norm_ (a' := ?_) ?_ ?_
                         rotate_left
                         ·show Act.put _ (some 144) _ = _
                          exact pA
                         refine pure_ (i := 6) (N := some 13) (v := ?_) (a' := ?_) (bm 7 127) rfl rfl (by kernel_rfl) (fun _ _ _ h => h) (Or.inl ⟨by kernel_rfl,?_⟩) ?_ ?_
                         rotate_left
                         ·intro w'
                          go_simp
                          with_reducible rfl
                         rotate_left
                         ·exact pA
                         refine done_ (by kernel_rfl) ?_
                         obtain ⟨jn_,hjn_⟩ : ∃ z_ : Int,(x9_5 + 1) % 256 = z_ := ⟨_,rfl⟩
                         have nyb_ := Ny598.out
                         rw [hjn_] at nyb_
                         clear Ny598
                         have Ny598 := am nyb_
                         clear nyb_
                         try go_wp2_with (first | ((with_reducible refine zQD (b := .append) (xs := #[.tmp 165,.tmp 168]) rfl ?_);at_builtin;refine Kd.zQU (Kd.int .u8) (w0 := w) w.heap.size rfl (.tmp 165) (.tmp 168) 75 5 (.int .u8 0) 1 rfl Tryz.underlying75 info5 rfl (by decide) (by omega) u8 x8_4 ((48 + jn_) % 256) [.int .u8 ((48 + jn_) % 256)] (fun _ => True) (fun _ => False) rfl rfl ?aP (fun _ hk => hk.elim) ?aF ?aO ?aB ?aS ?aL ?_;(case aP => exact rfl);(case aB => exact pB);(case aF => exact (fun _ _ => trivial));(case aO => exact (pR HO_8.out));(case aS => exact (zQc pB));(case aL => have := LMc143.out;omega);intro v599 w148 ho hb hg hat;rw [← Ny598.out] at ho;replace HO_537000 := am (Kd.zQR (ok := (fun k_ => some k_ ≠ (.slice Ao147 t589.length co147 : Value).ownBlock ∧ k_ ≠ gb536 ∧ k_ ≠ gb537)) (by (with_reducible repeat (first | apply Kd.zQn | apply Kd.zQm | apply Kd.zQo));exact Kd.zQk HO_537000.out (fun _ hk => ⟨⟨hk.2,⟨hk.1.2.1,hk.1.2.2⟩⟩,hk.1.1⟩)) hg hat);replace HO_537001 := am (Kd.zQR (ok := (fun k_ => some k_ ≠ (.slice Ao147 t589.length co147 : Value).ownBlock ∧ k_ ≠ gb536 ∧ k_ ≠ gb537)) (by (with_reducible repeat (first | apply Kd.zQn | apply Kd.zQm | apply Kd.zQo));exact Kd.zQk HO_537001.out (fun _ hk => ⟨⟨hk.2,⟨hk.1.2.1,hk.1.2.2⟩⟩,hk.1.1⟩)) hg hat);replace HO_537002 := am (Kd.zQR (ok := (fun k_ => some k_ ≠ (.slice Ao147 t589.length co147 : Value).ownBlock ∧ k_ ≠ gb536 ∧ k_ ≠ gb537)) (by (with_reducible repeat (first | apply Kd.zQn | apply Kd.zQm | apply Kd.zQo));exact Kd.zQk HO_537002.out (fun _ hk => ⟨⟨hk.2,⟨hk.1.2.1,hk.1.2.2⟩⟩,hk.1.1⟩)) hg hat);replace HO_537003 := am (Kd.zQR (ok := (fun k_ => some k_ ≠ (.slice Ao147 t589.length co147 : Value).ownBlock ∧ k_ ≠ gb536 ∧ k_ ≠ gb537)) (by (with_reducible repeat (first | apply Kd.zQn | apply Kd.zQm | apply Kd.zQo));exact Kd.zQk HO_537003.out (fun _ hk => ⟨⟨hk.2,⟨hk.1.2.1,hk.1.2.2⟩⟩,hk.1.1⟩)) hg hat);replace BK536 := am (zXq (g := gb536) (o := .cells #[.slice Ao87 x537000_5.length co87,.slice Ao58 x537001_2.length co58,.slice Ao88 x537002_4.length co88,u537003] 70 (0,0)) (pK BK536.out) hg (pX HO_8.out BK536.out));replace BK537 := am (zXq (g := gb537) (o := .cells #[.bool ((Go.bits .and .u64 a0 1) == 0)] 4 (0,0)) (pK BK537.out) hg (pX HO_8.out BK537.out));replace HO591 := am (Kd.zZm (pR HO591.out) (Kd.zXX (pR HO_8.out)) (by decide) hg);replace HB := am (hb);have HO600 := am (ho);clear HO_8;clear ho hb hg hat;obtain ⟨Ao149,co149,eo149⟩ := Kd.zQB HO600.out;subst eo149) | ((with_reducible refine zQe (f := 47) rfl ?_);refine zQr (some 171) rfl rfl Tryz.func47 (by kernel_rfl) rfl #[.slice Ao149 y598.length co149,.int .i64 x7_3] rfl pM ?_;(with_reducible refine (dec_tidy.calls kj108 (fun k_ => some k_ = (.slice Ao149 y598.length co149 : Value).ownBlock) (.slice Ao149 y598.length co149) y598 x7_3 t601 t602 w _ ?side1 ?side2 A144.out).mono ?_);(case side1 => repeat (first | (with_reducible first | exact HB.out | apply zQT | apply zQN | apply zQM | refine zQS ?_ GE536.out | refine zQS ?_ GE537.out) | exact HB.out));(case side2 => exact Kd.zXQ rfl HO600.out);rintro e w150 ⟨rfl,hb,hkp⟩;refine ⟨_,rfl,?_⟩;replace HO_537000 := am (Kd.zQk (ok' := fun k_ => some k_ ≠ (.slice Ao147 t589.length co147 : Value).ownBlock ∧ k_ ≠ gb536 ∧ k_ ≠ gb537) (Kd.zXh (HO_537000.out) hkp (fun k_ hk_ hs_ => (hk_.2) hs_)) (fun k_ hk_ => ⟨hk_.1.1.1,hk_.1.1.2.1,hk_.1.1.2.2⟩));replace HO_537001 := am (Kd.zQk (ok' := fun k_ => some k_ ≠ (.slice Ao147 t589.length co147 : Value).ownBlock ∧ k_ ≠ gb536 ∧ k_ ≠ gb537) (Kd.zXh (HO_537001.out) hkp (fun k_ hk_ hs_ => (hk_.2) hs_)) (fun k_ hk_ => ⟨hk_.1.1.1,hk_.1.1.2.1,hk_.1.1.2.2⟩));replace HO_537002 := am (Kd.zQk (ok' := fun k_ => some k_ ≠ (.slice Ao147 t589.length co147 : Value).ownBlock ∧ k_ ≠ gb536 ∧ k_ ≠ gb537) (Kd.zXh (HO_537002.out) hkp (fun k_ hk_ hs_ => (hk_.2) hs_)) (fun k_ hk_ => ⟨hk_.1.1.1,hk_.1.1.2.1,hk_.1.1.2.2⟩));replace HO_537003 := am (Kd.zQk (ok' := fun k_ => some k_ ≠ (.slice Ao147 t589.length co147 : Value).ownBlock ∧ k_ ≠ gb536 ∧ k_ ≠ gb537) (Kd.zXh (HO_537003.out) hkp (fun k_ hk_ hs_ => (hk_.2) hs_)) (fun k_ hk_ => ⟨hk_.1.1.1,hk_.1.1.2.1,hk_.1.1.2.2⟩));replace BK536 := am (zXJ (pK BK536.out) hkp (fun hs_ => (fun e_ => (pX HO600.out BK536.out) e_) hs_));replace BK537 := am (zXJ (pK BK537.out) hkp (fun hs_ => (fun e_ => (pX HO600.out BK537.out) e_) hs_));replace HO591 := am (Kd.zQE (ok' := fun k_ => True) (Kd.zZn ((Kd.zYL HO591.out (Kd.zXX HO600.out) (by decide))) hkp (fun k_ hk_ hs_ => (hk_.2) hs_)) (fun k_ hk_ => trivial));replace HB := am (hb);clear HO600;(try clear hb);(try clear hkp)))
                         go_ret2
                         exact ⟨pE,pB⟩
                        ·rw [if_neg c143] at H
                         exact absurd H (by simp)
                       ·rw [if_neg c142] at H
                        have c142b0 : ((Int.tmod x9_5 2) == 1) = false := beq_eq_false_iff_ne.mpr c142
                        have c142b1 : ((Int.tmod x9_5 2) != 1) = true := bne_iff_ne.mpr c142
                        by_cases c151 : x8_4.length < 140737488355328
                        ·rw [if_pos c151] at H
                         have LMc151 := am c151
                         clear c151
                         obtain ⟨y603,hy603⟩ : ∃ y_ : List Int,y_ = (x8_4 ++ [(48 + x9_5) % 256]) := ⟨_,rfl⟩
                         replace H : ((dec_tidy.f kj108 y603 x7_3).bind fun bt606 => (some (bt606.1,bt606.2))) = some (r1,r2) := by first | (rw [hy603];with_reducible exact H) | (have H2_ := (Option.bind_some _ _).symm.trans H;rw [hy603];with_reducible exact H2_) | (have H2_ := (Option.bind_some _ _).symm.trans H;with_reducible exact H2_) | with_reducible exact H | (rw [hy603];exact H) | exact H
                         have Ny603 := am hy603
                         clear hy603
                         replace H := Option.bind_eq_some_iff.mp H
                         obtain ⟨⟨t606,t607⟩,A1520,H⟩ := H
                         try dsimp only at H
                         have A152 := am A1520
                         clear A1520
                         simp only [Option.some.injEq,Prod.mk.injEq] at H
                         obtain ⟨rfl,rfl⟩ := H
                         try go_wp2
                         replace HO_8 := am (Kd.zQx HO_8.out)
                         replace HO_537000 := am (Kd.zQo HO_537000.out)
                         replace HO_537001 := am (Kd.zQo HO_537001.out)
                         replace HO_537002 := am (Kd.zQo HO_537002.out)
                         replace HO_537003 := am (Kd.zQo HO_537003.out)
                         replace BK536 := am (zQd BK536.out)
                         replace BK537 := am (zQd BK537.out)
                         replace HB := am (zQM HB.out)
                         refine zXW (n := 7) (S := fun w' => w'.cell? ⟨gb536,0,none⟩ = some (.slice Ao87 x537000_5.length co87) ∧ w'.cell? ⟨gb536,1,none⟩ = some (.slice Ao58 x537001_2.length co58) ∧ w'.cell? ⟨gb536,2,none⟩ = some (.slice Ao88 x537002_4.length co88) ∧ w'.cell? ⟨gb536,3,none⟩ = some (u537003)) (ds := []) (bm 7 0) (by kernel_rfl) rfl rfl ⟨cz0 BK536.out,cz1 BK536.out,cz2 BK536.out,cz3 BK536.out⟩ (fun hHeld => ?_)
                         generalize wc.drew = w153 at HO_8 HO_537000 HO_537001 HO_537002 HO_537003 BK536 BK537 HB hHeld ⊢
                         refine pure_ (i := 0) (N := some 139) (v := ?_) (a' := ?_) (bm 7 1) rfl rfl (by kernel_rfl) (fun _ _ _ h => h) (Or.inl ⟨by kernel_rfl,?_⟩) ?_ ?_
                         rotate_left
                         ·intro w'
                          go_simp
                          with_reducible rfl
                         rotate_left
                         ·exact pA
                         refine pure_ (i := 3) (N := some 142) (v := ?_) (a' := ?_) (bm 7 9) rfl rfl (by kernel_rfl) (fun _ _ _ h => h) (Or.inl ⟨by kernel_rfl,?_⟩) ?_ ?_
                         rotate_left
                         ·intro w'
                          go_simp
                          with_reducible rfl
                         rotate_left
                         ·exact pA
                         refine take_ (i := 1) (N := some 140) (v := ?_) (a' := ?_) (bm 7 11) rfl rfl (by kernel_rfl) (fun _ _ _ h => h) (Or.inl ⟨by kernel_rfl,?_⟩) hHeld ?_ ?_
                         rotate_left
                         ·rintro w' ⟨s0,s1,s2,s3⟩
                          go_simp
                          with_reducible rfl
                         rotate_left
                         ·exact pA
                         refine take_ (i := 4) (N := some 143) (v := ?_) (a' := ?_) (bm 7 27) rfl rfl (by kernel_rfl) (fun _ _ _ h => h) (Or.inl ⟨by kernel_rfl,?_⟩) hHeld ?_ ?_
                         rotate_left
                         ·rintro w' ⟨s0,s1,s2,s3⟩
                          go_simp
                          with_reducible rfl
                         rotate_left
                         ·exact pA
                         refine one_ (i := 2) (N := some 141) (bm 7 31) rfl rfl (by kernel_rfl) (by decide) (fun K hK => ?_)
                         refine goes_ Tryz.func28 (by kernel_rfl) rfl #[.slice Ao87 x537000_5.length co87,.int .i64 1] (by rfl) rfl rfl pM ?_
                         with_reducible refine (b_up.calls kj108 _ _ x537000_5 1 t589 _ ?side1 ?side2 A128.out).mono ?_
                         (case side1 => repeat (first | exact (Kd.zQg HO_537000.out).2.2 | (with_reducible refine Kd.zQj ?_ _) | (with_reducible refine Kd.zQi ?_ _) | (with_reducible refine Kd.zQv ?_)))
                         (case side2 => exact (Kd.zQg HO_537000.out).2.1)
                         rintro e w154 ⟨v590,rfl,ho0,hb⟩
                         refine ⟨_,rfl,?_⟩
                         have n0_ := am (Kd.zQH (pR HO_8.out) hb)
                         have n1_ := am (Kd.zQG (pV HO_537000.out) (Kd.zQs ho0) hb)
                         have n2_ := am (Kd.zQG (pV HO_537001.out) (Kd.zQs ho0) hb)
                         have n3_ := am (Kd.zQG (pV HO_537002.out) (Kd.zQs ho0) hb)
                         have n4_ := am (Kd.zQG (pV HO_537003.out) (Kd.zQs ho0) hb)
                         have n5_ := am (Kd.zQy ho0 (zQc pB))
                         have n6_ := am (pkb BK536.out hb)
                         have n7_ := am (pkb BK537.out hb)
                         have n8_ := am (zQf pB hb)
                         clear HO_8 HO_537000 HO_537001 HO_537002 HO_537003 BK536 BK537 HB;have HO_8 := n0_;have HO_537000 := n1_;have HO_537001 := n2_;have HO_537002 := n3_;have HO_537003 := n4_;have HO591 := n5_;have BK536 := n6_;have BK537 := n7_;have HB := n8_;clear n0_ n1_ n2_ n3_ n4_ n5_ n6_ n7_ n8_;(try clear hb);(try clear ho0)
                         obtain ⟨Ao155,co155,eo155⟩ := Kd.zQB HO591.out
                         (first | subst eo155 | (injection eo155 with f1_ f2_ f3_;have f4_ := f1_.symm;have f5_ := f3_.symm;clear f1_ f2_ f3_;subst f4_;subst f5_))
                         refine hK.out _ _ ⟨cz0 BK536.out,cz1 BK536.out,cz2 BK536.out,cz3 BK536.out⟩ (fun hHeld => ?_)
                         clear hK K
                         refine norm_ (a' := ?_) ?_ ?_
                         rotate_left
                         ·show Act.put _ (some 141) _ = _
                          exact pA
                         refine one_ (i := 5) (N := some 144) (bm 7 63) rfl rfl (by kernel_rfl) (by decide) (fun K hK => ?_)
                         refine goes_ Tryz.func45 (by kernel_rfl) rfl #[.slice Ao155 t589.length co155,.slice Ao58 x537001_2.length co58] (by rfl) rfl rfl pM ?_
                         with_reducible refine (b_cmp.calls kj108 _ _ t589 _ _ x537001_2 t592 _ ?side1 ?side2 ?side3 ?side4 A129.out).mono ?_
                         (case side1 => repeat (first | exact (Kd.zQh HO591.out).2.2 | (with_reducible refine Kd.zQj ?_ _) | (with_reducible refine Kd.zQi ?_ _) | (with_reducible refine Kd.zQv ?_)))
                         (case side2 => exact (Kd.zQh HO591.out).2.1)
                         (case side3 => repeat (first | exact (Kd.zQg HO_537001.out).2.2 | (with_reducible refine Kd.zQj ?_ _) | (with_reducible refine Kd.zQi ?_ _) | (with_reducible refine Kd.zQv ?_)))
                         (case side4 => exact (Kd.zQg HO_537001.out).2.1)
                         rintro e w' ⟨rfl,⟨nd,rfl⟩⟩
                         refine ⟨_,rfl,?_⟩
                         refine hK.out _ _ ⟨cz0 BK536.out,cz1 BK536.out,cz2 BK536.out,cz3 BK536.out⟩ (fun hHeld => ?_)
                         clear hK K
                         refine norm_ (a' := ?_) ?_ ?_
                         rotate_left
                         ·show Act.put _ (some 144) _ = _
                          exact pA
                         refine pure_ (i := 6) (N := some 13) (v := ?_) (a' := ?_) (bm 7 127) rfl rfl (by kernel_rfl) (fun _ _ _ h => h) (Or.inl ⟨by kernel_rfl,?_⟩) ?_ ?_
                         rotate_left
                         ·intro w'
                          go_simp
                          with_reducible rfl
                         rotate_left
                         ·exact pA
                         refine done_ (by kernel_rfl) ?_
                         try go_wp2_with (first | ((with_reducible refine zQD (b := .append) (xs := #[.tmp 165,.tmp 168]) rfl ?_);at_builtin;refine Kd.zQU (Kd.int .u8) (w0 := w) w.heap.size rfl (.tmp 165) (.tmp 168) 75 5 (.int .u8 0) 1 rfl Tryz.underlying75 info5 rfl (by decide) (by omega) u8 x8_4 ((48 + x9_5) % 256) [.int .u8 ((48 + x9_5) % 256)] (fun _ => True) (fun _ => False) rfl rfl ?aP (fun _ hk => hk.elim) ?aF ?aO ?aB ?aS ?aL ?_;(case aP => exact rfl);(case aB => exact pB);(case aF => exact (fun _ _ => trivial));(case aO => exact (pR HO_8.out));(case aS => exact (zQc pB));(case aL => have := LMc151.out;omega);intro v604 w156 ho hb hg hat;rw [← Ny603.out] at ho;replace HO_537000 := am (Kd.zQR (ok := (fun k_ => some k_ ≠ (.slice Ao155 t589.length co155 : Value).ownBlock ∧ k_ ≠ gb536 ∧ k_ ≠ gb537)) (by (with_reducible repeat (first | apply Kd.zQn | apply Kd.zQm | apply Kd.zQo));exact Kd.zQk HO_537000.out (fun _ hk => ⟨⟨hk.2,⟨hk.1.2.1,hk.1.2.2⟩⟩,hk.1.1⟩)) hg hat);replace HO_537001 := am (Kd.zQR (ok := (fun k_ => some k_ ≠ (.slice Ao155 t589.length co155 : Value).ownBlock ∧ k_ ≠ gb536 ∧ k_ ≠ gb537)) (by (with_reducible repeat (first | apply Kd.zQn | apply Kd.zQm | apply Kd.zQo));exact Kd.zQk HO_537001.out (fun _ hk => ⟨⟨hk.2,⟨hk.1.2.1,hk.1.2.2⟩⟩,hk.1.1⟩)) hg hat);replace HO_537002 := am (Kd.zQR (ok := (fun k_ => some k_ ≠ (.slice Ao155 t589.length co155 : Value).ownBlock ∧ k_ ≠ gb536 ∧ k_ ≠ gb537)) (by (with_reducible repeat (first | apply Kd.zQn | apply Kd.zQm | apply Kd.zQo));exact Kd.zQk HO_537002.out (fun _ hk => ⟨⟨hk.2,⟨hk.1.2.1,hk.1.2.2⟩⟩,hk.1.1⟩)) hg hat);replace HO_537003 := am (Kd.zQR (ok := (fun k_ => some k_ ≠ (.slice Ao155 t589.length co155 : Value).ownBlock ∧ k_ ≠ gb536 ∧ k_ ≠ gb537)) (by (with_reducible repeat (first | apply Kd.zQn | apply Kd.zQm | apply Kd.zQo));exact Kd.zQk HO_537003.out (fun _ hk => ⟨⟨hk.2,⟨hk.1.2.1,hk.1.2.2⟩⟩,hk.1.1⟩)) hg hat);replace BK536 := am (zXq (g := gb536) (o := .cells #[.slice Ao87 x537000_5.length co87,.slice Ao58 x537001_2.length co58,.slice Ao88 x537002_4.length co88,u537003] 70 (0,0)) (pK BK536.out) hg (pX HO_8.out BK536.out));replace BK537 := am (zXq (g := gb537) (o := .cells #[.bool ((Go.bits .and .u64 a0 1) == 0)] 4 (0,0)) (pK BK537.out) hg (pX HO_8.out BK537.out));replace HO591 := am (Kd.zZm (pR HO591.out) (Kd.zXX (pR HO_8.out)) (by decide) hg);replace HB := am (hb);have HO605 := am (ho);clear HO_8;clear ho hb hg hat;obtain ⟨Ao157,co157,eo157⟩ := Kd.zQB HO605.out;subst eo157) | ((with_reducible refine zQe (f := 47) rfl ?_);refine zQr (some 171) rfl rfl Tryz.func47 (by kernel_rfl) rfl #[.slice Ao157 y603.length co157,.int .i64 x7_3] rfl pM ?_;(with_reducible refine (dec_tidy.calls kj108 (fun k_ => some k_ = (.slice Ao157 y603.length co157 : Value).ownBlock) (.slice Ao157 y603.length co157) y603 x7_3 t606 t607 w _ ?side1 ?side2 A152.out).mono ?_);(case side1 => repeat (first | (with_reducible first | exact HB.out | apply zQT | apply zQN | apply zQM | refine zQS ?_ GE536.out | refine zQS ?_ GE537.out) | exact HB.out));(case side2 => exact Kd.zXQ rfl HO605.out);rintro e w158 ⟨rfl,hb,hkp⟩;refine ⟨_,rfl,?_⟩;replace HO_537000 := am (Kd.zQk (ok' := fun k_ => some k_ ≠ (.slice Ao155 t589.length co155 : Value).ownBlock ∧ k_ ≠ gb536 ∧ k_ ≠ gb537) (Kd.zXh (HO_537000.out) hkp (fun k_ hk_ hs_ => (hk_.2) hs_)) (fun k_ hk_ => ⟨hk_.1.1.1,hk_.1.1.2.1,hk_.1.1.2.2⟩));replace HO_537001 := am (Kd.zQk (ok' := fun k_ => some k_ ≠ (.slice Ao155 t589.length co155 : Value).ownBlock ∧ k_ ≠ gb536 ∧ k_ ≠ gb537) (Kd.zXh (HO_537001.out) hkp (fun k_ hk_ hs_ => (hk_.2) hs_)) (fun k_ hk_ => ⟨hk_.1.1.1,hk_.1.1.2.1,hk_.1.1.2.2⟩));replace HO_537002 := am (Kd.zQk (ok' := fun k_ => some k_ ≠ (.slice Ao155 t589.length co155 : Value).ownBlock ∧ k_ ≠ gb536 ∧ k_ ≠ gb537) (Kd.zXh (HO_537002.out) hkp (fun k_ hk_ hs_ => (hk_.2) hs_)) (fun k_ hk_ => ⟨hk_.1.1.1,hk_.1.1.2.1,hk_.1.1.2.2⟩));replace HO_537003 := am (Kd.zQk (ok' := fun k_ => some k_ ≠ (.slice Ao155 t589.length co155 : Value).ownBlock ∧ k_ ≠ gb536 ∧ k_ ≠ gb537) (Kd.zXh (HO_537003.out) hkp (fun k_ hk_ hs_ => (hk_.2) hs_)) (fun k_ hk_ => ⟨hk_.1.1.1,hk_.1.1.2.1,hk_.1.1.2.2⟩));replace BK536 := am (zXJ (pK BK536.out) hkp (fun hs_ => (fun e_ => (pX HO605.out BK536.out) e_) hs_));replace BK537 := am (zXJ (pK BK537.out) hkp (fun hs_ => (fun e_ => (pX HO605.out BK537.out) e_) hs_));replace HO591 := am (Kd.zQE (ok' := fun k_ => True) (Kd.zZn ((Kd.zYL HO591.out (Kd.zXX HO605.out) (by decide))) hkp (fun k_ hk_ hs_ => (hk_.2) hs_)) (fun k_ hk_ => trivial));replace HB := am (hb);clear HO605;(try clear hb);(try clear hkp)))
                         go_ret2
                         exact ⟨pE,pB⟩
                        ·rw [if_neg c151] at H
                         exact absurd H (by simp)
                      ·rw [if_neg c141] at H
                       have c141b0 : (t592 == 0) = false := beq_eq_false_iff_ne.mpr c141
                       have c141b1 : (t592 != 0) = true := bne_iff_ne.mpr c141
                       by_cases c159 : x8_4.length < 140737488355328
                       ·rw [if_pos c159] at H
                        have LMc159 := am c159
                        clear c159
                        obtain ⟨y608,hy608⟩ : ∃ y_ : List Int,y_ = (x8_4 ++ [(48 + x9_5) % 256]) := ⟨_,rfl⟩
                        replace H : ((dec_tidy.f kj108 y608 x7_3).bind fun bt611 => (some (bt611.1,bt611.2))) = some (r1,r2) := by first | (rw [hy608];with_reducible exact H) | (have H2_ := (Option.bind_some _ _).symm.trans H;rw [hy608];with_reducible exact H2_) | (have H2_ := (Option.bind_some _ _).symm.trans H;with_reducible exact H2_) | with_reducible exact H | (rw [hy608];exact H) | exact H
                        have Ny608 := am hy608
                        clear hy608
                        replace H := Option.bind_eq_some_iff.mp H
                        obtain ⟨⟨t611,t612⟩,A1600,H⟩ := H
                        try dsimp only at H
                        have A160 := am A1600
                        clear A1600
                        simp only [Option.some.injEq,Prod.mk.injEq] at H
                        obtain ⟨rfl,rfl⟩ := H
                        try go_wp2
                        replace HO_8 := am (Kd.zQx HO_8.out)
                        replace HO_537000 := am (Kd.zQo HO_537000.out)
                        replace HO_537001 := am (Kd.zQo HO_537001.out)
                        replace HO_537002 := am (Kd.zQo HO_537002.out)
                        replace HO_537003 := am (Kd.zQo HO_537003.out)
                        replace BK536 := am (zQd BK536.out)
                        replace BK537 := am (zQd BK537.out)
                        replace HB := am (zQM HB.out)
                        refine zXW (n := 7) (S := fun w' => w'.cell? ⟨gb536,0,none⟩ = some (.slice Ao87 x537000_5.length co87) ∧ w'.cell? ⟨gb536,1,none⟩ = some (.slice Ao58 x537001_2.length co58) ∧ w'.cell? ⟨gb536,2,none⟩ = some (.slice Ao88 x537002_4.length co88) ∧ w'.cell? ⟨gb536,3,none⟩ = some (u537003)) (ds := []) (bm 7 0) (by kernel_rfl) rfl rfl ⟨cz0 BK536.out,cz1 BK536.out,cz2 BK536.out,cz3 BK536.out⟩ (fun hHeld => ?_)
                        generalize wc.drew = w161 at HO_8 HO_537000 HO_537001 HO_537002 HO_537003 BK536 BK537 HB hHeld ⊢
                        refine pure_ (i := 0) (N := some 139) (v := ?_) (a' := ?_) (bm 7 1) rfl rfl (by kernel_rfl) (fun _ _ _ h => h) (Or.inl ⟨by kernel_rfl,?_⟩) ?_ ?_
                        rotate_left
                        ·intro w'
                         go_simp
                         with_reducible rfl
                        rotate_left
                        ·exact pA
                        refine pure_ (i := 3) (N := some 142) (v := ?_) (a' := ?_) (bm 7 9) rfl rfl (by kernel_rfl) (fun _ _ _ h => h) (Or.inl ⟨by kernel_rfl,?_⟩) ?_ ?_
                        rotate_left
                        ·intro w'
                         go_simp
                         with_reducible rfl
                        rotate_left
                        ·exact pA
                        refine take_ (i := 1) (N := some 140) (v := ?_) (a' := ?_) (bm 7 11) rfl rfl (by kernel_rfl) (fun _ _ _ h => h) (Or.inl ⟨by kernel_rfl,?_⟩) hHeld ?_ ?_
                        rotate_left
                        ·rintro w' ⟨s0,s1,s2,s3⟩
                         go_simp
                         with_reducible rfl
                        rotate_left
                        ·exact pA
                        refine take_ (i := 4) (N := some 143) (v := ?_) (a' := ?_) (bm 7 27) rfl rfl (by kernel_rfl) (fun _ _ _ h => h) (Or.inl ⟨by kernel_rfl,?_⟩) hHeld ?_ ?_
                        rotate_left
                        ·rintro w' ⟨s0,s1,s2,s3⟩
                         go_simp
                         with_reducible rfl
                        rotate_left
                        ·exact pA
                        refine one_ (i := 2) (N := some 141) (bm 7 31) rfl rfl (by kernel_rfl) (by decide) (fun K hK => ?_)
                        refine goes_ Tryz.func28 (by kernel_rfl) rfl #[.slice Ao87 x537000_5.length co87,.int .i64 1] (by rfl) rfl rfl pM ?_
                        with_reducible refine (b_up.calls kj108 _ _ x537000_5 1 t589 _ ?side1 ?side2 A128.out).mono ?_
                        (case side1 => repeat (first | exact (Kd.zQg HO_537000.out).2.2 | (with_reducible refine Kd.zQj ?_ _) | (with_reducible refine Kd.zQi ?_ _) | (with_reducible refine Kd.zQv ?_)))
                        (case side2 => exact (Kd.zQg HO_537000.out).2.1)
                        rintro e w162 ⟨v590,rfl,ho0,hb⟩
                        refine ⟨_,rfl,?_⟩
                        have n0_ := am (Kd.zQH (pR HO_8.out) hb)
                        have n1_ := am (Kd.zQG (pV HO_537000.out) (Kd.zQs ho0) hb)
                        have n2_ := am (Kd.zQG (pV HO_537001.out) (Kd.zQs ho0) hb)
                        have n3_ := am (Kd.zQG (pV HO_537002.out) (Kd.zQs ho0) hb)
                        have n4_ := am (Kd.zQG (pV HO_537003.out) (Kd.zQs ho0) hb)
                        have n5_ := am (Kd.zQy ho0 (zQc pB))
                        have n6_ := am (pkb BK536.out hb)
                        have n7_ := am (pkb BK537.out hb)
                        have n8_ := am (zQf pB hb)
                        clear HO_8 HO_537000 HO_537001 HO_537002 HO_537003 BK536 BK537 HB;have HO_8 := n0_;have HO_537000 := n1_;have HO_537001 := n2_;have HO_537002 := n3_;have HO_537003 := n4_;have HO591 := n5_;have BK536 := n6_;have BK537 := n7_;have HB := n8_;clear n0_ n1_ n2_ n3_ n4_ n5_ n6_ n7_ n8_;(try clear hb);(try clear ho0)
                        obtain ⟨Ao163,co163,eo163⟩ := Kd.zQB HO591.out
                        (first | subst eo163 | (injection eo163 with f1_ f2_ f3_;have f4_ := f1_.symm;have f5_ := f3_.symm;clear f1_ f2_ f3_;subst f4_;subst f5_))
                        refine hK.out _ _ ⟨cz0 BK536.out,cz1 BK536.out,cz2 BK536.out,cz3 BK536.out⟩ (fun hHeld => ?_)
                        clear hK K
                        refine norm_ (a' := ?_) ?_ ?_
                        rotate_left
                        ·show Act.put _ (some 141) _ = _
                         exact pA
                        refine one_ (i := 5) (N := some 144) (bm 7 63) rfl rfl (by kernel_rfl) (by decide) (fun K hK => ?_)
                        refine goes_ Tryz.func45 (by kernel_rfl) rfl #[.slice Ao163 t589.length co163,.slice Ao58 x537001_2.length co58] (by rfl) rfl rfl pM ?_
                        with_reducible refine (b_cmp.calls kj108 _ _ t589 _ _ x537001_2 t592 _ ?side1 ?side2 ?side3 ?side4 A129.out).mono ?_
                        (case side1 => repeat (first | exact (Kd.zQh HO591.out).2.2 | (with_reducible refine Kd.zQj ?_ _) | (with_reducible refine Kd.zQi ?_ _) | (with_reducible refine Kd.zQv ?_)))
                        (case side2 => exact (Kd.zQh HO591.out).2.1)
                        (case side3 => repeat (first | exact (Kd.zQg HO_537001.out).2.2 | (with_reducible refine Kd.zQj ?_ _) | (with_reducible refine Kd.zQi ?_ _) | (with_reducible refine Kd.zQv ?_)))
                        (case side4 => exact (Kd.zQg HO_537001.out).2.1)
                        rintro e w' ⟨rfl,⟨nd,rfl⟩⟩
                        refine ⟨_,rfl,?_⟩
                        refine hK.out _ _ ⟨cz0 BK536.out,cz1 BK536.out,cz2 BK536.out,cz3 BK536.out⟩ (fun hHeld => ?_)
                        clear hK K
                        refine norm_ (a' := ?_) ?_ ?_
                        rotate_left
                        ·show Act.put _ (some 144) _ = _
                         exact pA
                        refine pure_ (i := 6) (N := some 13) (v := ?_) (a' := ?_) (bm 7 127) rfl rfl (by kernel_rfl) (fun _ _ _ h => h) (Or.inl ⟨by kernel_rfl,?_⟩) ?_ ?_
                        rotate_left
                        ·intro w'
                         go_simp
                         with_reducible rfl
                        rotate_left
                        ·exact pA
                        refine done_ (by kernel_rfl) ?_
                        try go_wp2_with (first | ((with_reducible refine zQD (b := .append) (xs := #[.tmp 165,.tmp 168]) rfl ?_);at_builtin;refine Kd.zQU (Kd.int .u8) (w0 := w) w.heap.size rfl (.tmp 165) (.tmp 168) 75 5 (.int .u8 0) 1 rfl Tryz.underlying75 info5 rfl (by decide) (by omega) u8 x8_4 ((48 + x9_5) % 256) [.int .u8 ((48 + x9_5) % 256)] (fun _ => True) (fun _ => False) rfl rfl ?aP (fun _ hk => hk.elim) ?aF ?aO ?aB ?aS ?aL ?_;(case aP => exact rfl);(case aB => exact pB);(case aF => exact (fun _ _ => trivial));(case aO => exact (pR HO_8.out));(case aS => exact (zQc pB));(case aL => have := LMc159.out;omega);intro v609 w164 ho hb hg hat;rw [← Ny608.out] at ho;replace HO_537000 := am (Kd.zQR (ok := (fun k_ => some k_ ≠ (.slice Ao163 t589.length co163 : Value).ownBlock ∧ k_ ≠ gb536 ∧ k_ ≠ gb537)) (by (with_reducible repeat (first | apply Kd.zQn | apply Kd.zQm | apply Kd.zQo));exact Kd.zQk HO_537000.out (fun _ hk => ⟨⟨hk.2,⟨hk.1.2.1,hk.1.2.2⟩⟩,hk.1.1⟩)) hg hat);replace HO_537001 := am (Kd.zQR (ok := (fun k_ => some k_ ≠ (.slice Ao163 t589.length co163 : Value).ownBlock ∧ k_ ≠ gb536 ∧ k_ ≠ gb537)) (by (with_reducible repeat (first | apply Kd.zQn | apply Kd.zQm | apply Kd.zQo));exact Kd.zQk HO_537001.out (fun _ hk => ⟨⟨hk.2,⟨hk.1.2.1,hk.1.2.2⟩⟩,hk.1.1⟩)) hg hat);replace HO_537002 := am (Kd.zQR (ok := (fun k_ => some k_ ≠ (.slice Ao163 t589.length co163 : Value).ownBlock ∧ k_ ≠ gb536 ∧ k_ ≠ gb537)) (by (with_reducible repeat (first | apply Kd.zQn | apply Kd.zQm | apply Kd.zQo));exact Kd.zQk HO_537002.out (fun _ hk => ⟨⟨hk.2,⟨hk.1.2.1,hk.1.2.2⟩⟩,hk.1.1⟩)) hg hat);replace HO_537003 := am (Kd.zQR (ok := (fun k_ => some k_ ≠ (.slice Ao163 t589.length co163 : Value).ownBlock ∧ k_ ≠ gb536 ∧ k_ ≠ gb537)) (by (with_reducible repeat (first | apply Kd.zQn | apply Kd.zQm | apply Kd.zQo));exact Kd.zQk HO_537003.out (fun _ hk => ⟨⟨hk.2,⟨hk.1.2.1,hk.1.2.2⟩⟩,hk.1.1⟩)) hg hat);replace BK536 := am (zXq (g := gb536) (o := .cells #[.slice Ao87 x537000_5.length co87,.slice Ao58 x537001_2.length co58,.slice Ao88 x537002_4.length co88,u537003] 70 (0,0)) (pK BK536.out) hg (pX HO_8.out BK536.out));replace BK537 := am (zXq (g := gb537) (o := .cells #[.bool ((Go.bits .and .u64 a0 1) == 0)] 4 (0,0)) (pK BK537.out) hg (pX HO_8.out BK537.out));replace HO591 := am (Kd.zZm (pR HO591.out) (Kd.zXX (pR HO_8.out)) (by decide) hg);replace HB := am (hb);have HO610 := am (ho);clear HO_8;clear ho hb hg hat;obtain ⟨Ao165,co165,eo165⟩ := Kd.zQB HO610.out;subst eo165) | ((with_reducible refine zQe (f := 47) rfl ?_);refine zQr (some 171) rfl rfl Tryz.func47 (by kernel_rfl) rfl #[.slice Ao165 y608.length co165,.int .i64 x7_3] rfl pM ?_;(with_reducible refine (dec_tidy.calls kj108 (fun k_ => some k_ = (.slice Ao165 y608.length co165 : Value).ownBlock) (.slice Ao165 y608.length co165) y608 x7_3 t611 t612 w _ ?side1 ?side2 A160.out).mono ?_);(case side1 => repeat (first | (with_reducible first | exact HB.out | apply zQT | apply zQN | apply zQM | refine zQS ?_ GE536.out | refine zQS ?_ GE537.out) | exact HB.out));(case side2 => exact Kd.zXQ rfl HO610.out);rintro e w166 ⟨rfl,hb,hkp⟩;refine ⟨_,rfl,?_⟩;replace HO_537000 := am (Kd.zQk (ok' := fun k_ => some k_ ≠ (.slice Ao163 t589.length co163 : Value).ownBlock ∧ k_ ≠ gb536 ∧ k_ ≠ gb537) (Kd.zXh (HO_537000.out) hkp (fun k_ hk_ hs_ => (hk_.2) hs_)) (fun k_ hk_ => ⟨hk_.1.1.1,hk_.1.1.2.1,hk_.1.1.2.2⟩));replace HO_537001 := am (Kd.zQk (ok' := fun k_ => some k_ ≠ (.slice Ao163 t589.length co163 : Value).ownBlock ∧ k_ ≠ gb536 ∧ k_ ≠ gb537) (Kd.zXh (HO_537001.out) hkp (fun k_ hk_ hs_ => (hk_.2) hs_)) (fun k_ hk_ => ⟨hk_.1.1.1,hk_.1.1.2.1,hk_.1.1.2.2⟩));replace HO_537002 := am (Kd.zQk (ok' := fun k_ => some k_ ≠ (.slice Ao163 t589.length co163 : Value).ownBlock ∧ k_ ≠ gb536 ∧ k_ ≠ gb537) (Kd.zXh (HO_537002.out) hkp (fun k_ hk_ hs_ => (hk_.2) hs_)) (fun k_ hk_ => ⟨hk_.1.1.1,hk_.1.1.2.1,hk_.1.1.2.2⟩));replace HO_537003 := am (Kd.zQk (ok' := fun k_ => some k_ ≠ (.slice Ao163 t589.length co163 : Value).ownBlock ∧ k_ ≠ gb536 ∧ k_ ≠ gb537) (Kd.zXh (HO_537003.out) hkp (fun k_ hk_ hs_ => (hk_.2) hs_)) (fun k_ hk_ => ⟨hk_.1.1.1,hk_.1.1.2.1,hk_.1.1.2.2⟩));replace BK536 := am (zXJ (pK BK536.out) hkp (fun hs_ => (fun e_ => (pX HO610.out BK536.out) e_) hs_));replace BK537 := am (zXJ (pK BK537.out) hkp (fun hs_ => (fun e_ => (pX HO610.out BK537.out) e_) hs_));replace HO591 := am (Kd.zQE (ok' := fun k_ => True) (Kd.zZn ((Kd.zYL HO591.out (Kd.zXX HO610.out) (by decide))) hkp (fun k_ hk_ hs_ => (hk_.2) hs_)) (fun k_ hk_ => trivial));replace HB := am (hb);clear HO610;(try clear hb);(try clear hkp)))
                        go_ret2
                        exact ⟨pE,pB⟩
                       ·rw [if_neg c159] at H
                        exact absurd H (by simp)
                    ·replace c131 := Bool.eq_false_iff.mpr c131
                     subst c131
                     rw [if_neg (show ¬ (false = true) by decide)] at H
                     by_cases c167 : x8_4.length < 140737488355328
                     ·rw [if_pos c167] at H
                      have LMc167 := am c167
                      clear c167
                      obtain ⟨y613,hy613⟩ : ∃ y_ : List Int,y_ = (x8_4 ++ [(48 + ((x9_5 + 1) % 256)) % 256]) := ⟨_,rfl⟩
                      replace H : ((dec_tidy.f kj108 y613 x7_3).bind fun bt616 => (some (bt616.1,bt616.2))) = some (r1,r2) := by first | (rw [hy613];with_reducible exact H) | (have H2_ := (Option.bind_some _ _).symm.trans H;rw [hy613];with_reducible exact H2_) | (have H2_ := (Option.bind_some _ _).symm.trans H;with_reducible exact H2_) | with_reducible exact H | (rw [hy613];exact H) | exact H
                      have Ny613 := am hy613
                      clear hy613
                      replace H := Option.bind_eq_some_iff.mp H
                      obtain ⟨⟨t616,t617⟩,A1680,H⟩ := H
                      try dsimp only at H
                      have A168 := am A1680
                      clear A1680
                      simp only [Option.some.injEq,Prod.mk.injEq] at H
                      obtain ⟨rfl,rfl⟩ := H
                      try go_wp2
                      replace HO_8 := am (Kd.zQx HO_8.out)
                      replace HO_537000 := am (Kd.zQo HO_537000.out)
                      replace HO_537001 := am (Kd.zQo HO_537001.out)
                      replace HO_537002 := am (Kd.zQo HO_537002.out)
                      replace HO_537003 := am (Kd.zQo HO_537003.out)
                      replace BK536 := am (zQd BK536.out)
                      replace BK537 := am (zQd BK537.out)
                      replace HB := am (zQM HB.out)
                      refine zXW (n := 7) (S := fun w' => w'.cell? ⟨gb536,0,none⟩ = some (.slice Ao87 x537000_5.length co87) ∧ w'.cell? ⟨gb536,1,none⟩ = some (.slice Ao58 x537001_2.length co58) ∧ w'.cell? ⟨gb536,2,none⟩ = some (.slice Ao88 x537002_4.length co88) ∧ w'.cell? ⟨gb536,3,none⟩ = some (u537003)) (ds := []) (bm 7 0) (by kernel_rfl) rfl rfl ⟨cz0 BK536.out,cz1 BK536.out,cz2 BK536.out,cz3 BK536.out⟩ (fun hHeld => ?_)
                      generalize wc.drew = w169 at HO_8 HO_537000 HO_537001 HO_537002 HO_537003 BK536 BK537 HB hHeld ⊢
                      refine pure_ (i := 0) (N := some 139) (v := ?_) (a' := ?_) (bm 7 1) rfl rfl (by kernel_rfl) (fun _ _ _ h => h) (Or.inl ⟨by kernel_rfl,?_⟩) ?_ ?_
                      rotate_left
                      ·intro w'
                       go_simp
                       with_reducible rfl
                      rotate_left
                      ·exact pA
                      refine pure_ (i := 3) (N := some 142) (v := ?_) (a' := ?_) (bm 7 9) rfl rfl (by kernel_rfl) (fun _ _ _ h => h) (Or.inl ⟨by kernel_rfl,?_⟩) ?_ ?_
                      rotate_left
                      ·intro w'
                       go_simp
                       with_reducible rfl
                      rotate_left
                      ·exact pA
                      refine take_ (i := 1) (N := some 140) (v := ?_) (a' := ?_) (bm 7 11) rfl rfl (by kernel_rfl) (fun _ _ _ h => h) (Or.inl ⟨by kernel_rfl,?_⟩) hHeld ?_ ?_
                      rotate_left
                      ·rintro w' ⟨s0,s1,s2,s3⟩
                       go_simp
                       with_reducible rfl
                      rotate_left
                      ·exact pA
                      refine take_ (i := 4) (N := some 143) (v := ?_) (a' := ?_) (bm 7 27) rfl rfl (by kernel_rfl) (fun _ _ _ h => h) (Or.inl ⟨by kernel_rfl,?_⟩) hHeld ?_ ?_
                      rotate_left
                      ·rintro w' ⟨s0,s1,s2,s3⟩
                       go_simp
                       with_reducible rfl
                      rotate_left
                      ·exact pA
                      refine one_ (i := 2) (N := some 141) (bm 7 31) rfl rfl (by kernel_rfl) (by decide) (fun K hK => ?_)
                      refine goes_ Tryz.func28 (by kernel_rfl) rfl #[.slice Ao87 x537000_5.length co87,.int .i64 1] (by rfl) rfl rfl pM ?_
                      with_reducible refine (b_up.calls kj108 _ _ x537000_5 1 t589 _ ?side1 ?side2 A128.out).mono ?_
                      (case side1 => repeat (first | exact (Kd.zQg HO_537000.out).2.2 | (with_reducible refine Kd.zQj ?_ _) | (with_reducible refine Kd.zQi ?_ _) | (with_reducible refine Kd.zQv ?_)))
                      (case side2 => exact (Kd.zQg HO_537000.out).2.1)
                      rintro e w170 ⟨v590,rfl,ho0,hb⟩
                      refine ⟨_,rfl,?_⟩
                      have n0_ := am (Kd.zQH (pR HO_8.out) hb)
                      have n1_ := am (Kd.zQG (pV HO_537000.out) (Kd.zQs ho0) hb)
                      have n2_ := am (Kd.zQG (pV HO_537001.out) (Kd.zQs ho0) hb)
                      have n3_ := am (Kd.zQG (pV HO_537002.out) (Kd.zQs ho0) hb)
                      have n4_ := am (Kd.zQG (pV HO_537003.out) (Kd.zQs ho0) hb)
                      have n5_ := am (Kd.zQy ho0 (zQc pB))
                      have n6_ := am (pkb BK536.out hb)
                      have n7_ := am (pkb BK537.out hb)
                      have n8_ := am (zQf pB hb)
                      clear HO_8 HO_537000 HO_537001 HO_537002 HO_537003 BK536 BK537 HB;have HO_8 := n0_;have HO_537000 := n1_;have HO_537001 := n2_;have HO_537002 := n3_;have HO_537003 := n4_;have HO591 := n5_;have BK536 := n6_;have BK537 := n7_;have HB := n8_;clear n0_ n1_ n2_ n3_ n4_ n5_ n6_ n7_ n8_;(try clear hb);(try clear ho0)
                      obtain ⟨Ao171,co171,eo171⟩ := Kd.zQB HO591.out
                      (first | subst eo171 | (injection eo171 with f1_ f2_ f3_;have f4_ := f1_.symm;have f5_ := f3_.symm;clear f1_ f2_ f3_;subst f4_;subst f5_))
                      refine hK.out _ _ ⟨cz0 BK536.out,cz1 BK536.out,cz2 BK536.out,cz3 BK536.out⟩ (fun hHeld => ?_)
                      clear hK K
                      refine norm_ (a' := ?_) ?_ ?_
                      rotate_left
                      ·show Act.put _ (some 141) _ = _
                       exact pA
                      refine one_ (i := 5) (N := some 144) (bm 7 63) rfl rfl (by kernel_rfl) (by decide) (fun K hK => ?_)
                      refine goes_ Tryz.func45 (by kernel_rfl) rfl #[.slice Ao171 t589.length co171,.slice Ao58 x537001_2.length co58] (by rfl) rfl rfl pM ?_
                      with_reducible refine (b_cmp.calls kj108 _ _ t589 _ _ x537001_2 t592 _ ?side1 ?side2 ?side3 ?side4 A129.out).mono ?_
                      (case side1 => repeat (first | exact (Kd.zQh HO591.out).2.2 | (with_reducible refine Kd.zQj ?_ _) | (with_reducible refine Kd.zQi ?_ _) | (with_reducible refine Kd.zQv ?_)))
                      (case side2 => exact (Kd.zQh HO591.out).2.1)
                      (case side3 => repeat (first | exact (Kd.zQg HO_537001.out).2.2 | (with_reducible refine Kd.zQj ?_ _) | (with_reducible refine Kd.zQi ?_ _) | (with_reducible refine Kd.zQv ?_)))
                      (case side4 => exact (Kd.zQg HO_537001.out).2.1)
                      rintro e w' ⟨rfl,⟨nd,rfl⟩⟩
                      refine ⟨_,rfl,?_⟩
                      refine hK.out _ _ ⟨cz0 BK536.out,cz1 BK536.out,cz2 BK536.out,cz3 BK536.out⟩ (fun hHeld => ?_)
                      clear hK K
                      refine norm_ (a' := ?_) ?_ ?_
                      rotate_left
                      ·show Act.put _ (some 144) _ = _
                       exact pA
                      refine pure_ (i := 6) (N := some 13) (v := ?_) (a' := ?_) (bm 7 127) rfl rfl (by kernel_rfl) (fun _ _ _ h => h) (Or.inl ⟨by kernel_rfl,?_⟩) ?_ ?_
                      rotate_left
                      ·intro w'
                       go_simp
                       with_reducible rfl
                      rotate_left
                      ·exact pA
                      refine done_ (by kernel_rfl) ?_
                      obtain ⟨jn_,hjn_⟩ : ∃ z_ : Int,(x9_5 + 1) % 256 = z_ := ⟨_,rfl⟩
                      have nyb_ := Ny613.out
                      rw [hjn_] at nyb_
                      clear Ny613
                      have Ny613 := am nyb_
                      clear nyb_
                      try go_wp2_with (first | ((with_reducible refine zQD (b := .append) (xs := #[.tmp 165,.tmp 168]) rfl ?_);at_builtin;refine Kd.zQU (Kd.int .u8) (w0 := w) w.heap.size rfl (.tmp 165) (.tmp 168) 75 5 (.int .u8 0) 1 rfl Tryz.underlying75 info5 rfl (by decide) (by omega) u8 x8_4 ((48 + jn_) % 256) [.int .u8 ((48 + jn_) % 256)] (fun _ => True) (fun _ => False) rfl rfl ?aP (fun _ hk => hk.elim) ?aF ?aO ?aB ?aS ?aL ?_;(case aP => exact rfl);(case aB => exact pB);(case aF => exact (fun _ _ => trivial));(case aO => exact (pR HO_8.out));(case aS => exact (zQc pB));(case aL => have := LMc167.out;omega);intro v614 w172 ho hb hg hat;rw [← Ny613.out] at ho;replace HO_537000 := am (Kd.zQR (ok := (fun k_ => some k_ ≠ (.slice Ao171 t589.length co171 : Value).ownBlock ∧ k_ ≠ gb536 ∧ k_ ≠ gb537)) (by (with_reducible repeat (first | apply Kd.zQn | apply Kd.zQm | apply Kd.zQo));exact Kd.zQk HO_537000.out (fun _ hk => ⟨⟨hk.2,⟨hk.1.2.1,hk.1.2.2⟩⟩,hk.1.1⟩)) hg hat);replace HO_537001 := am (Kd.zQR (ok := (fun k_ => some k_ ≠ (.slice Ao171 t589.length co171 : Value).ownBlock ∧ k_ ≠ gb536 ∧ k_ ≠ gb537)) (by (with_reducible repeat (first | apply Kd.zQn | apply Kd.zQm | apply Kd.zQo));exact Kd.zQk HO_537001.out (fun _ hk => ⟨⟨hk.2,⟨hk.1.2.1,hk.1.2.2⟩⟩,hk.1.1⟩)) hg hat);replace HO_537002 := am (Kd.zQR (ok := (fun k_ => some k_ ≠ (.slice Ao171 t589.length co171 : Value).ownBlock ∧ k_ ≠ gb536 ∧ k_ ≠ gb537)) (by (with_reducible repeat (first | apply Kd.zQn | apply Kd.zQm | apply Kd.zQo));exact Kd.zQk HO_537002.out (fun _ hk => ⟨⟨hk.2,⟨hk.1.2.1,hk.1.2.2⟩⟩,hk.1.1⟩)) hg hat);replace HO_537003 := am (Kd.zQR (ok := (fun k_ => some k_ ≠ (.slice Ao171 t589.length co171 : Value).ownBlock ∧ k_ ≠ gb536 ∧ k_ ≠ gb537)) (by (with_reducible repeat (first | apply Kd.zQn | apply Kd.zQm | apply Kd.zQo));exact Kd.zQk HO_537003.out (fun _ hk => ⟨⟨hk.2,⟨hk.1.2.1,hk.1.2.2⟩⟩,hk.1.1⟩)) hg hat);replace BK536 := am (zXq (g := gb536) (o := .cells #[.slice Ao87 x537000_5.length co87,.slice Ao58 x537001_2.length co58,.slice Ao88 x537002_4.length co88,u537003] 70 (0,0)) (pK BK536.out) hg (pX HO_8.out BK536.out));replace BK537 := am (zXq (g := gb537) (o := .cells #[.bool ((Go.bits .and .u64 a0 1) == 0)] 4 (0,0)) (pK BK537.out) hg (pX HO_8.out BK537.out));replace HO591 := am (Kd.zZm (pR HO591.out) (Kd.zXX (pR HO_8.out)) (by decide) hg);replace HB := am (hb);have HO615 := am (ho);clear HO_8;clear ho hb hg hat;obtain ⟨Ao173,co173,eo173⟩ := Kd.zQB HO615.out;subst eo173) | ((with_reducible refine zQe (f := 47) rfl ?_);refine zQr (some 171) rfl rfl Tryz.func47 (by kernel_rfl) rfl #[.slice Ao173 y613.length co173,.int .i64 x7_3] rfl pM ?_;(with_reducible refine (dec_tidy.calls kj108 (fun k_ => some k_ = (.slice Ao173 y613.length co173 : Value).ownBlock) (.slice Ao173 y613.length co173) y613 x7_3 t616 t617 w _ ?side1 ?side2 A168.out).mono ?_);(case side1 => repeat (first | (with_reducible first | exact HB.out | apply zQT | apply zQN | apply zQM | refine zQS ?_ GE536.out | refine zQS ?_ GE537.out) | exact HB.out));(case side2 => exact Kd.zXQ rfl HO615.out);rintro e w174 ⟨rfl,hb,hkp⟩;refine ⟨_,rfl,?_⟩;replace HO_537000 := am (Kd.zQk (ok' := fun k_ => some k_ ≠ (.slice Ao171 t589.length co171 : Value).ownBlock ∧ k_ ≠ gb536 ∧ k_ ≠ gb537) (Kd.zXh (HO_537000.out) hkp (fun k_ hk_ hs_ => (hk_.2) hs_)) (fun k_ hk_ => ⟨hk_.1.1.1,hk_.1.1.2.1,hk_.1.1.2.2⟩));replace HO_537001 := am (Kd.zQk (ok' := fun k_ => some k_ ≠ (.slice Ao171 t589.length co171 : Value).ownBlock ∧ k_ ≠ gb536 ∧ k_ ≠ gb537) (Kd.zXh (HO_537001.out) hkp (fun k_ hk_ hs_ => (hk_.2) hs_)) (fun k_ hk_ => ⟨hk_.1.1.1,hk_.1.1.2.1,hk_.1.1.2.2⟩));replace HO_537002 := am (Kd.zQk (ok' := fun k_ => some k_ ≠ (.slice Ao171 t589.length co171 : Value).ownBlock ∧ k_ ≠ gb536 ∧ k_ ≠ gb537) (Kd.zXh (HO_537002.out) hkp (fun k_ hk_ hs_ => (hk_.2) hs_)) (fun k_ hk_ => ⟨hk_.1.1.1,hk_.1.1.2.1,hk_.1.1.2.2⟩));replace HO_537003 := am (Kd.zQk (ok' := fun k_ => some k_ ≠ (.slice Ao171 t589.length co171 : Value).ownBlock ∧ k_ ≠ gb536 ∧ k_ ≠ gb537) (Kd.zXh (HO_537003.out) hkp (fun k_ hk_ hs_ => (hk_.2) hs_)) (fun k_ hk_ => ⟨hk_.1.1.1,hk_.1.1.2.1,hk_.1.1.2.2⟩));replace BK536 := am (zXJ (pK BK536.out) hkp (fun hs_ => (fun e_ => (pX HO615.out BK536.out) e_) hs_));replace BK537 := am (zXJ (pK BK537.out) hkp (fun hs_ => (fun e_ => (pX HO615.out BK537.out) e_) hs_));replace HO591 := am (Kd.zQE (ok' := fun k_ => True) (Kd.zZn ((Kd.zYL HO591.out (Kd.zXX HO615.out) (by decide))) hkp (fun k_ hk_ hs_ => (hk_.2) hs_)) (fun k_ hk_ => trivial));replace HB := am (hb);clear HO615;(try clear hb);(try clear hkp)))
                      go_ret2
                      exact ⟨pE,pB⟩
                     ·rw [if_neg c167] at H
                      exact absurd H (by simp)
                   ·replace c130 := Bool.eq_false_iff.mpr c130
                    subst c130
                    rw [if_neg (show ¬ (false = true) by decide)] at H
                    by_cases c175 : x8_4.length < 140737488355328
                    ·rw [if_pos c175] at H
                     have LMc175 := am c175
                     clear c175
                     obtain ⟨y618,hy618⟩ : ∃ y_ : List Int,y_ = (x8_4 ++ [(48 + x9_5) % 256]) := ⟨_,rfl⟩
                     replace H : ((dec_tidy.f kj108 y618 x7_3).bind fun bt621 => (some (bt621.1,bt621.2))) = some (r1,r2) := by first | (rw [hy618];with_reducible exact H) | (have H2_ := (Option.bind_some _ _).symm.trans H;rw [hy618];with_reducible exact H2_) | (have H2_ := (Option.bind_some _ _).symm.trans H;with_reducible exact H2_) | with_reducible exact H | (rw [hy618];exact H) | exact H
                     have Ny618 := am hy618
                     clear hy618
                     replace H := Option.bind_eq_some_iff.mp H
                     obtain ⟨⟨t621,t622⟩,A1760,H⟩ := H
                     try dsimp only at H
                     have A176 := am A1760
                     clear A1760
                     simp only [Option.some.injEq,Prod.mk.injEq] at H
                     obtain ⟨rfl,rfl⟩ := H
                     try go_wp2
                     replace HO_8 := am (Kd.zQx HO_8.out)
                     replace HO_537000 := am (Kd.zQo HO_537000.out)
                     replace HO_537001 := am (Kd.zQo HO_537001.out)
                     replace HO_537002 := am (Kd.zQo HO_537002.out)
                     replace HO_537003 := am (Kd.zQo HO_537003.out)
                     replace BK536 := am (zQd BK536.out)
                     replace BK537 := am (zQd BK537.out)
                     replace HB := am (zQM HB.out)
                     refine zXW (n := 7) (S := fun w' => w'.cell? ⟨gb536,0,none⟩ = some (.slice Ao87 x537000_5.length co87) ∧ w'.cell? ⟨gb536,1,none⟩ = some (.slice Ao58 x537001_2.length co58) ∧ w'.cell? ⟨gb536,2,none⟩ = some (.slice Ao88 x537002_4.length co88) ∧ w'.cell? ⟨gb536,3,none⟩ = some (u537003)) (ds := []) (bm 7 0) (by kernel_rfl) rfl rfl ⟨cz0 BK536.out,cz1 BK536.out,cz2 BK536.out,cz3 BK536.out⟩ (fun hHeld => ?_)
                     generalize wc.drew = w177 at HO_8 HO_537000 HO_537001 HO_537002 HO_537003 BK536 BK537 HB hHeld ⊢
                     refine pure_ (i := 0) (N := some 139) (v := ?_) (a' := ?_) (bm 7 1) rfl rfl (by kernel_rfl) (fun _ _ _ h => h) (Or.inl ⟨by kernel_rfl,?_⟩) ?_ ?_
                     rotate_left
                     ·intro w'
                      go_simp
                      with_reducible rfl
                     rotate_left
                     ·exact pA
                     refine pure_ (i := 3) (N := some 142) (v := ?_) (a' := ?_) (bm 7 9) rfl rfl (by kernel_rfl) (fun _ _ _ h => h) (Or.inl ⟨by kernel_rfl,?_⟩) ?_ ?_
                     rotate_left
                     ·intro w'
                      go_simp
                      with_reducible rfl
                     rotate_left
                     ·exact pA
                     refine take_ (i := 1) (N := some 140) (v := ?_) (a' := ?_) (bm 7 11) rfl rfl (by kernel_rfl) (fun _ _ _ h => h) (Or.inl ⟨by kernel_rfl,?_⟩) hHeld ?_ ?_
                     rotate_left
                     ·rintro w' ⟨s0,s1,s2,s3⟩
                      go_simp
                      with_reducible rfl
                     rotate_left
                     ·exact pA
                     refine take_ (i := 4) (N := some 143) (v := ?_) (a' := ?_) (bm 7 27) rfl rfl (by kernel_rfl) (fun _ _ _ h => h) (Or.inl ⟨by kernel_rfl,?_⟩) hHeld ?_ ?_
                     rotate_left
                     ·rintro w' ⟨s0,s1,s2,s3⟩
                      go_simp
                      with_reducible rfl
                     rotate_left
                     ·exact pA
                     refine one_ (i := 2) (N := some 141) (bm 7 31) rfl rfl (by kernel_rfl) (by decide) (fun K hK => ?_)
                     refine goes_ Tryz.func28 (by kernel_rfl) rfl #[.slice Ao87 x537000_5.length co87,.int .i64 1] (by rfl) rfl rfl pM ?_
                     with_reducible refine (b_up.calls kj108 _ _ x537000_5 1 t589 _ ?side1 ?side2 A128.out).mono ?_
                     (case side1 => repeat (first | exact (Kd.zQg HO_537000.out).2.2 | (with_reducible refine Kd.zQj ?_ _) | (with_reducible refine Kd.zQi ?_ _) | (with_reducible refine Kd.zQv ?_)))
                     (case side2 => exact (Kd.zQg HO_537000.out).2.1)
                     rintro e w178 ⟨v590,rfl,ho0,hb⟩
                     refine ⟨_,rfl,?_⟩
                     have n0_ := am (Kd.zQH (pR HO_8.out) hb)
                     have n1_ := am (Kd.zQG (pV HO_537000.out) (Kd.zQs ho0) hb)
                     have n2_ := am (Kd.zQG (pV HO_537001.out) (Kd.zQs ho0) hb)
                     have n3_ := am (Kd.zQG (pV HO_537002.out) (Kd.zQs ho0) hb)
                     have n4_ := am (Kd.zQG (pV HO_537003.out) (Kd.zQs ho0) hb)
                     have n5_ := am (Kd.zQy ho0 (zQc pB))
                     have n6_ := am (pkb BK536.out hb)
                     have n7_ := am (pkb BK537.out hb)
                     have n8_ := am (zQf pB hb)
                     clear HO_8 HO_537000 HO_537001 HO_537002 HO_537003 BK536 BK537 HB;have HO_8 := n0_;have HO_537000 := n1_;have HO_537001 := n2_;have HO_537002 := n3_;have HO_537003 := n4_;have HO591 := n5_;have BK536 := n6_;have BK537 := n7_;have HB := n8_;clear n0_ n1_ n2_ n3_ n4_ n5_ n6_ n7_ n8_;(try clear hb);(try clear ho0)
                     obtain ⟨Ao179,co179,eo179⟩ := Kd.zQB HO591.out
                     (first | subst eo179 | (injection eo179 with f1_ f2_ f3_;have f4_ := f1_.symm;have f5_ := f3_.symm;clear f1_ f2_ f3_;subst f4_;subst f5_))
                     refine hK.out _ _ ⟨cz0 BK536.out,cz1 BK536.out,cz2 BK536.out,cz3 BK536.out⟩ (fun hHeld => ?_)
                     clear hK K
                     refine norm_ (a' := ?_) ?_ ?_
                     rotate_left
                     ·show Act.put _ (some 141) _ = _
                      exact pA
                     refine one_ (i := 5) (N := some 144) (bm 7 63) rfl rfl (by kernel_rfl) (by decide) (fun K hK => ?_)
                     refine goes_ Tryz.func45 (by kernel_rfl) rfl #[.slice Ao179 t589.length co179,.slice Ao58 x537001_2.length co58] (by rfl) rfl rfl pM ?_
                     with_reducible refine (b_cmp.calls kj108 _ _ t589 _ _ x537001_2 t592 _ ?side1 ?side2 ?side3 ?side4 A129.out).mono ?_
                     (case side1 => repeat (first | exact (Kd.zQh HO591.out).2.2 | (with_reducible refine Kd.zQj ?_ _) | (with_reducible refine Kd.zQi ?_ _) | (with_reducible refine Kd.zQv ?_)))
                     (case side2 => exact (Kd.zQh HO591.out).2.1)
                     (case side3 => repeat (first | exact (Kd.zQg HO_537001.out).2.2 | (with_reducible refine Kd.zQj ?_ _) | (with_reducible refine Kd.zQi ?_ _) | (with_reducible refine Kd.zQv ?_)))
                     (case side4 => exact (Kd.zQg HO_537001.out).2.1)
                     rintro e w' ⟨rfl,⟨nd,rfl⟩⟩
                     refine ⟨_,rfl,?_⟩
                     refine hK.out _ _ ⟨cz0 BK536.out,cz1 BK536.out,cz2 BK536.out,cz3 BK536.out⟩ (fun hHeld => ?_)
                     clear hK K
                     refine norm_ (a' := ?_) ?_ ?_
                     rotate_left
                     ·show Act.put _ (some 144) _ = _
                      exact pA
                     refine pure_ (i := 6) (N := some 13) (v := ?_) (a' := ?_) (bm 7 127) rfl rfl (by kernel_rfl) (fun _ _ _ h => h) (Or.inl ⟨by kernel_rfl,?_⟩) ?_ ?_
                     rotate_left
                     ·intro w'
                      go_simp
                      with_reducible rfl
                     rotate_left
                     ·exact pA
                     refine done_ (by kernel_rfl) ?_
                     try go_wp2_with (first | ((with_reducible refine zQD (b := .append) (xs := #[.tmp 165,.tmp 168]) rfl ?_);at_builtin;refine Kd.zQU (Kd.int .u8) (w0 := w) w.heap.size rfl (.tmp 165) (.tmp 168) 75 5 (.int .u8 0) 1 rfl Tryz.underlying75 info5 rfl (by decide) (by omega) u8 x8_4 ((48 + x9_5) % 256) [.int .u8 ((48 + x9_5) % 256)] (fun _ => True) (fun _ => False) rfl rfl ?aP (fun _ hk => hk.elim) ?aF ?aO ?aB ?aS ?aL ?_;(case aP => exact rfl);(case aB => exact pB);(case aF => exact (fun _ _ => trivial));(case aO => exact (pR HO_8.out));(case aS => exact (zQc pB));(case aL => have := LMc175.out;omega);intro v619 w180 ho hb hg hat;rw [← Ny618.out] at ho;replace HO_537000 := am (Kd.zQR (ok := (fun k_ => some k_ ≠ (.slice Ao179 t589.length co179 : Value).ownBlock ∧ k_ ≠ gb536 ∧ k_ ≠ gb537)) (by (with_reducible repeat (first | apply Kd.zQn | apply Kd.zQm | apply Kd.zQo));exact Kd.zQk HO_537000.out (fun _ hk => ⟨⟨hk.2,⟨hk.1.2.1,hk.1.2.2⟩⟩,hk.1.1⟩)) hg hat);replace HO_537001 := am (Kd.zQR (ok := (fun k_ => some k_ ≠ (.slice Ao179 t589.length co179 : Value).ownBlock ∧ k_ ≠ gb536 ∧ k_ ≠ gb537)) (by (with_reducible repeat (first | apply Kd.zQn | apply Kd.zQm | apply Kd.zQo));exact Kd.zQk HO_537001.out (fun _ hk => ⟨⟨hk.2,⟨hk.1.2.1,hk.1.2.2⟩⟩,hk.1.1⟩)) hg hat);replace HO_537002 := am (Kd.zQR (ok := (fun k_ => some k_ ≠ (.slice Ao179 t589.length co179 : Value).ownBlock ∧ k_ ≠ gb536 ∧ k_ ≠ gb537)) (by (with_reducible repeat (first | apply Kd.zQn | apply Kd.zQm | apply Kd.zQo));exact Kd.zQk HO_537002.out (fun _ hk => ⟨⟨hk.2,⟨hk.1.2.1,hk.1.2.2⟩⟩,hk.1.1⟩)) hg hat);replace HO_537003 := am (Kd.zQR (ok := (fun k_ => some k_ ≠ (.slice Ao179 t589.length co179 : Value).ownBlock ∧ k_ ≠ gb536 ∧ k_ ≠ gb537)) (by (with_reducible repeat (first | apply Kd.zQn | apply Kd.zQm | apply Kd.zQo));exact Kd.zQk HO_537003.out (fun _ hk => ⟨⟨hk.2,⟨hk.1.2.1,hk.1.2.2⟩⟩,hk.1.1⟩)) hg hat);replace BK536 := am (zXq (g := gb536) (o := .cells #[.slice Ao87 x537000_5.length co87,.slice Ao58 x537001_2.length co58,.slice Ao88 x537002_4.length co88,u537003] 70 (0,0)) (pK BK536.out) hg (pX HO_8.out BK536.out));replace BK537 := am (zXq (g := gb537) (o := .cells #[.bool ((Go.bits .and .u64 a0 1) == 0)] 4 (0,0)) (pK BK537.out) hg (pX HO_8.out BK537.out));replace HO591 := am (Kd.zZm (pR HO591.out) (Kd.zXX (pR HO_8.out)) (by decide) hg);replace HB := am (hb);have HO620 := am (ho);clear HO_8;clear ho hb hg hat;obtain ⟨Ao181,co181,eo181⟩ := Kd.zQB HO620.out;subst eo181) | ((with_reducible refine zQe (f := 47) rfl ?_);refine zQr (some 171) rfl rfl Tryz.func47 (by kernel_rfl) rfl #[.slice Ao181 y618.length co181,.int .i64 x7_3] rfl pM ?_;(with_reducible refine (dec_tidy.calls kj108 (fun k_ => some k_ = (.slice Ao181 y618.length co181 : Value).ownBlock) (.slice Ao181 y618.length co181) y618 x7_3 t621 t622 w _ ?side1 ?side2 A176.out).mono ?_);(case side1 => repeat (first | (with_reducible first | exact HB.out | apply zQT | apply zQN | apply zQM | refine zQS ?_ GE536.out | refine zQS ?_ GE537.out) | exact HB.out));(case side2 => exact Kd.zXQ rfl HO620.out);rintro e w182 ⟨rfl,hb,hkp⟩;refine ⟨_,rfl,?_⟩;replace HO_537000 := am (Kd.zQk (ok' := fun k_ => some k_ ≠ (.slice Ao179 t589.length co179 : Value).ownBlock ∧ k_ ≠ gb536 ∧ k_ ≠ gb537) (Kd.zXh (HO_537000.out) hkp (fun k_ hk_ hs_ => (hk_.2) hs_)) (fun k_ hk_ => ⟨hk_.1.1.1,hk_.1.1.2.1,hk_.1.1.2.2⟩));replace HO_537001 := am (Kd.zQk (ok' := fun k_ => some k_ ≠ (.slice Ao179 t589.length co179 : Value).ownBlock ∧ k_ ≠ gb536 ∧ k_ ≠ gb537) (Kd.zXh (HO_537001.out) hkp (fun k_ hk_ hs_ => (hk_.2) hs_)) (fun k_ hk_ => ⟨hk_.1.1.1,hk_.1.1.2.1,hk_.1.1.2.2⟩));replace HO_537002 := am (Kd.zQk (ok' := fun k_ => some k_ ≠ (.slice Ao179 t589.length co179 : Value).ownBlock ∧ k_ ≠ gb536 ∧ k_ ≠ gb537) (Kd.zXh (HO_537002.out) hkp (fun k_ hk_ hs_ => (hk_.2) hs_)) (fun k_ hk_ => ⟨hk_.1.1.1,hk_.1.1.2.1,hk_.1.1.2.2⟩));replace HO_537003 := am (Kd.zQk (ok' := fun k_ => some k_ ≠ (.slice Ao179 t589.length co179 : Value).ownBlock ∧ k_ ≠ gb536 ∧ k_ ≠ gb537) (Kd.zXh (HO_537003.out) hkp (fun k_ hk_ hs_ => (hk_.2) hs_)) (fun k_ hk_ => ⟨hk_.1.1.1,hk_.1.1.2.1,hk_.1.1.2.2⟩));replace BK536 := am (zXJ (pK BK536.out) hkp (fun hs_ => (fun e_ => (pX HO620.out BK536.out) e_) hs_));replace BK537 := am (zXJ (pK BK537.out) hkp (fun hs_ => (fun e_ => (pX HO620.out BK537.out) e_) hs_));replace HO591 := am (Kd.zQE (ok' := fun k_ => True) (Kd.zZn ((Kd.zYL HO591.out (Kd.zXX HO620.out) (by decide))) hkp (fun k_ hk_ hs_ => (hk_.2) hs_)) (fun k_ hk_ => trivial));replace HB := am (hb);clear HO620;(try clear hb);(try clear hkp)))
                     go_ret2
                     exact ⟨pE,pB⟩
                    ·rw [if_neg c175] at H
                     exact absurd H (by simp)
        ·replace c67 := Bool.eq_false_iff.mpr c67
         subst c67
         rw [if_neg (show ¬ (false = true) by decide)] at H
         replace H := Option.bind_eq_some_iff.mp H
         obtain ⟨t560,A1830,H⟩ := H
         try dsimp only at H
         have A183 := am A1830
         clear A1830
         replace H := Option.bind_eq_some_iff.mp H
         obtain ⟨t563,A1840,H⟩ := H
         try dsimp only at H
         have A184 := am A1840
         clear A1840
         replace H := Option.bind_eq_some_iff.mp H
         obtain ⟨t566,A1850,H⟩ := H
         try dsimp only at H
         have A185 := am A1850
         clear A1850
         have H' := am H
         clear H
         have hnb186 := NB536_537.out
         have hnc186 := NB537_536.out
         have q187 := cf4 BK536.out
         have q188 := cf1 BK537.out
         obtain ⟨Ao189,co189,eo189⟩ := Kd.zQF HO_537000.out
         subst eo189
         obtain ⟨Ao190,co190,eo190⟩ := Kd.zQF HO_537003.out
         subst eo190
         try go_wp2_with (first | (go_at_call 43;(with_reducible refine (dec_high.calls k3 _ _ x537001_2 Ao189 co189 x537000_3 Ao190 co190 x537003_3 ((Go.bits .and .u64 a0 1) == 0) false _ ?side1 ?side2 ?side3 ?side4 ?side5 ?side6 A66.out gb536 gb537 ?side7 ?side8 ?side9).mono ?_);(case side7 => first | exact cz0 BK536.out | exact (zQP (pK BK536.out) 0).trans rfl);(case side8 => first | exact cz3 BK536.out | exact (zQP (pK BK536.out) 3).trans rfl);(case side9 => first | exact cz0 BK537.out | exact (zQP (pK BK537.out) 0).trans rfl);(case side1 => repeat (first | exact (Kd.zQg HO_537001.out).2.2 | (with_reducible refine Kd.zQj ?_ _) | (with_reducible refine Kd.zQi ?_ _) | (with_reducible refine Kd.zQv ?_)));(case side2 => exact (Kd.zQg HO_537001.out).2.1);(case side3 => repeat (first | exact (Kd.zQg HO_537000.out).2.2 | (with_reducible refine Kd.zQj ?_ _) | (with_reducible refine Kd.zQi ?_ _) | (with_reducible refine Kd.zQv ?_)));(case side4 => exact (Kd.zQg HO_537000.out).2.1);(case side5 => repeat (first | exact (Kd.zQg HO_537003.out).2.2 | (with_reducible refine Kd.zQj ?_ _) | (with_reducible refine Kd.zQi ?_ _) | (with_reducible refine Kd.zQv ?_)));(case side6 => exact (Kd.zQg HO_537003.out).2.1);rintro e w191 ⟨rfl,hb⟩;replace HO_537000 := am (Kd.zQl (pV HO_537000.out) hb);replace HO_537001 := am (Kd.zQl (pV HO_537001.out) hb);replace HO_537002 := am (Kd.zQl (pV HO_537002.out) hb);replace HO_537003 := am (Kd.zQl (pV HO_537003.out) hb);replace BK536 := am (pkb BK536.out hb);replace BK537 := am (pkb BK537.out hb);replace HB := am (zQf pB hb);(try clear hb)))
         replace HO_537000 := am (Kd.zQo HO_537000.out)
         replace HO_537001 := am (Kd.zQo HO_537001.out)
         replace HO_537002 := am (Kd.zQo HO_537002.out)
         replace HO_537003 := am (Kd.zQo HO_537003.out)
         replace BK536 := am (zQd BK536.out)
         replace BK537 := am (zQd BK537.out)
         replace HB := am (zQM HB.out)
         refine zXW (n := 18) (S := fun w' => w'.cell? ⟨gb536,0,none⟩ = some (.slice Ao189 x537000_3.length co189) ∧ w'.cell? ⟨gb536,1,none⟩ = some (.slice Ao58 x537001_2.length co58) ∧ w'.cell? ⟨gb536,2,none⟩ = some (u537002) ∧ w'.cell? ⟨gb536,3,none⟩ = some (.slice Ao190 x537003_3.length co190)) (ds := [12,14,16]) (bm 18 0) (by kernel_rfl) rfl rfl ⟨cz0 BK536.out,cz1 BK536.out,cz2 BK536.out,cz3 BK536.out⟩ (fun hHeld => ?_);refine zXC dec_shortest.tab11 dec_shortest.bits11 (fun HT_ HW_ => ?_)
         generalize w191.drew = w192 at HO_537000 HO_537001 HO_537002 HO_537003 BK536 BK537 HB hHeld ⊢
         refine pure_ (i := 0) (N := some 70) (v := ?_) (a' := ?_) (bm 18 1) rfl rfl (zQA HT_.out (by kernel_rfl)) (fun _ _ _ h => h) (Or.inl ⟨by kernel_rfl,?_⟩) ?_ ?_
         rotate_left
         ·intro w'
          go_simp
          with_reducible rfl
         rotate_left
         ·exact pA
         refine pure_ (i := 3) (N := some 73) (v := ?_) (a' := ?_) (bm 18 9) rfl rfl (zQA HT_.out (by kernel_rfl)) (fun _ _ _ h => h) (Or.inl ⟨by kernel_rfl,?_⟩) ?_ ?_
         rotate_left
         ·intro w'
          go_simp
          with_reducible rfl
         rotate_left
         ·exact pA
         refine pure_ (i := 6) (N := some 76) (v := ?_) (a' := ?_) (bm 18 73) rfl rfl (zQA HT_.out (by kernel_rfl)) (fun _ _ _ h => h) (Or.inl ⟨by kernel_rfl,?_⟩) ?_ ?_
         rotate_left
         ·intro w'
          go_simp
          with_reducible rfl
         rotate_left
         ·exact pA
         refine pure_ (i := 9) (N := some 79) (v := ?_) (a' := ?_) (bm 18 585) rfl rfl (zQA HT_.out (by kernel_rfl)) (fun _ _ _ h => h) (Or.inl ⟨by kernel_rfl,?_⟩) ?_ ?_
         rotate_left
         ·intro w'
          go_simp
          with_reducible rfl
         rotate_left
         ·exact pA
         refine pure_ (i := 10) (N := some 80) (v := ?_) (a' := ?_) (bm 18 1609) rfl rfl (zQA HT_.out (by kernel_rfl)) (fun _ _ _ h => h) (Or.inl ⟨by kernel_rfl,?_⟩) ?_ ?_
         rotate_left
         ·intro w'
          go_simp
          with_reducible rfl
         rotate_left
         ·exact pA
         refine take_ (i := 1) (N := some 71) (v := ?_) (a' := ?_) (bm 18 1611) rfl rfl (zXo HT_.out HW_.out (by kernel_rfl)) (fun _ _ _ h => h) (Or.inl ⟨by kernel_rfl,?_⟩) hHeld ?_ ?_
         rotate_left
         ·rintro w' ⟨s0,s1,s2,s3⟩
          go_simp
          with_reducible rfl
         rotate_left
         ·exact pA
         refine take_ (i := 4) (N := some 74) (v := ?_) (a' := ?_) (bm 18 1627) rfl rfl (zXo HT_.out HW_.out (by kernel_rfl)) (fun _ _ _ h => h) (Or.inl ⟨by kernel_rfl,?_⟩) hHeld ?_ ?_
         rotate_left
         ·rintro w' ⟨s0,s1,s2,s3⟩
          go_simp
          with_reducible rfl
         rotate_left
         ·exact pA
         refine take_ (i := 7) (N := some 77) (v := ?_) (a' := ?_) (bm 18 1755) rfl rfl (zXo HT_.out HW_.out (by kernel_rfl)) (fun _ _ _ h => h) (Or.inl ⟨by kernel_rfl,?_⟩) hHeld ?_ ?_
         rotate_left
         ·rintro w' ⟨s0,s1,s2,s3⟩
          go_simp
          with_reducible rfl
         rotate_left
         ·exact pA
         refine one_ (i := 2) (N := some 72) (bm 18 1759) rfl rfl (zQW HT_.out (by kernel_rfl)) (by decide) (fun K hK => ?_)
         refine goes_ Tryz.func24 (by kernel_rfl) rfl #[.slice Ao189 x537000_3.length co189,.int .u32 10,.int .u32 0] (by rfl) rfl rfl pM ?_
         with_reducible refine (b_times.calls k3 _ _ x537000_3 10 0 t560 _ ?side1 ?side2 A183.out).mono ?_
         (case side1 => repeat (first | exact (Kd.zQg HO_537000.out).2.2 | (with_reducible refine Kd.zQj ?_ _) | (with_reducible refine Kd.zQi ?_ _) | (with_reducible refine Kd.zQv ?_)))
         (case side2 => exact (Kd.zQg HO_537000.out).2.1)
         rintro e w193 ⟨v561,rfl,ho0,hb⟩
         refine ⟨_,rfl,?_⟩
         have n0_ := am (Kd.zQl (pV HO_537000.out) hb)
         have n1_ := am (Kd.zQl (pV HO_537001.out) hb)
         have n2_ := am (Kd.zQl (pV HO_537002.out) hb)
         have n3_ := am (Kd.zQl (pV HO_537003.out) hb)
         have n4_ := am (Kd.zQQ (Kd.zQk (ok' := fun k_ => k_ ≠ gb536 ∧ k_ ≠ gb537) ho0 (fun k_ hk_ => ⟨(Kd.zQV (g := gb536) (o := .cells #[.slice Ao189 x537000_3.length co189,.slice Ao58 x537001_2.length co58,u537002,.slice Ao190 x537003_3.length co190] 70 (0,0)) (pK BK536.out) k_ hk_),(Kd.zQV (g := gb537) (o := .cells #[.bool ((Go.bits .and .u64 a0 1) == 0)] 4 (0,0)) (pK BK537.out) k_ hk_)⟩)) (zQc pB))
         have n5_ := am (pkb BK536.out hb)
         have n6_ := am (pkb BK537.out hb)
         have n7_ := am (zQf pB hb)
         clear HO_537000 HO_537001 HO_537002 HO_537003 BK536 BK537 HB;have HO_537000 := n0_;have HO_537001 := n1_;have HO_537002 := n2_;have HO_537003 := n3_;have HO562 := n4_;have BK536 := n5_;have BK537 := n6_;have HB := n7_;clear n0_ n1_ n2_ n3_ n4_ n5_ n6_ n7_;(try clear hb);(try clear ho0)
         obtain ⟨Ao194,co194,eo194⟩ := Kd.zQF HO_537002.out
         (first | subst eo194 | (injection eo194 with f1_ f2_ f3_;have f4_ := f1_.symm;have f5_ := f3_.symm;clear f1_ f2_ f3_;subst f4_;subst f5_))
         refine hK.out _ _ ⟨cz0 BK536.out,cz1 BK536.out,cz2 BK536.out,cz3 BK536.out⟩ (fun hHeld => ?_)
         clear hK K
         refine norm_ (a' := ?_) ?_ ?_
         rotate_left
         ·show Act.put _ (some 72) _ = _
          exact pA
         refine pure_ (i := 11) (N := some 81) (v := ?_) (a' := ?_) (bm 18 3807) rfl rfl (zQA HT_.out (by kernel_rfl)) (fun _ _ _ h => h) (Or.inl ⟨by kernel_rfl,?_⟩) ?_ ?_
         rotate_left
         ·intro w'
          go_simp
          with_reducible rfl
         rotate_left
         ·exact pA
         refine one_ (i := 5) (N := some 75) (bm 18 3839) rfl rfl (zQW HT_.out (by kernel_rfl)) (by decide) (fun K hK => ?_)
         refine goes_ Tryz.func24 (by kernel_rfl) rfl #[.slice Ao194 x537002_3.length co194,.int .u32 10,.int .u32 0] (by rfl) rfl rfl pM ?_
         with_reducible refine (b_times.calls k3 _ _ x537002_3 10 0 t563 _ ?side1 ?side2 A184.out).mono ?_
         (case side1 => repeat (first | exact (Kd.zQg HO_537002.out).2.2 | (with_reducible refine Kd.zQj ?_ _) | (with_reducible refine Kd.zQi ?_ _) | (with_reducible refine Kd.zQv ?_)))
         (case side2 => exact (Kd.zQg HO_537002.out).2.1)
         rintro e w195 ⟨v564,rfl,ho0,hb⟩
         refine ⟨_,rfl,?_⟩
         have n0_ := am (Kd.zQl (pV HO_537000.out) hb)
         have n1_ := am (Kd.zQl (pV HO_537001.out) hb)
         have n2_ := am (Kd.zQl (pV HO_537002.out) hb)
         have n3_ := am (Kd.zQl (pV HO_537003.out) hb)
         have n4_ := am (Kd.zQl (pV HO562.out) hb)
         have n5_ := am (Kd.zQQ (Kd.zQk (ok' := fun k_ => k_ ≠ gb536 ∧ k_ ≠ gb537) ho0 (fun k_ hk_ => ⟨(Kd.zQV (g := gb536) (o := .cells #[.slice Ao189 x537000_3.length co189,.slice Ao58 x537001_2.length co58,.slice Ao194 x537002_3.length co194,.slice Ao190 x537003_3.length co190] 70 (0,0)) (pK BK536.out) k_ hk_),(Kd.zQV (g := gb537) (o := .cells #[.bool ((Go.bits .and .u64 a0 1) == 0)] 4 (0,0)) (pK BK537.out) k_ hk_)⟩)) (zQc pB))
         have n6_ := am (pkb BK536.out hb)
         have n7_ := am (pkb BK537.out hb)
         have n8_ := am (zQf pB hb)
         clear HO_537000 HO_537001 HO_537002 HO_537003 HO562 BK536 BK537 HB;have HO_537000 := n0_;have HO_537001 := n1_;have HO_537002 := n2_;have HO_537003 := n3_;have HO562 := n4_;have HO565 := n5_;have BK536 := n6_;have BK537 := n7_;have HB := n8_;clear n0_ n1_ n2_ n3_ n4_ n5_ n6_ n7_ n8_;(try clear hb);(try clear ho0)
         refine hK.out _ _ ⟨cz0 BK536.out,cz1 BK536.out,cz2 BK536.out,cz3 BK536.out⟩ (fun hHeld => ?_)
         clear hK K
         refine norm_ (a' := ?_) ?_ ?_
         rotate_left
         ·show Act.put _ (some 75) _ = _
          exact pA
         refine one_ (i := 8) (N := some 78) (bm 18 4095) rfl rfl (zQW HT_.out (by kernel_rfl)) (by decide) (fun K hK => ?_)
         refine goes_ Tryz.func24 (by kernel_rfl) rfl #[.slice Ao190 x537003_3.length co190,.int .u32 10,.int .u32 0] (by rfl) rfl rfl pM ?_
         with_reducible refine (b_times.calls k3 _ _ x537003_3 10 0 t566 _ ?side1 ?side2 A185.out).mono ?_
         (case side1 => repeat (first | exact (Kd.zQg HO_537003.out).2.2 | (with_reducible refine Kd.zQj ?_ _) | (with_reducible refine Kd.zQi ?_ _) | (with_reducible refine Kd.zQv ?_)))
         (case side2 => exact (Kd.zQg HO_537003.out).2.1)
         rintro e w196 ⟨v567,rfl,ho0,hb⟩
         refine ⟨_,rfl,?_⟩
         have n0_ := am (Kd.zQl (pV HO_537000.out) hb)
         have n1_ := am (Kd.zQl (pV HO_537001.out) hb)
         have n2_ := am (Kd.zQl (pV HO_537002.out) hb)
         have n3_ := am (Kd.zQl (pV HO_537003.out) hb)
         have n4_ := am (Kd.zQl (pV HO562.out) hb)
         have n5_ := am (Kd.zQl (pV HO565.out) hb)
         have n6_ := am (Kd.zQQ (Kd.zQk (ok' := fun k_ => k_ ≠ gb536 ∧ k_ ≠ gb537) ho0 (fun k_ hk_ => ⟨(Kd.zQV (g := gb536) (o := .cells #[.slice Ao189 x537000_3.length co189,.slice Ao58 x537001_2.length co58,.slice Ao194 x537002_3.length co194,.slice Ao190 x537003_3.length co190] 70 (0,0)) (pK BK536.out) k_ hk_),(Kd.zQV (g := gb537) (o := .cells #[.bool ((Go.bits .and .u64 a0 1) == 0)] 4 (0,0)) (pK BK537.out) k_ hk_)⟩)) (zQc pB))
         have n7_ := am (pkb BK536.out hb)
         have n8_ := am (pkb BK537.out hb)
         have n9_ := am (zQf pB hb)
         clear HO_537000 HO_537001 HO_537002 HO_537003 HO562 HO565 BK536 BK537 HB;have HO_537000 := n0_;have HO_537001 := n1_;have HO_537002 := n2_;have HO_537003 := n3_;have HO562 := n4_;have HO565 := n5_;have HO568 := n6_;have BK536 := n7_;have BK537 := n8_;have HB := n9_;clear n0_ n1_ n2_ n3_ n4_ n5_ n6_ n7_ n8_ n9_;(try clear hb);(try clear ho0)
         obtain ⟨Ao197,co197,eo197⟩ := Kd.zQF HO562.out
         (first | subst eo197 | (injection eo197 with f1_ f2_ f3_;have f4_ := f1_.symm;have f5_ := f3_.symm;clear f1_ f2_ f3_;subst f4_;subst f5_))
         obtain ⟨Ao199,co199,eo199⟩ := Kd.zQF HO565.out
         (first | subst eo199 | (injection eo199 with f1_ f2_ f3_;have f4_ := f1_.symm;have f5_ := f3_.symm;clear f1_ f2_ f3_;subst f4_;subst f5_))
         obtain ⟨Ao201,co201,eo201⟩ := Kd.zQF HO568.out
         (first | subst eo201 | (injection eo201 with f1_ f2_ f3_;have f4_ := f1_.symm;have f5_ := f3_.symm;clear f1_ f2_ f3_;subst f4_;subst f5_))
         refine hK.out _ _ ⟨cz0 BK536.out,cz1 BK536.out,cz2 BK536.out,cz3 BK536.out⟩ (fun hHeld => ?_)
         clear hK K
         refine norm_ (a' := ?_) ?_ ?_
         rotate_left
         ·show Act.put _ (some 78) _ = _
          exact pA
         refine last_ (i := 12) (N := none) (bm 18 8191) rfl rfl (zQW HT_.out (by kernel_rfl)) (by decide) (fun K hK => ?_)
         have hs198 : w196.cell? ⟨gb536,0,none⟩ = some (.slice Ao189 x537000_3.length co189) := cz0 BK536.out
         have hfs198 := zQK BK536.out 0
         have hns198_1 := NB537_536.out
         have hms198_1 := NB536_537.out
         refine skip_ (w1 := ?_) ?hw rfl ?_ ?_;(case hw => kernel_rfl)
         rotate_left
         ·go_simp
          rfl
         refine hK.out _ _ ?_
         clear hK K
         refine pure_ (i := 13) (N := some 82) (v := ?_) (a' := ?_) (bm 18 16383) rfl rfl (zQA HT_.out (by kernel_rfl)) (fun _ _ _ h => h) (Or.inl ⟨by kernel_rfl,?_⟩) ?_ ?_
         rotate_left
         ·intro w'
          go_simp
          with_reducible rfl
         rotate_left
         ·exact pA
         refine last_ (i := 14) (N := none) (bm 18 32767) rfl rfl (zQW HT_.out (by kernel_rfl)) (by decide) (fun K hK => ?_)
         have hs200 : w196.cell? ⟨gb536,2,none⟩ = some (.slice Ao194 x537002_3.length co194) := cz2 BK536.out
         have hfs200 := zQK BK536.out 2
         have hns200_1 := NB537_536.out
         have hms200_1 := NB536_537.out
         refine skip_ (w1 := ?_) ?hw rfl ?_ ?_;(case hw => kernel_rfl)
         rotate_left
         ·go_simp
          rfl
         refine hK.out _ _ ?_
         clear hK K
         refine pure_ (i := 15) (N := some 83) (v := ?_) (a' := ?_) (bm 18 65535) rfl rfl (zQA HT_.out (by kernel_rfl)) (fun _ _ _ h => h) (Or.inl ⟨by kernel_rfl,?_⟩) ?_ ?_
         rotate_left
         ·intro w'
          go_simp
          with_reducible rfl
         rotate_left
         ·exact pA
         refine last_ (i := 16) (N := none) (bm 18 131071) rfl rfl (zQW HT_.out (by kernel_rfl)) (by decide) (fun K hK => ?_)
         have hs202 : w196.cell? ⟨gb536,3,none⟩ = some (.slice Ao190 x537003_3.length co190) := cz3 BK536.out
         have hfs202 := zQK BK536.out 3
         have hns202_1 := NB537_536.out
         have hms202_1 := NB536_537.out
         refine skip_ (w1 := ?_) ?hw rfl ?_ ?_;(case hw => kernel_rfl)
         rotate_left
         ·go_simp
          rfl
         refine hK.out _ _ ?_
         clear hK K
         refine pure_ (i := 17) (N := some 7) (v := ?_) (a' := ?_) (bm 18 262143) rfl rfl (zQA HT_.out (by kernel_rfl)) (fun _ _ _ h => h) (Or.inl ⟨by kernel_rfl,?_⟩) ?_ ?_
         rotate_left
         ·intro w'
          go_simp
          with_reducible rfl
         rotate_left
         ·exact pA
         refine done_ (zYh HT_.out (by kernel_rfl)) ?_
         try go_wp2
         go_roundg k3
         case measure => have := HJ4.out;have := HK2.out;have := HK3.out;omega
         case rel => exact ⟨(wrap64 (x7_3 - 1)),(t560),(t563),(t566),(.slice Ao197 t560.length co197),(.slice Ao199 t563.length co199),(.slice Ao201 t566.length co201),(by first | rfl | (simp;done) | (simp [*];done)),H',⟨by have := HJ4.out;have := HK2.out;have := HK3.out;omega⟩,⟨by (with_reducible repeat (first | apply Kd.zQn | apply Kd.zQm | apply Kd.zQo));exact Kd.zQk (Kd.V_far (p := ⟨gb536,3,none⟩) (Kd.V_far (p := ⟨gb536,2,none⟩) (Kd.V_far (p := ⟨gb536,0,none⟩) (Kd.zQk HO562.out (fun k_ hk => (⟨hk,hk.1⟩ : _ ∧ k_ ≠ gb536))) (fun _ hk => hk.2) (.slice Ao197 t560.length co197)) (fun _ hk => hk.2) (.slice Ao199 t563.length co199)) (fun _ hk => hk.2) (.slice Ao201 t566.length co201)) (fun _ hk => ⟨hk.1.1,hk.1.2⟩)⟩,⟨by (with_reducible repeat (first | apply Kd.zQn | apply Kd.zQm | apply Kd.zQo));exact Kd.zQk (Kd.V_far (p := ⟨gb536,3,none⟩) (Kd.V_far (p := ⟨gb536,2,none⟩) (Kd.V_far (p := ⟨gb536,0,none⟩) (Kd.zQk HO_537001.out (fun k_ hk => (⟨hk,hk.1⟩ : _ ∧ k_ ≠ gb536))) (fun _ hk => hk.2) (.slice Ao197 t560.length co197)) (fun _ hk => hk.2) (.slice Ao199 t563.length co199)) (fun _ hk => hk.2) (.slice Ao201 t566.length co201)) (fun _ hk => ⟨hk.1.1,hk.1.2⟩)⟩,⟨by (with_reducible repeat (first | apply Kd.zQn | apply Kd.zQm | apply Kd.zQo));exact Kd.zQk (Kd.V_far (p := ⟨gb536,3,none⟩) (Kd.V_far (p := ⟨gb536,2,none⟩) (Kd.V_far (p := ⟨gb536,0,none⟩) (Kd.zQk HO565.out (fun k_ hk => (⟨hk,hk.1⟩ : _ ∧ k_ ≠ gb536))) (fun _ hk => hk.2) (.slice Ao197 t560.length co197)) (fun _ hk => hk.2) (.slice Ao199 t563.length co199)) (fun _ hk => hk.2) (.slice Ao201 t566.length co201)) (fun _ hk => ⟨hk.1.1,hk.1.2⟩)⟩,⟨by (with_reducible repeat (first | apply Kd.zQn | apply Kd.zQm | apply Kd.zQo));exact Kd.zQk (Kd.V_far (p := ⟨gb536,3,none⟩) (Kd.V_far (p := ⟨gb536,2,none⟩) (Kd.V_far (p := ⟨gb536,0,none⟩) (Kd.zQk HO568.out (fun k_ hk => (⟨hk,hk.1⟩ : _ ∧ k_ ≠ gb536))) (fun _ hk => hk.2) (.slice Ao197 t560.length co197)) (fun _ hk => hk.2) (.slice Ao199 t563.length co199)) (fun _ hk => hk.2) (.slice Ao201 t566.length co201)) (fun _ hk => ⟨hk.1.1,hk.1.2⟩)⟩,⟨by (with_reducible repeat (first | refine zQa ?_ _ | refine zQd ?_ | refine zQb ?_ _));refine zQz (cs := #[.slice Ao197 t560.length co197,.slice Ao58 x537001_2.length co58,.slice Ao199 t563.length co199,.slice Ao190 x537003_3.length co190]) ?_ 3 _ rfl;(with_reducible repeat (first | refine zQa ?_ _ | refine zQd ?_ | refine zQb ?_ _));refine zQz (cs := #[.slice Ao197 t560.length co197,.slice Ao58 x537001_2.length co58,.slice Ao194 x537002_3.length co194,.slice Ao190 x537003_3.length co190]) ?_ 2 _ rfl;(with_reducible repeat (first | refine zQa ?_ _ | refine zQd ?_ | refine zQb ?_ _));refine zQz (cs := #[.slice Ao189 x537000_3.length co189,.slice Ao58 x537001_2.length co58,.slice Ao194 x537002_3.length co194,.slice Ao190 x537003_3.length co190]) ?_ 0 _ rfl;(with_reducible repeat (first | refine zQa ?_ _ | refine zQd ?_ | refine zQb ?_ _));exact BK536.out⟩,⟨by (with_reducible repeat (first | refine zQa ?_ _ | refine zQd ?_ | refine zQb ?_ _));refine zQL ?_ NB537_536.out _;(with_reducible repeat (first | refine zQa ?_ _ | refine zQd ?_ | refine zQb ?_ _));refine zQL ?_ NB537_536.out _;(with_reducible repeat (first | refine zQa ?_ _ | refine zQd ?_ | refine zQb ?_ _));refine zQL ?_ NB537_536.out _;(with_reducible repeat (first | refine zQa ?_ _ | refine zQd ?_ | refine zQb ?_ _));exact BK537.out⟩,⟨pB⟩⟩
end Go.Proofs.YtflcanpajgpghaaGreatDoor.Pr
end
