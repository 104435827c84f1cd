/- A part of the proof of the law that RowDecPrints shows: lemmas, and contracts of the calls that it reaches. -/
import Derived.Test.YtflcanpajgpghaaGreatDoorProg
import Derived.Below
import Derived.Deep.Draws
import Derived.Deep.AppendLies
import Derived.Maps.AppendAt
import Derived.OwnWalk
import Derived.Laws.BytesArg
import Derived.Laws.MakeOwn
import Derived.Laws.OwnMore
import Derived.Deep.OwnRows
import Derived.Tactics
import Derived.Lib.ConvBytes
import Derived.Laws.Slices
import Derived.WalkKit
import Derived.KernelRfl
import Derived.RowKit3
import Derived.Deep.LoopGhost
import Derived.Deep.QuietTactic
import Derived.BigQuiet
import Derived.WideLaws
import Derived.Deep.DeepCutAuto
import Derived.Deep.CutBlock
import Derived.Deep.RegionHeld3
import Derived.Laws.Rows
import Derived.Lib.AppendStr
import Derived.ArgAppend
import Derived.Laws.IdiomCopy
import Derived.OrdersHeld
import Derived.Laws.BitsLemmas
import Derived.RowKit
import Derived.Test.YtflcanpajgpghaaGreatDoorZDR0
import Derived.Test.YtflcanpajgpghaaGreatDoorZDR5
import Derived.Test.YtflcanpajgpghaaGreatDoorZDR4
set_option linter.unusedVariables false
set_option linter.unusedSimpArgs false
section
namespace Go.Proofs.YtflcanpajgpghaaGreatDoor.Pure
open Go.RowKit Go.Proofs.YtflcanpajgpghaaGreatDoor.Pr Go.Proofs.YtflcanpajgpghaaGreatDoorW.PrintWords Go.Proofs.YtflcanpajgpghaaGreatDoorW.PrintLast Go.Proofs.YtflcanpajgpghaaGreatDoorW.PrintMore
theorem set_mid {α : Type} (b v : α) (c : List α) : ∀ a : List α,(a ++ b :: c).set a.length v = a ++ v :: c
 | [] => rfl
 | x :: a => by rw [List.cons_append,List.length_cons,List.set_cons_succ,set_mid b v c a,List.cons_append]
theorem zVr (b : Int) (c : List Int) : ∀ a : List Int,(a ++ b :: c).getD a.length 0 = b
 | [] => rfl
 | x :: a => by rw [List.cons_append,List.length_cons,List.getD_cons_succ,zVr b c a]
theorem zWV (a : List Int) (b : Int) (c : List Int) (i : Nat) (h : a.length = i) : rd (a ++ b :: c) (i : Int) = b := by rw [zYg,← h,zVr]
theorem zWc (L : List Int) (e x6 : Int) (h : L.length ≤ 1000000) : Ev (fun k => dec_tidy.j1 k L e x6 false) (zJT (strOfNums L) 48,e) := by
 refine Ev.step (f := fun _ => some (zJT (strOfNums L) 48,e)) (fun k => ?_) (Ev.now _);rw [dec_tidy.j1,if_neg (by decide),strings_TrimRight.f,if_pos (by rw [zYn];omega),if_pos rfl,Option.bind_some]
theorem zWA (i : Nat) (h : i ≤ 1000000) : wrap64 (((i + 1 : Nat) : Int) - 1) = (i : Int) := by rw [wrapB _ (by omega) (by omega)];omega
theorem zBT : ∀ (i y t j : Nat) (e : Int),y < 10 ^ i → t ≤ 10 → 10 ^ (i + j) ≤ (10 * y + t) * 10 ^ j → i + j ≤ 1000 → -100000 ≤ e → e ≤ 100000 →
  Ev (fun k => dec_tidy.l0 k (dl i y ++ ((48 + t : Nat) : Int) :: List.replicate j 48) e (i : Int)) (strOfNums (ds (strip ((10 * y + t) * 10 ^ j))),if (10 * y + t) * 10 ^ j = 10 ^ (i + 1 + j) then e + 1 else e) := by
 intro i
 induction i with
 | zero =>
  intro y t j e hy ht hV hij he he2;rw [Nat.pow_zero] at hy;(obtain rfl : y = 0 := by omega);by_cases h9 : t ≤ 9
  ·have hVlt : (10 * 0 + t) * 10 ^ j < 10 ^ (0 + 1 + j) := by
    rw [show 0 + 1 + j = j + 1 by omega,Nat.pow_succ,Nat.mul_comm (10 ^ j) 10];exact Nat.mul_lt_mul_of_pos_right (by omega) (Nat.pow_pos (by decide))
   rw [if_neg (Nat.ne_of_lt hVlt)]
   have hL : dl 0 0 ++ ((48 + t : Nat) : Int) :: List.replicate j 48 = ds ((10 * 0 + t) * 10 ^ j) := by
    have h1 := zZQ 1 (10 * 0 + t) j;rw [zVy 0 0 t h9,List.append_assoc] at h1;rw [← dl_ds j _ (by rw [Nat.zero_add] at hV;exact hV) (by rw [show j + 1 = 0 + 1 + j by omega];exact hVlt),Nat.add_comm j 1,h1]
    rfl
   have hend := zWc (dl 0 0 ++ ((48 + t : Nat) : Int) :: List.replicate j 48) e ((0 : Nat) : Int) (by simp only [List.length_append,List.length_cons,List.length_replicate,zQZ];omega);rw [hL,zZW,← hL] at hend;refine Ev.step (fun k => ?_) hend;rw [dec_tidy.l0,if_pos (by omega),if_pos (by omega),if_pos (by simp only [List.length_append,List.length_cons,List.length_replicate,zQZ];omega),zWV _ _ _ 0 rfl,decide_eq_false (by omega)]
  ·(obtain rfl : t = 10 := by omega);(have hVe : (10 * 0 + 10) * 10 ^ j = 10 ^ (0 + 1 + j) := by rw [show 0 + 1 + j = j + 1 by omega,Nat.pow_succ,Nat.mul_comm (10 ^ j) 10]);rw [if_pos hVe]
   have hL : [49] ++ (48 :: List.replicate j 48) = ds ((10 * 0 + 10) * 10 ^ j) := by
    have h1 := zZQ 1 1 (j + 1);rw [show (1 : Nat) * 10 ^ (j + 1) = (10 * 0 + 10) * 10 ^ j by rw [hVe,Nat.one_mul,show 0 + 1 + j = j + 1 by omega]] at h1;rw [← dl_ds (j + 1) _ (by rw [hVe,show 0 + 1 + j = j + 1 by omega];exact Nat.le_refl _) (by rw [hVe];exact Nat.pow_lt_pow_right (by decide) (by omega)),Nat.add_comm (j + 1) 1,h1,List.replicate_succ]
    rfl
   have hend := zWc ([49] ++ (48 :: List.replicate j 48)) (e + 1) (-1) (by simp only [List.length_append,List.length_cons,List.length_replicate,List.length_nil];omega);rw [hL,zZW,← hL] at hend;refine Ev.step (f := fun k => dec_tidy.j1 k (dl 0 0 ++ ((48 + 10 : Nat) : Int) :: List.replicate j 48) e ((0 : Nat) : Int) true) (fun k => ?_) (Ev.step (f := fun k => dec_tidy.l0 k ([49] ++ (48 :: List.replicate j 48)) (e + 1) (-1)) (fun k => ?_) (Ev.step (f := fun k => dec_tidy.j1 k ([49] ++ (48 :: List.replicate j 48)) (e + 1) (-1) false) (fun k => ?_) hend))
   ·rw [dec_tidy.l0,if_pos (by omega),if_pos (by omega),if_pos (by simp only [List.length_append,List.length_cons,List.length_replicate,zQZ];omega),zWV _ _ _ 0 rfl,decide_eq_true (by omega)]
   ·rw [dec_tidy.j1,if_pos rfl,if_pos (by omega),if_pos (by simp only [List.length_append,List.length_cons,List.length_replicate,zQZ];omega),Option.bind_some,if_neg (by omega),Option.bind_some,if_pos (by simp only [List.length_append,List.length_cons,List.length_replicate,zQZ,List.length_set,List.length_nil];omega),wrapB _ (by omega) (by omega),wrapB _ (by omega) (by omega)]
    rfl
   ·rw [dec_tidy.l0,if_neg (by omega)]
 | succ i ih =>
  intro y t j e hy ht hV hij he he2;by_cases h9 : t ≤ 9
  ·have hVlt : (10 * y + t) * 10 ^ j < 10 ^ (i + 1 + 1 + j) := by
    rw [Nat.pow_add,Nat.pow_succ,Nat.mul_comm (10 ^ (i + 1)) 10];exact Nat.mul_lt_mul_of_pos_right (by omega) (Nat.pow_pos (by decide))
   rw [if_neg (Nat.ne_of_lt hVlt)]
   have hL : dl (i + 1) y ++ ((48 + t : Nat) : Int) :: List.replicate j 48 = ds ((10 * y + t) * 10 ^ j) := by
    have h1 := zZQ (i + 1 + 1) (10 * y + t) j;rw [zVy (i + 1) y t h9,List.append_assoc] at h1;rw [← dl_ds (i + 1 + j) _ hV (by rw [show i + 1 + j + 1 = i + 1 + 1 + j by omega];exact hVlt),show i + 1 + j + 1 = i + 1 + 1 + j by omega,h1]
    rfl
   have hend := zWc (dl (i + 1) y ++ ((48 + t : Nat) : Int) :: List.replicate j 48) e ((i + 1 : Nat) : Int) (by simp only [List.length_append,List.length_cons,List.length_replicate,zQZ];omega);rw [hL,zZW,← hL] at hend;refine Ev.step (fun k => ?_) hend;rw [dec_tidy.l0,if_pos (by omega),if_pos (by omega),if_pos (by simp only [List.length_append,List.length_cons,List.length_replicate,zQZ];omega),zWV _ _ _ (i + 1) (zQZ _ _),decide_eq_false (by omega)]
  ·(obtain rfl : t = 10 := by omega);have hi := ih (y / 10) (y % 10 + 1) (j + 1) e (by rw [Nat.pow_succ] at hy;omega) (by omega) ?_ (by omega) he he2
   ·have eV : (10 * (y / 10) + (y % 10 + 1)) * 10 ^ (j + 1) = (10 * y + 10) * 10 ^ j := by
     rw [show 10 * (y / 10) + (y % 10 + 1) = y + 1 by omega,Nat.pow_succ,Nat.mul_comm (10 ^ j) 10,← Nat.mul_assoc]
     congr 1
     omega
    rw [eV,show i + 1 + (j + 1) = i + 1 + 1 + j by omega] at hi
    have eL : dl i (y / 10) ++ ((48 + (y % 10 + 1) : Nat) : Int) :: List.replicate (j + 1) 48 = (dl i (y / 10) ++ dg y :: (48 :: List.replicate j 48)).set i ((dg y + 1) % 256) := by
     have h1 := set_mid (dg y) ((dg y + 1) % 256) (48 :: List.replicate j 48) (dl i (y / 10));rw [zQZ] at h1;rw [h1,List.replicate_succ]
     congr 2
     unfold dg;omega
    rw [eL] at hi
    have eM : (dl (i + 1) y ++ ((48 + 10 : Nat) : Int) :: List.replicate j 48).set (i + 1) 48 = dl i (y / 10) ++ dg y :: (48 :: List.replicate j 48) := by
     have h1 := set_mid ((48 + 10 : Nat) : Int) 48 (List.replicate j 48) (dl (i + 1) y);rw [zQZ] at h1;rw [h1,dl,List.append_assoc]
     rfl
    refine Ev.step (f := fun k => dec_tidy.j1 k (dl (i + 1) y ++ ((48 + 10 : Nat) : Int) :: List.replicate j 48) e ((i + 1 : Nat) : Int) true) (fun k => ?_) (Ev.step (f := fun k => dec_tidy.l0 k ((dl i (y / 10) ++ dg y :: (48 :: List.replicate j 48)).set i ((dg y + 1) % 256)) e (i : Int)) (fun k => ?_) hi)
    ·rw [dec_tidy.l0,if_pos (by omega),if_pos (by omega),if_pos (by simp only [List.length_append,List.length_cons,List.length_replicate,zQZ];omega),zWV _ _ _ (i + 1) (zQZ _ _),decide_eq_true (by omega)]
    ·rw [dec_tidy.j1,if_pos rfl,if_pos (by omega),if_pos (by simp only [List.length_append,List.length_cons,List.length_replicate,zQZ];omega),Option.bind_some,if_pos (by omega),zWA i (by omega),if_pos (by omega),if_pos (by simp only [List.length_append,List.length_cons,List.length_replicate,zQZ];omega),Int.toNat_natCast,Int.toNat_natCast,eM,zWV _ _ _ i (zQZ _ _)]
   ·have eV : (10 * (y / 10) + (y % 10 + 1)) * 10 ^ (j + 1) = (10 * y + 10) * 10 ^ j := by
     rw [show 10 * (y / 10) + (y % 10 + 1) = y + 1 by omega,Nat.pow_succ,Nat.mul_comm (10 ^ j) 10,← Nat.mul_assoc]
     congr 1
     omega
    rw [eV,show i + (j + 1) = i + 1 + j by omega];exact hV
theorem zHd (m y t : Nat) (e : Int) (hy : y < 10 ^ m) (ht : t ≤ 10) (hX : 10 ^ m ≤ 10 * y + t) (hm : m ≤ 1000) (he : -100000 ≤ e) (he2 : e ≤ 100000) :
  Ev (fun k => dec_tidy.f k (dl m y ++ [((48 + t : Nat) : Int)]) e) (strOfNums (ds (strip (10 * y + t))),if 10 * y + t = 10 ^ (m + 1) then e + 1 else e) := by
 have h := zBT m y t 0 e hy ht (by rw [Nat.add_zero,Nat.pow_zero,Nat.mul_one];exact hX) (by omega) he he2;rw [Nat.pow_zero,Nat.mul_one,Nat.add_zero] at h;refine Ev.congr (fun k => ?_) h;unfold dec_tidy.f;rw [List.length_append,zQZ,List.length_singleton,zWA m (by omega)]
 rfl
end Go.Proofs.YtflcanpajgpghaaGreatDoor.Pure
end
section
namespace Go.Proofs.YtflcanpajgpghaaGreatDoor.Flo
open Go Ieee
theorem zGx {x K m S A B : Nat} (hK : 0 < K) (hS : 0 < S) (h : x * K = m * S) : m * B < A * K ↔ x * B < A * S := by
 rw [← Nat.mul_lt_mul_left (a := S) hS,← Nat.mul_lt_mul_left (a := K) (b := x * B) hK];rw [show S * (m * B) = (m * S) * B by rw [Nat.mul_comm m S,Nat.mul_assoc],← h,show x * K * B = K * (x * B) by rw [Nat.mul_comm x K,Nat.mul_assoc],show S * (A * K) = K * (A * S) by rw [Nat.mul_comm A K,Nat.mul_left_comm,Nat.mul_comm A S]]
theorem zBl {x K m S A B : Nat} (hK : 0 < K) (hS : 0 < S) (h : x * K = m * S) : m * B = A * K ↔ x * B = A * S := by
 constructor
 ·intro g
  refine Nat.eq_of_mul_eq_mul_left hK ?_
  rw [show K * (x * B) = (x * K) * B by rw [Nat.mul_comm x K,Nat.mul_assoc],h,Nat.mul_right_comm,g,Nat.mul_assoc,Nat.mul_comm K S,← Nat.mul_assoc,Nat.mul_comm]
 ·intro g
  refine Nat.eq_of_mul_eq_mul_left hS ?_
  rw [show S * (m * B) = (m * S) * B by rw [Nat.mul_comm m S,Nat.mul_assoc],← h,Nat.mul_right_comm,g,show S * (A * K) = A * S * K by rw [Nat.mul_comm A K,Nat.mul_left_comm,Nat.mul_comm K,Nat.mul_comm S A]]
theorem zVC {x K m S A B : Nat} (hK : 0 < K) (hS : 0 < S) (h : x * K = m * S) : A * K < m * B ↔ A * S < x * B := by
 rw [← Nat.mul_lt_mul_left (a := S) hS,← Nat.mul_lt_mul_left (a := K) (b := A * S) hK];rw [show S * (m * B) = (m * S) * B by rw [Nat.mul_comm m S,Nat.mul_assoc],← h,show x * K * B = K * (x * B) by rw [Nat.mul_comm x K,Nat.mul_assoc],show S * (A * K) = K * (A * S) by rw [Nat.mul_comm A K,Nat.mul_left_comm,Nat.mul_comm A S]]
structure Sp (a R S D U : Nat) : Prop where
 hS : 0 < S
 hR : R * K = (2 * units a) * S
 hD : D * K = (units a - units (a - 1)) * S
 hU : U * K = (units (a + 1) - units a) * S
theorem zBM {a : Nat} (h : 0 < a) : 0 < units a := by
 have h1 := zXR h;omega
theorem sp_D {a R S D U : Nat} (h : Sp a R S D U) (ha : 0 < a) : 0 < D := by
 have h1 : units (a - 1) < units a := zXR (by omega);have h2 : 0 < (units a - units (a - 1)) * S := Nat.mul_pos (by omega) h.hS;rw [← h.hD] at h2;exact Nat.pos_of_mul_pos_right h2
theorem sp_U {a R S D U : Nat} (h : Sp a R S D U) : 0 < U := by
 have h1 := zYV a;have h2 : 0 < (units (a + 1) - units a) * S := Nat.mul_pos (by omega) h.hS;rw [← h.hU] at h2;exact Nat.pos_of_mul_pos_right h2
theorem zWH {a R S D U : Nat} (h : Sp a R S D U) : 2 * D ≤ R := by
 refine Nat.le_of_mul_le_mul_right (c := K) ?_ K_pos;rw [Nat.mul_assoc,h.hD,h.hR,Nat.mul_assoc];exact Nat.mul_le_mul_left _ (Nat.mul_le_mul_right _ (Nat.sub_le _ _))
theorem sp_lo {a R S D U : Nat} (h : Sp a R S D U) (ha : 0 < a) : (R - D) * K = mid (a - 1) * S := by
 have h1 : units (a - 1) < units a := zXR (by omega);rw [Nat.sub_mul,h.hR,h.hD,← Nat.sub_mul];unfold mid;rw [show a - 1 + 1 = a by omega]
 congr 1
 omega
theorem sp_hi {a R S D U : Nat} (h : Sp a R S D U) : (R + U) * K = mid a * S := by
 have h1 := zYV a;rw [Nat.add_mul,h.hR,h.hU,← Nat.add_mul];unfold mid
 congr 1
 omega
theorem zJn {a R S D U A B : Nat} (h : Sp a R S D U) (ha : 0 < a) : Above A B a ↔ ((R - D) * B < A * S ∨ ((R - D) * B = A * S ∧ a % 2 = 0)) := by
 unfold Above;rw [zGx K_pos h.hS (sp_lo h ha),zBl K_pos h.hS (sp_lo h ha)];constructor
 ·rintro (h0 | h0 | h0)
  ·omega
  ·exact .inl h0
  ·exact .inr h0
 ·rintro (h0 | h0)
  ·exact .inr (.inl h0)
  ·exact .inr (.inr h0)
theorem zWC {a R S D U A B : Nat} (h : Sp a R S D U) : Under A B a ↔ (A * S < (R + U) * B ∨ (A * S = (R + U) * B ∧ a % 2 = 0)) := by
 unfold Under;rw [zVC K_pos h.hS (sp_hi h),eq_comm,zBl K_pos h.hS (sp_hi h),eq_comm]
def Far (r up s : Nat) (ev : Bool) : Prop := s < r + up ∨ (s = r + up ∧ ev = true)
def Low (r dn : Nat) (ev : Bool) : Prop := r < dn ∨ (r = dn ∧ ev = true)
instance (r up s : Nat) (ev : Bool) : Decidable (Far r up s ev) := by unfold Far;infer_instance
instance (r dn : Nat) (ev : Bool) : Decidable (Low r dn ev) := by unfold Low;infer_instance
theorem zYv {a b c d x y : Nat} (ha : 0 < a) (hd : 0 < d) (hb : 0 < b) (hc : 0 < c) (h : a * d = b * c) : x * a < y * b ↔ x * c < y * d := by
 rw [← Nat.mul_lt_mul_left (a := d) hd,← Nat.mul_lt_mul_left (a := b) (b := x * c) hb];rw [show d * (x * a) = x * (a * d) by rw [Nat.mul_left_comm,Nat.mul_comm d a],h,show b * (x * c) = x * (b * c) by rw [Nat.mul_left_comm],show d * (y * b) = b * (y * d) by rw [Nat.mul_comm y b,Nat.mul_left_comm,Nat.mul_comm d y]]
theorem zBc {a b c d x y : Nat} (ha : 0 < a) (hd : 0 < d) (hb : 0 < b) (hc : 0 < c) (h : a * d = b * c) : x * a = y * b ↔ x * c = y * d := by
 have h1 := zYv (x := x) (y := y) ha hd hb hc h;have h2 := zYv (a := b) (b := a) (c := d) (d := c) (x := y) (y := x) hb hc ha hd h.symm;omega
theorem zZj {e : Int} {p q m : Nat} (he : e = (q : Int) - p) : loN (e - m) * 10 ^ q = 10 ^ (e - m).toNat * (10 ^ p * 10 ^ m) := by
 unfold loN;rw [← Nat.pow_add,← Nat.pow_add,← Nat.pow_add]
 congr 1
 omega
theorem zQD (n : Nat) : 0 < 10 ^ n := Nat.pow_pos (by decide)
theorem zHs {a R S D U Q ρ p q m : Nat} {e : Int} (h : Sp a R S D U) (ha : 0 < a) (he : e = (q : Int) - p) (hQ : R * 10 ^ p * 10 ^ m = Q * (S * 10 ^ q) + ρ) :
  Above (upN Q (e - m)) (loN (e - m)) a ↔ Low ρ (D * 10 ^ p * 10 ^ m) (a % 2 == 0) := by
 have hD2 := zWH h;have hc := zZj (m := m) he;rw [zJn h ha];unfold upN;rw [show Q * 10 ^ (e - (m : Int)).toNat * S = Q * S * 10 ^ (e - (m : Int)).toNat by rw [Nat.mul_right_comm]];rw [zYv (zYT _) (zQD q) (zQD _) (Nat.mul_pos (zQD p) (zQD m)) hc,zBc (zYT _) (zQD q) (zQD _) (Nat.mul_pos (zQD p) (zQD m)) hc];(have e1 : (R - D) * (10 ^ p * 10 ^ m) = R * 10 ^ p * 10 ^ m - D * 10 ^ p * 10 ^ m := by rw [Nat.sub_mul,Nat.mul_assoc,Nat.mul_assoc]);have e2 : D * 10 ^ p * 10 ^ m ≤ R * 10 ^ p * 10 ^ m := Nat.mul_le_mul_right _ (Nat.mul_le_mul_right _ (by omega));rw [e1,hQ,show Q * S * 10 ^ q = Q * (S * 10 ^ q) by rw [Nat.mul_assoc]];rw [hQ] at e2;unfold Low;simp only [beq_iff_eq];omega
theorem zHA {a R S D U Q ρ p q m : Nat} {e : Int} (h : Sp a R S D U) (he : e = (q : Int) - p) (hQ : R * 10 ^ p * 10 ^ m = Q * (S * 10 ^ q) + ρ) :
  Under (upN (Q + 1) (e - m)) (loN (e - m)) a ↔ Far ρ (U * 10 ^ p * 10 ^ m) (S * 10 ^ q) (a % 2 == 0) := by
 have hc := zZj (m := m) he;rw [zWC h];unfold upN;rw [show (Q + 1) * 10 ^ (e - (m : Int)).toNat * S = (Q + 1) * S * 10 ^ (e - (m : Int)).toNat by rw [Nat.mul_right_comm]];rw [zYv (zQD _) (Nat.mul_pos (zQD p) (zQD m)) (zYT _) (zQD q) hc.symm,zBc (zQD _) (Nat.mul_pos (zQD p) (zQD m)) (zYT _) (zQD q) hc.symm];(have e1 : (R + U) * (10 ^ p * 10 ^ m) = Q * (S * 10 ^ q) + ρ + U * 10 ^ p * 10 ^ m := by rw [Nat.add_mul,← Nat.mul_assoc,hQ,← Nat.mul_assoc U]);rw [e1,show (Q + 1) * S * 10 ^ q = Q * (S * 10 ^ q) + S * 10 ^ q by rw [Nat.mul_assoc,Nat.add_mul,Nat.one_mul]];unfold Far;simp only [beq_iff_eq];omega
theorem zBN {a R S D U Q ρ p q m : Nat} {e : Int} (h : Sp a R S D U) (he : e = (q : Int) - p) (hQ : R * 10 ^ p * 10 ^ m = Q * (S * 10 ^ q) + ρ) :
  Under (upN Q (e - m)) (loN (e - m)) a := by
 have hc := zZj (m := m) he;rw [zWC h];unfold upN;rw [show Q * 10 ^ (e - (m : Int)).toNat * S = Q * S * 10 ^ (e - (m : Int)).toNat by rw [Nat.mul_right_comm]]
 refine .inl ?_
 rw [zYv (zQD _) (Nat.mul_pos (zQD p) (zQD m)) (zYT _) (zQD q) hc.symm];(have e1 : (R + U) * (10 ^ p * 10 ^ m) = Q * (S * 10 ^ q) + ρ + U * 10 ^ p * 10 ^ m := by rw [Nat.add_mul,← Nat.mul_assoc,hQ,← Nat.mul_assoc U]);have hu : 0 < U * 10 ^ p * 10 ^ m := Nat.mul_pos (Nat.mul_pos (sp_U h) (zQD _)) (zQD _);rw [e1,Nat.mul_assoc];omega
theorem zBH {a R S D U Q ρ p q m : Nat} {e : Int} (h : Sp a R S D U) (ha : 0 < a) (he : e = (q : Int) - p) (hQ : R * 10 ^ p * 10 ^ m = Q * (S * 10 ^ q) + ρ) (hρ : ρ < S * 10 ^ q) :
  Above (upN (Q + 1) (e - m)) (loN (e - m)) a := by
 have hc := zZj (m := m) he;rw [zJn h ha];unfold upN;rw [show (Q + 1) * 10 ^ (e - (m : Int)).toNat * S = (Q + 1) * S * 10 ^ (e - (m : Int)).toNat by rw [Nat.mul_right_comm]]
 refine .inl ?_
 rw [zYv (zYT _) (zQD q) (zQD _) (Nat.mul_pos (zQD p) (zQD m)) hc]
 have e1 : (R - D) * (10 ^ p * 10 ^ m) ≤ Q * (S * 10 ^ q) + ρ := by
  rw [← hQ,← Nat.mul_assoc];exact Nat.mul_le_mul_right _ (Nat.mul_le_mul_right _ (Nat.sub_le _ _))
 rw [show (Q + 1) * S * 10 ^ q = Q * (S * 10 ^ q) + S * 10 ^ q by rw [Nat.mul_assoc,Nat.add_mul,Nat.one_mul]];omega
theorem zWT {X a : Nat} {E : Int} {w : Nat} (hX : X ≠ 0) (hE : -1000 ≤ E) (hE2 : E ≤ 400) (ha : a < INF) (hw : zBq X E w) : w = a ↔ zXH (upN X E) (loN E) a := by
 unfold zBq at hw;rw [if_neg (by omega),if_neg (by omega)] at hw;obtain ⟨v,hv,rfl⟩ := hw;constructor
 ·intro h;(have : v = a := by omega);rw [← this];exact hv
 ·intro h;rw [zJF (zYT E) (zYT E) rfl hv h];omega
theorem zKG (a : Nat) : ∃ j q : Nat,a = j * 4503599627370496 + q ∧ q < 9007199254740992 ∧ (j = 0 ∨ 4503599627370496 ≤ q) ∧ units a = q * 2 ^ j ∧ units (a + 1) = (q + 1) * 2 ^ j := by
 by_cases h : a < 4503599627370496
 ·refine ⟨0,a,by omega,by omega,.inl rfl,?_,?_⟩
  ·have := zXz 0 a (by omega) (.inl rfl)
   rwa [Nat.zero_mul,Nat.zero_add] at this
  ·have := zXz 0 (a + 1) (by omega) (.inl rfl)
   rwa [Nat.zero_mul,Nat.zero_add] at this
 ·refine ⟨a / 4503599627370496 - 1,4503599627370496 + a % 4503599627370496,by omega,by omega,.inr (by omega),?_,?_⟩
  ·have := zXz (a / 4503599627370496 - 1) (4503599627370496 + a % 4503599627370496) (by omega) (.inr (by omega))
   rwa [show (a / 4503599627370496 - 1) * 4503599627370496 + (4503599627370496 + a % 4503599627370496) = a by omega] at this
  ·have := zXz (a / 4503599627370496 - 1) (4503599627370496 + a % 4503599627370496 + 1) (by omega) (.inr (by omega))
   rwa [show (a / 4503599627370496 - 1) * 4503599627370496 + (4503599627370496 + a % 4503599627370496 + 1) = a + 1 by omega] at this
theorem zKH {a j q : Nat} (h : a = j * 4503599627370496 + q) (hq : q < 9007199254740992) (hj : j = 0 ∨ 4503599627370496 ≤ q) (h0 : 0 < a) :
  (units a - units (a - 1) = 2 ^ j) ∨ (q = 4503599627370496 ∧ 0 < j ∧ 2 * (units a - units (a - 1)) = 2 ^ j) := by
 (have e0 : units a = q * 2 ^ j := by rw [h];exact zXz j q (by omega) hj);by_cases hc : j = 0 ∨ 4503599627370496 ≤ q - 1
 ·left
  have e1 : units (a - 1) = (q - 1) * 2 ^ j := by
   rw [show a - 1 = j * 4503599627370496 + (q - 1) by omega];exact zXz j (q - 1) (by omega) hc
  rw [e0,e1,← Nat.sub_mul,show q - (q - 1) = 1 by omega,Nat.one_mul]
 ·right;(have hq2 : q = 4503599627370496 := by omega);obtain ⟨i,rfl⟩ : ∃ i,j = i + 1 := ⟨j - 1,by omega⟩
  have e1 : units (a - 1) = 9007199254740991 * 2 ^ i := by
   rw [show a - 1 = i * 4503599627370496 + 9007199254740991 by omega];exact zXz i 9007199254740991 (by omega) (.inr (by omega))
  refine ⟨hq2,by omega,?_⟩;rw [e0,e1,hq2,Nat.pow_succ];omega
theorem zWe {a R S D U : Nat} (h : Sp a R S D U) (ha : 0 < a) : ∃ q : Nat,0 < q ∧ q < 9007199254740992 ∧ R = 2 * q * U ∧ (D = U ∨ (q = 4503599627370496 ∧ 2 * D = U)) ∧ (a < 10 → q = a) ∧ (10 ≤ a → 10 ≤ q) := by
 obtain ⟨j,q,hf,hq,hj,e0,e1⟩ := zKG a;have hU := h.hU;rw [e0,e1,Nat.add_mul,Nat.one_mul,Nat.add_sub_cancel_left] at hU;have hR := h.hR;rw [e0] at hR;refine ⟨q,?_,hq,?_,?_,?_,?_⟩
 ·rcases Nat.eq_zero_or_pos q with h0 | h0
  ·rcases hj with hj | hj
   ·rw [hj,h0] at hf;omega
   ·omega
  ·exact h0
 ·refine Nat.eq_of_mul_eq_mul_right K_pos ?_
  rw [hR,Nat.mul_assoc (2 * q) U,hU];simp only [Nat.mul_assoc]
 ·rcases zKH hf hq hj ha with g | ⟨g1,g2,g3⟩
  ·left
   refine Nat.eq_of_mul_eq_mul_right K_pos ?_
   rw [h.hD,g,hU]
  ·right;refine ⟨g1,Nat.eq_of_mul_eq_mul_right K_pos ?_⟩;rw [Nat.mul_assoc,h.hD,hU,← g3,Nat.mul_assoc]
 ·intro h10;rcases hj with hj | hj
  ·rw [hj] at hf;omega
  ·omega
 ·intro h10;rcases hj with hj | hj
  ·rw [hj] at hf;omega
  ·omega
theorem sp_UR {a R S D U : Nat} (h : Sp a R S D U) (ha : 0 < a) : 2 * U ≤ R := by
 obtain ⟨q,h1,h2,h3,_⟩ := zWe h ha;rw [h3];exact Nat.mul_le_mul_right _ (by omega)
def kT : Nat := 322
theorem zHX : Nat.blt (19 * 10 ^ kT) K = true := by kernel_rfl
theorem zHW : Nat.blt (4 * (10 ^ kT * 10)) K = true := by kernel_rfl
theorem zHV : Nat.blt (19 * K) (80 * (10 ^ kT * 10)) = true := by kernel_rfl
theorem zVJ {a b : Nat} (h : a.blt b = true) : a < b := by
 rw [Nat.blt_eq] at h;exact h
theorem far_K : ∃ T t : Nat,T = 10 ^ t ∧ t = 322 ∧ 19 * T < K ∧ 4 * (T * 10) < K ∧ 19 * K < 80 * (T * 10) := ⟨10 ^ kT,kT,rfl,rfl,zVJ zHX,zVJ zHW,zVJ zHV⟩
theorem zGi {a R S D U p q : Nat} {ev : Bool} (h : Sp a R S D U) (ha : 0 < a) (hf : Far (R * 10 ^ p) (U * 10 ^ p) (S * 10 ^ q) ev) (hlt : R * 10 ^ p < S * 10 ^ q) : 19 * (S * 10 ^ q) < 20 * (R * 10 ^ p) := by
 have hle : S * 10 ^ q ≤ R * 10 ^ p + U * 10 ^ p := by
  rcases hf with hf | hf
  ·exact Nat.le_of_lt hf
  ·exact Nat.le_of_eq hf.1
 have hUp : 0 < U * 10 ^ p := Nat.mul_pos (sp_U h) (zQD p);obtain ⟨f,f0,f1,f2,_,f3,f4⟩ := zWe h ha;by_cases h10 : 10 ≤ a
 ·have h20 : 20 * (U * 10 ^ p) ≤ R * 10 ^ p := by
   rw [← Nat.mul_assoc,f2];exact Nat.mul_le_mul_right _ (Nat.mul_le_mul_right _ (by have := f4 h10;omega))
  omega
 ·have hfa := f3 (by omega);have u0 : units a = a := zZT (by omega);have u1 : units (a + 1) = a + 1 := zZT (by omega);have hR := h.hR;have hU := h.hU;rw [u0] at hR;rw [u0,u1,Nat.add_sub_cancel_left,Nat.one_mul] at hU
  have g1 : 2 * a * 10 ^ p < K * 10 ^ q := by
   refine Nat.lt_of_mul_lt_mul_left (a := S) ?_
   have : R * 10 ^ p * K < S * 10 ^ q * K := Nat.mul_lt_mul_of_pos_right hlt K_pos;rw [Nat.mul_right_comm,hR] at this;(have e1 : S * (2 * a * 10 ^ p) = 2 * a * S * 10 ^ p := by rw [Nat.mul_left_comm,← Nat.mul_assoc,Nat.mul_assoc (2 * a) S,Nat.mul_comm S,← Nat.mul_assoc]);(have e2 : S * (K * 10 ^ q) = S * 10 ^ q * K := by rw [Nat.mul_comm K,Nat.mul_assoc]);rw [e1,e2];exact this
  have g2 : K * 10 ^ q ≤ (2 * a + 1) * 10 ^ p := by
   refine Nat.le_of_mul_le_mul_left (c := S) ?_ h.hS;have : S * 10 ^ q * K ≤ (R * 10 ^ p + U * 10 ^ p) * K := Nat.mul_le_mul_right _ hle;rw [Nat.add_mul,Nat.mul_right_comm R,Nat.mul_right_comm U,hR,hU] at this
   have e1 : S * ((2 * a + 1) * 10 ^ p) = 2 * a * S * 10 ^ p + S * 10 ^ p := by
    rw [Nat.add_mul,Nat.one_mul,Nat.mul_add,← Nat.mul_assoc S (2 * a),Nat.mul_comm S (2 * a)]
   (have e2 : S * (K * 10 ^ q) = S * 10 ^ q * K := by rw [Nat.mul_comm K,Nat.mul_assoc]);rw [e1,e2];exact this
  obtain ⟨T0,t0,hT0,ht0,k1,k2,k3⟩ := far_K
  have hT1 : 0 < T0 := by rw [hT0];exact zQD _
  have hpq : q ≤ p := by
   apply Nat.le_of_not_lt;intro hqp;have : (2 * a + 1) * 10 ^ p ≤ 19 * 10 ^ q := Nat.mul_le_mul (by omega) (Nat.pow_le_pow_right (by decide) (by omega));have g3 : K * 10 ^ q ≤ 19 * 10 ^ q := Nat.le_trans g2 this;have g4 : K ≤ 19 := Nat.le_of_mul_le_mul_right g3 (zQD q);omega
  obtain ⟨g,rfl⟩ : ∃ g,p = g + q := ⟨p - q,by omega⟩;rw [Nat.pow_add,← Nat.mul_assoc] at g1 g2;have g1' : 2 * a * 10 ^ g < K := Nat.lt_of_mul_lt_mul_right g1;have g2' : K ≤ (2 * a + 1) * 10 ^ g := Nat.le_of_mul_le_mul_right g2 (zQD q)
  have hg1 : t0 + 1 ≤ g := by
   apply Nat.le_of_not_lt;intro hlt;have : (2 * a + 1) * 10 ^ g ≤ 19 * 10 ^ t0 := Nat.mul_le_mul (by omega) (Nat.pow_le_pow_right (by decide) (by omega));rw [← hT0] at this;omega
  have hg2 : g = t0 + 1 := by
   apply Nat.le_antisymm _ hg1;apply Nat.le_of_not_lt;intro hlt;have : 2 * 10 ^ (t0 + 2) ≤ 2 * a * 10 ^ g := Nat.mul_le_mul (by omega) (Nat.pow_le_pow_right (by decide) (by omega));rw [Nat.pow_succ,Nat.pow_succ,← hT0] at this;omega
  rw [hg2,Nat.pow_succ,← hT0] at g1' g2'
  have ha2 : a = 2 := by
   have c1 : ¬ 3 ≤ a := by
    intro hc;have : 6 * (T0 * 10) ≤ 2 * a * (T0 * 10) := Nat.mul_le_mul_right _ (by omega);omega
   have c2 : ¬ a ≤ 1 := by
    intro hc;have : (2 * a + 1) * (T0 * 10) ≤ 3 * (T0 * 10) := Nat.mul_le_mul_right _ (by omega);omega
   omega
  refine Nat.lt_of_mul_lt_mul_right (a := K) ?_
  have e5 : 20 * (R * 10 ^ (g + q)) * K = S * 10 ^ q * (80 * (T0 * 10)) := by
   rw [Nat.mul_assoc 20,Nat.mul_right_comm R,hR,ha2,Nat.pow_add,hg2,Nat.pow_succ,← hT0,show 20 * (2 * 2 * S * (T0 * 10 * 10 ^ q)) = 80 * (S * (T0 * 10 * 10 ^ q)) by rw [Nat.mul_assoc (2 * 2),← Nat.mul_assoc 20]];rw [Nat.mul_left_comm _ 80,Nat.mul_assoc S,Nat.mul_comm (10 ^ q)]
  have e6 : 19 * (S * 10 ^ q) * K = S * 10 ^ q * (19 * K) := by
   rw [Nat.mul_comm 19,Nat.mul_assoc]
  rw [e5,e6];exact Nat.mul_lt_mul_of_pos_left k3 (Nat.mul_pos h.hS (zQD q))
def Least (x y : Nat) (e : Int) : Prop := y * 10 ^ e.toNat ≤ x * 10 ^ (-e).toNat
instance (x y : Nat) (e : Int) : Decidable (Least x y e) := by unfold Least;infer_instance
theorem zYB {x y R S p q : Nat} {e : Int} (hx : 0 < x) (hy : 0 < y) (hS : 0 < S) (hR : 0 < R) (h : x * S = R * y) (he : e = (q : Int) - p) : Least x y e ↔ S * 10 ^ q ≤ R * 10 ^ p := by
 unfold Least
 have h1 : x * 10 ^ (-e).toNat < y * 10 ^ e.toNat ↔ R * 10 ^ p < S * 10 ^ q := by
  have e1 : 10 ^ (-e).toNat * 10 ^ q = 10 ^ e.toNat * 10 ^ p := by
   rw [← Nat.pow_add,← Nat.pow_add]
   congr 1
   omega
  rw [zYv (zQD _) (zQD _) (zQD _) (zQD _) e1];rw [Nat.mul_comm x,Nat.mul_comm y,Nat.mul_comm R,Nat.mul_comm S];exact zYv hx hS hy hR (by rw [h,Nat.mul_comm])
 omega
theorem zYq {x y : Nat} {e e' : Int} (hx : 0 < x) (hy : 0 < y) (h : Least x y e') (hle : e ≤ e') : Least x y e := by
 (have e1 : e' = ((e' + ((-e).toNat + (-e').toNat : Nat)).toNat : Int) - ((-e).toNat + (-e').toNat : Nat) := by omega);(have e2 : e = ((e + ((-e).toNat + (-e').toNat : Nat)).toNat : Int) - ((-e).toNat + (-e').toNat : Nat) := by omega);rw [zYB hx hy hy hx rfl e1] at h;rw [zYB hx hy hy hx rfl e2];exact Nat.le_trans (Nat.mul_le_mul_left _ (Nat.pow_le_pow_right (by decide) (by omega))) h
theorem sp_R {a R S D U : Nat} (h : Sp a R S D U) (ha : 0 < a) : 0 < R := by
 have := sp_U h;have := sp_UR h ha;omega
theorem powers {a R S D U p q x y : Nat} {ev : Bool} {e : Int} (h : Sp a R S D U) (ha : 0 < a) (hx : 0 < x) (hy : 0 < y) (hxy : x * S = R * y)
  (hf : Far (R * 10 ^ p) (U * 10 ^ p) (S * 10 ^ q) ev) (hn : ¬ Far (R * 10 ^ p) (U * 10 ^ p) (S * 10 ^ (q + 1)) ev) (h1 : Least x y e) (h2 : ¬ Least x y (e + 1)) :
  (e = (q : Int) - p ∧ S * 10 ^ q ≤ R * 10 ^ p) ∨ (e + 1 = (q : Int) - p ∧ R * 10 ^ p < S * 10 ^ q) := by
 have hR := sp_R h ha;have hU := sp_U h;have hUR := sp_UR h ha
 have c1 : e ≤ (q : Int) - p := by
  apply Int.le_of_not_gt;intro hc;have := zYq (e := (q : Int) - p + 1) hx hy h1 (by omega);rw [zYB (q := q + 1) (p := p) hx hy h.hS hR hxy (by omega)] at this;apply hn;left;have : 0 < U * 10 ^ p := Nat.mul_pos hU (zQD p);omega
 have c2 : (q : Int) - p ≤ e + 1 := by
  apply Int.le_of_not_gt;intro hc;(have g : ¬ Least x y ((q : Int) - p - 1) := fun g => h2 (zYq hx hy g (by omega)));rw [zYB (q := q) (p := p + 1) hx hy h.hS hR hxy (by omega),Nat.pow_succ,← Nat.mul_assoc] at g
  have hle : S * 10 ^ q ≤ R * 10 ^ p + U * 10 ^ p := by
   rcases hf with hf | hf
   ·exact Nat.le_of_lt hf
   ·exact Nat.le_of_eq hf.1
  have : U * 10 ^ p ≤ R * 10 ^ p := Nat.mul_le_mul_right _ (by omega);omega
 by_cases hc : e = (q : Int) - p
 ·left;exact ⟨hc,(zYB hx hy h.hS hR hxy hc).mp h1⟩
 ·right;(have he : e + 1 = (q : Int) - p := by omega);refine ⟨he,?_⟩;rw [zYB hx hy h.hS hR hxy he] at h2;omega
def Stop (ρ dn up s : Nat) (ev : Bool) : Prop := Low ρ dn ev ∨ Far ρ up s ev
instance (ρ dn up s : Nat) (ev : Bool) : Decidable (Stop ρ dn up s ev) := by unfold Stop;infer_instance
def pickX (Q ρ dn up s : Nat) (ev : Bool) : Nat := if Far ρ up s ev ∧ (¬ Low ρ dn ev ∨ s < 2 * ρ ∨ (2 * ρ = s ∧ Q % 2 = 1)) then Q + 1 else Q
def gen (r s dn up : Nat) (ev : Bool) : Nat → Nat → Nat × Nat
 | 0,m => (m,0)
 | n + 1,m => if Stop (r * 10 ^ m % s) (dn * 10 ^ m) (up * 10 ^ m) s ev then (m,pickX (r * 10 ^ m / s) (r * 10 ^ m % s) (dn * 10 ^ m) (up * 10 ^ m) s ev) else gen r s dn up ev n (m + 1)
theorem zYQ {a R S D U p q : Nat} (ev : Bool) (h : Sp a R S D U) (ha : 0 < a) (hge : S * 10 ^ q ≤ R * 10 ^ p) : Stop (R * 10 ^ p * 10 ^ 16 % (S * 10 ^ q)) (D * 10 ^ p * 10 ^ 16) (U * 10 ^ p * 10 ^ 16) (S * 10 ^ q) ev := by
 obtain ⟨f,f0,f1,f2,f3,_,_⟩ := zWe h ha;have hs : 0 < S * 10 ^ q := Nat.mul_pos h.hS (zQD q);have hρ := Nat.mod_lt (R * 10 ^ p * 10 ^ 16) hs;obtain ⟨s,hse⟩ : ∃ s,s = S * 10 ^ q := ⟨_,rfl⟩;rw [← hse] at hs hρ hge ⊢;obtain ⟨ρ,hρe⟩ : ∃ ρ,ρ = R * 10 ^ p * 10 ^ 16 % s := ⟨_,rfl⟩;rw [← hρe] at hρ ⊢;obtain ⟨u,hu⟩ : ∃ u,u = U * 10 ^ p * 10 ^ 16 := ⟨_,rfl⟩
 have hr : R * 10 ^ p * 10 ^ 16 = 2 * f * u := by
  rw [f2,hu];simp only [Nat.mul_assoc]
 (have hb : s * 10 ^ 16 ≤ 2 * f * u := by rw [← hr];exact Nat.mul_le_mul_right _ hge);(have hu0 : 0 < u := by rw [hu];exact Nat.mul_pos (Nat.mul_pos (sp_U h) (zQD _)) (zQD _));rw [← hu];(have e16 : (10 : Nat) ^ 16 = 10000000000000000 := by decide);rw [e16] at hb;unfold Stop Low Far;rcases f3 with f3 | ⟨f3,f4⟩
 ·(have hd : D * 10 ^ p * 10 ^ 16 = u := by rw [f3,hu]);rw [hd];have : 2 * f * u ≤ 2 * 9007199254740991 * u := Nat.mul_le_mul_right _ (by omega);omega
 ·rw [f3] at hb;omega
theorem zBj (r s dn up : Nat) (ev : Bool) : ∀ (n m : Nat),(∃ j,m ≤ j ∧ j < m + n ∧ Stop (r * 10 ^ j % s) (dn * 10 ^ j) (up * 10 ^ j) s ev) →
  m ≤ (gen r s dn up ev n m).1 ∧ (gen r s dn up ev n m).1 < m + n ∧ (gen r s dn up ev n m).2 = pickX (r * 10 ^ (gen r s dn up ev n m).1 / s) (r * 10 ^ (gen r s dn up ev n m).1 % s) (dn * 10 ^ (gen r s dn up ev n m).1) (up * 10 ^ (gen r s dn up ev n m).1) s ev ∧ Stop (r * 10 ^ (gen r s dn up ev n m).1 % s) (dn * 10 ^ (gen r s dn up ev n m).1) (up * 10 ^ (gen r s dn up ev n m).1) s ev
 | 0,m,h => by obtain ⟨j,h1,h2,_⟩ := h;omega
 | n + 1,m,h => by
  rw [gen];by_cases hs : Stop (r * 10 ^ m % s) (dn * 10 ^ m) (up * 10 ^ m) s ev
  ·rw [if_pos hs];exact ⟨Nat.le_refl _,by show m < m + (n + 1);omega,rfl,hs⟩
  ·rw [if_neg hs];obtain ⟨j,h1,h2,h3⟩ := h;(have hj : m ≠ j := fun hj => hs (hj ▸ h3));obtain ⟨g1,g2,g3,g4⟩ := zBj r s dn up ev n (m + 1) ⟨j,by omega,by omega,h3⟩;exact ⟨by omega,by omega,g3,g4⟩
end Go.Proofs.YtflcanpajgpghaaGreatDoor.Flo
end
section
namespace Go.Proofs.YtflcanpajgpghaaGreatDoor.Pure
open Go.RowKit Go.Proofs.YtflcanpajgpghaaGreatDoor.Pr Go.Proofs.YtflcanpajgpghaaGreatDoorW.PrintWords Go.Proofs.YtflcanpajgpghaaGreatDoorW.PrintLast Go.Proofs.YtflcanpajgpghaaGreatDoorW.PrintMore Go.Proofs.YtflcanpajgpghaaGreatDoor.Flo
theorem zXw {x m : Nat} (h : x < 2 ^ m) (hm : m ≤ 1000000) : (toB x).length ≤ 1048000 := by
 have := zXL h;omega
theorem zHR (x : Nat) (h : (toB x).length ≤ 1047000) : Ev (fun k => b_up.f k (toB x) 1) (toB (x * 2)) := by
 have hup := up_ev x 1 (.inr (by decide)) (by omega);rw [Nat.pow_one] at hup;exact hup
theorem zYP (x : Nat) (h : (toB x).length ≤ 1048576) : Ev (fun k => b_times.f k (toB x) 10 0) (toB (x * 10)) := by
 have := zZN x 10 0 (by decide) (by decide) h;exact this
theorem zZB (r up s m : Nat) (ev : Bool) (hm : m ≤ 900000) (hr : r < 2 ^ m) (hu : up < 2 ^ m) (hs : s < 2 ^ m) : Ev (fun k => dec_high.f k (toB s) (toB r) (toB up) ev) (decide (Far r up s ev)) := by
 (have hsum : r + up < 2 ^ (m + 1) := by rw [Nat.pow_succ];omega);have l1 := zXw hr (by omega);have l2 := zXw hu (by omega);have l3 := zXw hs (by omega);have l4 := zXw hsum (by omega);obtain ⟨K1,h1⟩ := zHn r up (by omega) (by omega);obtain ⟨c,⟨K2,h2⟩,c1,c2⟩ := zJk (r + up) s (by omega) (by omega);refine ⟨K1 + K2,fun k hk => ?_⟩;dsimp only;(try dsimp only at h1);(try dsimp only at h2);(try dsimp only at h3);(try dsimp only at h4);rw [dec_high.f,h1 k (by omega),Option.bind_some,h2 k (by omega),Option.bind_some]
 congr 1
 unfold Far
 cases ev
 ·rw [Bool.false_and,Bool.or_false]
  refine decide_eq_decide.2 ?_
  simp only [Bool.false_eq_true,and_false,or_false];omega
 ·rw [Bool.true_and,← Bool.decide_or]
  refine decide_eq_decide.2 ?_
  simp only [and_true];omega
def outF (mx : Nat × Nat) (e : Int) : ByteArray × Int := (strOfNums (ds (strip mx.2)),if mx.2 = 10 ^ (mx.1 + 1) then e + 1 else e)
theorem zVp (m y t : Nat) (e : Int) (hy : y < 10 ^ m) (ht : t ≤ 10) (hX : 10 ^ m ≤ 10 * y + t) (hm : m ≤ 1000) (he : -100000 ≤ e) (he2 : e ≤ 100000) (z : Int) (hz : z = ((48 + t : Nat) : Int)) :
  Ev (fun k => (dec_tidy.f k (dl m y ++ [z]) e).bind fun b => some (b.1,b.2)) (outF (m,10 * y + t) e) := by
 have h := zHd m y t e hy ht hX hm he he2;rw [hz];exact Ev.bind h (Ev.now _)
theorem zVN (n : Nat) (h : n ≤ 9) : (48 + (n : Int)) % 256 = ((48 + n : Nat) : Int) := by omega
theorem zGC (n : Nat) (h : n ≤ 9) : (48 + (((n : Int) + 1) % 256)) % 256 = ((48 + (n + 1) : Nat) : Int) := by omega
theorem zFa (m Q ρ dn up s M : Nat) (ev : Bool) (e : Int) (hM : M ≤ 800000) (hρ : ρ < 2 ^ M) (hs : s < 2 ^ M) (hQ : Q / 10 < 10 ^ m) (hm : m ≤ 1000) (he : -100000 ≤ e) (he2 : e ≤ 100000)
  (hstop : Stop ρ dn up s ev) (hX : 10 ^ m ≤ pickX Q ρ dn up s ev) :
  Ev (fun k => d_s.j5 k e (dl m (Q / 10)) ((Q % 10 : Nat) : Int) (decide (Low ρ dn ev)) (decide (Far ρ up s ev)) (toB ρ) (toB s) (toB dn) (toB up) ev) (outF (m,pickX Q ρ dn up s ev) e) := by
 (have hn : Q % 10 ≤ 9 := by have := Nat.mod_lt Q (show 0 < 10 by decide);omega);have hQe : 10 * (Q / 10) + Q % 10 = Q := Nat.div_add_mod Q 10;have hup := zHR ρ (by have := zXL hρ;omega);have l4 := zXw (show ρ * 2 < 2 ^ (M + 1) by rw [Nat.pow_succ];omega) (by omega);have l3 := zXw hs (by omega);obtain ⟨K1,h1⟩ := hup;obtain ⟨c,⟨K2,h2⟩,c1,c2⟩ := zJk (ρ * 2) s (by omega) (by omega);have hlen : (dl m (Q / 10)).length < 140737488355328 := by rw [zQZ];omega
 have main : Ev (fun k => d_s.j6 k e (dl m (Q / 10)) ((Q % 10 : Nat) : Int) (decide (Low ρ dn ev)) (decide (Far ρ up s ev)) false (toB ρ) (toB s) (toB dn) (toB up) ev) (outF (m,pickX Q ρ dn up s ev) e) := by
  have hodd : Int.tmod ((Q % 10 : Nat) : Int) 2 = 1 ↔ Q % 2 = 1 := by
   rw [Int.tmod_eq_emod_of_nonneg (by omega)];omega
  have up1 : pickX Q ρ dn up s ev = Q + 1 → Ev (fun k => (dec_tidy.f k (dl m (Q / 10) ++ [(48 + ((((Q % 10 : Nat) : Int) + 1) % 256)) % 256]) e).bind fun b => some (b.1,b.2)) (outF (m,pickX Q ρ dn up s ev) e) := by
   intro hx;have := zVp m (Q / 10) (Q % 10 + 1) e hQ (by omega) (by omega) hm he he2 _ (zGC (Q % 10) hn);rw [show 10 * (Q / 10) + (Q % 10 + 1) = pickX Q ρ dn up s ev by omega] at this;exact this
  have up0 : pickX Q ρ dn up s ev = Q → Ev (fun k => (dec_tidy.f k (dl m (Q / 10) ++ [(48 + ((Q % 10 : Nat) : Int)) % 256]) e).bind fun b => some (b.1,b.2)) (outF (m,pickX Q ρ dn up s ev) e) := by
   intro hx;have := zVp m (Q / 10) (Q % 10) e hQ (by omega) (by omega) hm he he2 _ (zVN (Q % 10) hn);rw [show 10 * (Q / 10) + Q % 10 = pickX Q ρ dn up s ev by omega] at this;exact this
  by_cases hf : Far ρ up s ev
  ·by_cases hl : Low ρ dn ev
   ·by_cases hc : c > 0
    ·obtain ⟨K3,h3⟩ := up1 (by unfold pickX;rw [if_pos ⟨hf,.inr (.inl (by omega))⟩]);refine ⟨K1 + K2 + K3 + 1,fun k hk => ?_⟩;dsimp only;(try dsimp only at h1);(try dsimp only at h2);(try dsimp only at h3);(try dsimp only at h4);obtain ⟨k',rfl⟩ : ∃ k',k = k' + 1 := ⟨k - 1,by omega⟩;rw [d_s.j6,if_neg (by decide),h1 k' (by omega),Option.bind_some,h2 k' (by omega),Option.bind_some,if_pos (decide_eq_true hf),if_pos (decide_eq_true hl),if_pos hc,if_pos hlen];exact h3 k' (by omega)
    ·by_cases hc0 : c = 0
     ·by_cases ho : Int.tmod ((Q % 10 : Nat) : Int) 2 = 1
      ·obtain ⟨K3,h3⟩ := up1 (by unfold pickX;rw [if_pos ⟨hf,.inr (.inr ⟨by omega,hodd.1 ho⟩)⟩]);refine ⟨K1 + K2 + K3 + 1,fun k hk => ?_⟩;dsimp only;(try dsimp only at h1);(try dsimp only at h2);(try dsimp only at h3);(try dsimp only at h4);obtain ⟨k',rfl⟩ : ∃ k',k = k' + 1 := ⟨k - 1,by omega⟩;rw [d_s.j6,if_neg (by decide),h1 k' (by omega),Option.bind_some,h2 k' (by omega),Option.bind_some,if_pos (decide_eq_true hf),if_pos (decide_eq_true hl),if_neg hc,if_pos hc0,if_pos ho,if_pos hlen];exact h3 k' (by omega)
      ·obtain ⟨K3,h3⟩ := up0 (by
        unfold pickX;rw [if_neg];rintro ⟨_,h | h | ⟨_,h⟩⟩
        ·exact h hl
        ·omega
        ·exact ho (hodd.2 h))
       refine ⟨K1 + K2 + K3 + 1,fun k hk => ?_⟩;dsimp only;(try dsimp only at h1);(try dsimp only at h2);(try dsimp only at h3);(try dsimp only at h4);obtain ⟨k',rfl⟩ : ∃ k',k = k' + 1 := ⟨k - 1,by omega⟩;rw [d_s.j6,if_neg (by decide),h1 k' (by omega),Option.bind_some,h2 k' (by omega),Option.bind_some,if_pos (decide_eq_true hf),if_pos (decide_eq_true hl),if_neg hc,if_pos hc0,if_neg ho,if_pos hlen];exact h3 k' (by omega)
     ·obtain ⟨K3,h3⟩ := up0 (by
       unfold pickX;rw [if_neg];rintro ⟨_,h | h | ⟨h,_⟩⟩
       ·exact h hl
       ·omega
       ·omega)
      refine ⟨K1 + K2 + K3 + 1,fun k hk => ?_⟩;dsimp only;(try dsimp only at h1);(try dsimp only at h2);(try dsimp only at h3);(try dsimp only at h4);obtain ⟨k',rfl⟩ : ∃ k',k = k' + 1 := ⟨k - 1,by omega⟩;rw [d_s.j6,if_neg (by decide),h1 k' (by omega),Option.bind_some,h2 k' (by omega),Option.bind_some,if_pos (decide_eq_true hf),if_pos (decide_eq_true hl),if_neg hc,if_neg hc0,if_pos hlen];exact h3 k' (by omega)
   ·obtain ⟨K3,h3⟩ := up1 (by unfold pickX;rw [if_pos ⟨hf,.inl hl⟩]);refine ⟨K1 + K2 + K3 + 1,fun k hk => ?_⟩;dsimp only;(try dsimp only at h1);(try dsimp only at h2);(try dsimp only at h3);(try dsimp only at h4);obtain ⟨k',rfl⟩ : ∃ k',k = k' + 1 := ⟨k - 1,by omega⟩;rw [d_s.j6,if_neg (by decide),h1 k' (by omega),Option.bind_some,h2 k' (by omega),Option.bind_some,if_pos (decide_eq_true hf),if_neg (by rw [decide_eq_false hl];decide),if_pos hlen];exact h3 k' (by omega)
  ·obtain ⟨K3,h3⟩ := up0 (by unfold pickX;rw [if_neg (fun h => hf h.1)]);refine ⟨K1 + K2 + K3 + 1,fun k hk => ?_⟩;dsimp only;(try dsimp only at h1);(try dsimp only at h2);(try dsimp only at h3);(try dsimp only at h4);obtain ⟨k',rfl⟩ : ∃ k',k = k' + 1 := ⟨k - 1,by omega⟩;rw [d_s.j6,if_neg (by decide),h1 k' (by omega),Option.bind_some,h2 k' (by omega),Option.bind_some,if_neg (by rw [decide_eq_false hf];decide),if_pos hlen];exact h3 k' (by omega)
 refine Ev.step (fun k => ?_) main;rw [d_s.j5];by_cases hl : Low ρ dn ev
 ·rw [if_pos (decide_eq_true hl)]
 ·have hf : Far ρ up s ev := hstop.resolve_left hl;rw [if_neg (by rw [decide_eq_false hl];decide),decide_eq_true hf]
  rfl
theorem on_ev (m Q ρ dn up s M : Nat) (ev : Bool) (e : Int) (r : ByteArray × Int) (hM : M ≤ 800000) (hρ : ρ < 2 ^ M) (hd : dn < 2 ^ M) (hu : up < 2 ^ M) (hm : m ≤ 1000) (hstop : ¬ Stop ρ dn up s ev)
  (h : Ev (fun k => d_s.l2 k e (dl (m + 1) Q) (toB (ρ * 10)) (toB s) (toB (dn * 10)) (toB (up * 10)) ev) r) :
  Ev (fun k => d_s.j5 k e (dl m (Q / 10)) ((Q % 10 : Nat) : Int) (decide (Low ρ dn ev)) (decide (Far ρ up s ev)) (toB ρ) (toB s) (toB dn) (toB up) ev) r := by
 (have hn : Q % 10 ≤ 9 := by have := Nat.mod_lt Q (show 0 < 10 by decide);omega);(have hl : ¬ Low ρ dn ev := fun h => hstop (.inl h));(have hf : ¬ Far ρ up s ev := fun h => hstop (.inr h));have l1 := zXw hρ (by omega);have l2 := zXw hd (by omega);have l3 := zXw hu (by omega);obtain ⟨K1,h1⟩ := zYP ρ (by omega);obtain ⟨K2,h2⟩ := zYP dn (by omega);obtain ⟨K3,h3⟩ := zYP up (by omega);obtain ⟨K4,h4⟩ := h;have hlen : (dl m (Q / 10)).length < 140737488355328 := by rw [zQZ];omega
 have eL : dl m (Q / 10) ++ [(48 + ((Q % 10 : Nat) : Int)) % 256] = dl (m + 1) Q := by
  rw [zVN _ hn,dl]
  rfl
 refine ⟨K1 + K2 + K3 + K4 + 2,fun k hk => ?_⟩;dsimp only;(try dsimp only at h1);(try dsimp only at h2);(try dsimp only at h3);(try dsimp only at h4);obtain ⟨k',rfl⟩ : ∃ k',k = k' + 1 + 1 := ⟨k - 2,by omega⟩;have g1 := h1 k' (by omega);have g2 := h2 k' (by omega);have g3 := h3 k' (by omega);have g4 := h4 k' (by omega);rw [d_s.j5,if_neg (by rw [decide_eq_false hl];decide),decide_eq_false hf,d_s.j6,if_pos (show (!false) = true from rfl),if_pos hlen];rw [g1,Option.bind_some,g2,Option.bind_some,g3,Option.bind_some,eL];exact g4
theorem zBm (ρ dn up s M : Nat) (ev : Bool) (e : Int) (x8 : List Int) (n : Nat) (hn : n ≤ 9) (r : ByteArray × Int) (hM : M ≤ 800000) (hρ : ρ < s) (hs : 16 * s < 2 ^ M) (hd : dn < 2 ^ M) (hu : up < 2 ^ M)
  (h : Ev (fun k => d_s.j5 k e x8 (n : Int) (decide (Low ρ dn ev)) (decide (Far ρ up s ev)) (toB ρ) (toB s) (toB dn) (toB up) ev) r) :
  ∀ d c : Nat,c + d = n → Ev (fun k => d_s.l3 k e x8 (c : Int) (toB (d * s + ρ)) (toB s) (toB dn) (toB up) ev) r
 | 0,c,hc => by
  (obtain rfl : c = n := by omega);rw [Nat.zero_mul,Nat.zero_add];have l1 := zXw (show ρ < 2 ^ M by omega) (by omega);have l2 := zXw (show s < 2 ^ M by omega) (by omega);have l3 := zXw hd (by omega);obtain ⟨c1,⟨K1,h1⟩,a1,a2⟩ := zJk ρ s (by omega) (by omega);obtain ⟨c2,⟨K2,h2⟩,b1,b2⟩ := zJk ρ dn (by omega) (by omega);obtain ⟨K3,h3⟩ := zZB ρ up s M ev (by omega) (by omega) hu (by omega);obtain ⟨K4,h4⟩ := h;refine ⟨K1 + K2 + K3 + K4 + 1,fun k hk => ?_⟩;dsimp only;(try dsimp only at h1);(try dsimp only at h2);(try dsimp only at h3);(try dsimp only at h4);obtain ⟨k',rfl⟩ : ∃ k',k = k' + 1 := ⟨k - 1,by omega⟩;have g4 := h4 k' (by omega);rw [d_s.l3,h1 k' (by omega),Option.bind_some,if_neg (by omega),h2 k' (by omega),Option.bind_some,h3 k' (by omega),Option.bind_some,Option.bind_some,Option.bind_some];by_cases hlt : c2 < 0
  ·rw [if_pos hlt];rw [decide_eq_true (show Low ρ dn ev from .inl (b1.1 hlt))] at g4;exact g4
  ·rw [if_neg hlt]
   cases ev with
   | true =>
    rw [if_pos rfl]
    have e1 : (c2 == 0) = decide (Low ρ dn true) := by
     rw [show (c2 == 0) = decide (c2 = 0) from rfl]
     refine decide_eq_decide.2 ?_
     unfold Low;simp only [and_true];omega
    rw [e1];exact g4
   | false =>
    rw [if_neg (by decide)]
    have e1 : decide (Low ρ dn false) = false := by
     refine decide_eq_false ?_
     unfold Low;simp only [Bool.false_eq_true,and_false,or_false];omega
    rw [e1] at g4;exact g4
 | d + 1,c,hc => by
  have hds : d ≤ 9 := by omega
  have hsum : (d + 1) * s + ρ < 2 ^ M := by
   have : (d + 1) * s ≤ 10 * s := Nat.mul_le_mul_right _ (by omega);omega
  have l1 := zXw hsum (by omega);have l2 := zXw (show s < 2 ^ M by omega) (by omega);(have hge : s ≤ (d + 1) * s + ρ := by rw [Nat.succ_mul];omega);obtain ⟨c1,⟨K1,h1⟩,a1,a2⟩ := zJk ((d + 1) * s + ρ) s (by omega) (by omega);obtain ⟨K2,h2⟩ := zGk ((d + 1) * s + ρ) s hge (by omega);obtain ⟨K3,h3⟩ := zBm ρ dn up s M ev e x8 n hn r hM hρ hs hd hu h d (c + 1) (by omega);refine ⟨K1 + K2 + K3 + 1,fun k hk => ?_⟩;dsimp only;(try dsimp only at h1);(try dsimp only at h2);(try dsimp only at h3);(try dsimp only at h4);obtain ⟨k',rfl⟩ : ∃ k',k = k' + 1 := ⟨k - 1,by omega⟩;have g2 := h2 k' (by omega);rw [show (d + 1) * s + ρ - s = d * s + ρ by rw [Nat.succ_mul];omega] at g2;rw [d_s.l3,h1 k' (by omega),Option.bind_some,if_pos (by omega),g2,Option.bind_some,show (((c : Int) + 1) % 256) = ((c + 1 : Nat) : Int) by omega];exact h3 k' (by omega)
theorem zBC (T s : Nat) (hs : 0 < s) : T * 10 / s / 10 = T / s ∧ (T * 10 / s % 10) * s + T * 10 % s = (T % s) * 10 := by
 have hρ := Nat.mod_lt T hs;have hT := Nat.div_add_mod T s;have h10 := Nat.div_add_mod (T % s * 10) s
 have e1 : T * 10 = T % s * 10 + s * (10 * (T / s)) := by
  rw [Nat.mul_left_comm];omega
 have hlt : T % s * 10 / s < 10 := Nat.div_lt_of_lt_mul (by omega);(have e2 : T * 10 / s = T % s * 10 / s + 10 * (T / s) := by rw [e1,Nat.add_mul_div_left _ _ hs]);(have e3 : T * 10 % s = T % s * 10 % s := by rw [e1,Nat.add_mul_mod_self_left]);rw [e2,e3];obtain ⟨x,hx⟩ : ∃ x,x = T % s * 10 / s := ⟨_,rfl⟩;rw [← hx] at hlt h10 ⊢;generalize T / s = y;constructor
 ·omega
 ·rw [show (x + 10 * y) % 10 = x by omega,Nat.mul_comm];exact h10
theorem zGL {x a b M : Nat} (h : x * 10 ^ b < 2 ^ M) (hab : a ≤ b) : x * 10 ^ a < 2 ^ M := Nat.lt_of_le_of_lt (Nat.mul_le_mul_left _ (Nat.pow_le_pow_right (by decide) hab)) h
theorem zGR (r s dn up M : Nat) (ev : Bool) (e : Int) (hs : 0 < s) (hr : r < 10 * s) (hM : M ≤ 800000) (hsM : 16 * s < 2 ^ M) (he : -100000 ≤ e) (he2 : e ≤ 100000) :
  ∀ n m : Nat,m + n ≤ 1000 → dn * 10 ^ (m + n) < 2 ^ M → up * 10 ^ (m + n) < 2 ^ M → (∃ j,m ≤ j ∧ j < m + n ∧ Stop (r * 10 ^ j % s) (dn * 10 ^ j) (up * 10 ^ j) s ev) →
  (s ≤ r ∨ (m = 0 ∧ Stop (r * 10 ^ 0 % s) (dn * 10 ^ 0) (up * 10 ^ 0) s ev ∧ 1 ≤ pickX (r * 10 ^ 0 / s) (r * 10 ^ 0 % s) (dn * 10 ^ 0) (up * 10 ^ 0) s ev)) →
  Ev (fun k => d_s.l2 k e (dl m (r * 10 ^ m / s / 10)) (toB ((r * 10 ^ m / s % 10) * s + r * 10 ^ m % s)) (toB s) (toB (dn * 10 ^ m)) (toB (up * 10 ^ m)) ev) (outF (gen r s dn up ev n m) e)
 | 0,m,_,_,_,h,_ => by obtain ⟨j,h1,h2,_⟩ := h;omega
 | n + 1,m,hmn,hd,hu,h,h0 => by
  have hρ := Nat.mod_lt (r * 10 ^ m) hs
  have hQ : r * 10 ^ m / s / 10 < 10 ^ m := by
   rw [Nat.div_div_eq_div_mul]
   refine Nat.div_lt_of_lt_mul ?_
   rw [Nat.mul_comm s 10];exact Nat.mul_lt_mul_of_pos_right hr (Nat.pow_pos (by decide))
  (have hn9 : r * 10 ^ m / s % 10 ≤ 9 := by have := Nat.mod_lt (r * 10 ^ m / s) (show 0 < 10 by decide);omega);have hdm := zGL hd (Nat.le_add_right m (n + 1));have hum := zGL hu (Nat.le_add_right m (n + 1))
  have main : Ev (fun k => d_s.j5 k e (dl m (r * 10 ^ m / s / 10)) ((r * 10 ^ m / s % 10 : Nat) : Int) (decide (Low (r * 10 ^ m % s) (dn * 10 ^ m) ev)) (decide (Far (r * 10 ^ m % s) (up * 10 ^ m) s ev)) (toB (r * 10 ^ m % s)) (toB s) (toB (dn * 10 ^ m)) (toB (up * 10 ^ m)) ev) (outF (gen r s dn up ev (n + 1) m) e) := by
   rw [gen];by_cases hst : Stop (r * 10 ^ m % s) (dn * 10 ^ m) (up * 10 ^ m) s ev
   ·rw [if_pos hst]
    refine zFa m (r * 10 ^ m / s) (r * 10 ^ m % s) (dn * 10 ^ m) (up * 10 ^ m) s M ev e hM (by omega) (by omega) hQ (by omega) he he2 hst ?_
    rcases h0 with h0 | ⟨h0,h1,h2⟩
    ·have : 10 ^ m ≤ r * 10 ^ m / s := by
      rw [Nat.le_div_iff_mul_le hs,Nat.mul_comm];exact Nat.mul_le_mul_right _ h0
     unfold pickX;split <;> omega
    ·rw [h0,Nat.pow_zero];rw [Nat.pow_zero] at h2;exact h2
   ·rw [if_neg hst];have hnx := zBC (r * 10 ^ m) s hs;rw [Nat.mul_assoc,← Nat.pow_succ] at hnx
    refine on_ev m (r * 10 ^ m / s) (r * 10 ^ m % s) (dn * 10 ^ m) (up * 10 ^ m) s M ev e _ hM (by omega) hdm hum (by omega) hst ?_
    have ih := zGR r s dn up M ev e hs hr hM hsM he he2 n (m + 1) (by omega) (by rw [show m + 1 + n = m + (n + 1) by omega];exact hd) (by rw [show m + 1 + n = m + (n + 1) by omega];exact hu) ?_ ?_
    ·rw [hnx.1,hnx.2,Nat.pow_succ,← Nat.mul_assoc,← Nat.mul_assoc] at ih;exact ih
    ·obtain ⟨j,h1,h2,h3⟩ := h;(have hj : m ≠ j := fun hj => hst (hj ▸ h3));exact ⟨j,by omega,by omega,h3⟩
    ·rcases h0 with h0 | ⟨h0,h1,_⟩
     ·exact .inl h0
     ·rw [h0] at hst;exact absurd h1 hst
  have hc := zBm (r * 10 ^ m % s) (dn * 10 ^ m) (up * 10 ^ m) s M ev e (dl m (r * 10 ^ m / s / 10)) (r * 10 ^ m / s % 10) hn9 _ hM hρ hsM hdm hum main (r * 10 ^ m / s % 10) 0 (by omega);refine Ev.step (fun k => ?_) hc;rw [d_s.l2]
  rfl
theorem zVs {r up s : Nat} {ev : Bool} : Far (r * 10) (up * 10) (s * 10) ev ↔ Far r up s ev := by
 unfold Far;constructor
 ·rintro (h | ⟨h,h2⟩)
  ·exact .inl (by omega)
  ·exact .inr ⟨by omega,h2⟩
 ·rintro (h | ⟨h,h2⟩)
  ·exact .inl (by omega)
  ·exact .inr ⟨by omega,h2⟩
theorem zBk {r up s : Nat} {ev : Bool} (h : ¬ Far r up s ev) : r + up ≤ s := Nat.le_of_not_lt (fun g => h (.inl g))
theorem zHD (R S D U q M : Nat) (ev : Bool) (hU : 0 < U) (hD : D ≤ R) (hM : M ≤ 800000) (hsM : 16 * (S * 10 ^ q) < 2 ^ M) (hq : q ≤ 50000) :
  ∀ d p : Nat,p + d ≤ 50000 → S * 10 ^ q ≤ R * 10 ^ (p + d) → ¬ Far (R * 10 ^ p) (U * 10 ^ p) (S * 10 ^ (q + 1)) ev →
  ∃ p',p ≤ p' ∧ p' ≤ p + d ∧ Far (R * 10 ^ p') (U * 10 ^ p') (S * 10 ^ q) ev ∧ ¬ Far (R * 10 ^ p') (U * 10 ^ p') (S * 10 ^ (q + 1)) ev ∧
   ∀ res,Ev (fun k => d_s.l2 k ((q : Int) - p') ([] : List Int) (toB (R * 10 ^ p')) (toB (S * 10 ^ q)) (toB (D * 10 ^ p')) (toB (U * 10 ^ p')) ev) res →
    Ev (fun k => d_s.l1 k ((q : Int) - p) (toB (R * 10 ^ p)) (toB (S * 10 ^ q)) (toB (D * 10 ^ p)) (toB (U * 10 ^ p)) ev) res := by
 intro d
 induction d with
 | zero =>
  intro p hp hd hn;have hle := zBk hn;rw [Nat.pow_succ,← Nat.mul_assoc] at hle;have hU2 : 0 < U * 10 ^ p := Nat.mul_pos hU (zQD p);have hf : Far (R * 10 ^ p) (U * 10 ^ p) (S * 10 ^ q) ev := .inl (by rw [Nat.add_zero] at hd;omega);refine ⟨p,Nat.le_refl _,Nat.le_refl _,hf,hn,fun res h => ?_⟩;obtain ⟨K1,h1⟩ := zZB (R * 10 ^ p) (U * 10 ^ p) (S * 10 ^ q) M ev (by omega) (by omega) (by omega) (by omega);obtain ⟨K2,h2⟩ := h;refine ⟨K1 + K2 + 1,fun k hk => ?_⟩;dsimp only at h1 h2 ⊢;obtain ⟨k',rfl⟩ : ∃ k',k = k' + 1 := ⟨k - 1,by omega⟩;rw [d_s.l1,h1 k' (by omega),Option.bind_some,if_pos (decide_eq_true hf)];exact h2 k' (by omega)
 | succ d ih =>
  intro p hp hd hn;have hle := zBk hn;rw [Nat.pow_succ,← Nat.mul_assoc] at hle;have hDp : D * 10 ^ p ≤ R * 10 ^ p := Nat.mul_le_mul_right _ hD;by_cases hf : Far (R * 10 ^ p) (U * 10 ^ p) (S * 10 ^ q) ev
  ·refine ⟨p,Nat.le_refl _,by omega,hf,hn,fun res h => ?_⟩;obtain ⟨K1,h1⟩ := zZB (R * 10 ^ p) (U * 10 ^ p) (S * 10 ^ q) M ev (by omega) (by omega) (by omega) (by omega);obtain ⟨K2,h2⟩ := h;refine ⟨K1 + K2 + 1,fun k hk => ?_⟩;dsimp only at h1 h2 ⊢;obtain ⟨k',rfl⟩ : ∃ k',k = k' + 1 := ⟨k - 1,by omega⟩;rw [d_s.l1,h1 k' (by omega),Option.bind_some,if_pos (decide_eq_true hf)];exact h2 k' (by omega)
  ·obtain ⟨p',g1,g2,g3,g4,g5⟩ := ih (p + 1) (by omega) (by rw [show p + 1 + d = p + (d + 1) by omega];exact hd) (by
    rw [Nat.pow_succ,Nat.pow_succ,← Nat.mul_assoc,← Nat.mul_assoc,← Nat.mul_assoc,zVs]
    exact hf)
   refine ⟨p',by omega,by omega,g3,g4,fun res h => ?_⟩;obtain ⟨K0,h0⟩ := g5 res h;obtain ⟨K1,h1⟩ := zZB (R * 10 ^ p) (U * 10 ^ p) (S * 10 ^ q) M ev (by omega) (by omega) (by omega) (by omega);obtain ⟨K2,h2⟩ := zYP (R * 10 ^ p) (by have := zXw (show R * 10 ^ p < 2 ^ M by omega) (by omega);omega);obtain ⟨K3,h3⟩ := zYP (D * 10 ^ p) (by have := zXw (show D * 10 ^ p < 2 ^ M by omega) (by omega);omega);obtain ⟨K4,h4⟩ := zYP (U * 10 ^ p) (by have := zXw (show U * 10 ^ p < 2 ^ M by omega) (by omega);omega);refine ⟨K0 + K1 + K2 + K3 + K4 + 1,fun k hk => ?_⟩;dsimp only at h0 h1 h2 h3 h4 ⊢;obtain ⟨k',rfl⟩ : ∃ k',k = k' + 1 := ⟨k - 1,by omega⟩;have g0 := h0 k' (by omega);rw [Nat.pow_succ,← Nat.mul_assoc,← Nat.mul_assoc,← Nat.mul_assoc] at g0;rw [d_s.l1,h1 k' (by omega),Option.bind_some,if_neg (by rw [decide_eq_false hf];decide),h2 k' (by omega),Option.bind_some,h3 k' (by omega),Option.bind_some,h4 k' (by omega),Option.bind_some,wrapB _ (by omega) (by omega),show (q : Int) - p - 1 = (q : Int) - ((p + 1 : Nat) : Int) by omega];exact g0
theorem zHQ (R S D U p M : Nat) (ev : Bool) (hM : M ≤ 800000) (hrM : R * 10 ^ p + U * 10 ^ p < 2 ^ M) (hp : p ≤ 50000) :
  ∀ d q : Nat,q + d ≤ 50000 → R * 10 ^ p + U * 10 ^ p < S * 10 ^ (q + 1 + d) → S * 10 ^ q < 2 ^ M →
  ∃ q',q ≤ q' ∧ q' ≤ q + d ∧ S * 10 ^ q' < 2 ^ M ∧ ¬ Far (R * 10 ^ p) (U * 10 ^ p) (S * 10 ^ (q' + 1)) ev ∧
   ∀ res,Ev (fun k => d_s.l1 k ((q' : Int) - p) (toB (R * 10 ^ p)) (toB (S * 10 ^ q')) (toB (D * 10 ^ p)) (toB (U * 10 ^ p)) ev) res →
    Ev (fun k => d_s.l0 k ((q : Int) - p) (toB (R * 10 ^ p)) (toB (S * 10 ^ q)) (toB (D * 10 ^ p)) (toB (U * 10 ^ p)) ev) res := by
 intro d
 induction d with
 | zero =>
  intro q hq hd hsM
  have hn : ¬ Far (R * 10 ^ p) (U * 10 ^ p) (S * 10 ^ (q + 1)) ev := by
   unfold Far;rw [Nat.add_zero] at hd;omega
  refine ⟨q,Nat.le_refl _,Nat.le_refl _,hsM,hn,fun res h => ?_⟩;(have e10 : S * 10 ^ q * 10 = S * 10 ^ (q + 1) := by rw [Nat.pow_succ,Nat.mul_assoc]);(have hb : S * 10 ^ (q + 1) < 2 ^ (M + 4) := by rw [← e10,Nat.pow_add];omega);obtain ⟨K1,h1⟩ := zZB (R * 10 ^ p) (U * 10 ^ p) (S * 10 ^ (q + 1)) (M + 4) ev (by omega) (by rw [Nat.pow_add];omega) (by rw [Nat.pow_add];omega) hb;obtain ⟨K2,h2⟩ := zYP (S * 10 ^ q) (by have := zXw hsM (by omega);omega);obtain ⟨K3,h3⟩ := h;refine ⟨K1 + K2 + K3 + 1,fun k hk => ?_⟩;dsimp only at h1 h2 h3 ⊢;obtain ⟨k',rfl⟩ : ∃ k',k = k' + 1 := ⟨k - 1,by omega⟩;rw [d_s.l0,h2 k' (by omega),Option.bind_some,e10,h1 k' (by omega),Option.bind_some,if_neg (by rw [decide_eq_false hn];decide)];exact h3 k' (by omega)
 | succ d ih =>
  intro q hq hd hsM;(have e10 : S * 10 ^ q * 10 = S * 10 ^ (q + 1) := by rw [Nat.pow_succ,Nat.mul_assoc]);(have hb : S * 10 ^ (q + 1) < 2 ^ (M + 4) := by rw [← e10,Nat.pow_add];omega);obtain ⟨K1,h1⟩ := zZB (R * 10 ^ p) (U * 10 ^ p) (S * 10 ^ (q + 1)) (M + 4) ev (by omega) (by rw [Nat.pow_add];omega) (by rw [Nat.pow_add];omega) hb;obtain ⟨K2,h2⟩ := zYP (S * 10 ^ q) (by have := zXw hsM (by omega);omega);dsimp only at h1 h2;by_cases hf : Far (R * 10 ^ p) (U * 10 ^ p) (S * 10 ^ (q + 1)) ev
  ·have hle : S * 10 ^ (q + 1) ≤ R * 10 ^ p + U * 10 ^ p := by
    rcases hf with hf | hf
    ·exact Nat.le_of_lt hf
    ·exact Nat.le_of_eq hf.1
   obtain ⟨q',g1,g2,g3,g4,g5⟩ := ih (q + 1) (by omega) (by rw [show q + 1 + 1 + d = q + 1 + (d + 1) by omega];exact hd) (by omega);refine ⟨q',by omega,by omega,g3,g4,fun res h => ?_⟩;obtain ⟨K3,h3⟩ := g5 res h;refine ⟨K1 + K2 + K3 + 1,fun k hk => ?_⟩;dsimp only at h3 ⊢;obtain ⟨k',rfl⟩ : ∃ k',k = k' + 1 := ⟨k - 1,by omega⟩;rw [d_s.l0,h2 k' (by omega),Option.bind_some,e10,h1 k' (by omega),Option.bind_some,if_pos (decide_eq_true hf),Option.bind_some,wrapB _ (by omega) (by omega),show (q : Int) - p + 1 = ((q + 1 : Nat) : Int) - p by omega];exact h3 k' (by omega)
  ·refine ⟨q,Nat.le_refl _,by omega,hsM,hf,fun res h => ?_⟩;obtain ⟨K3,h3⟩ := h;refine ⟨K1 + K2 + K3 + 1,fun k hk => ?_⟩;dsimp only at h3 ⊢;obtain ⟨k',rfl⟩ : ∃ k',k = k' + 1 := ⟨k - 1,by omega⟩;rw [d_s.l0,h2 k' (by omega),Option.bind_some,e10,h1 k' (by omega),Option.bind_some,if_neg (by rw [decide_eq_false hf];decide)];exact h3 k' (by omega)
end Go.Proofs.YtflcanpajgpghaaGreatDoor.Pure
end
section
namespace Go.Proofs.YtflcanpajgpghaaGreatDoor.Flo
theorem zHg {n j q P M : Nat} (hu : units n = q * 2 ^ j) (hu1 : units (n + 1) = (q + 1) * 2 ^ j) (hd : units n - units (n - 1) = 2 ^ j) (hM : 0 < M) (hK : P * K = 2 * 2 ^ j * M) : Sp n (q * 2 * P) (2 * M) P P := by
 refine ⟨by omega,?_,?_,?_⟩
 ·rw [Nat.mul_assoc,hK,hu,Nat.mul_assoc q 2,Nat.mul_left_comm q 2,Nat.mul_assoc 2 (q * 2 ^ j),Nat.mul_assoc q (2 ^ j),Nat.mul_assoc 2 (2 ^ j) M,Nat.mul_left_comm (2 ^ j) 2 M]
 ·rw [hK,hd,Nat.mul_left_comm,Nat.mul_assoc]
 ·rw [hK,hu,hu1,Nat.add_mul,Nat.one_mul,Nat.add_sub_cancel_left,Nat.mul_left_comm,Nat.mul_assoc]
theorem zHh {n j q P M : Nat} (hu : units n = q * 2 ^ j) (hu1 : units (n + 1) = (q + 1) * 2 ^ j) (hd : 2 * (units n - units (n - 1)) = 2 ^ j) (hM : 0 < M) (hK : P * K = 2 * 2 ^ j * M) : Sp n (q * 4 * P) (4 * M) P (2 * P) := by
 refine ⟨by omega,?_,?_,?_⟩
 ·rw [Nat.mul_assoc,hK,hu];generalize 2 ^ j = J;rw [show 2 * J * M = 2 * (J * M) from Nat.mul_assoc _ _ _,show 2 * (q * J) * (4 * M) = 2 * (4 * (q * (J * M))) by rw [Nat.mul_assoc,Nat.mul_left_comm (q * J) 4,Nat.mul_assoc q]];rw [show q * 4 * (2 * (J * M)) = 4 * (2 * (q * (J * M))) by rw [Nat.mul_comm q 4,Nat.mul_assoc,Nat.mul_left_comm q 2]];omega
 ·rw [hK,← hd];generalize units n - units (n - 1) = J;rw [show 2 * (2 * J) * M = 4 * (J * M) by rw [← Nat.mul_assoc,Nat.mul_assoc],Nat.mul_left_comm]
 ·rw [Nat.mul_assoc,hK,hu,hu1,Nat.add_mul,Nat.one_mul,Nat.add_sub_cancel_left];generalize 2 ^ j = J;rw [show 2 * (2 * J * M) = 4 * (J * M) by rw [Nat.mul_assoc 2 J M,← Nat.mul_assoc 2 2],Nat.mul_left_comm]
theorem zGI (j : Nat) (e : Int) (he : (j : Int) = e + 1074) : 2 ^ e.toNat * K = 2 * 2 ^ j * 2 ^ (-e).toNat := by
 obtain ⟨E,hE,hK⟩ := K_exp;rw [hK,← Nat.pow_add,Nat.mul_comm 2,← Nat.pow_succ,← Nat.pow_add,show e.toNat + E = j + 1 + (-e).toNat by omega]
end Go.Proofs.YtflcanpajgpghaaGreatDoor.Flo
end
section
namespace Go.Proofs.YtflcanpajgpghaaGreatDoor.Pure
open Go.RowKit Go.Proofs.YtflcanpajgpghaaGreatDoor.Pr Go.Proofs.YtflcanpajgpghaaGreatDoorW.PrintWords Go.Proofs.YtflcanpajgpghaaGreatDoorW.PrintLast Go.Proofs.YtflcanpajgpghaaGreatDoorW.PrintMore Go.Proofs.YtflcanpajgpghaaGreatDoor.Flo
theorem zWo {a : Nat} (h0 : 0 < rung a) (h1 : rung a < INF) : kindV a = if rung a < 4503599627370496 then 1 else 2 := by
 unfold INF at h1;unfold kindV nanB infB;rw [if_neg (by rw [decide_eq_true_iff];omega),if_neg (by omega),if_neg (by rw [decide_eq_true_iff];omega)]
theorem zWv (a : Nat) (h : a < 18446744073709551616) : Go.bits .and .u64 (a : Int) 2047 = ((a % 2048 : Nat) : Int) := by
 have := zYZ a 2047 h (by decide);rw [show (2047 : Nat) = 2 ^ 11 - 1 from rfl,Nat.and_two_pow_sub_one_eq_mod] at this;exact this
theorem zVk (b : Nat) (h : b < 4503599627370496) : Go.bits .or .u64 (b : Int) 4503599627370496 = ((4503599627370496 + b : Nat) : Int) := by
 have h1 := zYU b 4503599627370496 (by omega) (by decide);have h2 := Nat.two_pow_add_eq_or_of_lt (i := 52) h 1;rw [Nat.mul_one] at h2;rw [Nat.or_comm,show (4503599627370496 : Nat) = 2 ^ 52 from rfl,← h2] at h1;exact h1
theorem zGf (a : Nat) (ha : a < 18446744073709551616) (h0 : 0 < rung a) (h1 : rung a < INF) : ∃ (j q : Nat) (b : Bool),rung a = j * 4503599627370496 + q ∧ q < 9007199254740992 ∧ (j = 0 ∨ 4503599627370496 ≤ q) ∧ j ≤ 2045 ∧ flo_Parts.f (a : Int) = some (b,(j : Int) - 1074,(q : Int)) := by
 have hk : flo_kind.f (a : Int) = some (kindV a) := by
  unfold flo_kind.f;rw [if_pos (by omega),Int.toNat_natCast]
 have hf := zWo h0 h1;have hr : rung a = a % 9223372036854775808 := rfl;unfold INF at h1;by_cases h : rung a < 4503599627370496
 ·rw [if_pos h] at hf;refine ⟨0,rung a,((a : Int) / 9223372036854775808 == 1),by omega,by omega,.inl rfl,by omega,?_⟩;rw [flo_Parts.f,hk,hf,Option.bind_some,if_pos rfl,zZs a ha,show a % 4503599627370496 = rung a by omega]
  rfl
 ·rw [if_neg h] at hf;refine ⟨rung a / 4503599627370496 - 1,4503599627370496 + a % 4503599627370496,((a : Int) / 9223372036854775808 == 1),by omega,by omega,.inr (by omega),by omega,?_⟩;(have e1 : ((a : Int) / 4503599627370496) = ((a / 4503599627370496 : Nat) : Int) := by omega);rw [flo_Parts.f,hk,hf,Option.bind_some,if_neg (by decide),if_pos rfl,zZs a ha,zVk _ (by omega),e1,zWv _ (by omega),wrapB ((a / 4503599627370496 % 2048 : Nat) : Int) (by omega) (by omega),wrapB _ (by omega) (by omega),show (((a / 4503599627370496 % 2048 : Nat) : Int) - 1075) = ((rung a / 4503599627370496 - 1 : Nat) : Int) - 1074 by omega]
theorem of_ev (n : Nat) (h : n < 18446744073709551616) : Ev (fun k => dec_of.f k (n : Int)) (toB n) := by
 have hp : Parts [(n : Int) % 4294967296,((n : Int) / 4294967296) % 4294967296] := by
  intro x hx;rcases List.mem_cons.1 hx with rfl | hx
  ·omega
  ·rw [List.mem_singleton.1 hx];omega
 have hv : valB [(n : Int) % 4294967296,((n : Int) / 4294967296) % 4294967296] = n := by
  simp only [valB];omega
 have ht := zZV 2 _ rfl hp (by decide);rw [hv] at ht;have h1 : Ev (fun k => b_trim.f k [(n : Int) % 4294967296,((n : Int) / 4294967296) % 4294967296]) (toB n) := Ev.congr (fun k => rfl) ht;have h2 : Ev (fun k => (b_trim.f k [(n : Int) % 4294967296,((n : Int) / 4294967296) % 4294967296]).bind fun t => some t) (toB n) := Ev.bind h1 (Ev.now _);exact Ev.congr (fun k => rfl) h2
theorem zWG (e : Int) (x s d u B : Nat) (hx : x ≠ 0) (hs : s ≠ 0) (hd : d ≠ 0) (hu : u ≠ 0) (he : -1074 ≤ e) (he2 : e ≤ 971) (hx2 : x < 2 ^ B) (hs2 : s < 2 ^ B) (hd2 : d < 2 ^ B) (hu2 : u < 2 ^ B) (hB : B ≤ 100) :
  Ev (fun k => dec_spans.j1 k e (toB x) (toB s) (toB d) (toB u)) (toB (x * 2 ^ e.toNat),toB (s * 2 ^ (-e).toNat),toB (d * 2 ^ e.toNat),toB (u * 2 ^ e.toNat)) := by
 have l1 := zXL hx2;have l2 := zXL hs2;have l3 := zXL hd2;have l4 := zXL hu2;by_cases h : e ≥ 0
 ·obtain ⟨K1,h1⟩ := up_ev x e.toNat (.inl hx) (by omega);obtain ⟨K2,h2⟩ := up_ev d e.toNat (.inl hd) (by omega);obtain ⟨K3,h3⟩ := up_ev u e.toNat (.inl hu) (by omega);refine ⟨K1 + K2 + K3 + 1,fun k hk => ?_⟩;dsimp only at h1 h2 h3 ⊢;obtain ⟨k',rfl⟩ : ∃ k',k = k' + 1 := ⟨k - 1,by omega⟩;have g1 := h1 k' (by omega);have g2 := h2 k' (by omega);have g3 := h3 k' (by omega);rw [show ((e.toNat : Nat) : Int) = e by omega] at g1 g2 g3;rw [dec_spans.j1,if_pos h,g1,Option.bind_some,g2,Option.bind_some,g3,Option.bind_some,show (-e).toNat = 0 by omega,Nat.pow_zero,Nat.mul_one]
 ·obtain ⟨K1,h1⟩ := up_ev s (-e).toNat (.inl hs) (by omega);refine ⟨K1 + 1,fun k hk => ?_⟩;dsimp only at h1 ⊢;obtain ⟨k',rfl⟩ : ∃ k',k = k' + 1 := ⟨k - 1,by omega⟩;have g1 := h1 k' (by omega);rw [show (((-e).toNat : Nat) : Int) = -e by omega] at g1;rw [dec_spans.j1,if_neg h,wrapB _ (by omega) (by omega),g1,Option.bind_some,show e.toNat = 0 by omega,Nat.pow_zero,Nat.mul_one,Nat.mul_one,Nat.mul_one]
theorem zBu {n j : Nat} (h : n = j * 4503599627370496 + 4503599627370496) (hj : 0 < j) : 2 * (units n - units (n - 1)) = 2 ^ j := by
 obtain ⟨i,rfl⟩ : ∃ i,j = i + 1 := ⟨j - 1,by omega⟩;have e0 : units n = 4503599627370496 * 2 ^ (i + 1) := by rw [h];exact zXz (i + 1) 4503599627370496 (by omega) (.inr (by omega))
 have e1 : units (n - 1) = 9007199254740991 * 2 ^ i := by
  rw [show n - 1 = i * 4503599627370496 + 9007199254740991 by omega];exact zXz i 9007199254740991 (by omega) (.inr (by omega))
 rw [e0,e1,Nat.pow_succ];omega
theorem lt_up {x a b B : Nat} (h : x < 2 ^ a) (hb : a + b ≤ B) : x * 2 ^ b < 2 ^ B := by
 refine Nat.lt_of_lt_of_le (Nat.mul_lt_mul_of_pos_right h (Nat.two_pow_pos b)) ?_
 rw [← Nat.pow_add];exact Nat.pow_le_pow_right (by decide) hb
theorem zVX (a : Nat) (ha : a < 18446744073709551616) (h0 : 0 < rung a) (h1 : rung a < INF) (B : Nat) (hB : B = 1100) :
  ∃ R S D U : Nat,Sp (rung a) R S D U ∧ R < 2 ^ B ∧ S < 2 ^ B ∧ D < 2 ^ B ∧ U < 2 ^ B ∧ Ev (fun k => dec_spans.f k (a : Int)) (toB R,toB S,toB D,toB U) := by
 obtain ⟨j,q,b,hr,hq,hjq,hj,hp⟩ := zGf a ha h0 h1;obtain ⟨n,hn⟩ : ∃ n,n = rung a := ⟨_,rfl⟩;rw [← hn] at hr h0 h1 ⊢;obtain ⟨e,he⟩ : ∃ e : Int,e = (j : Int) - 1074 := ⟨_,rfl⟩;rw [← he] at hp;have hK := zGI j e (by omega);(have hq0 : q ≠ 0 := by omega);(have u0 : units n = q * 2 ^ j := by rw [hr];exact zXz j q (by omega) hjq);(have u1 : units (n + 1) = (q + 1) * 2 ^ j := by rw [hr,Nat.add_assoc];exact zXz j (q + 1) (by omega) (by omega));obtain ⟨K1,o1⟩ := of_ev q (by omega);obtain ⟨K2,o2⟩ := up_ev q 1 (.inr (by decide)) (by have := zXL (show q < 2 ^ 53 by omega);omega);obtain ⟨K3,o3⟩ := of_ev 2 (by decide);obtain ⟨K4,o4⟩ := of_ev 1 (by decide)
 have hstart : ∀ (k : Nat),K1 + K2 + K3 + K4 ≤ k → dec_spans.f k (a : Int) = if ((q : Int)) = 4503599627370496 then dec_spans.j0 k e (q : Int) (decide (e > (-1074))) (toB (q * 2)) (toB 2) (toB 1) (toB 1) else dec_spans.j0 k e (q : Int) false (toB (q * 2)) (toB 2) (toB 1) (toB 1) := by
  intro k hk;dsimp only at o1 o2 o3 o4;have p1 := o1 k (by omega);have p2 := o2 k (by omega);have p3 := o3 k (by omega);have p4 := o4 k (by omega);rw [Nat.pow_one] at p2;have p3 : dec_of.f k 2 = some (toB 2) := p3;have p4 : dec_of.f k 1 = some (toB 1) := p4;have p2 : b_up.f k (toB q) 1 = some (toB (q * 2)) := p2;rw [dec_spans.f,hp,Option.bind_some];dsimp only;rw [p1,Option.bind_some,p2,Option.bind_some,p3,Option.bind_some,p4,Option.bind_some,Option.bind_some]
 by_cases hc : q = 4503599627370496 ∧ 0 < j
 ·obtain ⟨K5,o5⟩ := up_ev q 2 (.inr (by decide)) (by have := zXL (show q < 2 ^ 53 by omega);omega);obtain ⟨K6,o6⟩ := of_ev 4 (by decide);obtain ⟨K7,o7⟩ := zWG e (q * 4) 4 1 2 60 (by omega) (by decide) (by decide) (by decide) (by omega) (by omega) (by omega) (by decide) (by decide) (by decide) (by decide);have hd := zBu (show n = j * 4503599627370496 + 4503599627370496 by omega) hc.2;refine ⟨_,_,_,_,zHh u0 u1 hd (Nat.two_pow_pos _) hK,lt_up (a := 60) (by omega) (by omega),lt_up (a := 3) (by decide) (by omega),?_,lt_up (a := 2) (by decide) (by omega),?_⟩
  ·have := lt_up (x := 1) (a := 1) (b := e.toNat) (B := B) (by decide) (by omega)
   rwa [Nat.one_mul] at this
  ·refine ⟨K1 + K2 + K3 + K4 + K5 + K6 + K7 + 1,fun k hk => ?_⟩;dsimp only at o1 o3 o4 o5 o6 o7 ⊢;obtain ⟨k',rfl⟩ : ∃ k',k = k' + 1 := ⟨k - 1,by omega⟩;have p1 := o1 k' (by omega);have p5 : b_up.f k' (toB q) 2 = some (toB (q * 4)) := o5 k' (by omega);have p6 : dec_of.f k' 4 = some (toB 4) := o6 k' (by omega);have p3 : dec_of.f k' 2 = some (toB 2) := o3 k' (by omega);have p4 : dec_of.f k' 1 = some (toB 1) := o4 k' (by omega);rw [hstart (k' + 1) (by omega),if_pos (by omega),dec_spans.j0,if_pos (by rw [decide_eq_true_iff];omega),p1,Option.bind_some,p5,Option.bind_some,p6,Option.bind_some,p4,Option.bind_some,p3,Option.bind_some,o7 k' (by omega),Nat.one_mul]
 ·obtain ⟨K7,o7⟩ := zWG e (q * 2) 2 1 1 60 (by omega) (by decide) (by decide) (by decide) (by omega) (by omega) (by omega) (by decide) (by decide) (by decide) (by decide)
  have hd : units n - units (n - 1) = 2 ^ j := by
   rcases zKH hr hq hjq h0 with h | h
   ·exact h
   ·exact absurd ⟨h.1,h.2.1⟩ hc
  have hone : 2 ^ e.toNat < 2 ^ B := by
   have := lt_up (x := 1) (a := 1) (b := e.toNat) (B := B) (by decide) (by omega)
   rwa [Nat.one_mul] at this
  refine ⟨_,_,_,_,zHg u0 u1 hd (Nat.two_pow_pos _) hK,lt_up (a := 60) (by omega) (by omega),lt_up (a := 2) (by decide) (by omega),hone,hone,?_⟩
  ·refine ⟨K1 + K2 + K3 + K4 + K7 + 1,fun k hk => ?_⟩;dsimp only at o7 ⊢;obtain ⟨k',rfl⟩ : ∃ k',k = k' + 1 := ⟨k - 1,by omega⟩;have g7 := o7 k' (by omega);rw [Nat.one_mul] at g7;rw [hstart (k' + 1) (by omega)];by_cases hq2 : q = 4503599627370496
   ·rw [if_pos (by omega),dec_spans.j0,if_neg (by rw [decide_eq_true_iff];omega)];exact g7
   ·rw [if_neg (by omega),dec_spans.j0,if_neg (by decide)];exact g7
theorem zYO {x B n M : Nat} (h : x < 2 ^ B) (hM : B + (4 * n + 1) ≤ M) : x * 10 ^ n < 2 ^ M := by
 refine Nat.lt_of_lt_of_le (Nat.mul_lt_mul'' h (zYK n)) ?_
 rw [← Nat.pow_add];exact Nat.pow_le_pow_right (by decide) hM
theorem zBO (M : Nat) : 2 ^ M ≤ 10 ^ M := Nat.pow_le_pow_left (by decide) M
theorem zVB {n R S D U p q : Nat} (M : Nat) (ev : Bool) (e : Int) (h : Sp n R S D U) (hn : 0 < n) (hM : M ≤ 100000) (hsM : S * 10 ^ q < 2 ^ M) (he : -100000 ≤ e) (he2 : e ≤ 100000)
  (hf : Far (R * 10 ^ p) (U * 10 ^ p) (S * 10 ^ q) ev) (hnf : ¬ Far (R * 10 ^ p) (U * 10 ^ p) (S * 10 ^ (q + 1)) ev) :
  Ev (fun k => d_s.l2 k e ([] : List Int) (toB (R * 10 ^ p)) (toB (S * 10 ^ q)) (toB (D * 10 ^ p)) (toB (U * 10 ^ p)) ev) (outF (gen (R * 10 ^ p) (S * 10 ^ q) (D * 10 ^ p) (U * 10 ^ p) ev 17 0) e) := by
 have hs : 0 < S * 10 ^ q := Nat.mul_pos h.hS (zQD q);have hU := Nat.mul_pos (sp_U h) (zQD p);have hR := Nat.mul_pos (sp_R h hn) (zQD p);(have hD2 : 2 * (D * 10 ^ p) ≤ R * 10 ^ p := by rw [← Nat.mul_assoc];exact Nat.mul_le_mul_right _ (zWH h));have hle := zBk hnf;rw [Nat.pow_succ,← Nat.mul_assoc] at hle
 have hstop : (∃ j,0 ≤ j ∧ j < 0 + 17 ∧ Stop (R * 10 ^ p * 10 ^ j % (S * 10 ^ q)) (D * 10 ^ p * 10 ^ j) (U * 10 ^ p * 10 ^ j) (S * 10 ^ q) ev) ∧
   (S * 10 ^ q ≤ R * 10 ^ p ∨ (0 = 0 ∧ Stop (R * 10 ^ p * 10 ^ 0 % (S * 10 ^ q)) (D * 10 ^ p * 10 ^ 0) (U * 10 ^ p * 10 ^ 0) (S * 10 ^ q) ev ∧ 1 ≤ pickX (R * 10 ^ p * 10 ^ 0 / (S * 10 ^ q)) (R * 10 ^ p * 10 ^ 0 % (S * 10 ^ q)) (D * 10 ^ p * 10 ^ 0) (U * 10 ^ p * 10 ^ 0) (S * 10 ^ q) ev)) := by
  by_cases hge : S * 10 ^ q ≤ R * 10 ^ p
  ·exact ⟨⟨16,by omega,by omega,zYQ ev h hn hge⟩,.inl hge⟩
  ·have hlt : R * 10 ^ p < S * 10 ^ q := Nat.lt_of_not_le hge
   have hst : Stop (R * 10 ^ p * 10 ^ 0 % (S * 10 ^ q)) (D * 10 ^ p * 10 ^ 0) (U * 10 ^ p * 10 ^ 0) (S * 10 ^ q) ev := by
    rw [Nat.pow_zero,Nat.mul_one,Nat.mul_one,Nat.mul_one,Nat.mod_eq_of_lt hlt];exact .inr hf
   refine ⟨⟨0,by omega,by omega,hst⟩,.inr ⟨rfl,hst,?_⟩⟩;rw [Nat.pow_zero,Nat.mul_one,Nat.mul_one,Nat.mul_one,Nat.mod_eq_of_lt hlt,Nat.div_eq_of_lt hlt];unfold pickX
   have hnl : ¬ Low (R * 10 ^ p) (D * 10 ^ p) ev := by
    unfold Low;rintro (g | ⟨g,_⟩) <;> omega
   rw [if_pos ⟨hf,.inl hnl⟩]
   exact Nat.le_refl _
 (have hB : (2 : Nat) ^ (M + 4) = 2 ^ M * 16 := by rw [Nat.pow_add]);(have hdn : D * 10 ^ p < 2 ^ (M + 4) := by omega);have hup : U * 10 ^ p < 2 ^ (M + 4) := by omega
 have hg := zGR (R * 10 ^ p) (S * 10 ^ q) (D * 10 ^ p) (U * 10 ^ p) (M + 80) ev e hs (by omega) (by omega) (by
  have : (2 : Nat) ^ (M + 4) ≤ 2 ^ (M + 80) := Nat.pow_le_pow_right (by decide) (by omega)
  omega) he he2 17 0 (by omega) (zYO hdn (by omega)) (zYO hup (by omega)) hstop.1 hstop.2
 have e1 : (R * 10 ^ p * 10 ^ 0 / (S * 10 ^ q) % 10) * (S * 10 ^ q) + R * 10 ^ p * 10 ^ 0 % (S * 10 ^ q) = R * 10 ^ p := by
  rw [Nat.pow_zero,Nat.mul_one];have h10 : R * 10 ^ p / (S * 10 ^ q) < 10 := Nat.div_lt_of_lt_mul (by omega);rw [Nat.mod_eq_of_lt h10,Nat.mul_comm]
  exact Nat.div_add_mod _ _
 rw [e1,Nat.pow_zero,Nat.mul_one (R * 10 ^ p),Nat.mul_one (D * 10 ^ p),Nat.mul_one (U * 10 ^ p)] at hg;exact hg
theorem zBi {n R S D U : Nat} (p q M : Nat) (ev : Bool) (h : Sp n R S D U) (hn : 0 < n) (hM : M ≤ 10000) (hp : p ≤ 1000) (hq : q ≤ 1000) (hrM : R * 10 ^ p + U * 10 ^ p < 2 ^ M) (hsM : S * 10 ^ q < 2 ^ M) :
  ∃ p' q' : Nat,Far (R * 10 ^ p') (U * 10 ^ p') (S * 10 ^ q') ev ∧ ¬ Far (R * 10 ^ p') (U * 10 ^ p') (S * 10 ^ (q' + 1)) ev ∧
   Ev (fun k => d_s.l0 k ((q : Int) - p) (toB (R * 10 ^ p)) (toB (S * 10 ^ q)) (toB (D * 10 ^ p)) (toB (U * 10 ^ p)) ev) (outF (gen (R * 10 ^ p') (S * 10 ^ q') (D * 10 ^ p') (U * 10 ^ p') ev 17 0) ((q' : Int) - p')) := by
 have hup : R * 10 ^ p + U * 10 ^ p < S * 10 ^ (q + 1 + M) := by
  refine Nat.lt_of_lt_of_le hrM (Nat.le_trans (zBO M) ?_)
  refine Nat.le_trans (Nat.pow_le_pow_right (by decide) (show M ≤ q + 1 + M by omega)) ?_
  exact Nat.le_mul_of_pos_left _ h.hS
 obtain ⟨q',g1,g2,g3,g4,g5⟩ := zHQ R S D U p M ev (by omega) hrM (by omega) M q (by omega) hup hsM
 have hlo : S * 10 ^ q' ≤ R * 10 ^ (p + M) := by
  refine Nat.le_trans (Nat.le_of_lt g3) (Nat.le_trans (zBO M) ?_)
  refine Nat.le_trans (Nat.pow_le_pow_right (by decide) (show M ≤ p + M by omega)) ?_
  exact Nat.le_mul_of_pos_left _ (sp_R h hn)
 (have h16 : 16 * (S * 10 ^ q') < 2 ^ (M + 4) := by rw [Nat.pow_add];omega);obtain ⟨p',k1,k2,k3,k4,k5⟩ := zHD R S D U q' (M + 4) ev (sp_U h) (by have := zWH h;omega) (by omega) h16 (by omega) M p (by omega) hlo g4;exact ⟨p',q',k3,k4,g5 _ (k5 _ (zVB M ev _ h hn (by omega) g3 (by omega) (by omega) k3 k4))⟩
theorem zGA (a : Nat) (ha : a < 18446744073709551616) : (Go.bits .and .u64 (a : Int) 1 == 0) = (a % 2 == 0) := by
 have := zYZ a 1 ha (by decide);rw [show (1 : Nat) = 2 ^ 1 - 1 from rfl,Nat.and_two_pow_sub_one_eq_mod,Nat.pow_one] at this;have h2 : Go.bits .and .u64 (a : Int) 1 = ((a % 2 : Nat) : Int) := this;rw [h2,show ((((a % 2 : Nat) : Int) == 0)) = decide (((a % 2 : Nat) : Int) = 0) from rfl,show (a % 2 == 0) = decide (a % 2 = 0) from rfl];exact decide_eq_decide.2 (by omega)
theorem zJv (a : Nat) (ha : a < 18446744073709551616) (h0 : 0 < rung a) (h1 : rung a < INF) : ∃ R S D U p q : Nat,Sp (rung a) R S D U ∧
  Far (R * 10 ^ p) (U * 10 ^ p) (S * 10 ^ q) (a % 2 == 0) ∧ ¬ Far (R * 10 ^ p) (U * 10 ^ p) (S * 10 ^ (q + 1)) (a % 2 == 0) ∧
  Ev (fun k => d_s.f k (a : Int)) (outF (gen (R * 10 ^ p) (S * 10 ^ q) (D * 10 ^ p) (U * 10 ^ p) (a % 2 == 0) 17 0) ((q : Int) - p)) := by
 obtain ⟨B,hB⟩ : ∃ B,B = 1100 := ⟨_,rfl⟩;obtain ⟨R,S,D,U,hsp,bR,bS,bD,bU,⟨K1,h2⟩⟩ := zVX a ha h0 h1 B hB;have lR := zXL bR;have lS := zXL bS;obtain ⟨la,la1,la2,la3⟩ := zGP R (by omega);obtain ⟨lb,lb1,lb2,lb3⟩ := zGP S (by omega);(have hla : la ≤ 1200 := by omega);(have hlb : lb ≤ 1200 := by omega);have hR := sp_R hsp h0;obtain ⟨e,he⟩ : ∃ e : Int,e = ((la : Int) - lb) * 1233 / 4096 := ⟨_,rfl⟩;(have hwe : wrap64 (wrap64 ((la : Int) - lb) * 1233) / 4096 = e := by rw [wrapB ((la : Int) - lb) (by omega) (by omega),wrapB _ (by omega) (by omega),he]);(have he1 : -400 ≤ e := by omega);(have he2 : e ≤ 400 := by omega);have hev := zGA a ha;clear he lR lS la2 lb2;obtain ⟨M,hM⟩ : ∃ M,M = 4000 := ⟨_,rfl⟩;(have t2 : ∀ x : Nat,x < 2 ^ B → ∀ n : Nat,n ≤ 400 → x * 10 ^ n < 2 ^ (M - 1) := fun x hx n hn => zYO hx (by omega));(have hM2 : (2 : Nat) ^ M = 2 ^ (M - 1) * 2 := by rw [← Nat.pow_succ,show (M - 1).succ = M by omega]);by_cases hpos : e ≥ 0
 ·have s1 := t2 S bS e.toNat (by omega);have r1 := t2 R bR 0 (by omega);have u1 := t2 U bU 0 (by omega);obtain ⟨p',q',g1,g2,K3,g3⟩ := zBi 0 e.toNat M (a % 2 == 0) hsp h0 (by omega) (by omega) (by omega) (by omega) (by omega);obtain ⟨K2,h3⟩ := zWd S e.toNat M (by omega) (by omega) (by omega);refine ⟨R,S,D,U,p',q',hsp,g1,g2,K1 + K2 + K3 + 1,fun k hk => ?_⟩;dsimp only at h2 h3 g3 ⊢;obtain ⟨k',rfl⟩ : ∃ k',k = k' + 1 := ⟨k - 1,by omega⟩;have p3 := h3 (k' + 1) (by omega);have pg := g3 k' (by omega);rw [show ((e.toNat : Nat) : Int) = e by omega] at p3 pg;rw [Nat.pow_zero,Nat.mul_one,Nat.mul_one,Nat.mul_one,show e - ((0 : Nat) : Int) = e by omega] at pg;rw [d_s.f,h2 (k' + 1) (by omega),Option.bind_some];dsimp only;rw [la1,Option.bind_some,lb1,Option.bind_some,hwe,if_pos hpos,p3,Option.bind_some,hev,d_s.j0];exact pg
 ·have s1 := t2 S bS 0 (by omega);have r1 := t2 R bR (-e).toNat (by omega);have u1 := t2 U bU (-e).toNat (by omega);have d1 := t2 D bD (-e).toNat (by omega);obtain ⟨p',q',g1,g2,K3,g3⟩ := zBi (-e).toNat 0 M (a % 2 == 0) hsp h0 (by omega) (by omega) (by omega) (by omega) (by omega);obtain ⟨K2,h3⟩ := zWd R (-e).toNat M (by omega) (by omega) (by omega);obtain ⟨K4,h4⟩ := zWd D (-e).toNat M (by omega) (by omega) (by omega);obtain ⟨K5,h5⟩ := zWd U (-e).toNat M (by omega) (by omega) (by omega);refine ⟨R,S,D,U,p',q',hsp,g1,g2,K1 + K2 + K3 + K4 + K5 + 1,fun k hk => ?_⟩;dsimp only at h2 h3 h4 h5 g3 ⊢;obtain ⟨k',rfl⟩ : ∃ k',k = k' + 1 := ⟨k - 1,by omega⟩;have p3 := h3 (k' + 1) (by omega);have p4 := h4 (k' + 1) (by omega);have p5 := h5 (k' + 1) (by omega);have pg := g3 k' (by omega);rw [show (((-e).toNat : Nat) : Int) = -e by omega] at p3 p4 p5;rw [Nat.pow_zero,Nat.mul_one,show ((0 : Nat) : Int) - (((-e).toNat : Nat) : Int) = e by omega] at pg;rw [d_s.f,h2 (k' + 1) (by omega),Option.bind_some];dsimp only;rw [la1,Option.bind_some,lb1,Option.bind_some,hwe,if_neg hpos,wrapB (-e) (by omega) (by omega),p3,Option.bind_some,p4,Option.bind_some,p5,Option.bind_some,hev,d_s.j0];exact pg
end Go.Proofs.YtflcanpajgpghaaGreatDoor.Pure
end
section
namespace Go.Proofs.YtflcanpajgpghaaGreatDoor.Pure
open Go.RowKit Go.Proofs.YtflcanpajgpghaaGreatDoor.Pr Go.Proofs.YtflcanpajgpghaaGreatDoorW.PrintWords Go.Proofs.YtflcanpajgpghaaGreatDoorW.PrintLast Go.Proofs.YtflcanpajgpghaaGreatDoorW.PrintMore
theorem zYA (c : Int) : (strOfNums [c]).size = 1 := rfl
theorem zQI (a b : ByteArray) : (a ++ b).size = a.size + b.size := ByteArray.size_append
theorem zJE (c : Int) (h : 0 ≤ c) (h2 : c < 256) : bt (strOfNums [c]) ((0 : Nat) : Int) = c := by
 show (((UInt8.ofNat c.toNat).toNat : Nat) : Int) = c;rw [UInt8.toNat_ofNat_of_lt' (by show c.toNat < 256;omega)];omega
theorem zVf {a b : ByteArray} (ha : zXO a) (hb : zXO b) : zXO (a ++ b) := by
 intro i hi;rw [zQI] at hi;rw [zJm];by_cases h : i < a.size
 ·rw [if_pos h];exact ha i h
 ·rw [if_neg h];exact hb _ (by omega)
theorem zVe {c : Int} (h : 48 ≤ c) (h2 : c ≤ 57) : zXO (strOfNums [c]) := by
 intro i hi;rw [zYA] at hi;(obtain rfl : i = 0 := by omega);rw [zJE c (by omega) (by omega)];exact ⟨h,h2⟩
theorem zWX (a b : ByteArray) : ∀ i,i ≤ a.size → dval (a ++ b) i = dval a i
 | 0,_ => rfl
 | i + 1,h => by rw [dval,dval,zWX a b i (by omega),zJm,if_pos (by omega)]
theorem zVd (s : ByteArray) (c : Int) (h : 48 ≤ c) (h2 : c ≤ 57) : dval (s ++ strOfNums [c]) (s ++ strOfNums [c]).size = dval s s.size * 10 + (c - 48).toNat := by
 rw [zQI,zYA,dval,zWX s _ s.size (Nat.le_refl _),zJm,if_neg (by omega),Nat.sub_self,zJE c (by omega) (by omega)]
theorem zVv : ∀ (n x : Nat),x ≤ n → zXO (strOfNums (ds x)) ∧ dval (strOfNums (ds x)) (strOfNums (ds x)).size = x := by
 intro n
 induction n with
 | zero =>
  intro x h;rw [show x = 0 by omega,zYl];exact ⟨fun i hi => absurd hi (Nat.not_lt_zero i),rfl⟩
 | succ n ih =>
  intro x h;by_cases h0 : x = 0
  ·rw [h0,zYl];exact ⟨fun i hi => absurd hi (Nat.not_lt_zero i),rfl⟩
  ·obtain ⟨a,b⟩ := ih (x / 10) (by omega);have hd := dg_in x;rw [zYi h0,zZw];refine ⟨zVf a (zVe hd.1 hd.2),?_⟩;rw [zVd _ _ hd.1 hd.2,b];unfold dg;omega
theorem zGT (x : Nat) : zXO (strOfNums (ds x)) := (zVv x x (Nat.le_refl _)).1
theorem zGS (x : Nat) : dval (strOfNums (ds x)) (strOfNums (ds x)).size = x := (zVv x x (Nat.le_refl _)).2
theorem zZC {m x : Nat} (h : x < 10 ^ m) : (strOfNums (ds x)).size ≤ m := by rw [zYn];exact zVw m x h
theorem zZD {x : Nat} (h : x ≠ 0) : 0 < (ds x).length := by rw [zYi h,List.length_append,List.length_singleton];omega
theorem zHC {x : Nat} (h : x ≠ 0) (t : ByteArray) : bt (strOfNums (ds x) ++ t) (((ds x).length - 1 : Nat) : Int) = dg x := by
 have hd := dg_in x;(have hl : (strOfNums (ds (x / 10))).size = (ds x).length - 1 := by rw [zYn,zYi h,List.length_append,List.length_singleton,Nat.add_sub_cancel]);have hl2 := zZD h;rw [zJm,zYn,if_pos (by omega),zYi h,zZw,zJm,← zYi h,hl,if_neg (Nat.lt_irrefl _),Nat.sub_self];exact zJE _ (by omega) (by omega)
end Go.Proofs.YtflcanpajgpghaaGreatDoor.Pure
end
section
namespace Go.Proofs.YtflcanpajgpghaaGreatDoor.Pure
open Go.RowKit Go.Proofs.YtflcanpajgpghaaGreatDoor.Pr Go.Proofs.YtflcanpajgpghaaGreatDoorW.PrintWords Go.Proofs.YtflcanpajgpghaaGreatDoorW.PrintLast Go.Proofs.YtflcanpajgpghaaGreatDoorW.PrintMore Go.Proofs.YtflcanpajgpghaaGreatDoor.Flo
structure Quo (lx ly : List Int) (x y B : Nat) : Prop where
 dx : Digs lx
 dy : Digs ly
 ex : valD lx = x
 ey : valD ly = y
 lx' : lx.length ≤ 1000
 ly' : ly.length ≤ 1000
 bx : x < 2 ^ B
 byy : y < 2 ^ B
 px : 0 < x
 py : 0 < y
 hB : B ≤ 2000
theorem zKb {lx ly : List Int} {x y B : Nat} (q : Quo lx ly x y B) (e : Int) (he : -1500 ≤ e) (he2 : e ≤ 1500) : Ev (fun k => r5_least.f k lx ly e) (decide (Least x y e)) := by
 obtain ⟨dx,dy,ex,ey,lx',ly',bx,byy,px,py,hB⟩ := q;by_cases h : e ≥ 0
 ·obtain ⟨K1,h1⟩ := zKK e.toNat (by omega);have l10 := zXl (zYK e.toNat);obtain ⟨K2,h2⟩ := zYo ly (toD (10 ^ e.toNat)) dy (zQK _) (by omega) (by omega);rw [zQP,ey] at h2;have hb := zXl (zYO (n := e.toNat) (M := 9000) byy (by omega));obtain ⟨c,⟨K3,h3⟩,c1⟩ := zJD lx (toD (y * 10 ^ e.toNat)) dx (zQK _) (by omega) (by omega);rw [zQP,ex] at c1
  have c2 : c ≥ 0 ↔ Least x y e := by
   unfold Least;rw [show (-e).toNat = 0 by omega,Nat.pow_zero,Nat.mul_one];exact c1
  refine ⟨K1 + K2 + K3,fun k hk => ?_⟩;dsimp only at h1 h2 h3 ⊢;have p1 := h1 k (by omega);rw [show ((e.toNat : Nat) : Int) = e by omega] at p1;rw [r5_least.f,if_pos h,p1,Option.bind_some,h2 k (by omega),Option.bind_some,h3 k (by omega),Option.bind_some];exact congrArg some (decide_eq_decide.2 c2)
 ·obtain ⟨K1,h1⟩ := zKK (-e).toNat (by omega);have l10 := zXl (zYK (-e).toNat);obtain ⟨K2,h2⟩ := zYo lx (toD (10 ^ (-e).toNat)) dx (zQK _) (by omega) (by omega);rw [zQP,ex] at h2;have hb := zXl (zYO (n := (-e).toNat) (M := 9000) bx (by omega));obtain ⟨c,⟨K3,h3⟩,c1⟩ := zJD (toD (x * 10 ^ (-e).toNat)) ly (zQK _) dy (by omega) (by omega);rw [zQP,ey] at c1
  have c2 : c ≥ 0 ↔ Least x y e := by
   unfold Least;rw [show e.toNat = 0 by omega,Nat.pow_zero,Nat.mul_one];exact c1
  refine ⟨K1 + K2 + K3,fun k hk => ?_⟩;dsimp only at h1 h2 h3 ⊢;have p1 := h1 k (by omega);rw [show (((-e).toNat : Nat) : Int) = -e by omega] at p1;rw [r5_least.f,if_neg h,wrapB (-e) (by omega) (by omega),p1,Option.bind_some,h2 k (by omega),Option.bind_some,h3 k (by omega),Option.bind_some];exact congrArg some (decide_eq_decide.2 c2)
theorem zBV {lx ly : List Int} {x y B : Nat} (q : Quo lx ly x y B) (hi : Nat) (hhi : ¬ Least x y hi) (h1 : hi ≤ 1000) : ∀ (d : Nat) (e : Int),(hi : Int) - e = d → -1000 ≤ e → Least x y e →
  ∃ e' : Int,Least x y e' ∧ ¬ Least x y (e' + 1) ∧ e' < hi ∧ e ≤ e' ∧ Ev (fun k => r5_Power.l1 k lx ly e) e'
 | 0,e,hd,he,hl => absurd (show Least x y hi by rw [show (hi : Int) = e by omega];exact hl) hhi
 | d + 1,e,hd,he,hl => by
  obtain ⟨K1,g1⟩ := zKb q (e + 1) (by omega) (by omega);by_cases h : Least x y (e + 1)
  ·obtain ⟨e',a1,a2,a3,a4,K2,g2⟩ := zBV q hi hhi h1 d (e + 1) (by omega) (by omega) h;refine ⟨e',a1,a2,a3,by omega,K1 + K2 + 1,fun k hk => ?_⟩;dsimp only at g1 g2 ⊢;obtain ⟨k',rfl⟩ : ∃ k',k = k' + 1 := ⟨k - 1,by omega⟩;rw [r5_Power.l1,wrapB (e + 1) (by omega) (by omega),g1 k' (by omega),Option.bind_some,if_pos (decide_eq_true h)];exact g2 k' (by omega)
  ·refine ⟨e,hl,h,by omega,by omega,K1 + 1,fun k hk => ?_⟩;dsimp only at g1 ⊢;obtain ⟨k',rfl⟩ : ∃ k',k = k' + 1 := ⟨k - 1,by omega⟩;rw [r5_Power.l1,wrapB (e + 1) (by omega) (by omega),g1 k' (by omega),Option.bind_some,if_neg (by rw [decide_eq_false h];decide)]
theorem zHl {lx ly : List Int} {x y B : Nat} (q : Quo lx ly x y B) (lo hi : Nat) (hlo : Least x y (-(lo : Int))) (hhi : ¬ Least x y hi) (h1 : hi ≤ 1000) (h2 : lo ≤ 1000) : ∀ (d : Nat) (e : Int),e + lo ≤ d → -1000 ≤ e → e ≤ 1000 →
  ∃ e' : Int,Least x y e' ∧ ¬ Least x y (e' + 1) ∧ e' < hi ∧ Ev (fun k => r5_Power.l0 k lx ly e) e' := by
 have go : ∀ e : Int,-1000 ≤ e → e ≤ 1000 → Least x y e → ∃ e' : Int,Least x y e' ∧ ¬ Least x y (e' + 1) ∧ e' < hi ∧ Ev (fun k => r5_Power.l0 k lx ly e) e' := by
  intro e he he2 hl
  have hlt : e < hi := by
   apply Int.lt_of_not_ge;intro hge;exact hhi (zYq q.px q.py hl hge)
  obtain ⟨e',a1,a2,a3,a4,K2,g2⟩ := zBV q hi hhi h1 ((hi : Int) - e).toNat e (by omega) he hl;obtain ⟨K1,g1⟩ := zKb q e (by omega) (by omega);refine ⟨e',a1,a2,a3,K1 + K2 + 1,fun k hk => ?_⟩;dsimp only at g1 g2 ⊢;obtain ⟨k',rfl⟩ : ∃ k',k = k' + 1 := ⟨k - 1,by omega⟩;rw [r5_Power.l0,g1 k' (by omega),Option.bind_some,if_pos (decide_eq_true hl)];exact g2 k' (by omega)
 intro d
 induction d with
 | zero =>
  intro e hd he he2;exact go e he he2 (zYq q.px q.py hlo (by omega))
 | succ d ih =>
  intro e hd he he2;by_cases h : Least x y e
  ·exact go e he he2 h
  ·have hgt : -(lo : Int) < e := by
    apply Int.lt_of_not_ge;intro hge;exact h (zYq q.px q.py hlo hge)
   obtain ⟨e',a1,a2,a3,K2,g2⟩ := ih (e - 1) (by omega) (by omega) (by omega);obtain ⟨K1,g1⟩ := zKb q e (by omega) (by omega);refine ⟨e',a1,a2,a3,K1 + K2 + 1,fun k hk => ?_⟩;dsimp only at g1 g2 ⊢;obtain ⟨k',rfl⟩ : ∃ k',k = k' + 1 := ⟨k - 1,by omega⟩;rw [r5_Power.l0,g1 k' (by omega),Option.bind_some,if_neg (by rw [decide_eq_false h];decide),wrapB (e - 1) (by omega) (by omega)];exact g2 k' (by omega)
theorem zBU {lx ly : List Int} {x y B : Nat} (q : Quo lx ly x y B) (lo hi : Nat) (hlo : Least x y (-(lo : Int))) (hhi : ¬ Least x y hi) (h1 : hi ≤ 1000) (h2 : lo ≤ 1000) (hlx : lx.length ≤ 150) (hly : ly.length ≤ 150) :
  ∃ e : Int,Least x y e ∧ ¬ Least x y (e + 1) ∧ e < hi ∧ -(lo : Int) ≤ e ∧ Ev (fun k => r5_Power.f k lx ly) e := by
 obtain ⟨a,a1,_,K1,g1⟩ := zZy lx q.dx (by omega);obtain ⟨b,b1,_,K2,g2⟩ := zZy ly q.dy (by omega);(have ha : a ≤ 2400 := by omega);(have hb : b ≤ 2400 := by omega);obtain ⟨e0,he0⟩ : ∃ e0 : Int,e0 = Int.tdiv (((a : Int) - b) * 30103) 100000 := ⟨_,rfl⟩
 have hbd : -1000 ≤ e0 ∧ e0 ≤ 1000 := by
  rw [he0];rcases Int.le_total 0 (((a : Int) - b) * 30103) with hp | hp
  ·rw [Int.tdiv_eq_ediv_of_nonneg hp];omega
  ·rw [show ((a : Int) - b) * 30103 = -(((b : Int) - a) * 30103) by omega,Int.neg_tdiv,Int.tdiv_eq_ediv_of_nonneg (by omega)];omega
 obtain ⟨e,c1,c2,c3,K3,g3⟩ := zHl q lo hi hlo hhi h1 h2 (e0 + lo).toNat e0 (by omega) hbd.1 hbd.2;refine ⟨e,c1,c2,c3,?_,K1 + K2 + K3,fun k hk => ?_⟩
 ·apply Int.le_of_not_gt;intro hgt;exact c2 (zYq q.px q.py hlo (by omega))
 ·dsimp only at g1 g2 g3 ⊢;rw [r5_Power.f,g1 k (by omega),Option.bind_some,g2 k (by omega),Option.bind_some,wrapB ((a : Int) - b) (by omega) (by omega),wrapB (((a : Int) - b) * 30103) (by omega) (by omega),← he0,wrapB e0 (by omega) (by omega)];exact g3 k (by omega)
def topN (x : Nat) (e : Int) (m : Nat) : Nat := x * 10 ^ ((m : Int) - e).toNat
def botN (y : Nat) (e : Int) (m : Nat) : Nat := y * 10 ^ (e - m).toNat
theorem zBy {lx ly : List Int} {x y B : Nat} (q : Quo lx ly x y B) (e : Int) (m : Nat) (he : -1000 ≤ e) (he2 : e ≤ 1000) (hm : m ≤ 100) :
  ∃ ld : List Int,Digs ld ∧ ld.length ≤ 1000 ∧ valD ld = botN y e m ∧ Ev (fun k => r5_digitsOf.f k lx ly e ((m : Int) + 1)) (toD (topN x e m / botN y e m),toD (topN x e m % botN y e m),ld) := by
 obtain ⟨dx,dy,ex,ey,lx',ly',bx,byy,px,py,hB⟩ := q;(have hw : wrap64 (wrap64 ((m : Int) + 1 - 1) - e) = (m : Int) - e := by rw [wrapB ((m : Int) + 1 - 1) (by omega) (by omega),wrapB _ (by omega) (by omega)];omega);unfold topN botN;by_cases h : (m : Int) - e ≥ 0
 ·obtain ⟨K1,h1⟩ := zKK ((m : Int) - e).toNat (by omega);have l10 := zXl (zYK ((m : Int) - e).toNat);obtain ⟨K2,h2⟩ := zYo lx (toD (10 ^ ((m : Int) - e).toNat)) dx (zQK _) (by omega) (by omega);rw [zQP,ex] at h2;have hb := zXl (zYO (n := ((m : Int) - e).toNat) (M := 9000) bx (by omega));obtain ⟨K3,h3⟩ := zWk (toD (x * 10 ^ ((m : Int) - e).toNat)) ly (zQK _) dy (by omega) (by omega) (by omega);rw [zQP,ey] at h3;rw [show (e - (m : Int)).toNat = 0 by omega,Nat.pow_zero,Nat.mul_one];refine ⟨ly,dy,ly',ey,K1 + K2 + K3,fun k hk => ?_⟩;dsimp only at h1 h2 h3 ⊢;have p1 := h1 k (by omega);rw [show ((((m : Int) - e).toNat : Nat) : Int) = (m : Int) - e by omega] at p1;rw [r5_digitsOf.f,hw,if_pos h,p1,Option.bind_some,h2 k (by omega),Option.bind_some,h3 k (by omega),Option.bind_some]
 ·obtain ⟨K1,h1⟩ := zKK (e - (m : Int)).toNat (by omega);have l10 := zXl (zYK (e - (m : Int)).toNat);obtain ⟨K2,h2⟩ := zYo ly (toD (10 ^ (e - (m : Int)).toNat)) dy (zQK _) (by omega) (by omega);rw [zQP,ey] at h2;have hb := zXl (zYO (n := (e - (m : Int)).toNat) (M := 9000) byy (by omega));have hne : y * 10 ^ (e - (m : Int)).toNat ≠ 0 := Nat.ne_of_gt (Nat.mul_pos py (zQD _));obtain ⟨K3,h3⟩ := zWk lx (toD (y * 10 ^ (e - (m : Int)).toNat)) dx (zQK _) (by rw [zQP];exact hne) (by omega) (by omega);rw [zQP,ex] at h3;rw [show ((m : Int) - e).toNat = 0 by omega,Nat.pow_zero,Nat.mul_one];refine ⟨toD (y * 10 ^ (e - (m : Int)).toNat),zQK _,by omega,zQP _,K1 + K2 + K3,fun k hk => ?_⟩;dsimp only at h1 h2 h3 ⊢;have p1 := h1 k (by omega);rw [show (((e - (m : Int)).toNat : Nat) : Int) = -((m : Int) - e) by omega] at p1;rw [r5_digitsOf.f,hw,if_neg h,wrapB (-((m : Int) - e)) (by omega) (by omega),p1,Option.bind_some,h2 k (by omega),Option.bind_some,h3 k (by omega),Option.bind_some]
theorem zGv : Digs [(10 : Int)] := zXX (by omega)
theorem zWP : ∀ (m d : Nat) (t : ByteArray),d < 10 ^ m → m + t.size ≤ 1000 → Ev (fun k => r5_numeral.l0 k (toD d) t) (strOfNums (ds d) ++ t)
 | 0,d,t,hd,hm => by
  rw [Nat.pow_zero] at hd;(obtain rfl : d = 0 := by omega);refine Ev.step (f := fun _ => some t) (fun k => ?_) (Ev.congr (fun k => ?_) (Ev.now _))
  ·rw [r5_numeral.l0,zXf,if_neg (by decide)]
  ·rw [zYl];exact congrArg some (zZd (by rw [bytes_append];rfl))
 | m + 1,d,t,hd,hm => by
  by_cases h0 : d = 0
  ·subst h0;refine Ev.step (f := fun _ => some t) (fun k => ?_) (Ev.congr (fun k => ?_) (Ev.now _))
   ·rw [r5_numeral.l0,zXf,if_neg (by decide)]
   ·rw [zYl];exact congrArg some (zZd (by rw [bytes_append];rfl))
  ·have hlen : (toD d).length ≤ (4 * (m + 1) + 1) / 16 + 1 := zXl (Nat.lt_trans hd (zYK (m + 1)));rw [Nat.pow_succ] at hd;obtain ⟨K1,h1⟩ := zWk (toD d) [10] (zQK _) zGv (by decide) (by omega) (by decide);rw [zQP,show valD [10] = 10 from rfl] at h1;have hs : r1_Small.f (toD (d % 10)) = some ((d % 10 : Nat) : Int) := zWI (d % 10) (by omega);(have hdg : (48 + (((d % 10 : Nat) : Int) % 256)) % 256 = dg d := by unfold dg;omega);obtain ⟨K2,h2⟩ := zWP m (d / 10) (strOfNums [dg d] ++ t) (by omega) (by rw [zQI,zYA];omega);refine ⟨K1 + K2 + 1,fun k hk => ?_⟩;dsimp only at h1 h2 ⊢;obtain ⟨k',rfl⟩ : ∃ k',k = k' + 1 := ⟨k - 1,by omega⟩;(have hpos : ((toD d).length : Int) > 0 := by rw [zYb h0,List.length_cons];omega);rw [r5_numeral.l0,if_pos hpos,h1 k' (by omega),Option.bind_some];dsimp only;rw [hs,Option.bind_some,hdg,Option.bind_some,if_pos (by rw [zYA];omega),h2 k' (by omega),zYi h0,zZw];exact congrArg some (zZd (by rw [bytes_append,bytes_append,bytes_append,bytes_append,List.append_assoc]))
theorem zWi (m d : Nat) (hd : d < 10 ^ m) (hm : m ≤ 900) : Ev (fun k => r5_numeral.f k (toD d)) (strOfNums (ds d)) := by
 have h := zWP m d (⟨#[]⟩ : ByteArray) hd (by show m + 0 ≤ 1000;omega);rw [show strOfNums (ds d) ++ (⟨#[]⟩ : ByteArray) = strOfNums (ds d) from zZd (by rw [bytes_append];exact List.append_nil _)] at h;exact h
theorem zWq (a b : ByteArray) : (a ++ b).extract 0 a.size = a := by
 refine zZd ?_
 rw [zWu,bytes_append,List.drop_zero,← zXC a,List.take_append_of_le_length (by omega),List.take_of_length_le (by omega)]
theorem zWL : ∀ (n y : Nat) (t : ByteArray),y ≤ n → y ≠ 0 → (ds y).length + t.size ≤ 1000 → Ev (fun k => r5_trim.l0 k (strOfNums (ds y) ++ t) (((ds y).length : Nat) : Int)) (strOfNums (ds (strip y)))
 | 0,y,t,h,h0,_ => absurd (by omega) h0
 | n + 1,y,t,h,h0,hl => by
  have hpl := zZD h0;have hlast := zHC h0 t;have hsz : (strOfNums (ds y) ++ t).size = (ds y).length + t.size := by rw [zQI,zYn]
  have hex : (strOfNums (ds y) ++ t).extract 0 (ds y).length = strOfNums (ds y) := by
   have := zWq (strOfNums (ds y)) t;rw [zYn] at this;exact this
  by_cases h1 : y % 10 = 0
  ·(have h10 : y / 10 ≠ 0 := by omega);have hpl2 := zZD h10;have hlen : (ds y).length = (ds (y / 10)).length + 1 := by rw [zYi h0,List.length_append];rfl
   have e0 : strOfNums (ds y) ++ t = strOfNums (ds (y / 10)) ++ (strOfNums [dg y] ++ t) := by
    rw [zYi h0,zZw];exact zZd (by rw [bytes_append,bytes_append,bytes_append,bytes_append,List.append_assoc])
   (have hdg : dg y = 48 := by unfold dg;omega);have hi := zWL n (y / 10) (strOfNums [dg y] ++ t) (by omega) h10 (by rw [zQI,zYA];omega);rw [← e0,← zYW h0 h1] at hi;refine Ev.step (fun k => ?_) hi;rw [r5_trim.l0,wrapB _ (by omega) (by omega),if_pos (by omega),if_pos (by omega),if_pos (by omega),show (((ds y).length : Nat) : Int) - 1 = (((ds y).length - 1 : Nat) : Int) by omega,hlast,if_pos hdg];rw [show (ds y).length - 1 = (ds (y / 10)).length by omega]
  ·(have hdg : dg y ≠ 48 := by unfold dg;omega);rw [zZY h1];refine Ev.step (f := fun _ => some (strOfNums (ds y))) (fun k => ?_) (Ev.now _);rw [r5_trim.l0];by_cases hgt : (((ds y).length : Nat) : Int) > 1
   ·rw [if_pos hgt,wrapB _ (by omega) (by omega),if_pos (by omega),if_pos (by omega),show (((ds y).length : Nat) : Int) - 1 = (((ds y).length - 1 : Nat) : Int) by omega,hlast,if_neg hdg,if_pos (by omega),if_pos (by omega),Int.toNat_natCast,hex]
   ·rw [if_neg hgt,if_pos (by omega),if_pos (by omega),Int.toNat_natCast,hex]
theorem zWM (m y : Nat) (h0 : y ≠ 0) (hm : y < 10 ^ m) (hm2 : m ≤ 900) : Ev (fun k => r5_trim.f k (strOfNums (ds y))) (strOfNums (ds (strip y))) := by
 have hl := zVw m y hm;have h := zWL y y (⟨#[]⟩ : ByteArray) (Nat.le_refl _) h0 (by show (ds y).length + 0 ≤ 1000;omega);rw [show strOfNums (ds y) ++ (⟨#[]⟩ : ByteArray) = strOfNums (ds y) from zZd (by rw [bytes_append];exact List.append_nil _)] at h;refine Ev.congr (fun k => ?_) h;rw [r5_trim.f,zYn]
theorem zVz {A s b Y : Nat} (hs : 0 < s) (hY : 0 < Y) (h : A * s = b * Y) : A / Y = b / s ∧ (A % Y) * s = (b % s) * Y := by
 have h1 := Nat.div_add_mod A Y;have h2 := Nat.mod_lt A hY;obtain ⟨Q,hQ⟩ : ∃ Q,Q = A / Y := ⟨_,rfl⟩;obtain ⟨ρ,hρ⟩ : ∃ ρ,ρ = A % Y := ⟨_,rfl⟩;rw [← hQ,← hρ] at h1 ⊢;rw [← hρ] at h2;have e1 : b * Y = Q * s * Y + ρ * s := by rw [← h,← h1,Nat.add_mul,Nat.mul_comm Y Q,Nat.mul_right_comm]
 have lo : Q * s ≤ b := by
  refine Nat.le_of_mul_le_mul_right (c := Y) ?_ hY;omega
 have hi : b < (Q + 1) * s := by
  refine Nat.lt_of_mul_lt_mul_right (a := Y) ?_
  rw [e1,Nat.add_mul Q 1 s,Nat.one_mul,Nat.add_mul];(have : ρ * s < s * Y := by rw [Nat.mul_comm s];exact Nat.mul_lt_mul_of_pos_right h2 hs);omega
 have hq : b / s = Q := Nat.div_eq_of_lt_le lo hi;refine ⟨hq.symm,?_⟩;have h3 := Nat.div_add_mod b s;rw [hq] at h3;(have e2 : b * Y = Q * s * Y + (b % s) * Y := by rw [← Nat.add_mul,Nat.mul_comm Q s,h3]);omega
theorem zHv (n e : Int) (lx ly l : List Int) (m Q : Nat) (high : Bool) (hQ1 : Q ≠ 0) (hQ2 : Q < 10 ^ (m + 1)) (hm : m ≤ 100) :
  Ev (fun k => r5_Shortest.j2 k n lx ly e ((m : Int) + 1) (toD Q) l high true) (strOfNums (ds (strip Q)),e) := by
 obtain ⟨K1,h1⟩ := zWi (m + 1) Q hQ2 (by omega);obtain ⟨K2,h2⟩ := zWM (m + 1) Q hQ1 hQ2 (by omega);refine ⟨K1 + K2 + 1,fun k hk => ?_⟩;dsimp only at h1 h2 ⊢;obtain ⟨k',rfl⟩ : ∃ k',k = k' + 1 := ⟨k - 1,by omega⟩;rw [r5_Shortest.j2,if_pos rfl,h1 k' (by omega),Option.bind_some,h2 k' (by omega),Option.bind_some]
theorem zHx (n e : Int) (lx ly l : List Int) (m Q : Nat) (hQ0 : 10 ^ m ≤ Q) (hQ2 : Q < 10 ^ (m + 1)) (hm : m ≤ 100) (he : -100000 ≤ e) (he2 : e ≤ 100000) :
  Ev (fun k => r5_Shortest.j2 k n lx ly e ((m : Int) + 1) l (toD (Q + 1)) true false) (strOfNums (ds (strip (Q + 1))),if Q + 1 = 10 ^ (m + 1) then e + 1 else e) := by
 (have hlt : Q + 1 < 10 ^ (m + 2) := by rw [Nat.pow_succ];omega);obtain ⟨K1,h1⟩ := zWi (m + 2) (Q + 1) hlt (by omega);obtain ⟨K2,h2⟩ := zWM (m + 2) (Q + 1) (by omega) hlt (by omega);refine ⟨K1 + K2 + 1,fun k hk => ?_⟩;dsimp only at h1 h2 ⊢;obtain ⟨k',rfl⟩ : ∃ k',k = k' + 1 := ⟨k - 1,by omega⟩;rw [r5_Shortest.j2,if_neg (by decide),if_pos rfl,h1 k' (by omega),Option.bind_some,zYn];by_cases h : Q + 1 = 10 ^ (m + 1)
 ·have hl : (ds (Q + 1)).length = m + 2 := zJi (m := m + 1) (by omega) (by omega);rw [if_pos (by omega),if_pos h,h2 k' (by omega),Option.bind_some,wrapB _ (by omega) (by omega)]
 ·have hl : (ds (Q + 1)).length = m + 1 := zJi (by omega) (by omega);rw [if_neg (by omega),if_neg h,h2 k' (by omega),Option.bind_some]
theorem zHw (n e : Int) (lx ly l l' : List Int) (m : Nat) (hm : m ≤ 100) (res : ByteArray × Int) (h : Ev (fun k => r5_Shortest.l0 k n lx ly e (((m + 1 : Nat) : Int) + 1)) res) :
  Ev (fun k => r5_Shortest.j2 k n lx ly e ((m : Int) + 1) l l' false false) res := by
 refine Ev.step (fun k => ?_) h;rw [r5_Shortest.j2,if_neg (by decide),if_neg (by decide),wrapB _ (by omega) (by omega),show (m : Int) + 1 + 1 = ((m + 1 : Nat) : Int) + 1 by omega]
theorem zGK (n e : Int) (lx ly ld : List Int) (m Q ρ' Y s ρ dn up B : Nat) (ev low high : Bool) (res : ByteArray × Int) (hlow : low = true ↔ Low ρ dn ev) (hhigh : high = true ↔ (0 < ρ ∧ Far ρ up s ev))
  (hs : 0 < s) (hdn : 0 < dn) (hld : Digs ld) (hll : ld.length ≤ 1000) (hY : valD ld = Y) (hYp : 0 < Y) (hcross : ρ' * s = ρ * Y) (hρ : ρ' < 2 ^ B) (hB : B ≤ 10000) (hQ0 : 10 ^ m ≤ Q) (hQ2 : Q < 10 ^ (m + 1)) (hm : m ≤ 100) (he : -100000 ≤ e) (he2 : e ≤ 100000)
  (hres1 : Stop ρ dn up s ev → res = outF (m,pickX Q ρ dn up s ev) e) (hres2 : ¬ Stop ρ dn up s ev → Ev (fun k => r5_Shortest.l0 k n lx ly e (((m + 1 : Nat) : Int) + 1)) res) :
  Ev (fun k => r5_Shortest.j1 k n lx ly e ((m : Int) + 1) (toD Q) (toD ρ') ld (toD (Q + 1)) low high) res := by
 have hlρ := zXl hρ;obtain ⟨K1,h1⟩ := zKL (toD ρ') (zQK _) 1 (by omega);rw [zQP,Nat.pow_one] at h1;have hlρ2 := zXl (show ρ' * 2 < 2 ^ (B + 1) by rw [Nat.pow_succ];omega);obtain ⟨c,⟨K2,h2⟩,c1,c2⟩ := zGb (toD (ρ' * 2)) ld (zQK _) hld (by omega) (by omega);rw [zQP,hY] at c1 c2
 have d1 : c < 0 ↔ 2 * ρ < s := by
  rw [c1,← Nat.mul_lt_mul_right (a := s) hs,← Nat.mul_lt_mul_right (a := Y) (b := 2 * ρ) hYp,Nat.mul_right_comm,hcross,Nat.mul_comm Y s,show ρ * Y * 2 = 2 * ρ * Y by rw [Nat.mul_comm,Nat.mul_assoc]]
 have d2 : c = 0 ↔ 2 * ρ = s := by
  rw [c2];constructor
  ·intro h
   refine Nat.eq_of_mul_eq_mul_right hYp ?_
   (have e2 : ρ' * 2 * s = 2 * (ρ * Y) := by rw [Nat.mul_right_comm,hcross,Nat.mul_comm]);rw [Nat.mul_assoc,← e2,h,Nat.mul_comm]
  ·intro h
   refine Nat.eq_of_mul_eq_mul_right hs ?_
   (have e2 : ρ' * 2 * s = 2 * (ρ * Y) := by rw [Nat.mul_right_comm,hcross,Nat.mul_comm]);rw [e2,← Nat.mul_assoc,h,Nat.mul_comm]
 have hbit : r1_Bit.f (toD Q) 0 = some ((Q % 2 : Nat) : Int) := by
  have := zKg (toD Q) (zQK _) 0 (by decide);rw [zQP,Nat.pow_zero,Nat.div_one] at this;exact this
 have hT : (Low ρ dn ev ∧ (¬ (0 < ρ ∧ Far ρ up s ev) ∨ 2 * ρ < s ∨ (2 * ρ = s ∧ Q % 2 = 0))) → ∀ hh : Bool,Ev (fun k => r5_Shortest.j2 k n lx ly e ((m : Int) + 1) (toD Q) (toD (Q + 1)) hh true) res := by
  intro hp hh
  have hx : pickX Q ρ dn up s ev = Q := by
   unfold pickX;rw [if_neg];rintro ⟨hf,g⟩;rcases g with g | g | g
   ·exact g hp.1
   ·rcases hp.2 with h | h | h
    ·exact h ⟨by omega,hf⟩
    ·omega
    ·omega
   ·rcases hp.2 with h | h | h
    ·exact h ⟨by omega,hf⟩
    ·omega
    ·omega
  have hr := hres1 (.inl hp.1);rw [hx] at hr;unfold outF at hr;dsimp only at hr;rw [if_neg (by omega)] at hr;rw [hr];exact zHv n e lx ly _ m Q hh (by have := zQD m;omega) hQ2 hm
 have hF : ¬ (Low ρ dn ev ∧ (¬ (0 < ρ ∧ Far ρ up s ev) ∨ 2 * ρ < s ∨ (2 * ρ = s ∧ Q % 2 = 0))) → Ev (fun k => r5_Shortest.j2 k n lx ly e ((m : Int) + 1) (toD Q) (toD (Q + 1)) high false) res := by
  intro hp;by_cases hh : high = true
  ·have hf := hhigh.1 hh;rw [hh]
   have hx : pickX Q ρ dn up s ev = Q + 1 := by
    unfold pickX;rw [if_pos];refine ⟨hf.2,?_⟩;by_cases hl : Low ρ dn ev
    ·right;(have h3 : ¬ (2 * ρ < s ∨ (2 * ρ = s ∧ Q % 2 = 0)) := fun h => hp ⟨hl,.inr h⟩);omega
    ·exact .inl hl
   have hr := hres1 (.inr hf.2);rw [hx] at hr;rw [hr];exact zHx n e lx ly _ m Q hQ0 hQ2 hm he he2
  ·(have hf : ¬ (0 < ρ ∧ Far ρ up s ev) := fun h => hh (hhigh.2 h));have hl : ¬ Low ρ dn ev := fun h => hp ⟨h,.inl hf⟩
   have h0 : 0 < ρ := by
    apply Nat.pos_of_ne_zero;intro h;exact hl (.inl (by omega))
   have hst : ¬ Stop ρ dn up s ev := by
    rintro (h | h)
    ·exact hl h
    ·exact hf ⟨h0,h⟩
   rw [show high = false by cases high <;> simp_all];exact zHw n e lx ly _ _ m hm res (hres2 hst)
 cases low with
 | false =>
  (have hl : ¬ Low ρ dn ev := fun h => by have := hlow.2 h;cases this);obtain ⟨K3,h3⟩ := hF (fun h => hl h.1);refine ⟨K1 + K2 + K3 + 1,fun k hk => ?_⟩;dsimp only at h1 h2 h3 ⊢;obtain ⟨k',rfl⟩ : ∃ k',k = k' + 1 := ⟨k - 1,by omega⟩;have p1 : r1_Up.f k' (toD ρ') 1 = some (toD (ρ' * 2)) := h1 k' (by omega);rw [r5_Shortest.j1,p1,Option.bind_some,h2 k' (by omega),Option.bind_some,if_neg (by decide)];exact h3 k' (by omega)
 | true =>
  have hl : Low ρ dn ev := hlow.1 rfl;by_cases hh : high = true
  ·have hf := hhigh.1 hh;by_cases a1 : c < 0
   ·obtain ⟨K3,h3⟩ := hT ⟨hl,.inr (.inl (d1.1 a1))⟩ high;refine ⟨K1 + K2 + K3 + 1,fun k hk => ?_⟩;dsimp only at h1 h2 h3 ⊢;obtain ⟨k',rfl⟩ : ∃ k',k = k' + 1 := ⟨k - 1,by omega⟩;have p1 : r1_Up.f k' (toD ρ') 1 = some (toD (ρ' * 2)) := h1 k' (by omega);rw [r5_Shortest.j1,p1,Option.bind_some,h2 k' (by omega),Option.bind_some,if_pos rfl,if_pos hh,if_pos a1];exact h3 k' (by omega)
   ·by_cases a2 : c = 0
    ·by_cases a3 : Q % 2 = 0
     ·obtain ⟨K3,h3⟩ := hT ⟨hl,.inr (.inr ⟨d2.1 a2,a3⟩)⟩ high;refine ⟨K1 + K2 + K3 + 1,fun k hk => ?_⟩;dsimp only at h1 h2 h3 ⊢;obtain ⟨k',rfl⟩ : ∃ k',k = k' + 1 := ⟨k - 1,by omega⟩;have p1 : r1_Up.f k' (toD ρ') 1 = some (toD (ρ' * 2)) := h1 k' (by omega);rw [r5_Shortest.j1,p1,Option.bind_some,h2 k' (by omega),Option.bind_some,if_pos rfl,if_pos hh,if_neg a1,if_pos a2,hbit,Option.bind_some,a3];exact h3 k' (by omega)
     ·obtain ⟨K3,h3⟩ := hF (by rintro ⟨_,h | h | h⟩;exact h hf;exact a1 (d1.2 h);exact a3 h.2);refine ⟨K1 + K2 + K3 + 1,fun k hk => ?_⟩;dsimp only at h1 h2 h3 ⊢;obtain ⟨k',rfl⟩ : ∃ k',k = k' + 1 := ⟨k - 1,by omega⟩;have p1 : r1_Up.f k' (toD ρ') 1 = some (toD (ρ' * 2)) := h1 k' (by omega);rw [r5_Shortest.j1,p1,Option.bind_some,h2 k' (by omega),Option.bind_some,if_pos rfl,if_pos hh,if_neg a1,if_pos a2,hbit,Option.bind_some,show Q % 2 = 1 by omega];exact h3 k' (by omega)
    ·obtain ⟨K3,h3⟩ := hF (by rintro ⟨_,h | h | h⟩;exact h hf;exact a1 (d1.2 h);exact a2 (d2.2 h.1));refine ⟨K1 + K2 + K3 + 1,fun k hk => ?_⟩;dsimp only at h1 h2 h3 ⊢;obtain ⟨k',rfl⟩ : ∃ k',k = k' + 1 := ⟨k - 1,by omega⟩;have p1 : r1_Up.f k' (toD ρ') 1 = some (toD (ρ' * 2)) := h1 k' (by omega);rw [r5_Shortest.j1,p1,Option.bind_some,h2 k' (by omega),Option.bind_some,if_pos rfl,if_pos hh,if_neg a1,if_neg a2];exact h3 k' (by omega)
  ·obtain ⟨K3,h3⟩ := hT ⟨hl,.inl (fun h => hh (hhigh.2 h))⟩ high;refine ⟨K1 + K2 + K3 + 1,fun k hk => ?_⟩;dsimp only at h1 h2 h3 ⊢;obtain ⟨k',rfl⟩ : ∃ k',k = k' + 1 := ⟨k - 1,by omega⟩;have p1 : r1_Up.f k' (toD ρ') 1 = some (toD (ρ' * 2)) := h1 k' (by omega);rw [r5_Shortest.j1,p1,Option.bind_some,h2 k' (by omega),Option.bind_some,if_pos rfl,if_neg hh];exact h3 k' (by omega)
theorem zBS {x y R S p q : Nat} {e : Int} (he : e = (q : Int) - p) (hxy : x * S = R * y) (m : Nat) : topN x e m * (S * 10 ^ q) = (R * 10 ^ p * 10 ^ m) * botN y e m := by
 unfold topN botN
 have e1 : 10 ^ ((m : Int) - e).toNat * 10 ^ q = 10 ^ p * 10 ^ m * 10 ^ (e - m).toNat := by
  rw [← Nat.pow_add,← Nat.pow_add,← Nat.pow_add,show ((m : Int) - e).toNat + q = p + m + (e - m).toNat by omega]
 generalize 10 ^ ((m : Int) - e).toNat = a at e1 ⊢;generalize 10 ^ q = b at e1 ⊢;generalize 10 ^ (e - (m : Int)).toNat = c at e1 ⊢;rw [show x * a * (S * b) = x * S * (a * b) by rw [Nat.mul_assoc,Nat.mul_left_comm a S,← Nat.mul_assoc],e1,hxy]
 ac_rfl
theorem zVA : Digs [(1 : Int)] := zXX (by omega)
theorem zBp (w n : Nat) : (((w : Int) == (n : Int)) = true) ↔ w = n := by
 rw [beq_iff_eq];omega
theorem zWj {lx ly : List Int} {x y B n R S D U p q : Nat} {e : Int} (qu : Quo lx ly x y B) (h : Sp n R S D U) (hn : 0 < n) (hn2 : n < INF) (he : e = (q : Int) - p) (hxy : x * S = R * y) (hlo : -500 ≤ e) (hhi : e ≤ 400)
  (hr1 : S * 10 ^ q ≤ R * 10 ^ p) (hr2 : R * 10 ^ p < 10 * (S * 10 ^ q)) : ∀ (t m : Nat),m + t = 17 → (∃ j,m ≤ j ∧ j < m + t ∧ Stop (R * 10 ^ p * 10 ^ j % (S * 10 ^ q)) (D * 10 ^ p * 10 ^ j) (U * 10 ^ p * 10 ^ j) (S * 10 ^ q) (n % 2 == 0)) →
  Ev (fun k => r5_Shortest.l0 k (n : Int) lx ly e ((m : Int) + 1)) (outF (gen (R * 10 ^ p) (S * 10 ^ q) (D * 10 ^ p) (U * 10 ^ p) (n % 2 == 0) t m) e)
 | 0,m,hm,hj => by obtain ⟨j,_,_,_⟩ := hj;omega
 | t + 1,m,hm,hj => by
  have hs : 0 < S * 10 ^ q := Nat.mul_pos h.hS (zQD q);have hdn : 0 < D * 10 ^ p * 10 ^ m := Nat.mul_pos (Nat.mul_pos (sp_D h hn) (zQD p)) (zQD m);obtain ⟨ld,hld,hll,hlv,K1,g1⟩ := zBy qu e m (by omega) (by omega) (by omega);have hbp : 0 < botN y e m := Nat.mul_pos qu.py (zQD _);obtain ⟨M9,hM9⟩ : ∃ M : Nat,M = 9000 := ⟨_,rfl⟩;have hbl : botN y e m < 2 ^ M9 := zYO qu.byy (by have := qu.hB;omega);obtain ⟨hq,hcr⟩ := zVz hs hbp (zBS he hxy m);rw [hq] at g1;obtain ⟨ρ',hρ'⟩ : ∃ ρ',ρ' = topN x e m % botN y e m := ⟨_,rfl⟩;(have hρl : ρ' < botN y e m := by rw [hρ'];exact Nat.mod_lt _ hbp);rw [← hρ'] at hcr g1;clear hρ';obtain ⟨b,hb⟩ : ∃ b,b = botN y e m := ⟨_,rfl⟩;rw [← hb] at hcr hlv hbp hbl hρl;clear hb
  have hQρ : R * 10 ^ p * 10 ^ m = (R * 10 ^ p * 10 ^ m / (S * 10 ^ q)) * (S * 10 ^ q) + R * 10 ^ p * 10 ^ m % (S * 10 ^ q) := by
   rw [Nat.mul_comm (R * 10 ^ p * 10 ^ m / (S * 10 ^ q))];exact (Nat.div_add_mod _ _).symm
  have hρs := Nat.mod_lt (R * 10 ^ p * 10 ^ m) hs
  have hQ0 : 10 ^ m ≤ R * 10 ^ p * 10 ^ m / (S * 10 ^ q) := by
   rw [Nat.le_div_iff_mul_le hs,Nat.mul_comm];exact Nat.mul_le_mul_right _ hr1
  have hQ2 : R * 10 ^ p * 10 ^ m / (S * 10 ^ q) < 10 ^ (m + 1) := by
   refine Nat.div_lt_of_lt_mul ?_
   rw [Nat.pow_succ,Nat.mul_comm (10 ^ m) 10,← Nat.mul_assoc,Nat.mul_comm (S * 10 ^ q)];exact Nat.mul_lt_mul_of_pos_right hr2 (zQD m)
  have hgen : (Stop (R * 10 ^ p * 10 ^ m % (S * 10 ^ q)) (D * 10 ^ p * 10 ^ m) (U * 10 ^ p * 10 ^ m) (S * 10 ^ q) (n % 2 == 0) → outF (gen (R * 10 ^ p) (S * 10 ^ q) (D * 10 ^ p) (U * 10 ^ p) (n % 2 == 0) (t + 1) m) e = outF (m,pickX (R * 10 ^ p * 10 ^ m / (S * 10 ^ q)) (R * 10 ^ p * 10 ^ m % (S * 10 ^ q)) (D * 10 ^ p * 10 ^ m) (U * 10 ^ p * 10 ^ m) (S * 10 ^ q) (n % 2 == 0)) e) ∧
    (¬ Stop (R * 10 ^ p * 10 ^ m % (S * 10 ^ q)) (D * 10 ^ p * 10 ^ m) (U * 10 ^ p * 10 ^ m) (S * 10 ^ q) (n % 2 == 0) → Ev (fun k => r5_Shortest.l0 k (n : Int) lx ly e (((m + 1 : Nat) : Int) + 1)) (outF (gen (R * 10 ^ p) (S * 10 ^ q) (D * 10 ^ p) (U * 10 ^ p) (n % 2 == 0) (t + 1) m) e)) := by
   refine ⟨fun hst => by rw [gen,if_pos hst],fun hst => ?_⟩;rw [gen,if_neg hst]
   refine zWj qu h hn hn2 he hxy hlo hhi hr1 hr2 t (m + 1) (by omega) ?_
   obtain ⟨j,j1,j2,j3⟩ := hj;(have hne : m ≠ j := fun hj => hst (hj ▸ j3));exact ⟨j,by omega,by omega,j3⟩
  have hlowI := zHs (m := m) h hn he hQρ;have hundI := zBN (m := m) h he hQρ;have hfarI := zHA (m := m) h he hQρ;have habvI := zBH (m := m) h hn he hQρ hρs;obtain ⟨Q,hQe⟩ : ∃ Q,Q = R * 10 ^ p * 10 ^ m / (S * 10 ^ q) := ⟨_,rfl⟩;obtain ⟨ρ,hρe⟩ : ∃ ρ,ρ = R * 10 ^ p * 10 ^ m % (S * 10 ^ q) := ⟨_,rfl⟩;obtain ⟨dn,hdne⟩ : ∃ dn,dn = D * 10 ^ p * 10 ^ m := ⟨_,rfl⟩;obtain ⟨up,hupe⟩ : ∃ up,up = U * 10 ^ p * 10 ^ m := ⟨_,rfl⟩;obtain ⟨s,hse⟩ : ∃ s,s = S * 10 ^ q := ⟨_,rfl⟩;obtain ⟨res,hres⟩ : ∃ res,res = outF (gen (R * 10 ^ p) (S * 10 ^ q) (D * 10 ^ p) (U * 10 ^ p) (n % 2 == 0) (t + 1) m) e := ⟨_,rfl⟩;rw [← hres] at hgen ⊢;rw [← hQe,← hρe,← hdne,← hupe,← hse] at hgen;rw [← hQe,← hρe,← hdne] at hlowI;rw [← hQe] at hundI habvI;rw [← hQe,← hρe,← hupe,← hse] at hfarI;rw [← hQe] at hQ0 hQ2 g1;rw [← hse] at hs;rw [← hρe,← hse] at hcr;rw [← hdne] at hdn;clear hρs hQρ hQe hρe hdne hupe hse hres hr1 hr2 hq;(have hQp : Q ≠ 0 := by have := zQD m;omega);obtain ⟨K2,g2⟩ := zJz (toD Q) [1] (zQK _) zVA (by have := zXl (Nat.lt_trans hQ2 (zYK (m + 1)));omega) (by decide);rw [zQP,show valD [1] = 1 from rfl] at g2;obtain ⟨K3,g3⟩ := zWi (m + 1) Q hQ2 (by omega);have hsz1 := zZC hQ2;obtain ⟨w1,hw1,K4,g4⟩ := zVm (strOfNums (ds Q)) (e - m) (zGT Q) (by omega) (by omega) (by omega);rw [zGS] at hw1
  have hlow : (((w1 : Int) == (n : Int)) = true) ↔ Low ρ dn (n % 2 == 0) := by
   rw [zBp,zWT hQp (by omega) (by omega) hn2 hw1];exact ⟨fun g => hlowI.1 g.1,fun g => ⟨hlowI.2 g,hundI⟩⟩
  (have hw : wrap64 (wrap64 (e - ((m : Int) + 1)) + 1) = e - m := by rw [wrapB (e - ((m : Int) + 1)) (by omega) (by omega),wrapB _ (by omega) (by omega)];omega);by_cases h0 : ρ' = 0
  ·have hρ0 : ρ = 0 := by
    rw [h0,Nat.zero_mul] at hcr;rcases Nat.mul_eq_zero.1 hcr.symm with g | g
    ·exact g
    ·omega
   obtain ⟨K5,g5⟩ := zGK (n : Int) e lx ly ld m Q ρ' b s ρ dn up M9 (n % 2 == 0) ((w1 : Int) == (n : Int)) false res hlow ⟨(fun g => by cases g),(fun g => by omega)⟩ hs hdn hld hll hlv hbp hcr (Nat.lt_trans hρl hbl) (by omega) hQ0 hQ2 (by omega) (by omega) (by omega) hgen.1 hgen.2;refine ⟨K1 + K2 + K3 + K4 + K5 + 1,fun k hk => ?_⟩;dsimp only at g1 g2 g3 g4 g5 ⊢;obtain ⟨k',rfl⟩ : ∃ k',k = k' + 1 := ⟨k - 1,by omega⟩;rw [r5_Shortest.l0,g1 k' (by omega),Option.bind_some];dsimp only;rw [g2 k' (by omega),Option.bind_some,g3 k' (by omega),Option.bind_some,hw,g4 k' (by omega),Option.bind_some,if_neg (by rw [h0,zXf];decide)];exact g5 k' (by omega)
  ·have hρ0 : 0 < ρ := by
    apply Nat.pos_of_ne_zero;intro g;rw [g,Nat.zero_mul] at hcr;rcases Nat.mul_eq_zero.1 hcr with g | g
    ·exact h0 g
    ·omega
   (have hQ3 : Q + 1 < 10 ^ (m + 2) := by rw [Nat.pow_succ];omega);obtain ⟨K6,g6⟩ := zWi (m + 2) (Q + 1) hQ3 (by omega);have hsz2 := zZC hQ3;obtain ⟨w2,hw2,K7,g7⟩ := zVm (strOfNums (ds (Q + 1))) (e - m) (zGT _) (by omega) (by omega) (by omega);rw [zGS] at hw2
   have hhigh : (((w2 : Int) == (n : Int)) = true) ↔ (0 < ρ ∧ Far ρ up s (n % 2 == 0)) := by
    rw [zBp,zWT (by omega) (by omega) (by omega) hn2 hw2];exact ⟨fun g => ⟨hρ0,hfarI.1 g.2⟩,fun g => ⟨habvI,hfarI.2 g.2⟩⟩
   obtain ⟨K5,g5⟩ := zGK (n : Int) e lx ly ld m Q ρ' b s ρ dn up M9 (n % 2 == 0) ((w1 : Int) == (n : Int)) ((w2 : Int) == (n : Int)) res hlow hhigh hs hdn hld hll hlv hbp hcr (Nat.lt_trans hρl hbl) (by omega) hQ0 hQ2 (by omega) (by omega) (by omega) hgen.1 hgen.2;refine ⟨K1 + K2 + K3 + K4 + K5 + K6 + K7 + 1,fun k hk => ?_⟩;dsimp only at g1 g2 g3 g4 g5 g6 g7 ⊢;obtain ⟨k',rfl⟩ : ∃ k',k = k' + 1 := ⟨k - 1,by omega⟩;(have hpos : ((toD ρ').length : Int) > 0 := by rw [zYb h0,List.length_cons];omega);rw [r5_Shortest.l0,g1 k' (by omega),Option.bind_some];dsimp only;rw [g2 k' (by omega),Option.bind_some,g3 k' (by omega),Option.bind_some,hw,g4 k' (by omega),Option.bind_some,if_pos hpos,g6 k' (by omega),Option.bind_some,g7 k' (by omega),Option.bind_some];exact g5 k' (by omega)
theorem zJL (a : Nat) (h : a < 18446744073709551616) : Go.bits .andNot .u64 (a : Int) 9223372036854775808 = ((rung a : Nat) : Int) := by
 unfold Go.bits;rw [show IntKind.u64.bits = 64 from rfl];simp only [BitVec.toNat_and,BitVec.toNat_not];(have e2 : (BitVec.ofInt 64 (a : Int)).toNat = a := by rw [BitVec.ofInt_natCast,BitVec.toNat_ofNat,Nat.mod_eq_of_lt (by omega)]);rw [e2,show 2 ^ 64 - 1 - (BitVec.ofInt 64 9223372036854775808).toNat = 2 ^ 63 - 1 from rfl,Nat.and_two_pow_sub_one_eq_mod];show IntKind.u64.wrap ((a % 9223372036854775808 : Nat) : Int) = ((a % 9223372036854775808 : Nat) : Int);exact u64_in _ (by omega)
theorem zGt (a : Nat) (h : a < 18446744073709551616) : Go.bits .and .u64 ((a : Int) / 4503599627370496) 2047 = ((a / 4503599627370496 % 2048 : Nat) : Int) := by
 have := zWv (a / 4503599627370496) (by omega);rw [← this]
 congr 1
theorem zWR (a : Nat) (h : a < 18446744073709551616) : Ev (fun k => r1_Kind.f k (a : Int)) (kindV a) := by
 have hr : rung a = a % 9223372036854775808 := rfl;have hq := zGt a h;have hf : Go.bits .and .u64 (a : Int) 4503599627370495 = ((a % 4503599627370496 : Nat) : Int) := zZs a h;unfold r1_Kind.f kindV nanB infB;rw [hq,hf];by_cases c1 : a / 4503599627370496 % 2048 = 2047
 ·by_cases c2 : a % 4503599627370496 = 0
  ·rw [if_neg (by rw [decide_eq_true_iff];omega),if_neg (by omega),if_pos (by rw [decide_eq_true_iff];omega)];refine Ev.congr (fun k => if_pos (by omega)) (Ev.step (f := fun _ => some 3) (fun k => ?_) (Ev.now _));rw [r1_Kind.j0,if_neg (by rw [c2];decide),if_pos (by omega)]
  ·(have hn : (((a % 4503599627370496 : Nat) : Int) != 0) = true := by rw [bne_iff_ne];omega);rw [if_pos (by rw [decide_eq_true_iff];omega)];refine Ev.congr (fun k => if_pos (by omega)) (Ev.step (f := fun _ => some 4) (fun k => ?_) (Ev.now _));rw [r1_Kind.j0,if_pos hn]
 ·rw [if_neg (by rw [decide_eq_true_iff];omega)];by_cases c2 : a / 4503599627370496 % 2048 = 0
  ·by_cases c3 : a % 4503599627370496 = 0
   ·rw [if_pos (by omega)];refine Ev.congr (fun k => if_neg (by omega)) (Ev.step (fun k => ?_) (Ev.step (f := fun _ => some 0) (g := fun k => r1_Kind.j1 k ((a / 4503599627370496 % 2048 : Nat) : Int) true) (fun k => ?_) (Ev.now _)))
    ·rw [r1_Kind.j0,if_neg (by decide),if_neg (by omega),if_pos (by omega),c3]
     rfl
    ·rw [r1_Kind.j1,if_pos rfl]
   ·have hn : (((a % 4503599627370496 : Nat) : Int) == 0) = false := beq_eq_false_iff_ne.2 (by omega);rw [if_neg (by omega),if_neg (by rw [decide_eq_true_iff];omega),if_pos (by omega)];refine Ev.congr (fun k => if_neg (by omega)) (Ev.step (fun k => ?_) (Ev.step (f := fun _ => some 1) (g := fun k => r1_Kind.j1 k ((a / 4503599627370496 % 2048 : Nat) : Int) false) (fun k => ?_) (Ev.now _)))
    ·rw [r1_Kind.j0,if_neg (by decide),if_neg (by omega),if_pos (by omega),hn]
    ·rw [r1_Kind.j1,if_neg (by decide),if_pos (by omega)]
  ·rw [if_neg (by omega),if_neg (by rw [decide_eq_true_iff];omega),if_neg (by omega)];refine Ev.congr (fun k => if_neg (by omega)) (Ev.step (fun k => ?_) (Ev.step (f := fun _ => some 2) (g := fun k => r1_Kind.j1 k ((a / 4503599627370496 % 2048 : Nat) : Int) false) (fun k => ?_) (Ev.now _)))
   ·rw [r1_Kind.j0,if_neg (by decide),if_neg (by omega),if_neg (by omega)]
   ·rw [r1_Kind.j1,if_neg (by decide),if_neg (by omega)]
theorem zBW (n : Nat) (h0 : 0 < n) (h1 : n < INF) : ∃ (j q : Nat),n = j * 4503599627370496 + q ∧ 0 < q ∧ q < 9007199254740992 ∧ (j = 0 ∨ 4503599627370496 ≤ q) ∧ j ≤ 2045 ∧ ∃ b : Bool,Ev (fun k => r1_Parts.f k (n : Int)) (b,(j : Int) - 1074,(q : Int)) := by
 have hI : INF = 9218868437227405312 := rfl;rw [hI] at h1;have hr : rung n = n := Nat.mod_eq_of_lt (by omega);have hk := zWo (a := n) (by omega) (by rw [hr,hI];omega);obtain ⟨K1,g1⟩ := zWR n (by omega);dsimp only at g1;rw [hk,hr] at g1;by_cases h : n < 4503599627370496
 ·refine ⟨0,n,by omega,h0,by omega,.inl rfl,by omega,((n : Int) / 9223372036854775808 == 1),K1,fun k hk => ?_⟩;have p1 := g1 k hk;rw [if_pos h] at p1;dsimp only;rw [r1_Parts.f,p1,Option.bind_some,if_pos rfl,r1_Neg.f,Option.bind_some,zZs n (by omega),Nat.mod_eq_of_lt h]
  rfl
 ·refine ⟨n / 4503599627370496 - 1,4503599627370496 + n % 4503599627370496,by omega,by omega,by omega,.inr (by omega),by omega,((n : Int) / 9223372036854775808 == 1),K1,fun k hk => ?_⟩;have p1 := g1 k hk;rw [if_neg h] at p1;have e1 : ((n : Int) / 4503599627370496) = ((n / 4503599627370496 : Nat) : Int) := by omega
  have e3 : IntKind.u64.wrap (((n % 4503599627370496 : Nat) : Int) + 4503599627370496) = ((4503599627370496 + n % 4503599627370496 : Nat) : Int) := by
   have := u64_in (4503599627370496 + n % 4503599627370496) (by omega);rw [← this]
   congr 1
   omega
  dsimp only;rw [r1_Parts.f,p1,Option.bind_some,if_neg (by decide),if_pos rfl,r1_Neg.f,Option.bind_some,zZs n (by omega),e1,zWv _ (by omega),e3,wrapB ((n / 4503599627370496 % 2048 : Nat) : Int) (by omega) (by omega),wrapB _ (by omega) (by omega),show (((n / 4503599627370496 % 2048 : Nat) : Int) - 1075) = ((n / 4503599627370496 - 1 : Nat) : Int) - 1074 by omega]
theorem rdig4 (q : Nat) (h : q < 18446744073709551616) : ∃ l : List Int,r1_Digits.f (q : Int) = some l ∧ Digs l ∧ valD l = q ∧ l.length = 4 := by
 have e1 : Go.bits .and .u64 (q : Int) 65535 = ((q % 65536 : Nat) : Int) := zKv q h
 have e2 : Go.bits .and .u64 ((q : Int) / 65536) 65535 = ((q / 65536 % 65536 : Nat) : Int) := by
  rw [show (q : Int) / 65536 = ((q / 65536 : Nat) : Int) by omega];exact zKv _ (by omega)
 have e3 : Go.bits .and .u64 ((q : Int) / 4294967296) 65535 = ((q / 4294967296 % 65536 : Nat) : Int) := by
  rw [show (q : Int) / 4294967296 = ((q / 4294967296 : Nat) : Int) by omega];exact zKv _ (by omega)
 refine ⟨[((q % 65536 : Nat) : Int),((q / 65536 % 65536 : Nat) : Int),((q / 4294967296 % 65536 : Nat) : Int),((q / 281474976710656 : Nat) : Int)],?_,?_,?_,rfl⟩
 ·rw [r1_Digits.f,e1,e2,e3]
  rfl
 ·intro z hz;simp only [List.mem_cons,List.not_mem_nil,or_false] at hz;rcases hz with rfl | rfl | rfl | rfl <;> omega
 ·simp only [valD,Int.toNat_natCast];omega
theorem zBP (t : Nat) : 2 ^ (3 * t) ≤ 10 ^ t := by rw [Nat.pow_mul];exact Nat.pow_le_pow_left (by decide) t
theorem zBZ (n : Nat) (h0 : 0 < n) (h1 : n < INF) (B t : Nat) (hB : B = 1100) (ht : t = 400) : ∃ (lx ly : List Int) (x y : Nat),Quo lx ly x y B ∧ x * K = 2 * units n * y ∧ lx.length ≤ 150 ∧ ly.length ≤ 150 ∧
  Least x y (-(t : Int)) ∧ ¬ Least x y t ∧ Ev (fun k => r5_Fixed.f k (n : Int)) (lx,ly) := by
 obtain ⟨j,q,hr,hq0,hq,hjq,hj,b,K1,g1⟩ := zBW n h0 h1;obtain ⟨l,hl1,hl2,hl3,hl4⟩ := rdig4 q (by omega);(have hu : units n = q * 2 ^ j := by rw [hr];exact zXz j q (by omega) hjq);obtain ⟨e,he⟩ : ∃ e : Int,e = (j : Int) - 1074 := ⟨_,rfl⟩;rw [← he] at g1;have hK := zGI j e (by omega);have hb10 : 2 ^ B ≤ 10 ^ t := Nat.le_trans (Nat.pow_le_pow_right (by decide) (by omega)) (zBP t)
 have least1 : ∀ x y : Nat,0 < x → y < 2 ^ B → Least x y (-(t : Int)) := by
  intro x y hx hy;unfold Least;rw [show (-(t : Int)).toNat = 0 by omega,show (-(-(t : Int))).toNat = t by omega,Nat.pow_zero,Nat.mul_one];exact Nat.le_trans (Nat.le_of_lt hy) (Nat.le_trans hb10 (Nat.le_mul_of_pos_left _ hx))
 have least2 : ∀ x y : Nat,0 < y → x < 2 ^ B → ¬ Least x y t := by
  intro x y hy hx;unfold Least;rw [show (-(t : Int)).toNat = 0 by omega,show ((t : Int)).toNat = t by omega,Nat.pow_zero,Nat.mul_one];exact Nat.not_le_of_lt (Nat.lt_of_lt_of_le hx (Nat.le_trans hb10 (Nat.le_mul_of_pos_left _ hy)))
 have hxK : q * 2 ^ e.toNat * K = 2 * units n * 2 ^ (-e).toNat := by
  rw [Nat.mul_assoc,hK,hu]
  ac_rfl
 by_cases hpos : e ≥ 0
 ·obtain ⟨K2,g2⟩ := zKL l hl2 e.toNat (by omega);rw [hl3] at g2;have hx : q * 2 ^ e.toNat < 2 ^ B := lt_up (a := 53) (by omega) (by omega);have hlen := zXl hx;rw [show (-e).toNat = 0 by omega,Nat.pow_zero] at hxK;have hxp : 0 < q * 2 ^ e.toNat := Nat.mul_pos hq0 (Nat.two_pow_pos _);have h1B : 1 < 2 ^ B := Nat.one_lt_two_pow (by omega);refine ⟨_,[1],q * 2 ^ e.toNat,1,⟨zQK _,zVA,zQP _,rfl,by omega,by decide,hx,h1B,hxp,by decide,by omega⟩,hxK,by omega,by decide,least1 _ _ hxp h1B,least2 _ _ (by decide) hx,K1 + K2,fun k hk => ?_⟩;dsimp only at g1 g2 ⊢;have p2 := g2 k (by omega);rw [show ((e.toNat : Nat) : Int) = e by omega] at p2;rw [r5_Fixed.f,g1 k (by omega),Option.bind_some];dsimp only;rw [if_pos hpos,hl1,Option.bind_some,p2,Option.bind_some]
 ·obtain ⟨K2,g2⟩ := zKL [1] zVA (-e).toNat (by simp only [List.length_singleton];omega);rw [show valD [1] = 1 from rfl,Nat.one_mul] at g2;have hy : 2 ^ (-e).toNat < 2 ^ B := Nat.pow_lt_pow_right (by decide) (by omega);have hlen := zXl hy
  have hx : q < 2 ^ B := by
   have := lt_up (x := q) (a := 53) (b := 0) (B := B) (by omega) (by omega)
   rwa [Nat.pow_zero,Nat.mul_one] at this
  rw [show e.toNat = 0 by omega,Nat.pow_zero,Nat.mul_one] at hxK;refine ⟨l,_,q,2 ^ (-e).toNat,⟨hl2,zQK _,hl3,zQP _,by omega,by omega,hx,hy,hq0,Nat.two_pow_pos _,by omega⟩,hxK,by omega,by omega,least1 _ _ hq0 hy,least2 _ _ (Nat.two_pow_pos _) hx,K1 + K2,fun k hk => ?_⟩;dsimp only at g1 g2 ⊢;have p2 := g2 k (by omega);rw [show (((-e).toNat : Nat) : Int) = -e by omega] at p2;rw [r5_Fixed.f,g1 k (by omega),Option.bind_some];dsimp only;rw [if_neg hpos,hl1,Option.bind_some,wrapB (-e) (by omega) (by omega),p2,Option.bind_some]
theorem zWO {n R S D U p q : Nat} (hn : 0 < n) (hn2 : n < INF) (h : Sp n R S D U) (hf : Far (R * 10 ^ p) (U * 10 ^ p) (S * 10 ^ q) (n % 2 == 0)) (hnf : ¬ Far (R * 10 ^ p) (U * 10 ^ p) (S * 10 ^ (q + 1)) (n % 2 == 0)) :
  Ev (fun k => r5_Shortest.f k (n : Int)) (outF (gen (R * 10 ^ p) (S * 10 ^ q) (D * 10 ^ p) (U * 10 ^ p) (n % 2 == 0) 17 0) ((q : Int) - p)) := by
 obtain ⟨lx,ly,x,y,qu,hxK,hl1,hl2,ls1,ls2,K1,g1⟩ := zBZ n hn hn2 1100 400 rfl rfl;obtain ⟨e,e1,e2,e3,e4,K2,g2⟩ := zBU qu 400 400 ls1 ls2 (by decide) (by decide) hl1 hl2
 have hxy : x * S = R * y := by
  refine Nat.eq_of_mul_eq_mul_right K_pos ?_
  rw [Nat.mul_right_comm,hxK,Nat.mul_right_comm R y,h.hR]
  ac_rfl
 have hs : 0 < S * 10 ^ q := Nat.mul_pos h.hS (zQD q);have hU := Nat.mul_pos (sp_U h) (zQD p);have hle := zBk hnf;rw [Nat.pow_succ,← Nat.mul_assoc] at hle
 have join : ∀ res,Ev (fun k => r5_Shortest.l0 k (n : Int) lx ly e (((0 : Nat) : Int) + 1)) res → Ev (fun k => r5_Shortest.f k (n : Int)) res := by
  intro res hres;obtain ⟨K3,g3⟩ := hres;refine ⟨K1 + K2 + K3,fun k hk => ?_⟩;dsimp only at g1 g2 g3 ⊢;rw [r5_Shortest.f,g1 k (by omega),Option.bind_some];dsimp only;rw [g2 k (by omega),Option.bind_some];exact g3 k (by omega)
 apply join;rcases powers h hn qu.px qu.py hxy hf hnf e1 e2 with ⟨c1,c2⟩ | ⟨c1,c2⟩
 ·rw [← c1];exact zWj qu h hn hn2 c1 hxy (by omega) (by omega) c2 (by omega) 17 0 rfl ⟨16,by omega,by omega,zYQ _ h hn c2⟩
 ·have hnt := zGi h hn hf c2;(have eR : R * 10 ^ (p + 1) = R * 10 ^ p * 10 := by rw [Nat.pow_succ,Nat.mul_assoc]);(have eU : U * 10 ^ (p + 1) = U * 10 ^ p * 10 := by rw [Nat.pow_succ,Nat.mul_assoc]);(have eD : D * 10 ^ (p + 1) = D * 10 ^ p * 10 := by rw [Nat.pow_succ,Nat.mul_assoc]);(have hge : S * 10 ^ q ≤ R * 10 ^ (p + 1) := by rw [eR];omega);(have hlt : R * 10 ^ (p + 1) < 10 * (S * 10 ^ q) := by rw [eR];omega);(have hD2 : 2 * (D * 10 ^ p) ≤ R * 10 ^ p := by rw [← Nat.mul_assoc];exact Nat.mul_le_mul_right _ (zWH h));have hRp := Nat.mul_pos (sp_R h hn) (zQD p);have hloop := zWj qu h hn hn2 (p := p + 1) (q := q) (e := e) (by omega) hxy (by omega) (by omega) hge hlt 17 0 rfl;rw [eR,eU,eD] at hloop;obtain ⟨r,hr⟩ : ∃ r,r = R * 10 ^ p := ⟨_,rfl⟩;obtain ⟨s,hse⟩ : ∃ s,s = S * 10 ^ q := ⟨_,rfl⟩;obtain ⟨up,hup⟩ : ∃ up,up = U * 10 ^ p := ⟨_,rfl⟩;obtain ⟨dn,hdn⟩ : ∃ dn,dn = D * 10 ^ p := ⟨_,rfl⟩;rw [← hr,← hse,← hup,← hdn] at hloop;rw [← hr,← hse,← hup] at hf;rw [← hr,← hse] at c2 hnt;rw [← hse] at hs;rw [← hr,← hdn] at hD2;rw [← hr] at hRp;rw [← hr,← hse,← hup,← hdn];clear hle hge hlt hU;have hq9 : r * 10 / s = 9 := Nat.div_eq_of_lt_le (by omega) (by omega)
  have hρ : r * 10 % s = r * 10 - 9 * s := by
   have := Nat.div_add_mod (r * 10) s;rw [hq9,Nat.mul_comm s 9] at this;omega
  have hfar : Far (r * 10 - 9 * s) (up * 10) s (n % 2 == 0) := by
   rcases hf with g | ⟨g,g2⟩
   ·exact .inl (by omega)
   ·exact .inr ⟨by omega,g2⟩
  have hg1 : gen (r * 10) s (dn * 10) (up * 10) (n % 2 == 0) 17 0 = (0,10) := by
   rw [gen,Nat.pow_zero,Nat.mul_one,Nat.mul_one,Nat.mul_one,hρ,hq9,if_pos (.inr hfar)];unfold pickX;rw [if_pos ⟨hfar,.inr (.inl (by omega))⟩]
  have hg2 : gen r s dn up (n % 2 == 0) 17 0 = (0,1) := by
   have hnl : ¬ Low r dn (n % 2 == 0) := by
    unfold Low;rintro (g | ⟨g,_⟩) <;> omega
   rw [gen,Nat.pow_zero,Nat.mul_one,Nat.mul_one,Nat.mul_one,Nat.mod_eq_of_lt c2,Nat.div_eq_of_lt c2,if_pos (.inr hf)];unfold pickX;rw [if_pos ⟨hf,.inl hnl⟩]
  have hlast := hloop ⟨0,by omega,by omega,by rw [Nat.pow_zero,Nat.mul_one,Nat.mul_one,Nat.mul_one,hρ];exact .inr hfar⟩;rw [hg1] at hlast;rw [hg2]
  have hout : outF (0,10) e = outF (0,1) ((q : Int) - p) := by
   unfold outF;dsimp only;rw [if_pos (by decide),if_neg (by decide),zYW (x := 10) (by decide) (by decide),c1]
  rw [← hout];exact hlast
end Go.Proofs.YtflcanpajgpghaaGreatDoor.Pure
end
section
namespace Go.Proofs.YtflcanpajgpghaaGreatDoor.Flo
theorem zVU (t : Nat) : 2 ^ (3 * t) ≤ 10 ^ t := by rw [Nat.pow_mul];exact Nat.pow_le_pow_left (by decide) t
theorem zJu {a : Nat} (h : a < INF) (B : Nat) (hB : B = 2098) : units a < 2 ^ B := by
 obtain ⟨j,q,h1,h2,h3,h4,_⟩ := zKG a;unfold INF at h;rw [h4,show B = 53 + (B - 53) by omega,Nat.pow_add];have : 2 ^ j ≤ 2 ^ (B - 53) := Nat.pow_le_pow_right (by decide) (by omega)
 calc q * 2 ^ j < 2 ^ 53 * 2 ^ j := Nat.mul_lt_mul_of_pos_right h2 (Nat.two_pow_pos _)
  _ ≤ 2 ^ 53 * 2 ^ (B - 53) := Nat.mul_le_mul_left _ this
theorem zKV {a R S D U p q : Nat} {ev : Bool} (h : Sp a R S D U) (ha : 0 < a) (ha2 : a < INF) (hf : Far (R * 10 ^ p) (U * 10 ^ p) (S * 10 ^ q) ev) (hn : ¬ Far (R * 10 ^ p) (U * 10 ^ p) (S * 10 ^ (q + 1)) ev) :
  -402 ≤ (q : Int) - p ∧ (q : Int) - p ≤ 402 := by
 obtain ⟨t,ht⟩ : ∃ t,t = 401 := ⟨_,rfl⟩;obtain ⟨B,hB⟩ : ∃ B,B = 2098 := ⟨_,rfl⟩
 have hK1 : K < 2 ^ (3 * t) := by
  obtain ⟨E,hE,hK⟩ := K_exp;rw [hK];exact Nat.pow_lt_pow_right (by decide) (by omega)
 have hK2 : 2 ^ (B + 2) ≤ 2 ^ (3 * t) * K := by
  obtain ⟨E,hE,hK⟩ := K_exp;rw [hK,← Nat.pow_add];exact Nat.pow_le_pow_right (by decide) (by omega)
 have hu := zJu ha2 B hB;have hup := zBM ha;have h10 : 2 ^ (3 * t) ≤ 10 ^ t := zVU t;have hUR := sp_UR h ha;constructor
 ·apply Int.le_of_not_gt;intro hgt
  have h1 : R * 10 ^ p ≤ S * 10 ^ (q + 1) := by
   have : R * 10 ^ p + U * 10 ^ p ≤ S * 10 ^ (q + 1) := Nat.le_of_not_lt (fun g => hn (.inl g));omega
  rw [show p = (q + 1) + t + (p - (q + 1) - t) by omega,Nat.pow_add 10 (q + 1 + t),Nat.pow_add 10 (q + 1)] at h1
  have h2 : R * 10 ^ t * 10 ^ (q + 1) ≤ S * 10 ^ (q + 1) := by
   refine Nat.le_trans ?_ h1;rw [show R * (10 ^ (q + 1) * 10 ^ t * 10 ^ (p - (q + 1) - t)) = R * 10 ^ t * 10 ^ (q + 1) * 10 ^ (p - (q + 1) - t) by ac_rfl];exact Nat.le_mul_of_pos_right _ (zQD _)
  have h3 : R * 10 ^ t ≤ S := Nat.le_of_mul_le_mul_right h2 (zQD _)
  have h4 : 10 ^ t * S ≤ K * S := by
   have h5 : R * 10 ^ t * K ≤ S * K := Nat.mul_le_mul_right _ h3;rw [Nat.mul_right_comm,h.hR] at h5;rw [Nat.mul_comm K S];refine Nat.le_trans ?_ h5;rw [show 2 * units a * S * 10 ^ t = 2 * units a * (10 ^ t * S) by ac_rfl];exact Nat.le_mul_of_pos_left _ (by omega)
  have h6 : 10 ^ t ≤ K := Nat.le_of_mul_le_mul_right h4 h.hS;exact absurd (Nat.lt_of_lt_of_le hK1 h10) (Nat.not_lt_of_le h6)
 ·apply Int.le_of_not_gt;intro hgt
  have h1 : S * 10 ^ q ≤ R * 10 ^ p + U * 10 ^ p := by
   rcases hf with g | g
   ·exact Nat.le_of_lt g
   ·exact Nat.le_of_eq g.1
  have h2 : S * 10 ^ q ≤ 2 * R * 10 ^ p := by
   have : U * 10 ^ p ≤ R * 10 ^ p := Nat.mul_le_mul_right _ (by omega);rw [Nat.mul_assoc];omega
  rw [show q = p + t + (q - p - t) by omega,Nat.pow_add 10 (p + t),Nat.pow_add 10 p] at h2
  have h3 : S * 10 ^ t * 10 ^ p ≤ 2 * R * 10 ^ p := by
   refine Nat.le_trans ?_ h2;rw [show S * (10 ^ p * 10 ^ t * 10 ^ (q - p - t)) = S * 10 ^ t * 10 ^ p * 10 ^ (q - p - t) by ac_rfl];exact Nat.le_mul_of_pos_right _ (zQD _)
  have h4 : S * 10 ^ t ≤ 2 * R := Nat.le_of_mul_le_mul_right h3 (zQD _)
  have h5 : 10 ^ t * K * S ≤ 4 * units a * S := by
   have h5 : S * 10 ^ t * K ≤ 2 * R * K := Nat.mul_le_mul_right _ h4;rw [Nat.mul_assoc 2 R K,h.hR] at h5;rw [Nat.mul_comm (10 ^ t * K) S,← Nat.mul_assoc];refine Nat.le_trans h5 (Nat.le_of_eq ?_);rw [← Nat.mul_assoc,← Nat.mul_assoc]
  have h6 : 10 ^ t * K ≤ 4 * units a := Nat.le_of_mul_le_mul_right h5 h.hS
  have h7 : 2 ^ (B + 2) ≤ 10 ^ t * K := by
   exact Nat.le_trans hK2 (Nat.mul_le_mul_right _ h10)
  have h8 : 2 ^ (B + 2) ≤ 4 * units a := Nat.le_trans h7 h6;rw [Nat.pow_add,Nat.mul_comm] at h8;exact absurd hu (Nat.not_lt_of_le (Nat.le_of_mul_le_mul_left h8 (by decide)))
end Go.Proofs.YtflcanpajgpghaaGreatDoor.Flo
end
section
namespace Go.Proofs.YtflcanpajgpghaaGreatDoor.Pure
open Go.RowKit Go.Proofs.YtflcanpajgpghaaGreatDoor.Pr Go.Proofs.YtflcanpajgpghaaGreatDoorW.PrintWords Go.Proofs.YtflcanpajgpghaaGreatDoorW.PrintLast Go.Proofs.YtflcanpajgpghaaGreatDoorW.PrintMore Go.Proofs.YtflcanpajgpghaaGreatDoor.Flo
def zs (n : Nat) : ByteArray := strOfNums (List.replicate n 48)
def mant (d : ByteArray) : ByteArray := if 1 < d.size then d.extract 0 1 ++ (⟨#[46]⟩ : ByteArray) ++ d.extract 1 d.size else d
def layF (d : ByteArray) (e : Int) : ByteArray :=
 if e < -7 then mant d ++ (⟨#[101,45]⟩ : ByteArray) ++ strOfNums (ds (-e).toNat) else if 20 < e then mant d ++ (⟨#[101,43]⟩ : ByteArray) ++ strOfNums (ds e.toNat)
 else if e < 0 then (⟨#[48,46]⟩ : ByteArray) ++ zs (-e - 1).toNat ++ d
 else if (d.size : Int) ≤ e + 1 then d ++ zs (e + 1 - d.size).toNat
 else d.extract 0 (e + 1).toNat ++ (⟨#[46]⟩ : ByteArray) ++ d.extract (e + 1).toNat d.size
theorem zXE : (⟨#[46]⟩ : ByteArray).size = 1 := rfl
theorem zWh : (⟨#[101,45]⟩ : ByteArray).size = 2 := rfl
theorem zWg : (⟨#[101,43]⟩ : ByteArray).size = 2 := rfl
theorem zWf : (⟨#[48,46]⟩ : ByteArray).size = 2 := rfl
theorem zYj (n : Nat) : (zs n).size = n := by unfold zs;rw [zYn,List.length_replicate]
theorem zGU : ∀ (n u : Nat),u ≤ n → u ≠ 0 → Lib.decDigits u = (ds u).map nb
 | 0,u,h,h0 => absurd (by omega) h0
 | n + 1,u,h,h0 => by
  have hn : nb (dg u) = UInt8.ofNat (48 + u % 10) := rfl;rw [Lib.decDigits,zYi h0,List.map_append,List.map_cons,List.map_nil,hn];by_cases h1 : u < 10
  ·rw [dif_pos h1,show u / 10 = 0 by omega,zYl,Nat.mod_eq_of_lt h1]
   rfl
  ·rw [dif_neg h1,zGU n (u / 10) (by omega) (by omega)]
theorem zHy (n : Nat) (h : n ≠ 0) : zGQ (n : Int) = strOfNums (ds n) := by
 refine zJV _ _ ?_
 show Lib.itoa (n : Int) = _
 unfold Lib.itoa;rw [if_neg (by omega),Int.toNat_natCast,zGU n n (Nat.le_refl _) h]
theorem zVq (n : Nat) (h : n ≠ 0) (h2 : n ≤ 1000) : strconv_Itoa.f (n : Int) = some (strOfNums (ds n)) := by rw [strconv_Itoa.f,if_pos (by omega),zHy n h]
theorem zVb (n : Nat) : zJZ (⟨#[48]⟩ : ByteArray) n = zs n := by
 refine zJV _ _ ?_
 show Lib.repeatL [48] n = _
 induction n with
 | zero => rfl
 | succ n ih => rw [Lib.repeatL,ih];rfl
theorem zWS (n : Nat) (h : n ≤ 1000) : strings_Repeat.f (⟨#[48]⟩ : ByteArray) (n : Int) = some (zs n) := by
 have h1 : (⟨#[48]⟩ : ByteArray).size = 1 := rfl;rw [strings_Repeat.f,if_pos (by rw [h1];omega),Int.toNat_natCast,zVb]
theorem zYY (n : Nat) (h : n ≤ 1000) : (strOfNums (ds n)).size ≤ 4 := zZC (by omega)
theorem zHu (d : ByteArray) (e : Int) (hd : d.size ≤ 100) (he : -900 ≤ e) (he2 : e ≤ 900) : Ev (fun k => dec_laid.f k d e) (layF d e) := by
 (have hsz : (d.size : Int) ≤ 100 := by omega);unfold layF;by_cases c1 : e < -7
 ·rw [if_pos c1];have hi := zVq (-e).toNat (by omega) (by omega);have h4 := zYY (-e).toNat (by omega);rw [show (((-e).toNat : Nat) : Int) = -e by omega] at hi;unfold mant;by_cases c2 : 1 < d.size
  ·rw [if_pos c2];refine Ev.congr (fun k => (by rw [dec_laid.f,if_pos c1])) (Ev.step (f := fun _ => some _) (g := fun k => dec_laid.j0 k d e true) (fun k => ?_) (Ev.now _));rw [dec_laid.j0,if_pos rfl,if_pos (by omega),if_pos (by omega),if_pos (by decide),if_pos (by omega),if_pos (by simp only [zQI,ByteArray.size_extract];omega),if_pos (by simp only [zQI,ByteArray.size_extract,zXE];omega),if_pos (by simp only [zQI,ByteArray.size_extract,zXE];omega),wrapB (-e) (by omega) (by omega),hi,Option.bind_some,if_pos (by simp only [zQI,ByteArray.size_extract,zXE,zWh];omega)]
  ·rw [if_neg c2];refine Ev.congr (fun k => (by rw [dec_laid.f,if_pos c1])) (Ev.step (f := fun _ => some _) (g := fun k => dec_laid.j0 k d e true) (fun k => ?_) (Ev.now _));rw [dec_laid.j0,if_pos rfl,if_pos (by omega),if_neg (by omega),if_pos (by omega),wrapB (-e) (by omega) (by omega),hi,Option.bind_some,if_pos (by simp only [zQI,zWh];omega)]
 ·rw [if_neg c1];by_cases c3 : 20 < e
  ·rw [if_pos c3];have hi := zVq e.toNat (by omega) (by omega);have h4 := zYY e.toNat (by omega);rw [show ((e.toNat : Nat) : Int) = e by omega] at hi;unfold mant;by_cases c2 : 1 < d.size
   ·rw [if_pos c2];refine Ev.congr (fun k => (by rw [dec_laid.f,if_neg c1,decide_eq_true (show e > 20 from c3)])) (Ev.step (f := fun _ => some _) (g := fun k => dec_laid.j0 k d e true) (fun k => ?_) (Ev.now _));rw [dec_laid.j0,if_pos rfl,if_neg (by omega),if_pos (by omega),if_pos (by decide),if_pos (by omega),if_pos (by simp only [zQI,ByteArray.size_extract];omega),if_pos (by simp only [zQI,ByteArray.size_extract,zXE];omega),if_pos (by simp only [zQI,ByteArray.size_extract,zXE];omega),hi,Option.bind_some,if_pos (by simp only [zQI,ByteArray.size_extract,zXE,zWg];omega)]
   ·rw [if_neg c2];refine Ev.congr (fun k => (by rw [dec_laid.f,if_neg c1,decide_eq_true (show e > 20 from c3)])) (Ev.step (f := fun _ => some _) (g := fun k => dec_laid.j0 k d e true) (fun k => ?_) (Ev.now _));rw [dec_laid.j0,if_pos rfl,if_neg (by omega),if_neg (by omega),if_pos (by omega),hi,Option.bind_some,if_pos (by simp only [zQI,zWg];omega)]
  ·rw [if_neg c3];have hc : decide (e > 20) = false := decide_eq_false (by omega);by_cases c4 : e < 0
   ·rw [if_pos c4];have hr := zWS (-e - 1).toNat (by omega);rw [show (((-e - 1).toNat : Nat) : Int) = -e - 1 by omega] at hr;refine Ev.congr (fun k => (by rw [dec_laid.f,if_neg c1,hc])) (Ev.step (f := fun _ => some _) (g := fun k => dec_laid.j0 k d e false) (fun k => ?_) (Ev.now _));rw [dec_laid.j0,if_neg (by decide),if_pos c4,wrapB (-e) (by omega) (by omega),wrapB (-e - 1) (by omega) (by omega),hr,Option.bind_some,if_pos (by rw [zYj];omega),if_pos (by simp only [zQI,zWf,zYj];omega)]
   ·rw [if_neg c4];by_cases c5 : (d.size : Int) ≤ e + 1
    ·rw [if_pos c5];have hr := zWS (e + 1 - d.size).toNat (by omega);rw [show (((e + 1 - (d.size : Int)).toNat : Nat) : Int) = e + 1 - (d.size : Int) by omega] at hr;refine Ev.congr (fun k => (by rw [dec_laid.f,if_neg c1,hc])) (Ev.step (f := fun _ => some _) (g := fun k => dec_laid.j0 k d e false) (fun k => ?_) (Ev.now _));rw [dec_laid.j0,if_neg (by decide),if_neg c4,wrapB (e + 1) (by omega) (by omega),if_pos (by omega),wrapB (e + 1 - (d.size : Int)) (by omega) (by omega),hr,Option.bind_some,if_pos (by rw [zYj];omega)]
    ·rw [if_neg c5];refine Ev.congr (fun k => (by rw [dec_laid.f,if_neg c1,hc])) (Ev.step (f := fun _ => some _) (g := fun k => dec_laid.j0 k d e false) (fun k => ?_) (Ev.now _));rw [dec_laid.j0,if_neg (by decide),if_neg c4,wrapB (e + 1) (by omega) (by omega),if_neg (by omega),if_pos (by omega),if_pos (by omega),if_pos (by simp only [ByteArray.size_extract];omega),if_pos (by simp only [zQI,ByteArray.size_extract,zXE];omega)]
theorem zBd (a b c : ByteArray) : a ++ b ++ c = a ++ (b ++ c) := zZd (by rw [bytes_append,bytes_append,bytes_append,bytes_append,List.append_assoc])
theorem zBz (a : ByteArray) : a ++ (⟨#[]⟩ : ByteArray) = a := zZd (by rw [bytes_append];exact List.append_nil _)
theorem zHa (i : Nat) : zs i ++ (⟨#[48]⟩ : ByteArray) = zs (i + 1) := by
 unfold zs;rw [List.replicate_succ',zZw]
 rfl
theorem zGZ : zs 0 = (⟨#[]⟩ : ByteArray) := rfl
theorem zZm (z : Int) (hz : z ≤ 1000) : ∀ d i : Nat,z ≤ i + d → i ≤ 1000 → (i = 0 ∨ i + d = z) → Ev (fun k => r5_noughts.l0 k z (zs i) (i : Int)) (zs z.toNat)
 | 0,i,h,hi,hc => by
  have e1 : zs z.toNat = zs i := by
   rcases hc with h0 | h0
   ·rw [h0,show z.toNat = 0 by omega]
   ·rw [show z.toNat = i by omega]
  rw [e1];refine Ev.step (f := fun _ => some (zs i)) (fun k => ?_) (Ev.now _);rw [r5_noughts.l0,if_neg (by omega)]
 | d + 1,i,h,hi,hc => by
  by_cases hlt : (i : Int) < z
  ·have ih := zZm z hz (z.toNat - (i + 1)) (i + 1) (by omega) (by omega) (.inr (by omega));refine Ev.step (fun k => ?_) ih;rw [r5_noughts.l0,if_pos hlt,if_pos (by rw [zYj];omega),zHa,wrapB _ (by omega) (by omega),show (i : Int) + 1 = ((i + 1 : Nat) : Int) by omega]
  ·have e1 : zs z.toNat = zs i := by
    rcases hc with h0 | h0
    ·rw [h0,show z.toNat = 0 by omega]
    ·omega
   rw [e1];refine Ev.step (f := fun _ => some (zs i)) (fun k => ?_) (Ev.now _);rw [r5_noughts.l0,if_neg hlt]
termination_by d => d
decreasing_by omega
theorem zKa (z : Int) (hz : z ≤ 1000) : Ev (fun k => r5_noughts.f k z) (zs z.toNat) := by
 have := zZm z hz z.toNat 0 (by omega) (by omega) (.inl rfl);exact this
theorem zBv : ∀ (m n : Nat),n < 10 ^ (m + 1) → m ≤ 17 → n ≠ 0 → Ev (fun k => r5_number.f k (n : Int)) (strOfNums (ds n)) := by
 intro m
 induction m with
 | zero =>
  intro n hn hm h0;rw [show (10 : Nat) ^ (0 + 1) = 10 from rfl] at hn;refine Ev.step (f := fun _ => some _) (fun k => ?_) (Ev.now _)
  have hdg : (48 + ((Int.tmod (n : Int) 10) % 256)) % 256 = dg n := by
   rw [Int.tmod_eq_emod_of_nonneg (by omega)];unfold dg;omega
  rw [r5_number.f,hdg,Option.bind_some,if_neg (by omega),zYi h0,show n / 10 = 0 by omega,zYl]
  rfl
 | succ m ih =>
  intro n hn hm h0
  have hdg : (48 + ((Int.tmod (n : Int) 10) % 256)) % 256 = dg n := by
   rw [Int.tmod_eq_emod_of_nonneg (by omega)];unfold dg;omega
  by_cases h10 : n < 10
  ·refine Ev.step (f := fun _ => some _) (fun k => ?_) (Ev.now _);rw [r5_number.f,hdg,Option.bind_some,if_neg (by omega),zYi h0,show n / 10 = 0 by omega,zYl]
   rfl
  ·rw [Nat.pow_succ] at hn;have hp : (10 : Nat) ^ (m + 1) ≤ 10 ^ 18 := Nat.pow_le_pow_right (by decide) (by omega);obtain ⟨K1,h1⟩ := ih (n / 10) (by omega) (by omega) (by omega);have hsz := zZC (show n / 10 < 10 ^ (m + 1) by omega);refine ⟨K1 + 1,fun k hk => ?_⟩;dsimp only at h1 ⊢;obtain ⟨k',rfl⟩ : ∃ k',k = k' + 1 := ⟨k - 1,by omega⟩
   have hq : wrap64 (Int.tdiv (n : Int) 10) = ((n / 10 : Nat) : Int) := by
    rw [Int.tdiv_eq_ediv_of_nonneg (by omega),wrapB _ (by omega) (by omega)];omega
   rw [r5_number.f,hdg,Option.bind_some,if_pos (by omega),hq,h1 k' (by omega),Option.bind_some,if_pos (by rw [zYA];omega),zYi h0,zZw]
theorem zKN (n : Nat) (h : n ≤ 1000) (h0 : n ≠ 0) : Ev (fun k => r5_number.f k (n : Int)) (strOfNums (ds n)) := zBv 3 n (by omega) (by decide) h0
theorem zGJ (p x d : ByteArray) (e : Int) (hp : p.size ≤ 1) (hx : x.size ≤ 200) (he : -900 ≤ e) (he2 : e ≤ 900) (h0 : e ≠ 0) :
  Ev (fun k => r5_Print.j3 k p x e) (p ++ (if e < 0 then x ++ (⟨#[101,45]⟩ : ByteArray) ++ strOfNums (ds (-e).toNat) else x ++ (⟨#[101,43]⟩ : ByteArray) ++ strOfNums (ds e.toNat))) := by
 by_cases c1 : e < 0
 ·obtain ⟨K1,h1⟩ := zKN (-e).toNat (by omega) (by omega);have h4 := zYY (-e).toNat (by omega);refine ⟨K1 + 1,fun k hk => ?_⟩;dsimp only at h1 ⊢;obtain ⟨k',rfl⟩ : ∃ k',k = k' + 1 := ⟨k - 1,by omega⟩;have p1 := h1 k' (by omega);rw [show (((-e).toNat : Nat) : Int) = -e by omega] at p1;rw [r5_Print.j3,if_pos c1,if_pos c1,if_pos (by omega),if_pos (by simp only [zQI];omega),wrapB (-e) (by omega) (by omega),p1,Option.bind_some,if_pos (by simp only [zQI,zWh];omega)];simp only [zBd]
 ·obtain ⟨K1,h1⟩ := zKN e.toNat (by omega) (by omega);have h4 := zYY e.toNat (by omega);refine ⟨K1 + 1,fun k hk => ?_⟩;dsimp only at h1 ⊢;obtain ⟨k',rfl⟩ : ∃ k',k = k' + 1 := ⟨k - 1,by omega⟩;have p1 := h1 k' (by omega);rw [show ((e.toNat : Nat) : Int) = e by omega] at p1;rw [r5_Print.j3,if_neg c1,if_neg c1,if_pos (by omega),if_pos (by simp only [zQI];omega),p1,Option.bind_some,if_pos (by simp only [zQI,zWg];omega)];simp only [zBd]
theorem zBY (p d : ByteArray) (e : Int) (hp : p.size ≤ 1) (hd : d.size ≤ 100) (he : -900 ≤ e) (he2 : e ≤ 900) (h0 : e ≠ 0) :
  Ev (fun k => r5_Print.j2 k p d e false) (p ++ (if e < 0 then mant d ++ (⟨#[101,45]⟩ : ByteArray) ++ strOfNums (ds (-e).toNat) else mant d ++ (⟨#[101,43]⟩ : ByteArray) ++ strOfNums (ds e.toNat))) := by
 by_cases c2 : 1 < d.size
 ·have hm : mant d = d.extract 0 1 ++ (⟨#[46]⟩ : ByteArray) ++ d.extract 1 d.size := if_pos c2;rw [hm];refine Ev.step (fun k => ?_) (zGJ p (d.extract 0 1 ++ (⟨#[46]⟩ : ByteArray) ++ d.extract 1 d.size) d e hp (by simp only [zQI,ByteArray.size_extract,zXE];omega) he he2 h0);rw [r5_Print.j2,if_neg (by decide),if_pos (by omega),if_pos (by decide),if_pos (by omega),if_pos (by simp only [zQI,ByteArray.size_extract];omega),if_pos (by simp only [zQI,ByteArray.size_extract,zXE];omega)]
 ·have hm : mant d = d := if_neg c2;rw [hm];refine Ev.step (fun k => ?_) (zGJ p d d e hp (by omega) he he2 h0);rw [r5_Print.j2,if_neg (by decide),if_neg (by omega)]
theorem zHm (p d : ByteArray) (e : Int) (hp : p.size ≤ 1) (hd : d.size ≤ 100) (he : -900 ≤ e) (he2 : e ≤ 900) :
  Ev (fun k => if e ≥ (-7) then (r5_Print.j1 k p d e (decide (e < 0))) else (r5_Print.j1 k p d e false)) (p ++ layF d e) := by
 unfold layF;by_cases c1 : e < -7
 ·rw [if_pos c1];have h := zBY p d e hp hd he he2 (by omega);rw [if_pos (show e < 0 by omega)] at h;refine Ev.congr (fun k => by rw [if_neg (show ¬ e ≥ -7 by omega)]) (Ev.step (fun k => ?_) h);rw [r5_Print.j1,if_neg (by decide),if_neg (by omega)]
 ·rw [if_neg c1];by_cases c3 : 20 < e
  ·rw [if_pos c3];have h := zBY p d e hp hd he he2 (by omega);rw [if_neg (show ¬ e < 0 by omega)] at h;refine Ev.congr (fun k => by rw [if_pos (show e ≥ -7 by omega),decide_eq_false (show ¬ e < 0 by omega)]) (Ev.step (fun k => ?_) h);rw [r5_Print.j1,if_neg (by decide),if_pos (by omega),decide_eq_false (by omega)]
  ·rw [if_neg c3];by_cases c4 : e < 0
   ·rw [if_pos c4];obtain ⟨K1,h1⟩ := zKa (-e - 1) (by omega);refine ⟨K1 + 1,fun k hk => ?_⟩;dsimp only at h1 ⊢;obtain ⟨k',rfl⟩ : ∃ k',k = k' + 1 := ⟨k - 1,by omega⟩;rw [if_pos (show e ≥ -7 by omega),decide_eq_true c4,r5_Print.j1,if_pos rfl,if_pos (by omega),wrapB (-e) (by omega) (by omega),wrapB (-e - 1) (by omega) (by omega),h1 k' (by omega),Option.bind_some,if_pos (by simp only [zQI,zWf,zYj];omega),if_pos (by simp only [zQI,zWf,zYj];omega)];simp only [zBd]
   ·rw [if_neg c4];obtain ⟨K1,h1⟩ := zKa (e + 1 - d.size) (by omega)
    have hstart : ∀ k : Nat,(if e ≥ (-7) then (r5_Print.j1 (k + 1 + 1) p d e (decide (e < 0))) else (r5_Print.j1 (k + 1 + 1) p d e false)) = r5_Print.j2 (k + 1) p d e true := by
     intro k;rw [if_pos (show e ≥ -7 by omega),decide_eq_false c4,r5_Print.j1,if_neg (by decide),if_pos (by omega),decide_eq_true (by omega)]
    by_cases c5 : (d.size : Int) ≤ e + 1
    ·rw [if_pos c5];refine ⟨K1 + 2,fun k hk => ?_⟩;dsimp only at h1 ⊢;obtain ⟨k',rfl⟩ : ∃ k',k = k' + 1 + 1 := ⟨k - 2,by omega⟩;rw [hstart,r5_Print.j2,if_pos rfl,wrapB (e + 1) (by omega) (by omega),wrapB (e + 1 - (d.size : Int)) (by omega) (by omega),h1 k' (by omega),Option.bind_some,if_pos (by rw [zYj];omega),if_pos (by simp only [zQI,zYj];omega),if_pos (by simp only [zQI,zYj];omega)]
    ·rw [if_neg c5];refine ⟨K1 + 2,fun k hk => ?_⟩;dsimp only at h1 ⊢;obtain ⟨k',rfl⟩ : ∃ k',k = k' + 1 + 1 := ⟨k - 2,by omega⟩;(have hz : d ++ zs (e + 1 - (d.size : Int)).toNat = d := by rw [show (e + 1 - (d.size : Int)).toNat = 0 by omega,zGZ,zBz]);rw [hstart,r5_Print.j2,if_pos rfl,wrapB (e + 1) (by omega) (by omega),wrapB (e + 1 - (d.size : Int)) (by omega) (by omega),h1 k' (by omega),Option.bind_some,if_pos (by rw [zYj];omega),hz,if_neg (by omega),if_pos (by omega),if_pos (by omega),if_pos (by simp only [ByteArray.size_extract];omega),if_pos (by simp only [zQI,ByteArray.size_extract];omega),if_pos (by simp only [zQI,ByteArray.size_extract,zXE];omega)];simp only [zBd]
end Go.Proofs.YtflcanpajgpghaaGreatDoor.Pure
end
section
namespace Go.Proofs.YtflcanpajgpghaaGreatDoor.Flo
theorem zHo (Q ρ dn up s : Nat) (ev : Bool) : Q ≤ pickX Q ρ dn up s ev ∧ pickX Q ρ dn up s ev ≤ Q + 1 := by
 unfold pickX;split <;> omega
theorem zGq {n R S D U p q : Nat} {ev : Bool} (h : Sp n R S D U) (hn : 0 < n) (hf : Far (R * 10 ^ p) (U * 10 ^ p) (S * 10 ^ q) ev) (hnf : ¬ Far (R * 10 ^ p) (U * 10 ^ p) (S * 10 ^ (q + 1)) ev) :
  ∃ m X : Nat,gen (R * 10 ^ p) (S * 10 ^ q) (D * 10 ^ p) (U * 10 ^ p) ev 17 0 = (m,X) ∧ m ≤ 16 ∧ 10 ^ m ≤ X ∧ X ≤ 10 ^ (m + 1) ∧
   X = pickX (R * 10 ^ p * 10 ^ m / (S * 10 ^ q)) (R * 10 ^ p * 10 ^ m % (S * 10 ^ q)) (D * 10 ^ p * 10 ^ m) (U * 10 ^ p * 10 ^ m) (S * 10 ^ q) ev ∧
   Stop (R * 10 ^ p * 10 ^ m % (S * 10 ^ q)) (D * 10 ^ p * 10 ^ m) (U * 10 ^ p * 10 ^ m) (S * 10 ^ q) ev := by
 have hs : 0 < S * 10 ^ q := Nat.mul_pos h.hS (zQD q);have hU := Nat.mul_pos (sp_U h) (zQD p);have hle : R * 10 ^ p + U * 10 ^ p ≤ S * 10 ^ (q + 1) := Nat.le_of_not_lt (fun g => hnf (.inl g));rw [Nat.pow_succ,← Nat.mul_assoc] at hle;by_cases hge : S * 10 ^ q ≤ R * 10 ^ p
 ·obtain ⟨g1,g2,g3,g4⟩ := zBj (R * 10 ^ p) (S * 10 ^ q) (D * 10 ^ p) (U * 10 ^ p) ev 17 0 ⟨16,by omega,by omega,zYQ ev h hn hge⟩;generalize hg : gen (R * 10 ^ p) (S * 10 ^ q) (D * 10 ^ p) (U * 10 ^ p) ev 17 0 = g at g1 g2 g3 g4 ⊢;obtain ⟨m,X⟩ := g;dsimp only at g1 g2 g3 g4
  have hQ0 : 10 ^ m ≤ R * 10 ^ p * 10 ^ m / (S * 10 ^ q) := by
   rw [Nat.le_div_iff_mul_le hs,Nat.mul_comm];exact Nat.mul_le_mul_right _ hge
  have hQ2 : R * 10 ^ p * 10 ^ m / (S * 10 ^ q) < 10 ^ (m + 1) := by
   refine Nat.div_lt_of_lt_mul ?_
   rw [Nat.pow_succ,Nat.mul_comm (10 ^ m) 10,← Nat.mul_assoc];exact Nat.mul_lt_mul_of_pos_right (by omega) (zQD m)
  have hp := zHo (R * 10 ^ p * 10 ^ m / (S * 10 ^ q)) (R * 10 ^ p * 10 ^ m % (S * 10 ^ q)) (D * 10 ^ p * 10 ^ m) (U * 10 ^ p * 10 ^ m) (S * 10 ^ q) ev;rw [← g3] at hp;exact ⟨m,X,rfl,by omega,by omega,by omega,g3,g4⟩
 ·have hlt : R * 10 ^ p < S * 10 ^ q := Nat.lt_of_not_le hge;(have hD2 : 2 * (D * 10 ^ p) ≤ R * 10 ^ p := by rw [← Nat.mul_assoc];exact Nat.mul_le_mul_right _ (zWH h));have hRp := Nat.mul_pos (sp_R h hn) (zQD p)
  have hnl : ¬ Low (R * 10 ^ p) (D * 10 ^ p) ev := by
   unfold Low;rintro (g | ⟨g,_⟩) <;> omega
  have hx : pickX (R * 10 ^ p * 10 ^ 0 / (S * 10 ^ q)) (R * 10 ^ p * 10 ^ 0 % (S * 10 ^ q)) (D * 10 ^ p * 10 ^ 0) (U * 10 ^ p * 10 ^ 0) (S * 10 ^ q) ev = 1 := by
   rw [Nat.pow_zero,Nat.mul_one,Nat.mul_one,Nat.mul_one,Nat.mod_eq_of_lt hlt,Nat.div_eq_of_lt hlt];unfold pickX;rw [if_pos ⟨hf,.inl hnl⟩]
  have hst : Stop (R * 10 ^ p * 10 ^ 0 % (S * 10 ^ q)) (D * 10 ^ p * 10 ^ 0) (U * 10 ^ p * 10 ^ 0) (S * 10 ^ q) ev := by
   rw [Nat.pow_zero,Nat.mul_one,Nat.mul_one,Nat.mul_one,Nat.mod_eq_of_lt hlt];exact .inr hf
  exact ⟨0,1,by rw [gen,if_pos hst,hx],by decide,by decide,by decide,hx.symm,hst⟩
end Go.Proofs.YtflcanpajgpghaaGreatDoor.Flo
end
section
namespace Go.Proofs.YtflcanpajgpghaaGreatDoor.Pure
open Go.RowKit Go.Proofs.YtflcanpajgpghaaGreatDoor.Pr Go.Proofs.YtflcanpajgpghaaGreatDoorW.PrintWords Go.Proofs.YtflcanpajgpghaaGreatDoorW.PrintLast Go.Proofs.YtflcanpajgpghaaGreatDoorW.PrintMore Go.Proofs.YtflcanpajgpghaaGreatDoor.Flo
theorem zJU {x : Nat} (h : x ≠ 0) : strip x ≤ x := by
 obtain ⟨_,_,z,hz⟩ := zWF x x (Nat.le_refl _) h;have : strip x * 1 ≤ strip x * 10 ^ z := Nat.mul_le_mul_left _ (Nat.pow_pos (by decide));omega
def pre (a : Nat) : ByteArray := if a / 9223372036854775808 = 1 then (⟨#[45]⟩ : ByteArray) else (⟨#[]⟩ : ByteArray)
theorem zBf (a : Nat) : (pre a).size ≤ 1 := by
 unfold pre;split
 ·exact Nat.le_refl 1
 ·exact Nat.zero_le 1
theorem zWp (a : Nat) (ha : a < 18446744073709551616) : flo_Kind.f (a : Int) = some (kindV a) := by
 rw [flo_Kind.f,flo_kind.f,if_pos (by omega),Int.toNat_natCast]
 rfl
theorem zYI (a : Nat) (ha : a < 18446744073709551616) (r : ByteArray) (h : Ev (fun k => dec_Print.j0 k (a : Int) (pre a)) r) : Ev (fun k => dec_Print.f k (a : Int)) r := by
 refine Ev.congr (fun k => ?_) h;unfold dec_Print.f pre;by_cases c : a / 9223372036854775808 = 1
 ·rw [if_pos c,if_pos (by omega)]
 ·rw [if_neg c,if_neg (by omega)]
theorem zVg (a : Nat) (ha : a < 18446744073709551616) (h0 : 0 < rung a) (h1 : rung a < INF) : ∃ R S D U p q m X : Nat,Sp (rung a) R S D U ∧
  Far (R * 10 ^ p) (U * 10 ^ p) (S * 10 ^ q) (a % 2 == 0) ∧ ¬ Far (R * 10 ^ p) (U * 10 ^ p) (S * 10 ^ (q + 1)) (a % 2 == 0) ∧ gen (R * 10 ^ p) (S * 10 ^ q) (D * 10 ^ p) (U * 10 ^ p) (a % 2 == 0) 17 0 = (m,X) ∧ m ≤ 16 ∧ 10 ^ m ≤ X ∧ X ≤ 10 ^ (m + 1) ∧
  Ev (fun k => dec_Print.f k (a : Int)) (pre a ++ layF (outF (m,X) ((q : Int) - p)).1 (outF (m,X) ((q : Int) - p)).2) := by
 obtain ⟨R,S,D,U,p,q,hsp,hf,hnf,K1,g1⟩ := zJv a ha h0 h1;obtain ⟨m,X,hg,hm,hX1,hX2,_,_⟩ := zGq hsp h0 hf hnf;rw [hg] at g1;have hb := zKV hsp h0 h1 hf hnf;have hX0 : X ≠ 0 := by have := zQD m;omega
 have hsz : (outF (m,X) ((q : Int) - p)).1.size ≤ 18 := by
  unfold outF;dsimp only
  refine zZC ?_
  have h2 := zJU hX0;have h3 : (10 : Nat) ^ (m + 1) < 10 ^ 18 := Nat.pow_lt_pow_right (by decide) (by omega);omega
 have he : -402 ≤ (outF (m,X) ((q : Int) - p)).2 ∧ (outF (m,X) ((q : Int) - p)).2 ≤ 403 := by
  unfold outF;dsimp only;split <;> omega
 refine ⟨R,S,D,U,p,q,m,X,hsp,hf,hnf,hg,hm,hX1,hX2,zYI a ha _ ?_⟩;generalize outF (m,X) ((q : Int) - p) = o at g1 hsz he ⊢;obtain ⟨d,e⟩ := o;dsimp only at hsz he ⊢;obtain ⟨K2,g2⟩ := zHu d e (by omega) (by omega) (by omega);have hk := zWo h0 h1;have hps := zBf a
 have hls : (layF d e).size ≤ 2000 := by
  unfold layF mant;have e1 := zYY (-e).toNat (by omega);have e2 := zYY e.toNat (by omega);by_cases c1 : e < -7
  ·rw [if_pos c1];split <;> simp only [zQI,ByteArray.size_extract,zXE,zWh] <;> omega
  ·rw [if_neg c1];by_cases c2 : 20 < e
   ·rw [if_pos c2];split <;> simp only [zQI,ByteArray.size_extract,zXE,zWg] <;> omega
   ·rw [if_neg c2];by_cases c3 : e < 0
    ·rw [if_pos c3];simp only [zQI,zWf,zYj];omega
    ·rw [if_neg c3];split <;> simp only [zQI,ByteArray.size_extract,zXE,zYj] <;> omega
 refine ⟨K1 + K2 + 1,fun k hk2 => ?_⟩;dsimp only at g1 g2 ⊢;obtain ⟨k',rfl⟩ : ∃ k',k = k' + 1 := ⟨k - 1,by omega⟩;(have hk3 : kindV a ≠ 4 ∧ kindV a ≠ 3 ∧ kindV a ≠ 0 := by rw [hk];split <;> decide);rw [dec_Print.j0,zWp a ha,Option.bind_some,if_neg hk3.1,if_neg hk3.2.1,if_neg hk3.2.2,g1 k' (by omega),Option.bind_some];dsimp only;rw [g2 k' (by omega),Option.bind_some,if_pos (by omega)]
end Go.Proofs.YtflcanpajgpghaaGreatDoor.Pure
end
section
namespace Go.Proofs.YtflcanpajgpghaaGreatDoor.Pure
open Go.RowKit Go.Proofs.YtflcanpajgpghaaGreatDoor.Pr Go.Proofs.YtflcanpajgpghaaGreatDoorW.PrintWords Go.Proofs.YtflcanpajgpghaaGreatDoorW.PrintLast Go.Proofs.YtflcanpajgpghaaGreatDoorW.PrintMore
theorem zVo : w5_lives.f 200 = some true := by kernel_rfl
theorem zGl : Ev (fun k => w5_lives.f k) true := Ev.of (k := 200) (fun k => w5_lives.mono _) zVo
end Go.Proofs.YtflcanpajgpghaaGreatDoor.Pure
end
section
namespace Go.Proofs.YtflcanpajgpghaaGreatDoor.Pure
open Go.RowKit Go.Proofs.YtflcanpajgpghaaGreatDoor.Pr Go.Proofs.YtflcanpajgpghaaGreatDoorW.PrintWords Go.Proofs.YtflcanpajgpghaaGreatDoorW.PrintLast Go.Proofs.YtflcanpajgpghaaGreatDoorW.PrintMore Go.Proofs.YtflcanpajgpghaaGreatDoor.Flo
theorem zYu (a : Nat) (r : ByteArray) (h : Ev (fun k => r5_Print.j0 k (a : Int) (pre a)) r) : Ev (fun k => r5_Print.f k (a : Int)) r := by
 refine Ev.congr (fun k => ?_) h;unfold r5_Print.f pre;rw [r1_Neg.f,Option.bind_some];by_cases c : a / 9223372036854775808 = 1
 ·rw [if_pos c,if_pos (by rw [beq_iff_eq];omega)]
 ·rw [if_neg c,if_neg (by rw [beq_iff_eq];omega)]
theorem zBA (a : Nat) (ha : a < 18446744073709551616) : ∃ r,Ev (fun k => dec_Print.f k (a : Int)) r ∧ Ev (fun k => r5_Print.f k (a : Int)) r := by
 have hps := zBf a;obtain ⟨K1,g1⟩ := zWR a ha;dsimp only at g1;by_cases c4 : kindV a = 4
 ·refine ⟨(⟨#[110,97,110]⟩ : ByteArray),zYI a ha _ (Ev.step (f := fun _ => some _) (fun k => ?_) (Ev.now _)),zYu a _ ⟨K1 + 1,fun k hk => ?_⟩⟩
  ·rw [dec_Print.j0,zWp a ha,Option.bind_some,if_pos c4]
  ·obtain ⟨k',rfl⟩ : ∃ k',k = k' + 1 := ⟨k - 1,by omega⟩;dsimp only;rw [r5_Print.j0,g1 k' (by omega),Option.bind_some,if_pos c4]
 ·by_cases c3 : kindV a = 3
  ·refine ⟨pre a ++ (⟨#[105,110,102]⟩ : ByteArray),zYI a ha _ (Ev.step (f := fun _ => some _) (fun k => ?_) (Ev.now _)),zYu a _ ⟨K1 + 1,fun k hk => ?_⟩⟩
   ·rw [dec_Print.j0,zWp a ha,Option.bind_some,if_neg c4,if_pos c3,if_pos (by omega)]
   ·obtain ⟨k',rfl⟩ : ∃ k',k = k' + 1 := ⟨k - 1,by omega⟩;dsimp only;rw [r5_Print.j0,g1 k' (by omega),Option.bind_some,if_neg c4,if_pos c3,if_pos (by omega)]
  ·by_cases c0 : kindV a = 0
   ·refine ⟨pre a ++ (⟨#[48]⟩ : ByteArray),zYI a ha _ (Ev.step (f := fun _ => some _) (fun k => ?_) (Ev.now _)),zYu a _ ⟨K1 + 1,fun k hk => ?_⟩⟩
    ·rw [dec_Print.j0,zWp a ha,Option.bind_some,if_neg c4,if_neg c3,if_pos c0,if_pos (by omega)]
    ·obtain ⟨k',rfl⟩ : ∃ k',k = k' + 1 := ⟨k - 1,by omega⟩;dsimp only;rw [r5_Print.j0,g1 k' (by omega),Option.bind_some,if_neg c4,if_neg c3,if_pos c0,if_pos (by omega)]
   ·have hI : INF = 9218868437227405312 := rfl;have hr : rung a = a % 9223372036854775808 := rfl
    have hfin : 0 < rung a ∧ rung a < INF := by
     unfold kindV nanB infB at c4 c3 c0;by_cases d1 : 9218868437227405312 < rung a
     ·exact absurd (if_pos (decide_eq_true d1)) c4
     ·rw [if_neg (by rw [decide_eq_true_iff];exact d1)] at c3 c0;by_cases d2 : rung a = 0
      ·exact absurd (if_pos d2) c0
      ·rw [if_neg d2] at c3;by_cases d3 : rung a = 9218868437227405312
       ·exact absurd (if_pos (decide_eq_true d3)) c3
       ·omega
    obtain ⟨h0,h1⟩ := hfin;obtain ⟨R,S,D,U,p,q,m,X,hsp,hf,hnf,hg,hm,hX1,hX2,hprog⟩ := zVg a ha h0 h1;refine ⟨_,hprog,zYu a _ ?_⟩;(have hpar : (a % 2 == 0) = (rung a % 2 == 0) := by rw [hr,show a % 9223372036854775808 % 2 = a % 2 by omega]);rw [hpar] at hf hnf hg;have hsh := zWO h0 h1 hsp hf hnf;rw [hg] at hsh;have hb := zKV hsp h0 h1 hf hnf;have hX0 : X ≠ 0 := by have := zQD m;omega
    have hsz : (outF (m,X) ((q : Int) - p)).1.size ≤ 18 := by
     unfold outF;dsimp only
     refine zZC ?_
     have h2 := zJU hX0;have h3 : (10 : Nat) ^ (m + 1) < 10 ^ 18 := Nat.pow_lt_pow_right (by decide) (by omega);omega
    have he : -402 ≤ (outF (m,X) ((q : Int) - p)).2 ∧ (outF (m,X) ((q : Int) - p)).2 ≤ 403 := by
     unfold outF;dsimp only;split <;> omega
    generalize outF (m,X) ((q : Int) - p) = o at hsh hsz he ⊢;obtain ⟨d,e⟩ := o;dsimp only at hsz he ⊢;obtain ⟨K2,g2⟩ := hsh;obtain ⟨K3,g3⟩ := zHm (pre a) d e hps (by omega) (by omega) (by omega);refine ⟨K1 + K2 + K3 + 1,fun k hk => ?_⟩;dsimp only at g2 g3 ⊢;obtain ⟨k',rfl⟩ : ∃ k',k = k' + 1 := ⟨k - 1,by omega⟩;rw [r5_Print.j0,g1 k' (by omega),Option.bind_some,if_neg c4,if_neg c3,if_neg c0,zJL a ha,g2 k' (by omega),Option.bind_some];exact g3 k' (by omega)
theorem zZt : w5_DecPrints.Pure := by
 intro a0 hwf;(have h1 : 0 ≤ a0 ∧ a0 ≤ 18446744073709551615 := by simpa [Lit.wf,IntKind.min,IntKind.max,IntKind.signed,IntKind.bits] using hwf);obtain ⟨a,rfl⟩ : ∃ a : Nat,a0 = (a : Int) := ⟨a0.toNat,by omega⟩;obtain ⟨r,⟨K1,g1⟩,⟨K2,g2⟩⟩ := zBA a (by omega);obtain ⟨K3,g3⟩ := zGl;dsimp only at g1 g2 g3;refine ⟨K1 + K2 + K3,?_⟩;rw [w5_DecPrints.f,g1 _ (by omega),Option.bind_some,g2 _ (by omega),Option.bind_some,if_pos rfl,g3 _ (by omega),Option.bind_some]
end Go.Proofs.YtflcanpajgpghaaGreatDoor.Pure
end
