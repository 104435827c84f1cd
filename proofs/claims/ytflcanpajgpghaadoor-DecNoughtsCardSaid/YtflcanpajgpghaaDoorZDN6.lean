/- A part of the proof of the law that RowDecNoughts shows: lemmas, and contracts of the calls that it reaches. -/
import Derived.Test.YtflcanpajgpghaaDoorProg
import Derived.Below
import Derived.Deep.Draws
import Derived.Deep.AppendLies
import Derived.Maps.AppendAt
import Derived.OwnWalk
import Derived.Laws.BytesArg
import Derived.Laws.MakeOwn
import Derived.Laws.OwnMore
import Derived.Deep.OwnRows
import Derived.Tactics
import Derived.Lib.ConvBytes
import Derived.Laws.Slices
import Derived.WalkKit
import Derived.KernelRfl
import Derived.RowKit3
import Derived.Deep.LoopGhost
import Derived.Deep.QuietTactic
import Derived.BigQuiet
import Derived.WideLaws
import Derived.Deep.DeepCutAuto
import Derived.Deep.CutBlock
import Derived.Deep.RegionHeld3
import Derived.Laws.Rows
import Derived.Lib.AppendStr
import Derived.ArgAppend
import Derived.Laws.IdiomCopy
import Derived.OrdersHeld
import Derived.Laws.BitsLemmas
import Derived.RowKit
import Derived.Test.YtflcanpajgpghaaDoorZDN0
import Derived.Test.YtflcanpajgpghaaDoorZDN5
import Derived.Test.YtflcanpajgpghaaDoorZDN4
import Derived.Test.YtflcanpajgpghaaDoorZDN1
set_option linter.unusedVariables false
set_option linter.unusedSimpArgs false
section
namespace Go.Proofs.YtflcanpajgpghaaDoor.Pure
open Go.RowKit Go.Proofs.YtflcanpajgpghaaDoor.Pr Go.Proofs.YtflcanpajgpghaaDoorW.PrintWords Go.Proofs.YtflcanpajgpghaaDoorW.PrintLast Go.Proofs.YtflcanpajgpghaaDoorW.PrintMore Go.Proofs.YtflcanpajgpghaaDoor.Flo
def rnd (q n : Nat) : Nat := if 2 ^ (n - 1) < q % 2 ^ n ∨ (q % 2 ^ n = 2 ^ (n - 1) ∧ q / 2 ^ n % 2 = 1) then q / 2 ^ n + 1 else q / 2 ^ n
theorem mask_eq (n : Nat) (h : n ≤ 64) : IntKind.u64.wrap ((shl .u64 1 (n : Int)) - 1) = ((2 ^ n - 1 : Nat) : Int) := by
 have h9 := shl_u64 1 n h
 rw [Nat.one_mul] at h9
 have h9 : shl .u64 1 (n : Int) = ((2 ^ n % 2 ^ 64 : Nat) : Int) := h9
 rw [h9]
 by_cases he : n = 64
 ·subst he
  rw [Nat.mod_self]
  rfl
 ·have h8 : (2 : Nat) ^ n < 2 ^ 64 := Nat.pow_lt_pow_right (by decide) (by omega)
  have h7 := Nat.two_pow_pos n
  rw [Nat.mod_eq_of_lt h8, show (((2 ^ n : Nat) : Int) - 1) = ((2 ^ n - 1 : Nat) : Int) by omega, u64_in _ (by omega)]
theorem shifted_ev (q n : Nat) (hq : q < 2 ^ 64) (hn : 1 ≤ n) (hn2 : n ≤ 64) : flo_shifted.f (q : Int) false (n : Int) = some ((rnd q n : Nat) : Int) := by
 have hm : Go.bits .and .u64 (q : Int) (IntKind.u64.wrap ((shl .u64 1 (n : Int)) - 1)) = ((q % 2 ^ n : Nat) : Int) := by
  rw [mask_eq n hn2, bits_and _ _ hq (by have := Nat.pow_le_pow_right (show 0 < 2 by decide) hn2; have := Nat.two_pow_pos n; omega), Nat.and_two_pow_sub_one_eq_mod]
 have h8 : (2 : Nat) ^ (n - 1) < 2 ^ 64 := Nat.pow_lt_pow_right (by decide) (by omega)
 have hmid : shl .u64 1 (((n - 1 : Nat) : Int)) = ((2 ^ (n - 1) : Nat) : Int) := by
  have h9 := shl_u64 1 (n - 1) (by omega)
  rw [Nat.one_mul, Nat.mod_eq_of_lt h8] at h9
  exact h9
 have hsr := shr_u64 q n hn2
 have hdl : q / 2 ^ n < 2 ^ 64 := Nat.lt_of_le_of_lt (Nat.div_le_self ..) hq
 have hlow : Go.bits .and .u64 ((q / 2 ^ n : Nat) : Int) 1 = ((q / 2 ^ n % 2 : Nat) : Int) := by
  have := bits_and (q / 2 ^ n) 1 hdl (by decide)
  rw [show (1 : Nat) = 2 ^ 1 - 1 from rfl, Nat.and_two_pow_sub_one_eq_mod] at this
  exact this
 have h2 : (2 : Nat) ≤ 2 ^ n := by
  have := Nat.pow_le_pow_right (show 0 < 2 by decide) hn
  omega
 have hd2 : q / 2 ^ n + 1 < 18446744073709551616 := by
  have : q / 2 ^ n ≤ q / 2 := Nat.div_le_div_left h2 (by decide)
  omega
 have hinc : IntKind.u64.wrap (((q / 2 ^ n : Nat) : Int) + 1) = ((q / 2 ^ n + 1 : Nat) : Int) := by
  rw [show (((q / 2 ^ n : Nat) : Int) + 1) = ((q / 2 ^ n + 1 : Nat) : Int) by push_cast; rfl, u64_in _ hd2]
 unfold flo_shifted.f
 rw [if_pos (by omega), if_neg (by omega), wrapB _ (by omega) (by omega), if_pos (by omega), hm, show ((n : Int) - 1) = ((n - 1 : Nat) : Int) by omega, hmid, hsr, hlow, hinc]
 unfold rnd
 obtain ⟨x, hx⟩ : ∃ x, x = q % 2 ^ n := ⟨_, rfl⟩
 obtain ⟨y, hy⟩ : ∃ y, y = 2 ^ (n - 1) := ⟨_, rfl⟩
 obtain ⟨z, hz⟩ : ∃ z, z = q / 2 ^ n := ⟨_, rfl⟩
 rw [← hx, ← hy, ← hz]
 by_cases c1 : y < x
 ·rw [if_pos (by omega), if_pos (.inl c1)]
 ·rw [if_neg (by omega)]
  by_cases c2 : x = y
  ·rw [if_pos (by omega), if_neg (by decide)]
   by_cases c3 : z % 2 = 1
   ·rw [if_pos (by omega), if_pos (.inr ⟨c2, c3⟩)]
   ·rw [if_neg (by omega), if_neg (by omega)]
  ·rw [if_neg (by omega), if_neg (by omega)]
theorem or_frac (a b : Nat) (h : b < 4503599627370496) (ha : a < 4096) : Go.bits .or .u64 ((a * 4503599627370496 : Nat) : Int) (b : Int) = ((a * 4503599627370496 + b : Nat) : Int) := by
 rw [bits_or _ _ (by omega) (by omega)]
 have := Nat.two_pow_add_eq_or_of_lt (i := 52) h a
 rw [Nat.mul_comm a, show (4503599627370496 : Nat) = 2 ^ 52 from rfl, this]
theorem or_nought (a : Nat) (h : a < 18446744073709551616) : Go.bits .or .u64 0 (a : Int) = (a : Int) := by
 have := bits_or 0 a (by decide) h
 rw [Nat.zero_or] at this
 exact this
theorem and_frac (a : Nat) (h : a < 18446744073709551616) : Go.bits .and .u64 (a : Int) 4503599627370495 = ((a % 4503599627370496 : Nat) : Int) := by
 have := bits_and a 4503599627370495 h (by decide)
 rw [show (4503599627370495 : Nat) = 2 ^ 52 - 1 from rfl, Nat.and_two_pow_sub_one_eq_mod] at this
 exact this
theorem join_ev (e : Int) (n j R : Nat) (hj : (j : Int) = e + n + 1074) (hb : j ≤ 100000) (hn : n ≤ 100000) (hR : R ≤ 9007199254740992) (h2 : j = 0 ∨ 4503599627370496 ≤ R) :
  Ev (fun k => flo_Make.j2 k e (R : Int) 0 (n : Int)) ((min (j * 4503599627370496 + R) INF : Nat) : Int) := by
 unfold INF
 by_cases hbig : R = 9007199254740992
 ·subst hbig
  have hw : wrap64 (wrap64 (e + n) + 1) = (j : Int) - 1073 := by rw [wrapB (e + n) (by omega) (by omega), wrapB _ (by omega) (by omega)]; omega
  refine Ev.step (f := fun k => flo_Make.j3 k ((j : Int) - 1073) 4503599627370496 0) (fun k => ?_) (Ev.step (f := fun _ => some ((min (j * 4503599627370496 + 9007199254740992) 9218868437227405312 : Nat) : Int)) (fun k => ?_) (Ev.now _))
  ·rw [flo_Make.j2, if_pos (by rfl), hw]
  ·rw [flo_Make.j3, if_neg (by omega)]
   by_cases ho : (j : Int) - 1073 > 971
   ·rw [if_pos ho, Nat.min_eq_right (by omega)]
    have := or_nought 9218868437227405312 (by decide)
    exact congrArg some this
   ·rw [if_neg ho, if_neg (by omega), wrapB _ (by omega) (by omega), Nat.min_eq_left (by omega)]
    have h1 : IntKind.u64.wrap ((j : Int) - 1073 + 1075) = ((j + 2 : Nat) : Int) := by rw [show ((j : Int) - 1073 + 1075) = ((j + 2 : Nat) : Int) by omega, u64_in _ (by omega)]
    have h3 : IntKind.u64.wrap (((j + 2 : Nat) : Int) * 4503599627370496) = (((j + 2) * 4503599627370496 : Nat) : Int) := by rw [show (((j + 2 : Nat) : Int) * 4503599627370496) = (((j + 2) * 4503599627370496 : Nat) : Int) by omega, u64_in _ (by omega)]
    have h4 := and_frac 4503599627370496 (by decide)
    rw [Nat.mod_self] at h4
    have h4 : Go.bits .and .u64 4503599627370496 4503599627370495 = ((0 : Nat) : Int) := h4
    rw [h1, h3, or_nought _ (by omega), h4, or_frac _ _ (by decide) (by omega)]
    exact congrArg (fun z : Nat => some (z : Int)) (by omega)
 ·have hw : wrap64 (e + n) = (j : Int) - 1074 := by rw [wrapB (e + n) (by omega) (by omega)]; omega
  refine Ev.step (f := fun k => flo_Make.j3 k ((j : Int) - 1074) (R : Int) 0) (fun k => ?_) (Ev.step (f := fun _ => some ((min (j * 4503599627370496 + R) 9218868437227405312 : Nat) : Int)) (fun k => ?_) (Ev.now _))
  ·rw [flo_Make.j2, if_neg (by omega), hw]
  ·by_cases h0 : R = 0
   ·subst h0
    obtain rfl : j = 0 := by omega
    rw [flo_Make.j3, if_pos (by rfl)]
    rfl
   ·rw [flo_Make.j3, if_neg (by omega)]
    by_cases ho : (j : Int) - 1074 > 971
    ·rw [if_pos ho, Nat.min_eq_right (by omega)]
     have := or_nought 9218868437227405312 (by decide)
     exact congrArg some this
    ·rw [if_neg ho, Nat.min_eq_left (by omega)]
     by_cases hs : R < 4503599627370496
     ·obtain rfl : j = 0 := by omega
      rw [if_pos (by omega), or_nought _ (by omega), Nat.zero_mul, Nat.zero_add]
     ·rw [if_neg (by omega), wrapB _ (by omega) (by omega)]
      have h1 : IntKind.u64.wrap ((j : Int) - 1074 + 1075) = ((j + 1 : Nat) : Int) := by rw [show ((j : Int) - 1074 + 1075) = ((j + 1 : Nat) : Int) by omega, u64_in _ (by omega)]
      have h3 : IntKind.u64.wrap (((j + 1 : Nat) : Int) * 4503599627370496) = (((j + 1) * 4503599627370496 : Nat) : Int) := by rw [show (((j + 1 : Nat) : Int) * 4503599627370496) = (((j + 1) * 4503599627370496 : Nat) : Int) by omega, u64_in _ (by omega)]
      rw [h1, h3, or_nought _ (by omega), and_frac _ (by omega), or_frac _ _ (by omega) (by omega)]
      exact congrArg (fun z : Nat => some (z : Int)) (by omega)
theorem div_pow_lt {q L n : Nat} (h : q < 2 ^ L) (hn : L ≤ n + 53) : q / 2 ^ n < 9007199254740992 := by
 rw [Nat.div_lt_iff_lt_mul (Nat.two_pow_pos n), show (9007199254740992 : Nat) = 2 ^ 53 from rfl, ← Nat.pow_add]
 exact Nat.lt_of_lt_of_le h (Nat.pow_le_pow_right (by decide) (by omega))
theorem le_div_pow {q L n : Nat} (h : 2 ^ (L - 1) ≤ q) (hn : L = n + 53) : 4503599627370496 ≤ q / 2 ^ n := by
 rw [Nat.le_div_iff_mul_le (Nat.two_pow_pos n), show (4503599627370496 : Nat) = 2 ^ 52 from rfl, ← Nat.pow_add]
 exact Nat.le_trans (Nat.pow_le_pow_right (by decide) (by omega)) h
theorem rnd_bounds (q n : Nat) : q / 2 ^ n ≤ rnd q n ∧ rnd q n ≤ q / 2 ^ n + 1 := by
 unfold rnd
 by_cases h : 2 ^ (n - 1) < q % 2 ^ n ∨ (q % 2 ^ n = 2 ^ (n - 1) ∧ q / 2 ^ n % 2 = 1)
 ·rw [if_pos h]; omega
 ·rw [if_neg h]; omega
theorem make_ev (q : Nat) (e : Int) (n j L : Nat) (hL : L = Lib.bitLen q) (hq : 2 ^ 62 ≤ q) (hq2 : q < 2 ^ 64) (he : -8000 ≤ e) (he2 : e ≤ 8000) (hn1 : L ≤ n + 53) (hn2 : -1074 - e ≤ n) (hn3 : n + 53 = L ∨ (n : Int) = -1074 - e) (hj : (j : Int) = e + n + 1074) :
  Ev (fun k => flo_Make.f k false e (q : Int) false) ((if 64 < n then 0 else min (j * 4503599627370496 + rnd q n) INF : Nat) : Int) := by
 obtain ⟨b1, b2, b3⟩ := bitLen_spec q (by omega) hq2
 rw [← hL] at b1 b2 b3
 have hL63 : 63 ≤ L := by
  apply Nat.le_of_not_lt
  intro hlt
  have : 2 ^ L ≤ 2 ^ 62 := Nat.pow_le_pow_right (by decide) (by omega)
  omega
 have hL64 : L ≤ 64 := by
  apply Nat.le_of_not_lt
  intro hlt
  have : (2 : Nat) ^ 64 ≤ 2 ^ (L - 1) := Nat.pow_le_pow_right (by decide) (by omega)
  omega
 have hlen : bits_Len64.f (q : Int) = some (L : Int) := by
  unfold bits_Len64.f
  rw [if_pos (by omega), Int.toNat_natCast, hL]
 have hclamp : mn (mx e (-1048576)) 1048576 = e := by unfold mn mx; omega
 have hmx : mx (wrap64 ((wrap64 ((L : Int) - 52)) - 1)) (wrap64 ((-1074) - e)) = (n : Int) := by
  rw [wrapB ((L : Int) - 52) (by omega) (by omega), wrapB _ (by omega) (by omega), wrapB _ (by omega) (by omega)]
  unfold mx
  omega
 have hj1 : ∀ (t : Int) (r : Int), flo_shifted.f (q : Int) false (n : Int) = some t → Ev (fun k => flo_Make.j2 k e t 0 (n : Int)) r → Ev (fun k => flo_Make.f k false e (q : Int) false) r := by
  intro t r ht hr
  refine Ev.congr (f := fun k => flo_Make.j0 k e (q : Int) false 0) (fun k => ?_) (Ev.step (f := fun k => flo_Make.j1 k e (q : Int) false 0) (fun k => ?_) (Ev.step (fun k => ?_) hr))
  ·unfold flo_Make.f
   rw [if_neg (by decide)]
  ·rw [flo_Make.j0, if_neg (by omega), hclamp]
  ·rw [flo_Make.j1, hlen, Option.bind_some, hmx, if_pos (by omega), ht, Option.bind_some]
 by_cases h64 : 64 < n
 ·rw [if_pos h64]
  refine hj1 0 _ ?_ ?_
  ·unfold flo_shifted.f
   rw [if_pos (by omega), if_pos (by omega)]
  ·have h0 : j = 0 := by omega
   have := join_ev e n j 0 hj (by omega) (by omega) (by omega) (.inl h0)
   rw [h0] at this
   exact this
 ·rw [if_neg h64]
  refine hj1 _ _ (shifted_ev q n hq2 (by omega) (by omega)) ?_
  have h5 := div_pow_lt b3 hn1
  have h6 := rnd_bounds q n
  refine join_ev e n j (rnd q n) hj (by omega) (by omega) (by omega) ?_
  rcases hn3 with h | h
  ·have := le_div_pow b2 h.symm
   exact .inr (by omega)
  ·exact .inl (by omega)
end Go.Proofs.YtflcanpajgpghaaDoor.Pure
end
section
namespace Go.Proofs.YtflcanpajgpghaaDoor.Pure
open Go.RowKit Go.Proofs.YtflcanpajgpghaaDoor.Pr Go.Proofs.YtflcanpajgpghaaDoorW.PrintWords Go.Proofs.YtflcanpajgpghaaDoorW.PrintLast Go.Proofs.YtflcanpajgpghaaDoorW.PrintMore Go.Proofs.YtflcanpajgpghaaDoor.Flo
theorem or_one (Q : Nat) : Q ||| 1 = 2 * (Q / 2) + 1 := by
 have h := Nat.two_pow_add_eq_or_of_lt (i := 1) (b := 1) (by decide) (Q / 2)
 rw [Nat.pow_one] at h
 rcases Nat.mod_two_eq_zero_or_one Q with h2 | h2
 ·rw [h, show 2 * (Q / 2) = Q by omega]
 ·have e : Q = 2 * (Q / 2) ||| 1 := by rw [← h]; omega
  rw [h]
  have : Q ||| 1 = (2 * (Q / 2) ||| 1) ||| 1 := by rw [← e]
  rw [this, Nat.or_assoc, Nat.or_self]
def stick (Q R : Nat) : Nat := if 0 < R then Q ||| 1 else Q
theorem rnd_stick (Q R n : Nat) (hn : 2 ≤ n) : stick Q R / 2 ^ n = Q / 2 ^ n ∧ rnd (stick Q R) n = if 2 ^ (n - 1) < Q % 2 ^ n ∨ (Q % 2 ^ n = 2 ^ (n - 1) ∧ (0 < R ∨ Q / 2 ^ n % 2 = 1)) then Q / 2 ^ n + 1 else Q / 2 ^ n := by
 unfold stick
 by_cases hR : 0 < R
 ·rw [if_pos hR, or_one]
  obtain ⟨m, rfl⟩ : ∃ m, n = m + 2 := ⟨n - 2, by omega⟩
  unfold rnd
  rw [show m + 2 - 1 = m + 1 by omega]
  have e1 : (2 : Nat) ^ (m + 1) = 2 * 2 ^ m := by rw [Nat.pow_succ, Nat.mul_comm]
  have e2 : (2 : Nat) ^ (m + 2) = 4 * 2 ^ m := by rw [show m + 2 = m + 1 + 1 from rfl, Nat.pow_succ, e1]; omega
  rw [e1, e2]
  have hT := Nat.two_pow_pos m
  obtain ⟨T, hTT⟩ : ∃ T, T = 2 ^ m := ⟨_, rfl⟩
  rw [← hTT] at hT ⊢
  have hdm := Nat.div_add_mod Q (4 * T)
  have hlt := Nat.mod_lt Q (show 0 < 4 * T by omega)
  obtain ⟨z, hz⟩ : ∃ z, z = Q / (4 * T) := ⟨_, rfl⟩
  obtain ⟨r, hr⟩ : ∃ r, r = Q % (4 * T) := ⟨_, rfl⟩
  rw [← hz, ← hr] at hdm
  rw [← hr] at hlt
  have hzz : 4 * T * z = 2 * (2 * (T * z)) := by rw [show 4 * T * z = 4 * (T * z) from Nat.mul_assoc ..]; omega
  have hq : 2 * (Q / 2) + 1 = (2 * (r / 2) + 1) + 4 * T * z := by omega
  have hr2 : 2 * (r / 2) + 1 < 4 * T := by omega
  have d1 : (2 * (Q / 2) + 1) / (4 * T) = z := by rw [hq, Nat.add_mul_div_left _ _ (by omega), Nat.div_eq_of_lt hr2, Nat.zero_add]
  have d2 : (2 * (Q / 2) + 1) % (4 * T) = 2 * (r / 2) + 1 := by rw [hq, Nat.add_mul_mod_self_left, Nat.mod_eq_of_lt hr2]
  rw [d1, d2, ← hz, ← hr]
  refine ⟨rfl, ?_⟩
  by_cases c : 2 * T < 2 * (r / 2) + 1 ∨ (2 * (r / 2) + 1 = 2 * T ∧ z % 2 = 1)
  ·rw [if_pos c, if_pos (by omega)]
  ·rw [if_neg c, if_neg (by omega)]
 ·rw [if_neg hR]
  refine ⟨rfl, ?_⟩
  unfold rnd
  by_cases c : 2 ^ (n - 1) < Q % 2 ^ n ∨ (Q % 2 ^ n = 2 ^ (n - 1) ∧ Q / 2 ^ n % 2 = 1)
  ·rw [if_pos c, if_pos (by omega)]
  ·rw [if_neg c, if_neg (by omega)]
theorem stick_bounds (Q R : Nat) (h1 : 2 ^ 62 ≤ Q) (h2 : Q < 2 ^ 64) : 2 ^ 62 ≤ stick Q R ∧ stick Q R < 2 ^ 64 := by
 unfold stick
 by_cases hR : 0 < R
 ·rw [if_pos hR, or_one]; omega
 ·rw [if_neg hR]; exact ⟨h1, h2⟩
theorem word_ev {A B P M Q R : Nat} {e : Int} (hB : 0 < B) (hP : 0 < P) (hM : 0 < M) (hA : A * P = Q * (B * M) + R) (hR : R < B * M) (hQ1 : 2 ^ 62 ≤ Q) (hQ2 : Q < 2 ^ 64) (he : -8000 ≤ e) (he2 : e ≤ 8000)
  (hK : ∀ n j : Nat, (j : Int) = e + n + 1074 → K * (M * 2 ^ n) = 2 ^ (j + 1) * P) :
  ∃ v, Nearest A B v ∧ Ev (fun k => flo_Make.f k false e ((stick Q R : Nat) : Int) false) ((min v INF : Nat) : Int) := by
 obtain ⟨s1, s2⟩ := stick_bounds Q R hQ1 hQ2
 obtain ⟨L, hL⟩ : ∃ L, L = Lib.bitLen (stick Q R) := ⟨_, rfl⟩
 obtain ⟨b1, b2, b3⟩ := bitLen_spec (stick Q R) (by omega) s2
 rw [← hL] at b1 b2 b3
 have hL63 : 63 ≤ L := by
  apply Nat.le_of_not_lt
  intro hlt
  have : 2 ^ L ≤ 2 ^ 62 := Nat.pow_le_pow_right (by decide) (by omega)
  omega
 have hL64 : L ≤ 64 := by
  apply Nat.le_of_not_lt
  intro hlt
  have : (2 : Nat) ^ 64 ≤ 2 ^ (L - 1) := Nat.pow_le_pow_right (by decide) (by omega)
  omega
 obtain ⟨n, hn1, hn2, hn3⟩ : ∃ n : Nat, L ≤ n + 53 ∧ -1074 - e ≤ n ∧ (n + 53 = L ∨ (n : Int) = -1074 - e) := by
  by_cases h : -1074 - e ≤ ((L - 53 : Nat) : Int)
  ·exact ⟨L - 53, by omega, h, .inl (by omega)⟩
  ·exact ⟨(-1074 - e).toNat, by omega, by omega, .inr (by omega)⟩
 obtain ⟨j, hj⟩ : ∃ j : Nat, (j : Int) = e + n + 1074 := ⟨(e + n + 1074).toNat, by omega⟩
 have hmk := make_ev (stick Q R) e n j L hL s1 s2 he he2 hn1 hn2 hn3 hj
 have hKK := hK n j hj
 obtain ⟨t1, t2⟩ := rnd_stick Q R n (by omega)
 by_cases h64 : 64 < n
 ·rw [if_pos h64] at hmk
  refine ⟨0, zero_nearest ?_, ?_⟩
  ·have h0 : j = 0 := by omega
   rw [h0, Nat.zero_add, Nat.pow_one] at hKK
   have c1 : A * P < 2 ^ 64 * (B * M) := by
    have := Nat.mul_le_mul_right (B * M) (show Q + 1 ≤ 2 ^ 64 from hQ2)
    rw [Nat.add_mul, Nat.one_mul] at this
    omega
   have c2 : A * P * (K * 2 ^ n) < 2 ^ 64 * (B * M) * (K * 2 ^ n) := Nat.mul_lt_mul_of_pos_right c1 (Nat.mul_pos K_pos (Nat.two_pow_pos n))
   have c3 : 2 ^ 64 * (B * M) * (K * 2 ^ n) = 2 ^ 65 * B * P := by
    have : 2 ^ 64 * (B * M) * (K * 2 ^ n) = 2 ^ 64 * B * (K * (M * 2 ^ n)) := by simp only [Nat.mul_assoc, Nat.mul_comm, Nat.mul_left_comm]
    rw [this, hKK, show (2 : Nat) ^ 65 = 2 ^ 64 * 2 from rfl]
    simp only [Nat.mul_assoc, Nat.mul_comm, Nat.mul_left_comm]
   have c4 : A * P * (K * 2 ^ n) = A * K * 2 ^ n * P := by simp only [Nat.mul_assoc, Nat.mul_comm, Nat.mul_left_comm]
   rw [c3, c4] at c2
   have c5 := Nat.lt_of_mul_lt_mul_right c2
   have c6 : A * K * 2 ^ 65 ≤ A * K * 2 ^ n := Nat.mul_le_mul_left _ (Nat.pow_le_pow_right (by decide) h64)
   have c7 : A * K * 2 ^ 65 < 2 ^ 65 * B := Nat.lt_of_le_of_lt c6 c5
   rw [Nat.mul_comm _ (2 ^ 65)] at c7
   exact Nat.lt_of_mul_lt_mul_left c7
  ·exact hmk
 ·rw [if_neg h64, t2] at hmk
  have h5 := div_pow_lt b3 hn1
  rw [t1] at h5
  refine ⟨_, cut_nearest hB hP hM (by omega) hKK hA hR h5 ?_, hmk⟩
  rcases hn3 with h | h
  ·have := le_div_pow b2 h.symm
   rw [t1] at this
   exact .inr this
  ·exact .inl (by omega)
end Go.Proofs.YtflcanpajgpghaaDoor.Pure
end
section
namespace Go.Proofs.YtflcanpajgpghaaDoor.Pure
open Go.RowKit Go.Proofs.YtflcanpajgpghaaDoor.Pr Go.Proofs.YtflcanpajgpghaaDoorW.PrintWords Go.Proofs.YtflcanpajgpghaaDoorW.PrintLast Go.Proofs.YtflcanpajgpghaaDoorW.PrintMore Go.Proofs.YtflcanpajgpghaaDoor.Flo
theorem len_of_lt {x m : Nat} (h : x < 2 ^ m) : (toB x).length ≤ m / 32 + 1 := by
 refine len_toB _ _ (Nat.lt_of_lt_of_le h ?_)
 rw [base_pow]
 exact Nat.pow_le_pow_right (by decide) (by omega)
theorem ten_lt (n : Nat) : 10 ^ n < 2 ^ (4 * n + 1) := by
 have h1 : 10 ^ n ≤ 16 ^ n := Nat.pow_le_pow_left (by decide) n
 have h2 : (16 : Nat) ^ n = 2 ^ (4 * n) := by rw [Nat.pow_mul]
 have h3 : (2 : Nat) ^ (4 * n) < 2 ^ (4 * n + 1) := Nat.pow_lt_pow_right (by decide) (by omega)
 omega
theorem tens_ev (x n m : Nat) (hn : n ≤ 100000) (hm : m ≤ 1000000) (h : x * 10 ^ n < 2 ^ m) : Ev (fun k => b_tens.f k (toB x) (n : Int)) (toB (x * 10 ^ n)) := by
 refine tens0 (m / 32 + 1) (by omega) n x (by omega) (Nat.lt_of_lt_of_le h ?_)
 rw [base_pow]
 exact Nat.pow_le_pow_right (by decide) (by omega)
theorem quot_bounds {A B la lb u v : Nat} (hA : A ≠ 0) (hB : B ≠ 0) (ha : LenIs A la) (hb : LenIs B lb) (h : la + u = 63 + lb + v) : 2 ^ 62 ≤ A * 2 ^ u / (B * 2 ^ v) ∧ A * 2 ^ u < B * 2 ^ v * 2 ^ 64 := by
 obtain ⟨a1, a2, a3⟩ := ha.2 hA
 obtain ⟨b1, b2, b3⟩ := hb.2 hB
 have hpos : 0 < B * 2 ^ v := Nat.mul_pos (Nat.pos_of_ne_zero hB) (Nat.two_pow_pos v)
 constructor
 ·rw [Nat.le_div_iff_mul_le hpos]
  have h1 : 2 ^ 62 * (B * 2 ^ v) ≤ 2 ^ 62 * (2 ^ lb * 2 ^ v) := Nat.mul_le_mul_left _ (Nat.mul_le_mul_right _ (Nat.le_of_lt b3))
  have h2 : 2 ^ 62 * (2 ^ lb * 2 ^ v) = 2 ^ (la - 1) * 2 ^ u := by
   rw [← Nat.pow_add, ← Nat.pow_add, ← Nat.pow_add]
   congr 1
   omega
  have h3 : 2 ^ (la - 1) * 2 ^ u ≤ A * 2 ^ u := Nat.mul_le_mul_right _ a2
  omega
 ·have h1 : A * 2 ^ u < 2 ^ la * 2 ^ u := Nat.mul_lt_mul_of_pos_right a3 (Nat.two_pow_pos u)
  have h2 : 2 ^ la * 2 ^ u = 2 ^ (lb - 1) * 2 ^ v * 2 ^ 64 := by
   rw [← Nat.pow_add, ← Nat.pow_add, ← Nat.pow_add]
   congr 1
   omega
  have h3 : 2 ^ (lb - 1) * 2 ^ v * 2 ^ 64 ≤ B * 2 ^ v * 2 ^ 64 := Nat.mul_le_mul_right _ (Nat.mul_le_mul_right _ b2)
  omega
theorem K_split (e : Int) (u v n j : Nat) (hj : (j : Int) = e + n + 1074) (he : e = (v : Int) - u) : K * (2 ^ v * 2 ^ n) = 2 ^ (j + 1) * 2 ^ u := by
 obtain ⟨E, hE, hKE⟩ := K_exp
 rw [hKE, ← Nat.pow_add, ← Nat.pow_add, ← Nat.pow_add, show E + (v + n) = j + 1 + u by omega]
theorem up_len {x m u : Nat} (h : x < 2 ^ m) : (toB (x * 2 ^ u)).length ≤ (m + u) / 32 + 1 := by
 refine len_of_lt ?_
 rw [Nat.pow_add]
 exact Nat.mul_lt_mul_of_pos_right h (Nat.two_pow_pos u)
theorem quot_ev (A B m : Nat) (hA : A ≠ 0) (hB : B ≠ 0) (hm : m ≤ 6000) (hAm : A < 2 ^ m) (hBm : B < 2 ^ m) :
  ∃ v, Nearest A B v ∧ Ev (fun k => dec_nearest.j2 k (toB A) (toB B)) ((min v INF : Nat) : Int) := by
 have lA := len_of_lt hAm
 have lB := len_of_lt hBm
 obtain ⟨la, hla, hla2, hla3⟩ := len_ev A (by omega)
 obtain ⟨lb, hlb, hlb2, hlb3⟩ := len_ev B (by omega)
 have hla' : la ≤ m := by
  apply Nat.le_of_not_lt
  intro hlt
  have h1 := (hla2.2 hA).2.1
  have : 2 ^ m ≤ 2 ^ (la - 1) := Nat.pow_le_pow_right (by decide) (by omega)
  omega
 have hlb' : lb ≤ m := by
  apply Nat.le_of_not_lt
  intro hlt
  have h1 := (hlb2.2 hB).2.1
  have : 2 ^ m ≤ 2 ^ (lb - 1) := Nat.pow_le_pow_right (by decide) (by omega)
  omega
 obtain ⟨u, v, hu0, huv, hupv⟩ : ∃ u v : Nat, (u = 0 ∨ v = 0) ∧ la + u = 63 + lb + v ∧ (63 - ((la : Int) - lb)) = (u : Int) - v := by
  by_cases h : la ≤ 63 + lb
  ·exact ⟨63 + lb - la, 0, .inr rfl, by omega, by omega⟩
  ·exact ⟨0, la - 63 - lb, .inl rfl, by omega, by omega⟩
 obtain ⟨q1, q2⟩ := quot_bounds hA hB hla2 hlb2 huv
 have hpos : 0 < B * 2 ^ v := Nat.mul_pos (Nat.pos_of_ne_zero hB) (Nat.two_pow_pos v)
 have hq3 : A * 2 ^ u / (B * 2 ^ v) < 2 ^ 64 := by
  rw [Nat.div_lt_iff_lt_mul hpos, Nat.mul_comm (2 ^ 64)]
  exact q2
 obtain ⟨w, hw, hwe⟩ := word_ev (A := A) (B := B) (P := 2 ^ u) (M := 2 ^ v) (Q := A * 2 ^ u / (B * 2 ^ v)) (R := A * 2 ^ u % (B * 2 ^ v)) (e := (v : Int) - u) (Nat.pos_of_ne_zero hB) (Nat.two_pow_pos u) (Nat.two_pow_pos v)
  (by rw [Nat.mul_comm (A * 2 ^ u / (B * 2 ^ v))]; exact (Nat.div_add_mod ..).symm) (Nat.mod_lt _ hpos) q1 hq3 (by omega) (by omega) (fun n j hj => K_split _ u v n j hj rfl)
 refine ⟨w, hw, ?_⟩
 have lA2 : (toB (A * 2 ^ u)).length ≤ 1000000 := by have := up_len (u := u) hAm; omega
 have lB2 : (toB (B * 2 ^ v)).length ≤ 500000 := by have := up_len (u := v) hBm; omega
 have hby := by_ev (A * 2 ^ u) (B * 2 ^ v) (by omega) lB2 lA2 q2
 have hj3 : Ev (fun k => dec_nearest.j3 k (toB (A * 2 ^ u)) (toB (B * 2 ^ v)) ((u : Int) - v)) ((min w INF : Nat) : Int) := by
  have hwr : wrap64 (-((u : Int) - v)) = (v : Int) - u := by rw [wrapB _ (by omega) (by omega)]; omega
  refine Ev.step (fun k => ?_) (Ev.bind hby (f := fun k bt => if bt.2 = true then ((flo_Make.f k false ((v : Int) - u) (Go.bits .or .u64 bt.1 1) false).bind fun t => some t) else ((flo_Make.f k false ((v : Int) - u) bt.1 false).bind fun t => some t)) ?_)
  ·rw [dec_nearest.j3, hwr]
  ·by_cases hR : A * 2 ^ u % (B * 2 ^ v) ≠ 0
   ·have hor : Go.bits .or .u64 ((A * 2 ^ u / (B * 2 ^ v) : Nat) : Int) 1 = ((stick (A * 2 ^ u / (B * 2 ^ v)) (A * 2 ^ u % (B * 2 ^ v)) : Nat) : Int) := by
     unfold stick
     rw [if_pos (Nat.pos_of_ne_zero hR)]
     exact bits_or _ 1 hq3 (by decide)
    refine Ev.congr (fun k => ?_) (Ev.bind hwe (Ev.now _))
    simp only [decide_eq_true hR, if_true]
    rw [hor]
   ·have hor : ((A * 2 ^ u / (B * 2 ^ v) : Nat) : Int) = ((stick (A * 2 ^ u / (B * 2 ^ v)) (A * 2 ^ u % (B * 2 ^ v)) : Nat) : Int) := by
     unfold stick
     rw [if_neg (by omega)]
    refine Ev.congr (fun k => ?_) (Ev.bind hwe (Ev.now _))
    simp only [decide_eq_false hR]
    rw [hor]
    rfl
 have hup : wrap64 (63 - wrap64 ((la : Int) - (lb : Int))) = (u : Int) - v := by rw [wrapB ((la : Int) - lb) (by omega) (by omega), wrapB _ (by omega) (by omega)]; exact hupv
 by_cases hvu : (u : Int) - v ≥ 0
 ·have hv0 : v = 0 := by omega
  subst hv0
  have huu := up_ev A u (.inl hA) (by omega)
  rw [Nat.pow_zero, Nat.mul_one] at hj3
  refine Ev.step (fun k => ?_) (Ev.bind huu (f := fun k t => dec_nearest.j3 k t (toB B) ((u : Int) - (0 : Nat))) hj3)
  rw [dec_nearest.j2, hla, Option.bind_some, hlb, Option.bind_some, hup, if_pos hvu, show ((u : Int) - (0 : Nat)) = (u : Int) by omega]
 ·have hu00 : u = 0 := by omega
  subst hu00
  have huu := up_ev B v (.inl hB) (by omega)
  rw [Nat.pow_zero, Nat.mul_one] at hj3
  refine Ev.step (fun k => ?_) (Ev.bind huu (f := fun k t => dec_nearest.j3 k (toB A) t (((0 : Nat) : Int) - v)) hj3)
  rw [dec_nearest.j2, hla, Option.bind_some, hlb, Option.bind_some, hup, if_neg hvu, wrapB _ (by omega) (by omega), show (-(((0 : Nat) : Int) - (v : Int))) = (v : Int) by omega]
theorem far_ev : Ev (fun k => flo_Make.f k false 9999 1 false) ((INF : Nat) : Int) := Ev.of (k := 8) (fun k => flo_Make.mono _ _ _ _ _) (by kernel_rfl)
theorem after_ev (D m : Nat) (e : Int) (hm : m ≤ 1700) (hD : D < 2 ^ m) (he : -100000 ≤ e) (he2 : e ≤ 100000) (s : ByteArray) : ∃ w, ReadAs D e w ∧ Ev (fun k => if ((toB D).length : Int) = 0 then dec_nearest.j1 k (toB D) true s e else dec_nearest.j1 k (toB D) (decide (e < (-1000))) s e) ((w : Nat) : Int) := by
 unfold ReadAs
 by_cases h1 : D = 0 ∨ e < -1000
 ·refine ⟨0, by rw [if_pos h1], ?_⟩
  have hz : Ev (fun k => dec_nearest.j1 k (toB D) true s e) ((0 : Nat) : Int) := Ev.step (f := fun _ => some 0) (fun k => by rw [dec_nearest.j1, if_pos rfl]) (Ev.now _)
  by_cases h0 : ((toB D).length : Int) = 0
  ·simp only [if_pos h0]; exact hz
  ·have hD0 : D ≠ 0 := by intro h; rw [h, toB_zero] at h0; exact h0 rfl
   have he3 : e < -1000 := h1.resolve_left hD0
   simp only [if_neg h0, decide_eq_true he3]
   exact hz
 ·have hD0 : D ≠ 0 := fun h => h1 (.inl h)
  have he3 : ¬ e < -1000 := fun h => h1 (.inr h)
  have hlen : ¬ ((toB D).length : Int) = 0 := by rw [toB_pos hD0, List.length_cons]; omega
  by_cases h2 : 400 < e
  ·refine ⟨INF, by rw [if_neg h1, if_pos h2], ?_⟩
   simp only [if_neg hlen, decide_eq_false he3]
   refine Ev.step (fun k => ?_) (Ev.bind far_ev (Ev.now _))
   rw [dec_nearest.j1, if_neg (by decide), if_pos h2]
  ·have hone : toB 1 = [1] := by rw [toB_pos (by decide)]; show (1 : Int) :: toB 0 = [1]; rw [toB_zero]
   by_cases h3 : e ≥ 0
   ·obtain ⟨n, rfl⟩ := Int.eq_ofNat_of_zero_le h3
    have hb : D * 10 ^ n < 2 ^ (m + (4 * n + 1)) := by
     rw [Nat.pow_add]
     exact Nat.mul_lt_mul'' hD (ten_lt n)
    have ht := tens_ev D n (m + (4 * n + 1)) (by omega) (by omega) hb
    obtain ⟨v, hv, hve⟩ := quot_ev (D * 10 ^ n) 1 (m + (4 * n + 1)) (Nat.mul_ne_zero hD0 (Nat.ne_of_gt (Nat.pow_pos (by decide)))) (by decide) (by omega) hb (Nat.one_lt_two_pow (by omega))
    refine ⟨min v INF, ?_, ?_⟩
    ·rw [if_neg h1, if_neg h2]
     refine ⟨v, ?_, rfl⟩
     unfold upN loN
     rw [show (-(n : Int)).toNat = 0 by omega, Nat.pow_zero, Int.toNat_natCast]
     exact hv
    ·simp only [if_neg hlen, decide_eq_false he3]
     rw [hone] at hve
     refine Ev.step (fun k => ?_) (Ev.bind ht (f := fun k t => dec_nearest.j2 k t [1]) hve)
     rw [dec_nearest.j1, if_neg (by decide), if_neg h2, Option.bind_some, if_pos h3]
   ·obtain ⟨n, hn⟩ := Int.eq_ofNat_of_zero_le (show 0 ≤ -e by omega)
    have hb : 1 * 10 ^ n < 2 ^ (4 * n + 1) := by rw [Nat.one_mul]; exact ten_lt n
    have ht := tens_ev 1 n (4 * n + 1) (by omega) (by omega) hb
    rw [Nat.one_mul] at ht hb
    have hDm : D < 2 ^ (m + (4 * n + 1)) := Nat.lt_of_lt_of_le hD (Nat.pow_le_pow_right (by decide) (by omega))
    have hBm : 10 ^ n < 2 ^ (m + (4 * n + 1)) := Nat.lt_of_lt_of_le hb (Nat.pow_le_pow_right (by decide) (by omega))
    obtain ⟨v, hv, hve⟩ := quot_ev D (10 ^ n) (m + (4 * n + 1)) hD0 (Nat.ne_of_gt (Nat.pow_pos (by decide))) (by omega) hDm hBm
    refine ⟨min v INF, ?_, ?_⟩
    ·rw [if_neg h1, if_neg h2]
     refine ⟨v, ?_, rfl⟩
     unfold upN loN
     rw [show e.toNat = 0 by omega, show (-e).toNat = n by omega, Nat.pow_zero, Nat.mul_one]
     exact hv
    ·simp only [if_neg hlen, decide_eq_false he3]
     rw [hone] at ht
     refine Ev.step (fun k => ?_) (Ev.bind ht (f := fun k t => dec_nearest.j2 k (toB D) t) hve)
     rw [dec_nearest.j1, if_neg (by decide), if_neg h2, Option.bind_some, if_neg h3, wrapB _ (by omega) (by omega), hn]
def dval (s : ByteArray) : Nat → Nat
 | 0 => 0
 | i + 1 => dval s i * 10 + (bt s (i : Int) - 48).toNat
def AllDigits (s : ByteArray) : Prop := ∀ i : Nat, i < s.size → 48 ≤ bt s (i : Int) ∧ bt s (i : Int) ≤ 57
theorem dval_lt (s : ByteArray) (h : AllDigits s) : ∀ i, i ≤ s.size → dval s i < 10 ^ i
 | 0, _ => by simp [dval]
 | i + 1, hi => by
  have ih := dval_lt s h i (by omega)
  have := h i (by omega)
  rw [dval, Nat.pow_succ]
  omega
theorem digits_loop (s : ByteArray) (e : Int) (hs : AllDigits s) (hsz : s.size ≤ 400) (w : Int) (hend : Ev (fun k => if ((toB (dval s s.size)).length : Int) = 0 then dec_nearest.j1 k (toB (dval s s.size)) true s e else dec_nearest.j1 k (toB (dval s s.size)) (decide (e < (-1000))) s e) w) : ∀ d i : Nat, i + d = s.size →
  Ev (fun k => dec_nearest.l0 k (toB (dval s i)) (s.size : Int) (i : Int) s e) w
 | 0, i, hi => by
  obtain rfl : i = s.size := by omega
  refine Ev.step (fun k => ?_) hend
  rw [dec_nearest.l0, if_neg (by omega)]
 | d + 1, i, hi => by
  have ih := digits_loop s e hs hsz w hend d (i + 1) (by omega)
  have hb := hs i (by omega)
  have hl : (toB (dval s i)).length ≤ 1048576 := by
   have := len_of_lt (Nat.lt_trans (dval_lt s hs i (by omega)) (ten_lt i))
   omega
  have ht := times_ev (dval s i) 10 (bt s (i : Int) - 48).toNat (by decide) (by omega) hl
  have hbt : (bt s (i : Int) - 48) % 256 = (((bt s (i : Int) - 48).toNat : Nat) : Int) := by omega
  refine Ev.step (fun k => ?_) (Ev.bind ht (f := fun k t => dec_nearest.l0 k t (s.size : Int) ((i + 1 : Nat) : Int) s e) ih)
  rw [dec_nearest.l0, if_pos (by omega), if_pos (by omega), if_pos (by omega), hbt, wrapB _ (by omega) (by omega)]
  rfl
theorem nearest_ev (s : ByteArray) (e : Int) (hs : AllDigits s) (hsz : s.size ≤ 400) (he : -100000 ≤ e) (he2 : e ≤ 100000) : ∃ w, ReadAs (dval s s.size) e w ∧ Ev (fun k => dec_nearest.f k s e) ((w : Nat) : Int) := by
 have hbig : dval s s.size < 2 ^ (4 * s.size + 1) := Nat.lt_trans (dval_lt s hs s.size (Nat.le_refl _)) (ten_lt s.size)
 obtain ⟨w, hw, hwe⟩ := after_ev (dval s s.size) (4 * s.size + 1) e (by omega) hbig he he2 s
 refine ⟨w, hw, ?_⟩
 have h := digits_loop s e hs hsz _ hwe s.size 0 (by omega)
 refine Ev.congr (fun k => ?_) h
 unfold dec_nearest.f dval
 rw [toB_zero]
 rfl
end Go.Proofs.YtflcanpajgpghaaDoor.Pure
end
section
namespace Go.Proofs.YtflcanpajgpghaaDoor.Pure
open Go.RowKit Go.Proofs.YtflcanpajgpghaaDoor.Pr Go.Proofs.YtflcanpajgpghaaDoorW.PrintWords Go.Proofs.YtflcanpajgpghaaDoorW.PrintLast Go.Proofs.YtflcanpajgpghaaDoorW.PrintMore Go.Proofs.YtflcanpajgpghaaDoor.Flo
abbrev bytes (s : ByteArray) : List UInt8 := s.data.toList
theorem bytes_length (s : ByteArray) : (bytes s).length = s.size := Array.length_toList
theorem ba_ext {a b : ByteArray} (h : bytes a = bytes b) : a = b := by
 cases a; cases b
 congr 1
 exact Array.toList_inj.1 h
theorem toList_bytes (s : ByteArray) : s.toList = bytes s := Go.ByteArray.toList_eq s
theorem bytes_extract (s : ByteArray) (a b : Nat) : bytes (s.extract a b) = ((bytes s).take b).drop a := by
 unfold bytes
 rw [ByteArray.data_extract, Array.toList_extract, List.extract_eq_take_drop, List.drop_take]
theorem bytes_append (a b : ByteArray) : bytes (a ++ b) = bytes a ++ bytes b := by
 unfold bytes
 rw [ByteArray.data_append, Array.toList_append]
theorem bt_get (s : ByteArray) (k : Nat) : bt s (k : Int) = (((bytes s)[k]?).map fun b => (b.toNat : Int)).getD 0 := by
 unfold bt
 rw [Int.toNat_natCast]
 by_cases h : k < s.size
 ·rw [dif_pos h]
  unfold bytes
  rw [List.getElem?_eq_getElem (by rw [bytes_length]; exact h)]
  rfl
 ·rw [dif_neg h, List.getElem?_eq_none (by rw [bytes_length]; omega)]
  rfl
theorem bt_app (a b : ByteArray) (k : Nat) : bt (a ++ b) (k : Int) = if k < a.size then bt a (k : Int) else bt b ((k - a.size : Nat) : Int) := by
 rw [bt_get, bytes_append]
 by_cases h : k < a.size
 ·rw [if_pos h, List.getElem?_append_left (by rw [bytes_length]; exact h), bt_get]
 ·rw [if_neg h, List.getElem?_append_right (by rw [bytes_length]; omega), bytes_length, bt_get]
def suf (s : ByteArray) (a : Nat) : ByteArray := s.extract a s.size
theorem suf_size (s : ByteArray) (a : Nat) : (suf s a).size = s.size - a := by
 have := bytes_length (suf s a)
 unfold suf at this ⊢
 rw [bytes_extract, List.length_drop, List.length_take, bytes_length, Nat.min_self] at this
 exact this.symm
theorem bytes_suf (s : ByteArray) (a : Nat) : bytes (suf s a) = (bytes s).drop a := by
 unfold suf
 rw [bytes_extract, List.take_of_length_le (by rw [bytes_length]; exact Nat.le_refl _)]
theorem suf_suf (s : ByteArray) (a b : Nat) : (suf s a).extract b (suf s a).size = suf s (a + b) := by
 refine ba_ext ?_
 rw [show (suf s a).extract b (suf s a).size = suf (suf s a) b from rfl, bytes_suf, bytes_suf, bytes_suf, List.drop_drop]
theorem suf_zero (s : ByteArray) : suf s 0 = s := ba_ext (by rw [bytes_suf, List.drop_zero])
theorem suf_mid (s : ByteArray) (a b c : Nat) : (suf s a).extract b c = s.extract (a + b) (a + c) := by
 refine ba_ext ?_
 rw [bytes_extract, bytes_suf, bytes_extract, List.take_drop, List.drop_drop]
theorem bt_suf (s : ByteArray) (a i : Nat) : bt (suf s a) (i : Int) = bt s ((a + i : Nat) : Int) := by
 rw [bt_get, bytes_suf, List.getElem?_drop, bt_get]
theorem ext_size (s : ByteArray) (a b : Nat) (h : b ≤ s.size) : (s.extract a b).size = b - a := by
 have := bytes_length (s.extract a b)
 rw [bytes_extract, List.length_drop, List.length_take, bytes_length, Nat.min_eq_left h] at this
 exact this.symm
theorem nil_iff (s : ByteArray) : s.toList = ([] : List UInt8) ↔ s.size = 0 := by
 rw [toList_bytes]
 constructor
 ·intro h; rw [← bytes_length, h]; rfl
 ·intro h; exact List.eq_nil_of_length_eq_zero (by rw [bytes_length]; exact h)
def Dg (s : ByteArray) (i : Nat) : Prop := i < s.size ∧ 48 ≤ bt s (i : Int) ∧ bt s (i : Int) ≤ 57
instance (s : ByteArray) (i : Nat) : Decidable (Dg s i) := by unfold Dg; exact inferInstance
def DE (s : ByteArray) (i j : Nat) : Prop := i ≤ j ∧ j ≤ s.size ∧ (∀ t, i ≤ t → t < j → Dg s t) ∧ ¬ Dg s j
theorem pdigits_loop (s : ByteArray) (a j : Nat) (hsz : s.size ≤ 1000000) (h : DE s a j) : ∀ d i : Nat, a ≤ i → i + d = j → Ev (fun k => dec_digits.l0 k (suf s a) ((suf s a).size : Int) ((i - a : Nat) : Int)) ((j - a : Nat) : Int)
 | 0, i, ha, hi => by
  obtain rfl : i = j := by omega
  have hs := suf_size s a
  have h2 := h.2.1
  by_cases he : i = s.size
  ·refine Ev.step (f := fun _ => some ((i - a : Nat) : Int)) (fun k => ?_) (Ev.now _)
   rw [dec_digits.l0, if_neg (by omega), hs, he]
  ·have hnd : ¬ (48 ≤ bt s (i : Int) ∧ bt s (i : Int) ≤ 57) := fun g => h.2.2.2 ⟨by omega, g⟩
   refine Ev.step (f := fun _ => some ((i - a : Nat) : Int)) (fun k => ?_) (Ev.now _)
   rw [dec_digits.l0, if_pos (by omega), if_pos (by omega), if_pos (by omega), bt_suf, show a + (i - a) = i by omega]
   by_cases c : bt s (i : Int) < 48
   ·rw [if_pos c]
   ·rw [if_neg c, if_pos (by omega)]
 | d + 1, i, ha, hi => by
  have ih := pdigits_loop s a j hsz h d (i + 1) (by omega) (by omega)
  have hg := h.2.2.1 i ha (by omega)
  have hs := suf_size s a
  have h2 := h.2.1
  have h3 := hg.1
  refine Ev.step (fun k => ?_) ih
  rw [dec_digits.l0, if_pos (by omega), if_pos (by omega), if_pos (by omega), bt_suf, show a + (i - a) = i by omega, if_neg (by have := hg.2.1; omega), if_neg (by have := hg.2.2; omega), wrapB _ (by omega) (by omega), show (((i - a : Nat) : Int) + 1) = ((i + 1 - a : Nat) : Int) by omega]
theorem pdigits (s : ByteArray) (a j : Nat) (hsz : s.size ≤ 1000000) (h : DE s a j) : Ev (fun k => dec_digits.f k (suf s a)) ((j - a : Nat) : Int) := by
 have g := pdigits_loop s a j hsz h (j - a) a (Nat.le_refl _) (by have := h.1; omega)
 rw [Nat.sub_self] at g
 exact g
def efold (s : ByteArray) : Nat → Nat → Nat → Nat
 | 0, a, e => e
 | n + 1, a, e => efold s n (a + 1) (min (10 * e + (bt s (a : Int) - 48).toNat) 9999)
def efrom (s : ByteArray) (a : Nat) : Nat := efold s (s.size - a) a 0
theorem exp_loop (s : ByteArray) (a : Nat) (hsz : s.size ≤ 1000000) (x8 x : Int) (d : ByteArray) (h8 : x8 = 1 ∨ x8 = -1) (hx : -1000000 ≤ x ∧ x ≤ 1000000) (hd : ∀ t, a ≤ t → t < s.size → Dg s t) : ∀ n i e : Nat, a ≤ i → i + n = s.size → e ≤ 9999 →
  Ev (fun k => dec_cut.l0 k (suf s a) x8 (e : Int) ((suf s a).size : Int) ((i - a : Nat) : Int) d x) (d, x + x8 * (efold s n i e : Nat), true)
 | 0, i, e, ha, hi, he => by
  have hs := suf_size s a
  have hw : wrap64 (x + wrap64 (x8 * (e : Int))) = x + x8 * (efold s 0 i e : Nat) := by
   show _ = x + x8 * (e : Int)
   rcases h8 with h | h
   ·rw [h, wrapB (1 * (e : Int)) (by omega) (by omega), wrapB _ (by omega) (by omega)]
   ·rw [h, wrapB (-1 * (e : Int)) (by omega) (by omega), wrapB _ (by omega) (by omega)]
  refine Ev.step (f := fun _ => some (d, x + x8 * (efold s 0 i e : Nat), true)) (fun k => ?_) (Ev.now _)
  rw [dec_cut.l0, if_neg (by omega), hw]
 | n + 1, i, e, ha, hi, he => by
  have hs := suf_size s a
  have hg := hd i ha (by omega)
  have g1 := hg.2.1
  have g2 := hg.2.2
  have ih := exp_loop s a hsz x8 x d h8 hx hd n (i + 1) (min (10 * e + (bt s (i : Int) - 48).toNat) 9999) (by omega) (by omega) (Nat.min_le_right ..)
  refine Ev.step (fun k => ?_) ih
  have hb : (bt s (i : Int) - 48) % 256 = bt s (i : Int) - 48 := by omega
  have hm : mn (wrap64 ((wrap64 (10 * (e : Int))) + (bt s (i : Int) - 48))) 9999 = ((min (10 * e + (bt s (i : Int) - 48).toNat) 9999 : Nat) : Int) := by
   rw [wrapB (10 * (e : Int)) (by omega) (by omega), wrapB _ (by omega) (by omega)]
   unfold mn
   omega
  rw [dec_cut.l0, if_pos (by omega), if_pos (by omega), if_pos (by omega), bt_suf, show a + (i - a) = i by omega, hb, hm, wrapB _ (by omega) (by omega), show (((i - a : Nat) : Int) + 1) = ((i + 1 - a : Nat) : Int) by omega]
theorem exp_ev (s : ByteArray) (a j : Nat) (hsz : s.size ≤ 1000000) (ha : a ≤ s.size) (x8 x : Int) (d : ByteArray) (h8 : x8 = 1 ∨ x8 = -1) (hx : -1000000 ≤ x ∧ x ≤ 1000000) (h : DE s a j) :
  Ev (fun k => dec_cut.j3 k (suf s a) x8 d x) (if a = s.size ∨ j ≠ s.size then (d, x, false) else (d, x + x8 * (efrom s a : Nat), true)) := by
 have hs := suf_size s a
 by_cases h0 : a = s.size
 ·rw [if_pos (.inl h0)]
  refine Ev.step (fun k => ?_) (Ev.step (f := fun _ => some (d, x, false)) (g := fun k => dec_cut.j4 k (suf s a) x8 true d x) (fun k => ?_) (Ev.now _))
  ·rw [dec_cut.j3, if_pos ((nil_iff _).2 (by omega))]
  ·rw [dec_cut.j4, if_pos rfl]
 ·have hdg := pdigits s a j hsz h
  have h1 := h.1
  have h2 := h.2.1
  by_cases hj : j = s.size
  ·rw [if_neg (by omega)]
   have hl := exp_loop s a hsz x8 x d h8 hx (fun t t1 t2 => h.2.2.1 t t1 (by omega)) (s.size - a) a 0 (Nat.le_refl _) (by omega) (by omega)
   rw [Nat.sub_self] at hl
   have h4 : Ev (fun k => dec_cut.j4 k (suf s a) x8 (((j - a : Nat) : Int) != ((suf s a).size : Int)) d x) (d, x + x8 * (efrom s a : Nat), true) := by
    refine Ev.step (fun k => ?_) hl
    rw [dec_cut.j4, if_neg (by rw [hs, hj]; simp)]
    rfl
   refine Ev.step (fun k => ?_) (Ev.bind hdg (f := fun k t => dec_cut.j4 k (suf s a) x8 (t != ((suf s a).size : Int)) d x) h4)
   rw [dec_cut.j3, if_neg (fun c => by have := (nil_iff _).1 c; omega)]
  ·rw [if_pos (.inr hj)]
   have h4 : Ev (fun k => dec_cut.j4 k (suf s a) x8 (((j - a : Nat) : Int) != ((suf s a).size : Int)) d x) (d, x, false) := by
    refine Ev.step (f := fun _ => some (d, x, false)) (fun k => ?_) (Ev.now _)
    rw [dec_cut.j4, if_pos (by rw [hs]; exact bne_iff_ne.2 (by omega))]
   refine Ev.step (fun k => ?_) (Ev.bind hdg (f := fun k t => dec_cut.j4 k (suf s a) x8 (t != ((suf s a).size : Int)) d x) h4)
   rw [dec_cut.j3, if_neg (fun c => by have := (nil_iff _).1 c; omega)]
theorem suf_one (s : ByteArray) (a : Nat) : (suf s a).extract 1 (suf s a).size = suf s (a + 1) := suf_suf s a 1
theorem bt_suf0 (s : ByteArray) (a : Nat) : bt (suf s a) 0 = bt s (a : Int) := bt_suf s a 0
theorem tail_ev (s : ByteArray) (a : Nat) (hsz : s.size ≤ 1000000) (ha : a ≤ s.size) (x : Int) (d : ByteArray) (r : ByteArray × Int × Bool)
  (h0 : a = s.size → r = (d, x, true))
  (h1 : a < s.size → bt s (a : Int) ≠ 101 → bt s (a : Int) ≠ 69 → r = (d, x, false))
  (h2 : a < s.size → (bt s (a : Int) = 101 ∨ bt s (a : Int) = 69) → a + 1 < s.size → bt s ((a + 1 : Nat) : Int) = 45 → Ev (fun k => dec_cut.j3 k (suf s (a + 2)) (-1) d x) r)
  (h3 : a < s.size → (bt s (a : Int) = 101 ∨ bt s (a : Int) = 69) → a + 1 < s.size → bt s ((a + 1 : Nat) : Int) = 43 → Ev (fun k => dec_cut.j3 k (suf s (a + 2)) 1 d x) r)
  (h4 : a < s.size → (bt s (a : Int) = 101 ∨ bt s (a : Int) = 69) → (a + 1 = s.size ∨ (bt s ((a + 1 : Nat) : Int) ≠ 43 ∧ bt s ((a + 1 : Nat) : Int) ≠ 45)) → Ev (fun k => dec_cut.j3 k (suf s (a + 1)) 1 d x) r) :
  Ev (fun k => dec_cut.j0 k (suf s a) d x) r := by
 have hs := suf_size s a
 have hs1 := suf_size s (a + 1)
 by_cases c0 : a = s.size
 ·rw [h0 c0]
  refine Ev.step (f := fun _ => some (d, x, true)) (fun k => ?_) (Ev.now _)
  rw [dec_cut.j0, if_pos ((nil_iff _).2 (by omega))]
 ·have hlt : a < s.size := by omega
  by_cases ce : bt s (a : Int) = 101 ∨ bt s (a : Int) = 69
  ·
   have hj1 : Ev (fun k => dec_cut.j1 k (suf s a) false d x) r := by
    by_cases c1 : a + 1 = s.size
    ·have g := h4 hlt ce (.inl c1)
     refine Ev.step (fun k => ?_) (Ev.step (g := fun k => dec_cut.j2 k (suf s (a + 1)) 1 false d x) (fun k => ?_) g)
     ·rw [dec_cut.j1, if_neg (by decide), if_pos (by omega), suf_one, if_pos ((nil_iff _).2 (by omega))]
     ·rw [dec_cut.j2, if_neg (by decide)]
    ·have hlt1 : a + 1 < s.size := by omega
     by_cases c2 : bt s ((a + 1 : Nat) : Int) = 43
     ·have g := h3 hlt ce hlt1 c2
      refine Ev.step (fun k => ?_) (Ev.step (g := fun k => dec_cut.j2 k (suf s (a + 1)) 1 true d x) (fun k => ?_) g)
      ·rw [dec_cut.j1, if_neg (by decide), if_pos (by omega), suf_one, if_neg (fun c => by have := (nil_iff _).1 c; omega), if_pos (by omega), bt_suf0, if_pos c2]
      ·rw [dec_cut.j2, if_pos rfl, if_pos (by omega), bt_suf0, if_neg (by rw [c2]; decide), if_pos (by omega), suf_one]
     ·by_cases c3 : bt s ((a + 1 : Nat) : Int) = 45
      ·have g := h2 hlt ce hlt1 c3
       refine Ev.step (fun k => ?_) (Ev.step (g := fun k => dec_cut.j2 k (suf s (a + 1)) 1 true d x) (fun k => ?_) g)
       ·rw [dec_cut.j1, if_neg (by decide), if_pos (by omega), suf_one, if_neg (fun c => by have := (nil_iff _).1 c; omega), if_pos (by omega), bt_suf0, if_neg c2, c3]
        rfl
       ·rw [dec_cut.j2, if_pos rfl, if_pos (by omega), bt_suf0, if_pos c3, if_pos (by omega), suf_one]
      ·have g := h4 hlt ce (.inr ⟨c2, c3⟩)
       refine Ev.step (fun k => ?_) (Ev.step (g := fun k => dec_cut.j2 k (suf s (a + 1)) 1 false d x) (fun k => ?_) g)
       ·rw [dec_cut.j1, if_neg (by decide), if_pos (by omega), suf_one, if_neg (fun c => by have := (nil_iff _).1 c; omega), if_pos (by omega), bt_suf0, if_neg c2, beq_eq_false_iff_ne.2 c3]
       ·rw [dec_cut.j2, if_neg (by decide)]
   refine Ev.step (fun k => ?_) hj1
   rw [dec_cut.j0, if_neg (fun c => by have := (nil_iff _).1 c; omega), if_pos (by omega), bt_suf0]
   rcases ce with c | c
   ·rw [if_pos c]
   ·rw [if_neg (by rw [c]; decide), c]
    rfl
  ·have c1 : bt s (a : Int) ≠ 101 := fun c => ce (.inl c)
   have c2 : bt s (a : Int) ≠ 69 := fun c => ce (.inr c)
   rw [h1 hlt c1 c2]
   refine Ev.step (fun k => ?_) (Ev.step (f := fun _ => some (d, x, false)) (g := fun k => dec_cut.j1 k (suf s a) true d x) (fun k => ?_) (Ev.now _))
   ·rw [dec_cut.j0, if_neg (fun c => by have := (nil_iff _).1 c; omega), if_pos (by omega), bt_suf0, if_neg c1, bne_iff_ne.2 c2]
   ·rw [dec_cut.j1, if_pos rfl]
theorem dot_prefix (s : ByteArray) (a : Nat) : strings_HasPrefix.f (suf s a) (⟨#[46]⟩ : ByteArray) = some (decide (a < s.size ∧ bt s (a : Int) = 46)) := by
 have hs := suf_size s a
 unfold strings_HasPrefix.f stringslite_HasPrefix.f
 rw [show (((⟨#[46]⟩ : ByteArray).size : Nat) : Int) = 1 from rfl]
 by_cases h : a < s.size
 ·rw [if_pos (by omega), if_pos (by omega), if_pos (by omega), Option.bind_some, toList_bytes, toList_bytes, show ((1 : Int)).toNat = 1 from rfl, bytes_extract, List.drop_zero, bytes_suf]
  obtain ⟨b, l, hb⟩ : ∃ b l, (bytes s).drop a = b :: l := by
   cases hd : (bytes s).drop a with
   | nil => have := congrArg List.length hd; rw [List.length_drop, bytes_length] at this; simp at this; omega
   | cons b l => exact ⟨b, l, rfl⟩
  have hbt : bt s (a : Int) = (b.toNat : Int) := by
   rw [bt_get, show (bytes s)[a]? = some b by
    have := List.getElem?_drop (xs := bytes s) (i := a) (j := 0)
    rw [hb] at this
    simpa using this.symm]
   rfl
  rw [hb, hbt]
  show some (([b] : List UInt8) == [46]) = _
  congr 1
  by_cases e : b = 46
  ·subst e; simp [h]
  ·rw [decide_eq_false (by
    rintro ⟨_, c⟩
    exact e (UInt8.toNat_inj.1 (by show b.toNat = 46; omega)))]
   exact beq_eq_false_iff_ne.2 (fun c => e (by injection c))
 ·rw [if_neg (by omega), Option.bind_some, decide_eq_false (fun c => h c.1)]
theorem cut_ev (s : ByteArray) (n m : Nat) (hsz : s.size ≤ 1000000) (hn : DE s 0 n) (r : ByteArray × Int × Bool)
  (hr0 : n = 0 → r = (s.extract 0 0, 0, false))
  (h1 : n ≠ 0 → n < s.size → bt s (n : Int) = 46 → DE s (n + 1) m ∧ (m = n + 1 → r = (s.extract 0 n, 0, false)) ∧ (m ≠ n + 1 → Ev (fun k => dec_cut.j0 k (suf s m) (s.extract 0 n ++ s.extract (n + 1) m) (-((m - n - 1 : Nat) : Int))) r))
  (h2 : n ≠ 0 → ¬ (n < s.size ∧ bt s (n : Int) = 46) → Ev (fun k => dec_cut.j0 k (suf s n) (s.extract 0 n) 0) r) :
  Ev (fun k => dec_cut.f k s) r := by
 have hdg := pdigits s 0 n hsz hn
 rw [Nat.sub_zero, suf_zero] at hdg
 have hn2 := hn.2.1
 have hbody : Ev (fun k => (if (0 : Int) ≤ (n : Int) then (if (n : Int) ≤ (s.size : Int) then (if (n : Int) = 0 then (some (s.extract 0 ((n : Int) : Int).toNat, (0 : Int), false)) else ((strings_HasPrefix.f (s.extract ((n : Int) : Int).toNat s.size) (⟨#[46]⟩ : ByteArray)).bind fun t366 => (if t366 = true then (if 1 ≤ ((s.extract ((n : Int) : Int).toNat s.size).size : Int) then ((dec_digits.f k ((s.extract ((n : Int) : Int).toNat s.size).extract 1 (s.extract ((n : Int) : Int).toNat s.size).size)).bind fun t367 => (if t367 = 0 then (some (s.extract 0 ((n : Int) : Int).toNat, 0, false)) else (if 1 ≤ (wrap64 (1 + t367)) then (if (wrap64 (1 + t367)) ≤ ((s.extract ((n : Int) : Int).toNat s.size).size : Int) then (if (s.extract 0 ((n : Int) : Int).toNat).size + ((s.extract ((n : Int) : Int).toNat s.size).extract 1 ((wrap64 (1 + t367)) : Int).toNat).size ≤ 9223372036854775807 then (if 0 ≤ (wrap64 (1 + t367)) then (dec_cut.j0 k ((s.extract ((n : Int) : Int).toNat s.size).extract ((wrap64 (1 + t367)) : Int).toNat (s.extract ((n : Int) : Int).toNat s.size).size) ((s.extract 0 ((n : Int) : Int).toNat) ++ ((s.extract ((n : Int) : Int).toNat s.size).extract 1 ((wrap64 (1 + t367)) : Int).toNat)) (wrap64 (-t367))) else (none)) else (none)) else (none)) else (none)))) else (none)) else (dec_cut.j0 k (s.extract ((n : Int) : Int).toNat s.size) (s.extract 0 ((n : Int) : Int).toNat) 0)))) else (none)) else (none))) r := by
  simp only [Int.toNat_natCast]
  by_cases c0 : n = 0
  ·rw [hr0 c0]
   subst c0
   refine Ev.congr (fun k => ?_) (Ev.now _)
   rw [if_pos (by omega), if_pos (by omega), if_pos (by rfl)]
  ·have hp := dot_prefix s n
   unfold suf at hp
   by_cases cd : n < s.size ∧ bt s (n : Int) = 46
   ·obtain ⟨hm, g1, g2⟩ := h1 c0 cd.1 cd.2
    have hdg2 := pdigits s (n + 1) m hsz hm
    have hm1 := hm.1
    have hm2 := hm.2.1
    have hse := suf_size s n
    have hso := suf_one s n
    unfold suf at hse hso hdg2
    rw [decide_eq_true cd] at hp
    by_cases cm : m = n + 1
    ·rw [g1 cm]
     refine Ev.congr (fun k => ?_) (Ev.bind hdg2 (f := fun k t => if t = 0 then some (s.extract 0 n, (0 : Int), false) else none) (Ev.congr (fun k => by rw [if_pos (by omega)]) (Ev.now _)))
     rw [if_pos (by omega), if_pos (by omega), if_neg (by omega), hp, Option.bind_some, if_pos rfl, if_pos (by omega), hso]
     cases hq : dec_digits.f k (s.extract (n + 1) s.size) with
     | none => rfl
     | some t =>
      have ht : t = ((m - (n + 1) : Nat) : Int) := by
       obtain ⟨K, hK⟩ := hdg2
       have hup : ∀ z, dec_digits.f (k + z) (s.extract (n + 1) s.size) = some t := by
        intro z
        induction z with
        | zero => exact hq
        | succ z ih => exact dec_digits.mono _ _ _ ih
       have h5 := hK (k + K) (Nat.le_add_left ..)
       exact Option.some.inj ((hup K).symm.trans h5)
      rw [Option.bind_some, Option.bind_some, if_pos (by omega), if_pos (by omega)]
    ·have g := g2 cm
     have hw : wrap64 (1 + ((m - (n + 1) : Nat) : Int)) = ((m - n : Nat) : Int) := by rw [wrapB _ (by omega) (by omega)]; omega
     have hw2 : wrap64 (-((m - (n + 1) : Nat) : Int)) = -((m - n - 1 : Nat) : Int) := by rw [wrapB _ (by omega) (by omega)]; omega
     have hmid := suf_mid s n 1 (m - n)
     have hsuf := suf_suf s n (m - n)
     unfold suf at hmid hsuf g
     rw [show n + (m - n) = m by omega] at hmid hsuf
     refine Ev.congr (fun k => ?_) (Ev.bind hdg2 (f := fun k t => if t = 0 then some (s.extract 0 n, (0 : Int), false) else (if 1 ≤ (wrap64 (1 + t)) then (if (wrap64 (1 + t)) ≤ ((s.extract n s.size).size : Int) then (if (s.extract 0 n).size + ((s.extract n s.size).extract 1 ((wrap64 (1 + t)) : Int).toNat).size ≤ 9223372036854775807 then (if 0 ≤ (wrap64 (1 + t)) then (dec_cut.j0 k ((s.extract n s.size).extract ((wrap64 (1 + t)) : Int).toNat (s.extract n s.size).size) ((s.extract 0 n) ++ ((s.extract n s.size).extract 1 ((wrap64 (1 + t)) : Int).toNat)) (wrap64 (-t))) else (none)) else (none)) else (none)) else (none)))
      (Ev.congr (fun k => ?_) g))
     ·rw [if_pos (by omega), if_pos (by omega), if_neg (by omega), hp, Option.bind_some, if_pos rfl, if_pos (by omega), hso]
     ·rw [if_neg (by omega), hw, if_pos (by omega), if_pos (by omega), Int.toNat_natCast, hmid, ext_size s 0 n hn2, ext_size s (n + 1) m hm2, if_pos (by omega), if_pos (by omega), hsuf, hw2]
   ·have g := h2 c0 cd
    rw [decide_eq_false cd] at hp
    unfold suf at g
    refine Ev.congr (fun k => ?_) g
    rw [if_pos (by omega), if_pos (by omega), if_neg (by omega), hp, Option.bind_some, if_neg (by decide)]
 refine Ev.congr (fun k => ?_) (Ev.bind hdg (f := fun k t364 => (if (0 : Int) ≤ t364 then (if t364 ≤ (s.size : Int) then (if t364 = 0 then (some (s.extract 0 (t364 : Int).toNat, (0 : Int), false)) else ((strings_HasPrefix.f (s.extract (t364 : Int).toNat s.size) (⟨#[46]⟩ : ByteArray)).bind fun t366 => (if t366 = true then (if 1 ≤ ((s.extract (t364 : Int).toNat s.size).size : Int) then ((dec_digits.f k ((s.extract (t364 : Int).toNat s.size).extract 1 (s.extract (t364 : Int).toNat s.size).size)).bind fun t367 => (if t367 = 0 then (some (s.extract 0 (t364 : Int).toNat, 0, false)) else (if 1 ≤ (wrap64 (1 + t367)) then (if (wrap64 (1 + t367)) ≤ ((s.extract (t364 : Int).toNat s.size).size : Int) then (if (s.extract 0 (t364 : Int).toNat).size + ((s.extract (t364 : Int).toNat s.size).extract 1 ((wrap64 (1 + t367)) : Int).toNat).size ≤ 9223372036854775807 then (if 0 ≤ (wrap64 (1 + t367)) then (dec_cut.j0 k ((s.extract (t364 : Int).toNat s.size).extract ((wrap64 (1 + t367)) : Int).toNat (s.extract (t364 : Int).toNat s.size).size) ((s.extract 0 (t364 : Int).toNat) ++ ((s.extract (t364 : Int).toNat s.size).extract 1 ((wrap64 (1 + t367)) : Int).toNat)) (wrap64 (-t367))) else (none)) else (none)) else (none)) else (none)))) else (none)) else (dec_cut.j0 k (s.extract (t364 : Int).toNat s.size) (s.extract 0 (t364 : Int).toNat) 0)))) else (none)) else (none))) hbody)
 rfl
end Go.Proofs.YtflcanpajgpghaaDoor.Pure
end
section
namespace Go.Proofs.YtflcanpajgpghaaDoor.Pure
open Go.RowKit Go.Proofs.YtflcanpajgpghaaDoor.Pr Go.Proofs.YtflcanpajgpghaaDoorW.PrintWords Go.Proofs.YtflcanpajgpghaaDoorW.PrintLast Go.Proofs.YtflcanpajgpghaaDoorW.PrintMore Go.Proofs.YtflcanpajgpghaaDoor.Flo
theorem ext_app (a b : ByteArray) : (a ++ b).extract 0 a.size = a := by
 refine ba_ext ?_
 rw [bytes_extract, bytes_append, List.drop_zero, List.take_left' (bytes_length a)]
theorem app_size (a b : ByteArray) : (a ++ b).size = a.size + b.size := ByteArray.size_append
theorem parse_of_cut (s d : ByteArray) (e : Int) (hsz : s.size ≤ 400) (hd : AllDigits d) (hds : d.size ≤ 400) (he : -100000 ≤ e) (he2 : e ≤ 100000) (h : Ev (fun k => dec_cut.f k s) (d, e, true)) : ∃ w, ReadAs (dval d d.size) e w ∧ Ev (fun k => dec_Parse.f k s) (((w : Nat) : Int), 0) := by
 obtain ⟨w, hw, hwe⟩ := nearest_ev d e hd hds he he2
 refine ⟨w, hw, ?_⟩
 have hn : Ev (fun k => (dec_nearest.f k d e).bind fun t => some (t, (0 : Int))) (((w : Nat) : Int), 0) := Ev.bind hwe (Ev.now _)
 refine Ev.congr (fun k => ?_) (Ev.bind h (f := fun k bt => if bt.2.2 = true then ((dec_nearest.f k bt.1 bt.2.1).bind fun t => (some (t, (0 : Int)))) else (some (0, 4))) (Ev.congr (fun k => if_pos rfl) hn))
 unfold dec_Parse.f
 rw [if_neg (by omega)]
end Go.Proofs.YtflcanpajgpghaaDoor.Pure
end
section
namespace Go.Proofs.YtflcanpajgpghaaDoor.Pr
open Go.RowKit Go.Proofs.YtflcanpajgpghaaDoorW.PrintWords Go.Proofs.YtflcanpajgpghaaDoorW.PrintLast Go.Proofs.YtflcanpajgpghaaDoorW.PrintMore
attribute [local go_sem] max2_int min2_int max_two min_two max_three min_three max_four min_four
end Go.Proofs.YtflcanpajgpghaaDoor.Pr
end
section
namespace Go.Proofs.YtflcanpajgpghaaDoor.Pure
open Go.RowKit Go.Proofs.YtflcanpajgpghaaDoor.Pr Go.Proofs.YtflcanpajgpghaaDoorW.PrintWords Go.Proofs.YtflcanpajgpghaaDoorW.PrintLast Go.Proofs.YtflcanpajgpghaaDoorW.PrintMore Go.Proofs.YtflcanpajgpghaaDoor.Flo
end Go.Proofs.YtflcanpajgpghaaDoor.Pure
end
section
namespace Go.Proofs.YtflcanpajgpghaaDoor.Pure
open Go.RowKit Go.Proofs.YtflcanpajgpghaaDoor.Pr Go.Proofs.YtflcanpajgpghaaDoorW.PrintWords Go.Proofs.YtflcanpajgpghaaDoorW.PrintLast Go.Proofs.YtflcanpajgpghaaDoorW.PrintMore
theorem lives_200 : minstrellaw05_lives.f 200 = some true := by kernel_rfl
theorem lives_ev : Ev (fun k => minstrellaw05_lives.f k) true := Ev.of (k := 200) (fun k => minstrellaw05_lives.mono _) lives_200
end Go.Proofs.YtflcanpajgpghaaDoor.Pure
end
section
namespace Go.Proofs.YtflcanpajgpghaaDoor.Pr
open Go.RowKit Go.Proofs.YtflcanpajgpghaaDoorW.PrintWords Go.Proofs.YtflcanpajgpghaaDoorW.PrintLast Go.Proofs.YtflcanpajgpghaaDoorW.PrintMore
attribute [local go_sem] max2_int min2_int max_two min_two max_three min_three max_four min_four
end Go.Proofs.YtflcanpajgpghaaDoor.Pr
end
