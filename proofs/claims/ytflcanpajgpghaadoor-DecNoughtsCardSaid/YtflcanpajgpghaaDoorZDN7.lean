/- A part of the proof of the law that RowDecNoughts shows: lemmas, and contracts of the calls that it reaches. -/
import Derived.Test.YtflcanpajgpghaaDoorProg
import Derived.Below
import Derived.Deep.Draws
import Derived.Deep.AppendLies
import Derived.Maps.AppendAt
import Derived.OwnWalk
import Derived.Laws.BytesArg
import Derived.Laws.MakeOwn
import Derived.Laws.OwnMore
import Derived.Deep.OwnRows
import Derived.Tactics
import Derived.Lib.ConvBytes
import Derived.Laws.Slices
import Derived.WalkKit
import Derived.KernelRfl
import Derived.RowKit3
import Derived.Deep.LoopGhost
import Derived.Deep.QuietTactic
import Derived.BigQuiet
import Derived.WideLaws
import Derived.Deep.DeepCutAuto
import Derived.Deep.CutBlock
import Derived.Deep.RegionHeld3
import Derived.Laws.Rows
import Derived.Lib.AppendStr
import Derived.ArgAppend
import Derived.Laws.IdiomCopy
import Derived.OrdersHeld
import Derived.Laws.BitsLemmas
import Derived.RowKit
import Derived.Test.YtflcanpajgpghaaDoorZDN0
import Derived.Test.YtflcanpajgpghaaDoorZDN6
import Derived.Test.YtflcanpajgpghaaDoorZDN5
set_option linter.unusedVariables false
set_option linter.unusedSimpArgs false
section
namespace Go.Proofs.YtflcanpajgpghaaDoor.Pure
open Go.RowKit Go.Proofs.YtflcanpajgpghaaDoor.Pr Go.Proofs.YtflcanpajgpghaaDoorW.PrintWords Go.Proofs.YtflcanpajgpghaaDoorW.PrintLast Go.Proofs.YtflcanpajgpghaaDoorW.PrintMore Go.Proofs.YtflcanpajgpghaaDoor.Flo
theorem one_size (c : Int) : (strOfNums [c]).size = 1 := rfl
theorem one_bt (c : Int) (h : 0 ≤ c) (h2 : c < 256) : bt (strOfNums [c]) ((0 : Nat) : Int) = c := by
 show (((UInt8.ofNat c.toNat).toNat : Nat) : Int) = c
 rw [UInt8.toNat_ofNat_of_lt' (by show c.toNat < 256; omega)]
 omega
theorem alld_app {a b : ByteArray} (ha : AllDigits a) (hb : AllDigits b) : AllDigits (a ++ b) := by
 intro i hi
 rw [app_size] at hi
 rw [bt_app]
 by_cases h : i < a.size
 ·rw [if_pos h]; exact ha i h
 ·rw [if_neg h]; exact hb _ (by omega)
theorem alld_one {c : Int} (h : 48 ≤ c) (h2 : c ≤ 57) : AllDigits (strOfNums [c]) := by
 intro i hi
 rw [one_size] at hi
 obtain rfl : i = 0 := by omega
 rw [one_bt c (by omega) (by omega)]
 exact ⟨h, h2⟩
theorem dval_app (a b : ByteArray) : ∀ i, i ≤ a.size → dval (a ++ b) i = dval a i
 | 0, _ => rfl
 | i + 1, h => by rw [dval, dval, dval_app a b i (by omega), bt_app, if_pos (by omega)]
theorem dval_one (s : ByteArray) (c : Int) (h : 48 ≤ c) (h2 : c ≤ 57) : dval (s ++ strOfNums [c]) (s ++ strOfNums [c]).size = dval s s.size * 10 + (c - 48).toNat := by
 rw [app_size, one_size, dval, dval_app s _ s.size (Nat.le_refl _), bt_app, if_neg (by omega), Nat.sub_self, one_bt c (by omega) (by omega)]
def Rel (s t : ByteArray) (x : Int) : Prop := (x = 0 ∧ s = t) ∨ (x < 0 ∧ dval s s.size < dval t t.size) ∨ (0 < x ∧ dval t t.size < dval s s.size)
theorem lives_bind : Ev (fun k => (minstrellaw05_lives.f k).bind fun t => some t) true := Ev.bind lives_ev (Ev.now _)
theorem rd_byte {l : List Int} (h : ∀ x ∈ l, 0 ≤ x ∧ x < 256) (i : Nat) (hi : i < l.length) : ∃ p : Nat, rd l (i : Int) = (p : Int) ∧ p < 256 := by
 have hm : l.getD i 0 ∈ l := by rw [List.getD_eq_getElem?_getD, List.getElem?_eq_getElem hi]; exact List.getElem_mem hi
 have := h _ hm
 refine ⟨(l.getD i 0).toNat, ?_, by omega⟩
 rw [rd_nat]
 omega
theorem byte_of_wf {l : List Int} (h : ∀ x ∈ l, (Lit.int .u8 x).wf = true) : ∀ x ∈ l, 0 ≤ x ∧ x < 256 := by
 intro x hx
 have h1 : 0 ≤ x ∧ x ≤ 255 := by simpa [Lit.wf, IntKind.min, IntKind.max, IntKind.signed, IntKind.bits] using h x hx
 omega
end Go.Proofs.YtflcanpajgpghaaDoor.Pure
end
section
namespace Go.Proofs.YtflcanpajgpghaaDoor.Pure
open Go.RowKit Go.Proofs.YtflcanpajgpghaaDoor.Pr Go.Proofs.YtflcanpajgpghaaDoorW.PrintWords Go.Proofs.YtflcanpajgpghaaDoorW.PrintLast Go.Proofs.YtflcanpajgpghaaDoorW.PrintMore
def toD (x : Nat) : List Int := if x = 0 then [] else ((x % 65536 : Nat) : Int) :: toD (x / 65536)
termination_by x
decreasing_by omega
theorem toD_zero : toD 0 = [] := by rw [toD]; rfl
theorem toD_pos {x : Nat} (h : x ≠ 0) : toD x = ((x % 65536 : Nat) : Int) :: toD (x / 65536) := by rw [toD, if_neg h]
def valD : List Int → Nat
 | [] => 0
 | a :: l => a.toNat + 65536 * valD l
def Digs (l : List Int) : Prop := ∀ x ∈ l, 0 ≤ x ∧ x < 65536
theorem val_toD (x : Nat) : valD (toD x) = x := by
 induction x using Nat.strongRecOn with
 | _ x ih =>
  by_cases h : x = 0
  ·subst h; rw [toD_zero]; rfl
  ·rw [toD_pos h, valD, ih (x / 65536) (by omega), Int.toNat_natCast]
   omega
theorem digs_toD (x : Nat) : Digs (toD x) := by
 induction x using Nat.strongRecOn with
 | _ x ih =>
  by_cases h : x = 0
  ·subst h; rw [toD_zero]; intro y hy; cases hy
  ·rw [toD_pos h]
   intro y hy
   rcases List.mem_cons.1 hy with rfl | hy
   ·omega
   ·exact ih (x / 65536) (by omega) y hy
theorem vald_append (l m : List Int) : valD (l ++ m) = valD l + 65536 ^ l.length * valD m := by
 induction l with
 | nil => simp [valD]
 | cons a l ih =>
  rw [List.cons_append, valD, valD, ih, List.length_cons, Nat.pow_succ, Nat.mul_add, ← Nat.mul_assoc, Nat.mul_comm 65536 (65536 ^ l.length)]
  omega
theorem vald_lt {l : List Int} (h : Digs l) : valD l < 65536 ^ l.length := by
 induction l with
 | nil => simp [valD]
 | cons a l ih =>
  have h1 := ih (fun x hx => h x (List.mem_cons_of_mem _ hx))
  have h2 := h a (List.mem_cons_self ..)
  rw [valD, List.length_cons, Nat.pow_succ]
  omega
theorem toD_val {l : List Int} (h : Digs l) (hl : l = [] ∨ l.getLast? ≠ some 0) : toD (valD l) = l := by
 induction l with
 | nil => exact toD_zero
 | cons a l ih =>
  have h2 := h a (List.mem_cons_self ..)
  have hp : Digs l := fun x hx => h x (List.mem_cons_of_mem _ hx)
  have hlast : (a :: l).getLast? ≠ some 0 := hl.resolve_left (by simp)
  have htl : l = [] ∨ l.getLast? ≠ some 0 := by
   by_cases hn : l = []
   ·exact .inl hn
   ·refine .inr ?_
    cases l with
    | nil => exact absurd rfl hn
    | cons b l => rwa [List.getLast?_cons_cons] at hlast
  have hne : valD (a :: l) ≠ 0 := by
   intro h0
   rw [valD] at h0
   by_cases hn : l = []
   ·subst hn
    simp at hlast
    omega
   ·have := ih hp htl
    have h3 : valD l = 0 := by omega
    rw [h3, toD_zero] at this
    exact hn this.symm
  rw [toD_pos hne]
  have e1 : (valD (a :: l) % 65536 : Nat) = a.toNat := by rw [valD]; omega
  have e2 : valD (a :: l) / 65536 = valD l := by rw [valD]; omega
  rw [e1, e2, ih hp htl]
  congr 1
  omega
theorem digs_append {l m : List Int} (h : Digs l) (g : Digs m) : Digs (l ++ m) := fun x hx => (List.mem_append.1 hx).elim (h x) (g x)
theorem digs_one {a : Int} (h : 0 ≤ a ∧ a < 65536) : Digs [a] := fun x hx => by rw [List.mem_singleton.1 hx]; exact h
theorem getDD {l : List Int} (hp : Digs l) (i : Nat) : ∃ a : Nat, l.getD i 0 = (a : Int) ∧ a < 65536 ∧ (l.length ≤ i → a = 0) := by
 by_cases h : i < l.length
 ·have := hp (l.getD i 0) (by rw [List.getD_eq_getElem?_getD, List.getElem?_eq_getElem h]; exact List.getElem_mem h)
  exact ⟨(l.getD i 0).toNat, by omega, by omega, fun h2 => by omega⟩
 ·refine ⟨0, ?_, by decide, fun _ => rfl⟩
  rw [List.getD_eq_getElem?_getD, List.getElem?_eq_none (by omega)]
  rfl
theorem vald_drop (l : List Int) (i : Nat) (hp : Digs l) : ∃ a : Nat, l.getD i 0 = (a : Int) ∧ a < 65536 ∧ valD (l.drop i) = a + 65536 * valD (l.drop (i + 1)) ∧ (l.length ≤ i → a = 0) := by
 obtain ⟨a, h1, h2, h3⟩ := getDD hp i
 refine ⟨a, h1, h2, ?_, h3⟩
 by_cases h : i < l.length
 ·rw [List.drop_eq_getElem_cons h, valD]
  have : l[i] = (a : Int) := by
   rw [← h1, List.getD_eq_getElem?_getD, List.getElem?_eq_getElem h]
   rfl
  rw [this, Int.toNat_natCast]
 ·rw [List.drop_eq_nil_of_le (by omega), List.drop_eq_nil_of_le (by omega), h3 (by omega)]
  rfl
theorem vald_take {l : List Int} {i : Nat} (h : i < l.length) : valD (l.take (i + 1)) = valD (l.take i) + 65536 ^ i * (l.getD i 0).toNat := by
 rw [List.take_succ_eq_append_getElem h, vald_append, List.length_take, Nat.min_eq_left (Nat.le_of_lt h), List.getD_eq_getElem?_getD, List.getElem?_eq_getElem h]
 simp [valD]
theorem vald_take_lt {l : List Int} (hp : Digs l) (i : Nat) : valD (l.take i) < 65536 ^ i := by
 have := vald_lt (l := l.take i) (fun x hx => hp x (List.mem_of_mem_take hx))
 refine Nat.lt_of_lt_of_le this (Nat.pow_le_pow_right (by decide) ?_)
 rw [List.length_take]
 exact Nat.min_le_left ..
theorem rtrim_loop (l : List Int) (hp : Digs l) (hl : l.length ≤ 1000000) : ∀ i, i ≤ l.length → Ev (fun k => r1_Trim.l0 k l (i : Int)) (toD (valD (l.take i)))
 | 0, _ => by
  rw [List.take_zero]
  refine Ev.step (f := fun _ => some []) (fun k => ?_) (by rw [show valD [] = 0 from rfl, toD_zero]; exact Ev.now _)
  rw [r1_Trim.l0, if_neg (by omega), Option.bind_some, if_pos (by omega), if_pos (by omega)]
  simp
 | i + 1, hi => by
  obtain ⟨a, h1, h2, _⟩ := getDD hp i
  have hw : wrap64 (((i + 1 : Nat) : Int) - 1) = (i : Int) := by rw [wrapB _ (by omega) (by omega)]; omega
  by_cases h0 : a = 0
  ·have ih := rtrim_loop l hp hl i (by omega)
   have e : valD (l.take (i + 1)) = valD (l.take i) := by rw [vald_take (by omega), h1, h0]; simp
   rw [e]
   refine Ev.step (fun k => ?_) ih
   rw [r1_Trim.l0, if_pos (by omega), hw, if_pos (by omega), if_pos (by omega), rd_nat, if_pos (by omega)]
  ·have e : toD (valD (l.take (i + 1))) = l.take (i + 1) := by
    refine toD_val (fun x hx => hp x (List.mem_of_mem_take hx)) (.inr ?_)
    rw [List.take_succ_eq_append_getElem (by omega), List.getLast?_append]
    have : l[i]'(by omega) = (a : Int) := by
     rw [← h1, List.getD_eq_getElem?_getD, List.getElem?_eq_getElem (by omega)]
     rfl
    rw [this]
    simp
    omega
   rw [e]
   refine Ev.step (f := fun _ => some (l.take (i + 1))) (fun k => ?_) (Ev.now _)
   rw [r1_Trim.l0, if_pos (by omega), hw, if_pos (by omega), if_pos (by omega), rd_nat, if_neg (by omega), Option.bind_some, if_pos (by omega), if_pos (by omega), Int.toNat_natCast, if_pos (by rw [List.length_take]; simp; omega)]
   rfl
theorem rtrim_ev (l : List Int) (hp : Digs l) (hl : l.length ≤ 1000000) : Ev (fun k => r1_Trim.f k l) (toD (valD l)) := by
 have := rtrim_loop l hp hl l.length (Nat.le_refl _)
 rw [List.take_length] at this
 exact this
theorem rat_ev (l : List Int) (i : Nat) : r1_at.f l (i : Int) = some (l.getD i 0) := by
 unfold r1_at.f
 by_cases h : i < l.length
 ·rw [if_pos (by omega), if_pos (by omega), rd_nat]
 ·rw [if_neg (by omega), List.getD_eq_getElem?_getD, List.getElem?_eq_none (by omega)]
  rfl
theorem rmost_ev (l m : List Int) : r1_most.f l m = some ((max l.length m.length : Nat) : Int) := by
 unfold r1_most.f
 by_cases h : (l.length : Int) > (m.length : Int)
 ·rw [if_pos h, Nat.max_eq_left (by omega)]
 ·rw [if_neg h, Nat.max_eq_right (by omega)]
theorem and_dig (a : Nat) (h : a < 18446744073709551616) : Go.bits .and .u64 (a : Int) 65535 = ((a % 65536 : Nat) : Int) := by
 have := bits_and a 65535 h (by decide)
 rw [show (65535 : Nat) = 2 ^ 16 - 1 from rfl, Nat.and_two_pow_sub_one_eq_mod] at this
 exact this
theorem rsum_loop (l m : List Int) (hp : Digs l) (hm : Digs m) (hl : l.length ≤ 900000) (hml : m.length ≤ 900000) : ∀ (d i : Nat) (acc : List Int) (c : Nat), i + d = max l.length m.length → acc.length = i → Digs acc → c ≤ 1 →
  Ev (fun k => r1_Sum.l0 k l m acc (c : Int) (i : Int)) (toD (valD acc + 65536 ^ i * (valD (l.drop i) + valD (m.drop i) + c)))
 | 0, i, acc, c, hi, ha, hpa, hc => by
  have hd : l.drop i = [] := List.drop_eq_nil_of_le (by omega)
  have hd2 : m.drop i = [] := List.drop_eq_nil_of_le (by omega)
  have hv : valD acc + 65536 ^ i * (valD (l.drop i) + valD (m.drop i) + c) = valD (acc ++ [(c : Int)]) := by
   rw [hd, hd2, vald_append, ha]
   simp [valD]
  rw [hv]
  have ht := rtrim_ev (acc ++ [(c : Int)]) (digs_append hpa (digs_one (by omega))) (by rw [List.length_append, List.length_singleton]; omega)
  refine Ev.step (fun k => ?_) (Ev.bind ht (Ev.now _))
  rw [r1_Sum.l0, rmost_ev, Option.bind_some, if_neg (by omega), if_pos (by omega)]
 | d + 1, i, acc, c, hi, ha, hpa, hc => by
  obtain ⟨a, ga, ha2, hL, _⟩ := vald_drop l i hp
  obtain ⟨b, gb, hb2, hM, _⟩ := vald_drop m i hm
  have ih := rsum_loop l m hp hm hl hml d (i + 1) (acc ++ [(((a + b + c) % 65536 : Nat) : Int)]) ((a + b + c) / 65536) (by omega) (by rw [List.length_append, List.length_singleton]; omega) (digs_append hpa (digs_one (by omega))) (by omega)
  have hv : valD acc + 65536 ^ i * (valD (l.drop i) + valD (m.drop i) + c) = valD (acc ++ [(((a + b + c) % 65536 : Nat) : Int)]) + 65536 ^ (i + 1) * (valD (l.drop (i + 1)) + valD (m.drop (i + 1)) + (a + b + c) / 65536) := by
   rw [vald_append, ha, hL, hM, Nat.pow_succ, Nat.mul_assoc, Nat.add_assoc (valD acc), ← Nat.mul_add]
   simp only [valD, Nat.mul_zero, Nat.add_zero, Int.toNat_natCast]
   congr 2
   omega
  rw [hv]
  refine Ev.step (fun k => ?_) ih
  rw [r1_Sum.l0, rmost_ev, Option.bind_some, if_pos (by omega), rat_ev, Option.bind_some, rat_ev, Option.bind_some, if_pos (by omega), ga, gb, show ((a : Int) + (b : Int)) = ((a + b : Nat) : Int) by push_cast; rfl, u64_in (a + b) (by omega), show (((a + b : Nat) : Int) + (c : Int)) = ((a + b + c : Nat) : Int) by push_cast; rfl, u64_in (a + b + c) (by omega), and_dig _ (by omega), wrapB _ (by omega) (by omega)]
  simp only [Int.natCast_emod, Int.natCast_ediv, Int.natCast_add, Int.natCast_one]
  rfl
theorem rsum_ev (l m : List Int) (hp : Digs l) (hm : Digs m) (hl : l.length ≤ 900000) (hml : m.length ≤ 900000) : Ev (fun k => r1_Sum.f k l m) (toD (valD l + valD m)) := by
 have g := rsum_loop l m hp hm hl hml (max l.length m.length) 0 [] 0 (by omega) rfl (fun y hy => by cases hy) (by omega)
 rw [List.drop_zero, List.drop_zero, Nat.pow_zero, Nat.one_mul] at g
 have e : valD [] + (valD l + valD m + 0) = valD l + valD m := by simp [valD]
 rw [e] at g
 exact g
theorem rminus_loop (l m : List Int) (hp : Digs l) (hm : Digs m) (hl : l.length ≤ 900000) : ∀ (d i : Nat) (acc : List Int) (c : Nat), i + d = l.length → acc.length = i → Digs acc → c ≤ 1 → valD (m.drop i) + c ≤ valD (l.drop i) →
  Ev (fun k => r1_Minus.l0 k l m acc (c : Int) (i : Int)) (toD (valD acc + 65536 ^ i * (valD (l.drop i) - valD (m.drop i) - c)))
 | 0, i, acc, c, hi, ha, hpa, hc, hle => by
  have hd : l.drop i = [] := List.drop_eq_nil_of_le (by omega)
  rw [hd] at hle ⊢
  have e : valD ([] : List Int) - valD (m.drop i) - c = 0 := by simp [valD]
  rw [e, Nat.mul_zero, Nat.add_zero]
  refine Ev.step (fun k => ?_) (Ev.bind (rtrim_ev acc hpa (by omega)) (Ev.now _))
  rw [r1_Minus.l0, if_neg (by omega)]
 | d + 1, i, acc, c, hi, ha, hpa, hc, hle => by
  obtain ⟨a, ga, ha2, hL, _⟩ := vald_drop l i hp
  obtain ⟨b, gb, hb2, hM, _⟩ := vald_drop m i hm
  obtain ⟨L, hLe⟩ : ∃ L, L = valD (l.drop (i + 1)) := ⟨_, rfl⟩
  obtain ⟨M, hMe⟩ : ∃ M, M = valD (m.drop (i + 1)) := ⟨_, rfl⟩
  rw [hL, hM, ← hLe, ← hMe] at hle ⊢
  have hbc : IntKind.u64.wrap ((b : Int) + (c : Int)) = ((b + c : Nat) : Int) := by rw [show ((b : Int) + (c : Int)) = ((b + c : Nat) : Int) by push_cast; rfl, u64_in _ (by omega)]
  by_cases h : a < b + c
  ·have ih := rminus_loop l m hp hm hl d (i + 1) (acc ++ [((a + 65536 - b - c : Nat) : Int)]) 1 (by omega) (by rw [List.length_append, List.length_singleton]; omega) (digs_append hpa (digs_one (by omega))) (by omega) (by rw [← hLe, ← hMe]; omega)
   rw [← hLe, ← hMe] at ih
   have hv : valD acc + 65536 ^ i * (a + 65536 * L - (b + 65536 * M) - c) = valD (acc ++ [((a + 65536 - b - c : Nat) : Int)]) + 65536 ^ (i + 1) * (L - M - 1) := by
    rw [vald_append, ha, Nat.pow_succ, Nat.mul_assoc, Nat.add_assoc, ← Nat.mul_add]
    simp only [valD, Nat.mul_zero, Nat.add_zero, Int.toNat_natCast]
    congr 2
    omega
   rw [hv]
   refine Ev.step (fun k => ?_) ih
   have hw1 : IntKind.u64.wrap ((a : Int) + 65536) = ((a + 65536 : Nat) : Int) := u64_in (a + 65536) (by omega)
   have hw2 : IntKind.u64.wrap (((a + 65536 : Nat) : Int) - ((b + c : Nat) : Int)) = ((a + 65536 - b - c : Nat) : Int) := by rw [show (((a + 65536 : Nat) : Int) - ((b + c : Nat) : Int)) = ((a + 65536 - b - c : Nat) : Int) by omega, u64_in _ (by omega)]
   rw [r1_Minus.l0, if_pos (by omega), if_pos (by omega), rat_ev, Option.bind_some, gb, hbc, rd_nat, ga, if_pos (by omega), if_pos (by omega), hw1, hw2, wrapB _ (by omega) (by omega)]
   rfl
  ·have ih := rminus_loop l m hp hm hl d (i + 1) (acc ++ [((a - b - c : Nat) : Int)]) 0 (by omega) (by rw [List.length_append, List.length_singleton]; omega) (digs_append hpa (digs_one (by omega))) (by omega) (by rw [← hLe, ← hMe]; omega)
   rw [← hLe, ← hMe] at ih
   have hv : valD acc + 65536 ^ i * (a + 65536 * L - (b + 65536 * M) - c) = valD (acc ++ [((a - b - c : Nat) : Int)]) + 65536 ^ (i + 1) * (L - M - 0) := by
    rw [vald_append, ha, Nat.pow_succ, Nat.mul_assoc, Nat.add_assoc, ← Nat.mul_add]
    simp only [valD, Nat.mul_zero, Nat.add_zero, Int.toNat_natCast]
    congr 2
    omega
   rw [hv]
   refine Ev.step (fun k => ?_) ih
   have hw2 : IntKind.u64.wrap ((a : Int) - ((b + c : Nat) : Int)) = ((a - b - c : Nat) : Int) := by rw [show ((a : Int) - ((b + c : Nat) : Int)) = ((a - b - c : Nat) : Int) by omega, u64_in _ (by omega)]
   rw [r1_Minus.l0, if_pos (by omega), if_pos (by omega), rat_ev, Option.bind_some, gb, hbc, rd_nat, ga, if_neg (by omega), if_pos (by omega), hw2, wrapB _ (by omega) (by omega)]
   rfl
theorem rminus_ev (l m : List Int) (hp : Digs l) (hm : Digs m) (hl : l.length ≤ 900000) (h : valD m ≤ valD l) : Ev (fun k => r1_Minus.f k l m) (toD (valD l - valD m)) := by
 have g := rminus_loop l m hp hm hl l.length 0 [] 0 (by omega) rfl (fun y hy => by cases hy) (by omega) (by rw [List.drop_zero, List.drop_zero]; omega)
 rw [List.drop_zero, List.drop_zero, Nat.pow_zero, Nat.one_mul] at g
 have e : valD [] + (valD l - valD m - 0) = valD l - valD m := by simp [valD]
 rw [e] at g
 exact g
theorem rcmp_loop (l m : List Int) (hp : Digs l) (hm : Digs m) : ∀ i : Nat, i ≤ 900000 → ∃ c : Int, Ev (fun k => r1_Cmp.l0 k l m ((i : Int) - 1)) c ∧ (c ≥ 0 ↔ valD (m.take i) ≤ valD (l.take i))
 | 0, _ => by
  refine ⟨0, Ev.step (f := fun _ => some 0) (fun k => ?_) (Ev.now _), by simp [valD]⟩
  rw [r1_Cmp.l0, if_neg (by omega)]
 | i + 1, hi => by
  obtain ⟨a, ga, ha2, ha3⟩ := getDD hp i
  obtain ⟨b, gb, hb2, hb3⟩ := getDD hm i
  have tk : ∀ (l : List Int) (a : Nat), l.getD i 0 = (a : Int) → (l.length ≤ i → a = 0) → valD (l.take (i + 1)) = valD (l.take i) + 65536 ^ i * a := by
   intro l a g g0
   by_cases h : i < l.length
   ·rw [vald_take h, g, Int.toNat_natCast]
   ·rw [List.take_of_length_le (by omega), List.take_of_length_le (by omega), g0 (by omega), Nat.mul_zero, Nat.add_zero]
  have e1 := tk l a ga ha3
  have e2 := tk m b gb hb3
  have t1 := vald_take_lt hp i
  have t2 := vald_take_lt hm i
  have hk : ((i + 1 : Nat) : Int) - 1 = (i : Int) := by omega
  rw [hk, e1, e2]
  obtain ⟨P, hP⟩ : ∃ P, P = 65536 ^ i := ⟨_, rfl⟩
  rw [← hP] at t1 t2 ⊢
  by_cases hlt : a < b
  ·refine ⟨-1, Ev.step (f := fun _ => some (-1)) (fun k => ?_) (Ev.now _), ?_⟩
   ·rw [r1_Cmp.l0, if_pos (by omega), rat_ev, Option.bind_some, rat_ev, Option.bind_some, ga, gb, if_pos (by omega)]
   ·have : P * (a + 1) ≤ P * b := Nat.mul_le_mul_left _ hlt
    rw [Nat.mul_succ] at this
    omega
  ·by_cases hgt : b < a
   ·refine ⟨1, Ev.step (f := fun _ => some 1) (fun k => ?_) (Ev.now _), ?_⟩
    ·rw [r1_Cmp.l0, if_pos (by omega), rat_ev, Option.bind_some, rat_ev, Option.bind_some, ga, gb, if_neg (by omega)]
     simp only [Option.bind_some]
     rw [if_pos (by omega)]
    ·have : P * (b + 1) ≤ P * a := Nat.mul_le_mul_left _ hgt
     rw [Nat.mul_succ] at this
     omega
   ·obtain rfl : a = b := by omega
    obtain ⟨c, hc, c1⟩ := rcmp_loop l m hp hm i (by omega)
    refine ⟨c, Ev.step (fun k => ?_) hc, ?_⟩
    ·rw [r1_Cmp.l0, if_pos (by omega), rat_ev, Option.bind_some, rat_ev, Option.bind_some, ga, gb, if_neg (by omega)]
     simp only [Option.bind_some]
     rw [if_neg (by omega), wrapB _ (by omega) (by omega)]
    ·rw [c1]; omega
theorem rcmp_ev (l m : List Int) (hp : Digs l) (hm : Digs m) (hl : l.length ≤ 900000) (hml : m.length ≤ 900000) : ∃ c : Int, Ev (fun k => r1_Cmp.f k l m) c ∧ (c ≥ 0 ↔ valD m ≤ valD l) := by
 obtain ⟨c, hc, c1⟩ := rcmp_loop l m hp hm (max l.length m.length) (by omega)
 rw [List.take_of_length_le (by omega), List.take_of_length_le (by omega)] at c1
 refine ⟨c, Ev.congr (fun k => ?_) hc, c1⟩
 unfold r1_Cmp.f
 rw [rmost_ev, Option.bind_some, wrapB _ (by omega) (by omega)]
end Go.Proofs.YtflcanpajgpghaaDoor.Pure
end
section
namespace Go.Proofs.YtflcanpajgpghaaDoor.Pure
open Go.RowKit Go.Proofs.YtflcanpajgpghaaDoor.Pr Go.Proofs.YtflcanpajgpghaaDoorW.PrintWords Go.Proofs.YtflcanpajgpghaaDoorW.PrintLast Go.Proofs.YtflcanpajgpghaaDoorW.PrintMore
theorem dbase_pos (n : Nat) : 0 < (65536 : Nat) ^ n := Nat.pow_pos (by decide)
theorem dbase_pow (n : Nat) : (65536 : Nat) ^ n = 2 ^ (16 * n) := by rw [Nat.pow_mul]
theorem vald_set (l : List Int) (i : Nat) (v : Nat) (h : i < l.length) (o : Nat) (ho : l.getD i 0 = (o : Int)) : valD (l.set i (v : Int)) + 65536 ^ i * o = valD l + 65536 ^ i * v := by
 have e1 : l = l.take i ++ (o : Int) :: l.drop (i + 1) := by
  have : l[i] = (o : Int) := by
   rw [← ho, List.getD_eq_getElem?_getD, List.getElem?_eq_getElem h]
   rfl
  rw [← this, ← List.drop_eq_getElem_cons h, List.take_append_drop]
 have e2 : l.set i (v : Int) = l.take i ++ (v : Int) :: l.drop (i + 1) := List.set_eq_take_append_cons_drop .. |>.trans (by rw [if_pos h])
 have e3 : valD l = valD (l.take i) + 65536 ^ i * (o + 65536 * valD (l.drop (i + 1))) := by
  conv => lhs; rw [e1]
  rw [vald_append, List.length_take, Nat.min_eq_left (Nat.le_of_lt h), valD, Int.toNat_natCast]
 rw [e2, e3, vald_append, List.length_take, Nat.min_eq_left (Nat.le_of_lt h), valD, Int.toNat_natCast, Nat.mul_add, Nat.mul_add]
 omega
theorem digs_set {l : List Int} (h : Digs l) (i : Nat) {v : Int} (hv : 0 ≤ v ∧ v < 65536) : Digs (l.set i v) := fun x hx => (List.mem_or_eq_of_mem_set hx).elim (h x) (fun e => e ▸ hv)
theorem getD_set_ne (l : List Int) (i j : Nat) (v : Int) (h : i ≠ j) : (l.set i v).getD j 0 = l.getD j 0 := by
 rw [List.getD_eq_getElem?_getD, List.getElem?_set_ne h, ← List.getD_eq_getElem?_getD]
theorem wrap_succ (i : Nat) (h : i ≤ 1000000000) : wrap64 ((i : Int) + 1) = ((i + 1 : Nat) : Int) := by rw [wrapB _ (by omega) (by omega)]; omega
theorem wrap_add (i q : Nat) (h : i + q ≤ 1000000000) : wrap64 ((i : Int) + (q : Int)) = ((i + q : Nat) : Int) := by rw [wrapB _ (by omega) (by omega)]; omega
theorem even_small : ∀ z : Nat, z % 2 = 0 → z < 2 → z = 0 := by omega
theorem mul_dig {a b : Nat} (ha : a < 65536) (hb : b < 65536) : a * b ≤ 4294836225 := by
 have : a * b ≤ 65535 * 65535 := Nat.mul_le_mul (by omega) (by omega)
 omega
theorem prod_row (l m : List Int) (hp : Digs l) (hm : Digs m) (hl : l.length ≤ 400000) (hml : m.length ≤ 400000) (i a : Nat) (hi : i < l.length) (ha : l.getD i 0 = (a : Int)) (ha2 : a < 65536) (V : Nat) (r : List Int)
  (hend : ∀ out : List Int, out.length = l.length + m.length → Digs out → (∀ j, i + m.length < j → out.getD j 0 = 0) → valD out = V + 65536 ^ i * (a * valD m) → Ev (fun k => r1_Product.l0 k l m out ((i + 1 : Nat) : Int)) r) :
  ∀ (d q : Nat) (out : List Int) (c : Nat), q + d = m.length → c < 65536 → out.length = l.length + m.length → Digs out → (∀ j, i + m.length ≤ j → out.getD j 0 = 0) → valD out + 65536 ^ (i + q) * c = V + 65536 ^ i * (a * valD (m.take q)) →
  Ev (fun k => r1_Product.l1 k l m out (i : Int) (c : Int) (q : Int)) r
 | 0, q, out, c, hq, hc, hol, hod, hoz, hv => by
  obtain rfl : q = m.length := by omega
  rw [List.take_length] at hv
  have hs := vald_set out (i + m.length) c (by omega) 0 (by rw [hoz _ (Nat.le_refl _)]; rfl)
  have g := hend (out.set (i + m.length) (c : Int)) (by rw [List.length_set]; exact hol) (digs_set hod _ (by omega)) (fun j hj => by rw [getD_set_ne _ _ _ _ (by omega)]; exact hoz j (by omega)) (by omega)
  have b1 : i + m.length ≤ 1000000000 := by omega
  have b2 : i ≤ 1000000000 := by omega
  have hw := wrap_add i m.length b1
  have w1 := wrap_succ i b2
  have q1 : ¬ ((m.length : Nat) : Int) < ((m.length : Nat) : Int) := Int.lt_irrefl _
  have q2 : (0 : Int) ≤ ((i + m.length : Nat) : Int) := Int.natCast_nonneg _
  have q3 : ((i + m.length : Nat) : Int) < ((out.length : Nat) : Int) := Int.ofNat_lt.2 (by rw [hol]; exact Nat.add_lt_add_right hi _)
  refine Ev.step (fun k => ?_) g
  rw [r1_Product.l1, if_neg q1, hw, if_pos q2, if_pos q3, Int.toNat_natCast, w1]
 | d + 1, q, out, c, hq, hc, hol, hod, hoz, hv => by
  obtain ⟨b, gb, hb2, _⟩ := getDD hm q
  obtain ⟨o, go, ho2, _⟩ := getDD hod (i + q)
  have hmul := mul_dig ha2 hb2
  have ht := vald_take (l := m) (i := q) (by omega)
  rw [gb, Int.toNat_natCast] at ht
  have hs := vald_set out (i + q) ((o + a * b + c) % 65536) (by omega) o go
  have hpow : 65536 ^ (i + (q + 1)) = 65536 ^ (i + q) * 65536 := by rw [← Nat.add_assoc, Nat.pow_succ]
  have hval : valD (out.set (i + q) (((o + a * b + c) % 65536 : Nat) : Int)) + 65536 ^ (i + (q + 1)) * ((o + a * b + c) / 65536) = V + 65536 ^ i * (a * valD (m.take (q + 1))) := by
   rw [ht, hpow, Nat.mul_assoc]
   obtain ⟨P, hP⟩ : ∃ P, P = 65536 ^ (i + q) := ⟨_, rfl⟩
   rw [← hP] at hs hv ⊢
   have e1 : 65536 ^ i * (a * (valD (m.take q) + 65536 ^ q * b)) = 65536 ^ i * (a * valD (m.take q)) + P * (a * b) := by
    rw [hP, Nat.pow_add, Nat.mul_add, Nat.mul_add]
    congr 1
    simp only [Nat.mul_assoc, Nat.mul_comm, Nat.mul_left_comm]
   rw [e1]
   have e2 : P * ((o + a * b + c) % 65536) + P * (65536 * ((o + a * b + c) / 65536)) = P * o + P * (a * b) + P * c := by
    rw [← Nat.mul_add, Nat.mod_add_div, Nat.mul_add, Nat.mul_add]
   omega
  have ih := prod_row l m hp hm hl hml i a hi ha ha2 V r hend d (q + 1) (out.set (i + q) (((o + a * b + c) % 65536 : Nat) : Int)) ((o + a * b + c) / 65536) (by omega) (by omega) (by rw [List.length_set]; exact hol) (digs_set hod _ (by omega))
   (fun j hj => by rw [getD_set_ne _ _ _ _ (by omega)]; exact hoz j hj) hval
  have q1 : ((q : Nat) : Int) < ((m.length : Nat) : Int) := Int.ofNat_lt.2 (by omega)
  have q2 : (0 : Int) ≤ ((i + q : Nat) : Int) := Int.natCast_nonneg _
  have q3 : ((i + q : Nat) : Int) < ((out.length : Nat) : Int) := Int.ofNat_lt.2 (by omega)
  have q4 : (0 : Int) ≤ ((i : Nat) : Int) := Int.natCast_nonneg _
  have q5 : ((i : Nat) : Int) < ((l.length : Nat) : Int) := Int.ofNat_lt.2 hi
  have q6 : (0 : Int) ≤ ((q : Nat) : Int) := Int.natCast_nonneg _
  have q7 : o + a * b + c < 18446744073709551616 := by omega
  have q8 : a * b < 18446744073709551616 := by omega
  have q9 : o + a * b < 18446744073709551616 := by omega
  have b1 : i + q ≤ 1000000000 := by omega
  have b2 : q ≤ 1000000000 := by omega
  have hw := wrap_add i q b1
  have w1 := wrap_succ q b2
  refine Ev.step (fun k => ?_) ih
  have hx : IntKind.u64.wrap ((IntKind.u64.wrap ((rd out ((i + q : Nat) : Int)) + (IntKind.u64.wrap ((rd l (i : Int)) * (rd m (q : Int)))))) + (c : Int)) = ((o + a * b + c : Nat) : Int) := by
   rw [rd_nat, rd_nat, rd_nat, go, ha, gb, show ((a : Int) * (b : Int)) = ((a * b : Nat) : Int) by push_cast; rfl, u64_in (a * b) q8, show ((o : Int) + ((a * b : Nat) : Int)) = ((o + a * b : Nat) : Int) by push_cast; rfl, u64_in (o + a * b) q9, show (((o + a * b : Nat) : Int) + (c : Int)) = ((o + a * b + c : Nat) : Int) by push_cast; rfl, u64_in _ q7]
  rw [r1_Product.l1, if_pos q1, hw, if_pos q2, if_pos q3, if_pos q4, if_pos q5, if_pos q6, hx, and_dig _ q7, Int.toNat_natCast, w1]
  rfl
theorem prod_loop (l m : List Int) (hp : Digs l) (hm : Digs m) (hl : l.length ≤ 400000) (hml : m.length ≤ 400000) : ∀ (d i : Nat) (out : List Int), i + d = l.length → out.length = l.length + m.length → Digs out → (∀ j, i + m.length ≤ j → out.getD j 0 = 0) → valD out = valD (l.take i) * valD m →
  Ev (fun k => r1_Product.l0 k l m out (i : Int)) (toD (valD l * valD m))
 | 0, i, out, hi, hol, hod, hoz, hv => by
  obtain rfl : i = l.length := by omega
  rw [List.take_length] at hv
  refine Ev.step (fun k => ?_) (Ev.bind (f := fun _ t => some t) (hv ▸ rtrim_ev out hod (by omega)) (Ev.now _))
  rw [r1_Product.l0, if_neg (by omega)]
 | d + 1, i, out, hi, hol, hod, hoz, hv => by
  obtain ⟨a, ga, ha2, _⟩ := getDD hp i
  have ht := vald_take (l := l) (i := i) (by omega)
  rw [ga, Int.toNat_natCast] at ht
  have hrow := prod_row l m hp hm hl hml i a (by omega) ga ha2 (valD out) (toD (valD l * valD m))
   (fun out' h1 h2 h3 h4 => prod_loop l m hp hm hl hml d (i + 1) out' (by omega) h1 h2 (fun j hj => h3 j (by omega)) (by rw [h4, ht, hv, Nat.add_mul, Nat.mul_assoc]))
   m.length 0 out 0 (by omega) (by omega) hol hod hoz (by simp [valD])
  refine Ev.step (fun k => ?_) hrow
  rw [r1_Product.l0, if_pos (by omega)]
  rfl
theorem zeros_digs (n : Nat) : Digs (List.replicate n (0 : Int)) := fun x hx => by rw [List.eq_of_mem_replicate hx]; omega
theorem zeros_val : ∀ n, valD (List.replicate n (0 : Int)) = 0
 | 0 => rfl
 | n + 1 => by rw [List.replicate_succ, valD, zeros_val n]; rfl
theorem rprod_ev (l m : List Int) (hp : Digs l) (hm : Digs m) (hl : l.length ≤ 400000) (hml : m.length ≤ 400000) : Ev (fun k => r1_Product.f k l m) (toD (valD l * valD m)) := by
 have h := prod_loop l m hp hm hl hml l.length 0 (List.replicate (l.length + m.length) 0) (by omega) (List.length_replicate ..) (zeros_digs _) (fun j _ => by
   rw [List.getD_eq_getElem?_getD]
   by_cases hj : j < l.length + m.length
   ·rw [List.getElem?_replicate_of_lt hj]; rfl
   ·rw [List.getElem?_eq_none (by rw [List.length_replicate]; omega)]; rfl) (by rw [zeros_val]; simp [valD])
 have hw : wrap64 ((l.length : Int) + (m.length : Int)) = ((l.length + m.length : Nat) : Int) := by rw [wrapB _ (by omega) (by omega)]; omega
 refine Ev.congr (fun k => ?_) h
 unfold r1_Product.f
 rw [hw, if_pos (by omega), if_pos (by omega), Int.toNat_natCast]
 rfl
theorem rup_ev (l : List Int) (hp : Digs l) (n : Nat) (hl : l.length + n ≤ 300000) : Ev (fun k => r1_Up.f k l (n : Int)) (toD (valD l * 2 ^ n)) := by
 have hq : Int.tdiv (n : Int) 16 = ((n / 16 : Nat) : Int) := by rw [Int.tdiv_eq_ediv_of_nonneg (by omega)]; omega
 have hr : Int.tmod (n : Int) 16 = ((n % 16 : Nat) : Int) := by rw [Int.tmod_eq_emod_of_nonneg (by omega)]; omega
 have hlt : 2 ^ (n % 16) < 65536 := Nat.lt_of_lt_of_le (Nat.pow_lt_pow_right (by decide) (Nat.mod_lt n (by decide : 0 < 16))) (Nat.le_refl _)
 have hsh : shl .u64 1 ((n % 16 : Nat) : Int) = ((2 ^ (n % 16) : Nat) : Int) := by
  have h9 := shl_u64 1 (n % 16) (by omega)
  rw [Nat.one_mul, Nat.mod_eq_of_lt (Nat.lt_of_lt_of_le hlt (by decide))] at h9
  exact h9
 have hone : Digs [((2 ^ (n % 16) : Nat) : Int)] := digs_one ⟨Int.natCast_nonneg _, Int.ofNat_lt.2 hlt⟩
 have hz : Digs (List.replicate (n / 16) 0 ++ l) := digs_append (zeros_digs _) hp
 have hzl : (List.replicate (n / 16) (0 : Int) ++ l).length ≤ 400000 := by rw [List.length_append, List.length_replicate]; omega
 have hpr := rprod_ev (List.replicate (n / 16) 0 ++ l) [((2 ^ (n % 16) : Nat) : Int)] hz hone hzl (show 1 ≤ 400000 by decide)
 have hval : valD (List.replicate (n / 16) 0 ++ l) * valD [((2 ^ (n % 16) : Nat) : Int)] = valD l * 2 ^ n := by
  rw [vald_append, zeros_val, List.length_replicate]
  simp only [valD, Nat.zero_add, Nat.mul_zero, Nat.add_zero, Int.toNat_natCast]
  rw [dbase_pow, Nat.mul_comm (2 ^ (16 * (n / 16))), Nat.mul_assoc, ← Nat.pow_add]
  congr 2
  omega
 rw [hval] at hpr
 have hlen : (toD (valD l * 2 ^ n)).length ≤ 1000000 := by
  have hL : ∀ (L x : Nat), x < 65536 ^ L → (toD x).length ≤ L := by
   intro L
   induction L with
   | zero =>
    intro x h
    have hx0 : x = 0 := by rw [Nat.pow_zero] at h; omega
    rw [hx0, toD_zero]
    exact Nat.le_refl _
   | succ L ih =>
    intro x h
    by_cases h0 : x = 0
    ·rw [h0, toD_zero]; exact Nat.zero_le _
    ·rw [toD_pos h0, List.length_cons]
     have : x / 65536 < 65536 ^ L := by
      rw [Nat.pow_succ] at h
      exact Nat.div_lt_of_lt_mul (by rw [Nat.mul_comm]; exact h)
     have := ih _ this
     omega
  refine Nat.le_trans (hL (l.length + n) _ ?_) (by omega)
  rw [Nat.pow_add]
  exact Nat.mul_lt_mul_of_lt_of_le (vald_lt hp) (Nat.pow_le_pow_left (by decide) n) (Nat.pow_pos (by decide))
 have htr := rtrim_ev _ (digs_toD (valD l * 2 ^ n)) hlen
 rw [val_toD] at htr
 have hb : Ev (fun k => (r1_Product.f k (List.replicate (n / 16) 0 ++ l) [((2 ^ (n % 16) : Nat) : Int)]).bind fun t => (r1_Trim.f k t).bind fun u => some u) (toD (valD l * 2 ^ n)) := Ev.bind hpr (Ev.bind htr (Ev.now _))
 refine Ev.congr (fun k => ?_) hb
 unfold r1_Up.f
 rw [hq, hr, wrapB _ (by omega) (by omega), if_pos (by omega), if_pos (by omega), Option.bind_some, Int.toNat_natCast, u64_in _ (by omega), if_pos (by rw [List.length_replicate]; omega), if_pos (by omega), hsh]
theorem rbit_ev (l : List Int) (hp : Digs l) (i : Nat) (hi : i ≤ 100000000) : r1_Bit.f l (i : Int) = some ((valD l / 2 ^ i % 2 : Nat) : Int) := by
 have hq : Int.tdiv (i : Int) 16 = ((i / 16 : Nat) : Int) := by rw [Int.tdiv_eq_ediv_of_nonneg (by omega)]; omega
 have hr : Int.tmod (i : Int) 16 = ((i % 16 : Nat) : Int) := by rw [Int.tmod_eq_emod_of_nonneg (by omega)]; omega
 obtain ⟨a, ga, ha2, _⟩ := getDD hp (i / 16)
 have hrl : i % 16 < 16 := Nat.mod_lt _ (by decide)
 have hbit : a / 2 ^ (i % 16) % 2 = valD l / 2 ^ i % 2 := by
  obtain ⟨a', ga', _, hd, _⟩ := vald_drop l (i / 16) hp
  obtain rfl : a = a' := by rw [ga] at ga'; omega
  have hsplit : valD l = valD (l.take (i / 16)) + 65536 ^ (i / 16) * valD (l.drop (i / 16)) := by
   by_cases h : i / 16 ≤ l.length
   ·have := vald_append (l.take (i / 16)) (l.drop (i / 16))
    rw [List.take_append_drop, List.length_take, Nat.min_eq_left h] at this
    exact this
   ·rw [List.take_of_length_le (by omega), List.drop_eq_nil_of_le (by omega)]
    simp [valD]
  have hlow := vald_take_lt hp (i / 16)
  have hdiv : valD l / 2 ^ (16 * (i / 16)) = valD (l.drop (i / 16)) := by
   rw [← dbase_pow, hsplit, Nat.add_mul_div_left _ _ (dbase_pos _), Nat.div_eq_of_lt hlow, Nat.zero_add]
  have hi2 : i = 16 * (i / 16) + i % 16 := by omega
  conv => rhs; rw [hi2]
  rw [Nat.pow_add, ← Nat.div_div_eq_div_mul, hdiv, hd]
  obtain ⟨j, hj⟩ : ∃ j, 16 = i % 16 + 1 + j := ⟨16 - (i % 16 + 1), by omega⟩
  have e16 : (65536 : Nat) = 2 ^ (i % 16) * (2 * 2 ^ j) := by
   rw [← Nat.mul_assoc, ← Nat.pow_succ, ← Nat.pow_add, ← hj]
  rw [e16, Nat.mul_assoc, Nat.add_mul_div_left _ _ (Nat.two_pow_pos _), Nat.mul_assoc, Nat.add_mul_mod_self_left]
 unfold r1_Bit.f
 have hsr := shr_u64 a (i % 16) (by omega)
 have hdl : a / 2 ^ (i % 16) < 18446744073709551616 := Nat.lt_of_le_of_lt (Nat.div_le_self ..) (by omega)
 have hand : Go.bits .and .u64 ((a / 2 ^ (i % 16) : Nat) : Int) 1 = ((a / 2 ^ (i % 16) % 2 : Nat) : Int) := by
  have := bits_and (a / 2 ^ (i % 16)) 1 hdl (by decide)
  rw [show (1 : Nat) = 2 ^ 1 - 1 from rfl, Nat.and_two_pow_sub_one_eq_mod] at this
  exact this
 rw [hq, hr, wrapB _ (by omega) (by omega), rat_ev, Option.bind_some, u64_in _ (by omega), if_pos (by omega), ga, hsr, hand, hbit]
theorem rlen_loop (l : List Int) (hp : Digs l) : ∀ n : Nat, n ≤ 100000000 → valD l < 2 ^ n → ∃ L : Nat, L ≤ n ∧ LenIs (valD l) L ∧ Ev (fun k => r1_Len.l0 k l (n : Int)) (L : Int)
 | 0, _, h => by
  rw [Nat.pow_zero] at h
  refine ⟨0, Nat.le_refl _, ⟨fun _ => rfl, fun h0 => absurd (by omega) h0⟩, Ev.step (f := fun _ => some 0) (fun k => ?_) (Ev.now _)⟩
  rw [r1_Len.l0, if_neg (by omega)]
  rfl
 | n + 1, hn, h => by
  have hw : wrap64 (((n + 1 : Nat) : Int) - 1) = (n : Int) := by rw [wrapB _ (by omega) (by omega)]; omega
  have hb := rbit_ev l hp n (by omega)
  have hpw : (2 : Nat) ^ (n + 1) = 2 * 2 ^ n := by rw [Nat.pow_succ, Nat.mul_comm]
  have hpos := Nat.two_pow_pos n
  have hdl : valD l / 2 ^ n < 2 := by
   rw [Nat.div_lt_iff_lt_mul hpos, ← hpw]; exact h
  by_cases h0 : valD l / 2 ^ n % 2 = 0
  ·have hlt : valD l < 2 ^ n := by
    have : valD l / 2 ^ n = 0 := even_small _ h0 hdl
    exact (Nat.div_eq_zero_iff_lt hpos).1 this
   obtain ⟨L, h1, h2, h3⟩ := rlen_loop l hp n (by omega) hlt
   refine ⟨L, by omega, h2, Ev.step (fun k => ?_) h3⟩
   rw [r1_Len.l0, if_pos (by omega), hw, hb, Option.bind_some, if_pos (by rw [h0]; rfl)]
  ·have hge : 2 ^ n ≤ valD l := by
    apply Nat.le_of_not_lt
    intro hlt
    rw [Nat.div_eq_of_lt hlt] at h0
    exact h0 rfl
   refine ⟨n + 1, Nat.le_refl _, ⟨fun h0' => by omega, fun _ => ⟨by omega, by rw [Nat.add_sub_cancel]; exact hge, h⟩⟩, Ev.step (f := fun _ => some ((n + 1 : Nat) : Int)) (fun k => ?_) (Ev.now _)⟩
   rw [r1_Len.l0, if_pos (by omega), hw, hb, Option.bind_some, if_neg (fun c => h0 (Int.natCast_eq_zero.1 c))]
theorem rlen_ev (l : List Int) (hp : Digs l) (hl : l.length ≤ 1000000) : ∃ L : Nat, L ≤ 16 * l.length ∧ LenIs (valD l) L ∧ Ev (fun k => r1_Len.f k l) (L : Int) := by
 have hlt := vald_lt hp
 rw [dbase_pow] at hlt
 obtain ⟨L, h1, h2, h3⟩ := rlen_loop l hp (16 * l.length) (by omega) hlt
 refine ⟨L, h1, h2, Ev.congr (fun k => ?_) h3⟩
 unfold r1_Len.f
 rw [wrapB _ (by omega) (by omega)]
 rfl
end Go.Proofs.YtflcanpajgpghaaDoor.Pure
end
section
namespace Go.Proofs.YtflcanpajgpghaaDoor.Pure
open Go.RowKit Go.Proofs.YtflcanpajgpghaaDoor.Pr Go.Proofs.YtflcanpajgpghaaDoorW.PrintWords Go.Proofs.YtflcanpajgpghaaDoorW.PrintLast Go.Proofs.YtflcanpajgpghaaDoorW.PrintMore
theorem lenD_le : ∀ (L x : Nat), x < 65536 ^ L → (toD x).length ≤ L
 | 0, x, h => by
  have : x = 0 := by rw [Nat.pow_zero] at h; omega
  rw [this, toD_zero]; exact Nat.le_refl _
 | L + 1, x, h => by
  by_cases h0 : x = 0
  ·rw [h0, toD_zero]; exact Nat.zero_le _
  ·rw [toD_pos h0, List.length_cons]
   have : x / 65536 < 65536 ^ L := by
    rw [Nat.pow_succ] at h
    exact Nat.div_lt_of_lt_mul (by rw [Nat.mul_comm]; exact h)
   have := lenD_le L _ this
   omega
theorem lenD_of {x m : Nat} (h : x < 2 ^ m) : (toD x).length ≤ m / 16 + 1 := by
 refine lenD_le _ _ (Nat.lt_of_lt_of_le h ?_)
 rw [dbase_pow]
 exact Nat.pow_le_pow_right (by decide) (by omega)
theorem small_low (x : Nat) (h : x < 18446744073709551616) : r1_Small.f (toD x) = some (x : Int) := by
 have dig : ∀ i : Nat, (toD x).getD i 0 = ((x / 65536 ^ i % 65536 : Nat) : Int) := by
  have g : ∀ (i x : Nat), (toD x).getD i 0 = ((x / 65536 ^ i % 65536 : Nat) : Int) := by
   intro i
   induction i with
   | zero =>
    intro x
    by_cases h0 : x = 0
    ·subst h0; rw [toD_zero]; rfl
    ·rw [toD_pos h0, Nat.pow_zero, Nat.div_one]; rfl
   | succ i ih =>
    intro x
    by_cases h0 : x = 0
    ·subst h0; rw [toD_zero, Nat.zero_div]; rfl
    ·rw [toD_pos h0, Nat.pow_succ, Nat.mul_comm, ← Nat.div_div_eq_div_mul]
     exact ih _
  exact fun i => g i x
 unfold r1_Small.f
 have a0 := rat_ev (toD x) 0
 have a1 := rat_ev (toD x) 1
 have a2 := rat_ev (toD x) 2
 have a3 := rat_ev (toD x) 3
 rw [dig] at a0 a1 a2 a3
 rw [show ((0 : Int)) = ((0 : Nat) : Int) from rfl, show ((1 : Int)) = ((1 : Nat) : Int) from rfl, show ((2 : Int)) = ((2 : Nat) : Int) from rfl, show ((3 : Int)) = ((3 : Nat) : Int) from rfl, a0, Option.bind_some, a1, Option.bind_some, a2, Option.bind_some, a3, Option.bind_some]
 rw [show (65536 : Nat) ^ 0 = 1 from rfl, show (65536 : Nat) ^ 1 = 65536 from rfl, show (65536 : Nat) ^ 2 = 4294967296 from rfl, show (65536 : Nat) ^ 3 = 281474976710656 from rfl, Nat.div_one]
 obtain ⟨p, hp⟩ : ∃ p, p = x % 65536 := ⟨_, rfl⟩
 obtain ⟨q, hq⟩ : ∃ q, q = x / 65536 % 65536 := ⟨_, rfl⟩
 obtain ⟨r, hr⟩ : ∃ r, r = x / 4294967296 % 65536 := ⟨_, rfl⟩
 obtain ⟨s, hs⟩ : ∃ s, s = x / 281474976710656 % 65536 := ⟨_, rfl⟩
 rw [← hp, ← hq, ← hr, ← hs]
 have w1 : IntKind.u64.wrap ((q : Int) * 65536) = ((q * 65536 : Nat) : Int) := by rw [show ((q : Int) * 65536) = ((q * 65536 : Nat) : Int) by omega, u64_in _ (by omega)]
 have w2 : IntKind.u64.wrap ((r : Int) * 4294967296) = ((r * 4294967296 : Nat) : Int) := by rw [show ((r : Int) * 4294967296) = ((r * 4294967296 : Nat) : Int) by omega, u64_in _ (by omega)]
 have w3 : IntKind.u64.wrap ((s : Int) * 281474976710656) = ((s * 281474976710656 : Nat) : Int) := by rw [show ((s : Int) * 281474976710656) = ((s * 281474976710656 : Nat) : Int) by omega, u64_in _ (by omega)]
 have orr : ∀ (n a b : Nat), a < 2 ^ n → a ||| b * 2 ^ n = a + b * 2 ^ n := by
  intro n a b h
  have := Nat.two_pow_add_eq_or_of_lt (i := n) h b
  rw [Nat.or_comm, Nat.mul_comm b, ← this, Nat.add_comm]
 have o1 := orr 16 p q (by show p < 65536; omega)
 have o2 := orr 32 (p + q * 65536) r (by show p + q * 65536 < 4294967296; omega)
 have o3 := orr 48 (p + q * 65536 + r * 4294967296) s (by show p + q * 65536 + r * 4294967296 < 281474976710656; omega)
 rw [show (2 : Nat) ^ 16 = 65536 from rfl] at o1
 rw [show (2 : Nat) ^ 32 = 4294967296 from rfl] at o2
 rw [show (2 : Nat) ^ 48 = 281474976710656 from rfl] at o3
 rw [w1, w2, w3, bits_or _ _ (by omega) (by omega), o1, bits_or _ _ (by omega) (by omega), o2, bits_or _ _ (by omega) (by omega), o3]
 congr 2
 omega
theorem down_bits (l : List Int) (hp : Digs l) (lost : Bool) (out : List Int) (i : Nat) (hi : i ≤ 50000000) (r : List Int × Bool)
  (hend : Ev (fun k => if out.length < 17592186044416 then r1_Down.l1 k l lost (out ++ [((valD l / 2 ^ i % 65536 : Nat) : Int)]) (wrap64 ((i : Int) + 16)) else none) r) : ∀ (d t : Nat), t + d = 16 →
  Ev (fun k => r1_Down.l2 k l lost out (i : Int) ((valD l / 2 ^ i % 2 ^ t : Nat) : Int) (t : Int)) r
 | 0, t, ht => by
  obtain rfl : t = 16 := by omega
  refine Ev.step (fun k => ?_) hend
  rw [r1_Down.l2, if_neg (by decide)]
 | d + 1, t, ht => by
  have ih := down_bits l hp lost out i hi r hend d (t + 1) (by omega)
  refine Ev.step (fun k => ?_) ih
  have b1 : i + t ≤ 1000000000 := by omega
  have hbit := rbit_ev l hp (i + t) (by omega)
  obtain ⟨x, hx⟩ : ∃ x, x = valD l / 2 ^ i := ⟨_, rfl⟩
  have hsh : valD l / 2 ^ (i + t) = x / 2 ^ t := by rw [Nat.pow_add, ← Nat.div_div_eq_div_mul, hx]
  rw [hsh] at hbit
  rw [← hx]
  have hb2 : x / 2 ^ t % 2 < 2 := Nat.mod_lt _ (by decide)
  have hT : 2 ^ t < 65536 := Nat.lt_of_lt_of_le (Nat.pow_lt_pow_right (by decide) (show t < 16 by omega)) (Nat.le_refl _)
  have hm : x % 2 ^ t < 2 ^ t := Nat.mod_lt _ (Nat.two_pow_pos t)
  have hmul : x / 2 ^ t % 2 * 2 ^ t < 131072 := by
   have : x / 2 ^ t % 2 * 2 ^ t ≤ 1 * 2 ^ t := Nat.mul_le_mul_right _ (by omega)
   omega
  have hshl : shl .u64 ((x / 2 ^ t % 2 : Nat) : Int) (t : Int) = ((x / 2 ^ t % 2 * 2 ^ t : Nat) : Int) := by
   rw [shl_u64 _ _ (by omega), Nat.mod_eq_of_lt (Nat.lt_of_lt_of_le hmul (by decide))]
  have hor : x % 2 ^ t ||| x / 2 ^ t % 2 * 2 ^ t = x % 2 ^ (t + 1) := by
   have := Nat.two_pow_add_eq_or_of_lt (i := t) hm (x / 2 ^ t % 2)
   rw [Nat.or_comm, Nat.mul_comm, ← this, Nat.pow_succ, Nat.mod_mul, Nat.add_comm]
  have h1 : x % 2 ^ t < 18446744073709551616 := Nat.lt_of_lt_of_le hm (Nat.le_trans (Nat.le_of_lt hT) (by decide))
  have h2 : x / 2 ^ t % 2 * 2 ^ t < 18446744073709551616 := Nat.lt_of_lt_of_le hmul (by decide)
  rw [r1_Down.l2, if_pos (by omega), wrap_add i t b1, hbit, Option.bind_some, u64_in t (by omega), if_pos (by omega), hshl, bits_or _ _ h1 h2, hor, wrap_succ t (by omega)]
theorem down_loop (l : List Int) (hp : Digs l) (hl : l.length ≤ 1000000) (n : Nat) (hn : n ≤ 10000000) (lost : Bool) : ∀ (d q : Nat) (out : List Int), 16 * l.length ≤ n + 16 * (q + d) → q ≤ 1000000 → q + d ≤ 1000001 → out.length = q → Digs out → valD out = valD l / 2 ^ n % 65536 ^ q →
  (q = 0 ∨ n + 16 * (q - 1) < 16 * l.length) →
  Ev (fun k => r1_Down.l1 k l lost out ((n + 16 * q : Nat) : Int)) (toD (valD l / 2 ^ n), lost) := by
 intro d
 induction d with
 | zero =>
  intro q out h1 h2 h2' h3 h4 h5 h6
  have hlt : valD l / 2 ^ n < 65536 ^ q := by
   rw [Nat.div_lt_iff_lt_mul (Nat.two_pow_pos n), dbase_pow, ← Nat.pow_add]
   have := vald_lt hp
   rw [dbase_pow] at this
   exact Nat.lt_of_lt_of_le this (Nat.pow_le_pow_right (by decide) (by omega))
  rw [Nat.mod_eq_of_lt hlt] at h5
  have ht := rtrim_ev out h4 (by omega)
  rw [h5] at ht
  refine Ev.step (fun k => ?_) (Ev.bind (f := fun _ t => some (t, lost)) ht (Ev.now _))
  rw [r1_Down.l1, wrapB (16 * _) (by omega) (by omega), if_neg (by omega)]
 | succ d ih =>
  intro q out h1 h2 h2' h3 h4 h5 h6
  by_cases hc : n + 16 * q < 16 * l.length
  ·have hnext := ih (q + 1) (out ++ [((valD l / 2 ^ (n + 16 * q) % 65536 : Nat) : Int)]) (by omega) (by omega) (by omega) (by rw [List.length_append, List.length_singleton]; omega) (digs_append h4 (digs_one ⟨Int.natCast_nonneg _, Int.ofNat_lt.2 (Nat.mod_lt _ (by decide))⟩)) (by
     rw [vald_append, h3, h5, Nat.pow_add, ← Nat.div_div_eq_div_mul, dbase_pow q]
     simp only [valD, Nat.mul_zero, Nat.add_zero, Int.toNat_natCast]
     rw [← dbase_pow, Nat.pow_succ, Nat.mod_mul]) (.inr (by omega))
   have hend : Ev (fun k => if out.length < 17592186044416 then r1_Down.l1 k l lost (out ++ [((valD l / 2 ^ (n + 16 * q) % 65536 : Nat) : Int)]) (wrap64 (((n + 16 * q : Nat) : Int) + 16)) else none) (toD (valD l / 2 ^ n), lost) := by
    refine Ev.congr (fun k => ?_) hnext
    rw [if_pos (by omega), wrapB _ (by omega) (by omega)]
    congr 1
   have hb := down_bits l hp lost out (n + 16 * q) (by omega) _ hend 16 0 (by omega)
   rw [Nat.pow_zero, Nat.mod_one] at hb
   refine Ev.step (fun k => ?_) hb
   rw [r1_Down.l1, wrapB (16 * _) (by omega) (by omega), if_pos (by omega)]
   rfl
  ·
   have hlt : valD l / 2 ^ n < 65536 ^ q := by
    rw [Nat.div_lt_iff_lt_mul (Nat.two_pow_pos n), dbase_pow, ← Nat.pow_add]
    have := vald_lt hp
    rw [dbase_pow] at this
    exact Nat.lt_of_lt_of_le this (Nat.pow_le_pow_right (by decide) (by omega))
   rw [Nat.mod_eq_of_lt hlt] at h5
   have ht := rtrim_ev out h4 (by omega)
   rw [h5] at ht
   refine Ev.step (fun k => ?_) (Ev.bind (f := fun _ t => some (t, lost)) ht (Ev.now _))
   rw [r1_Down.l1, wrapB (16 * _) (by omega) (by omega), if_neg (by omega)]
theorem lost_loop (l : List Int) (hp : Digs l) (hl : l.length ≤ 1000000) (n : Nat) (hn : n ≤ 10000000) : ∀ (d i : Nat), i + d = min n (16 * l.length) →
  Ev (fun k => r1_Down.l0 k l (n : Int) (decide (valD l % 2 ^ i ≠ 0)) (i : Int)) (toD (valD l / 2 ^ n), decide (valD l % 2 ^ n ≠ 0))
 | 0, i, hi => by
  have hlost : decide (valD l % 2 ^ i ≠ 0) = decide (valD l % 2 ^ n ≠ 0) := by
   by_cases h : n ≤ 16 * l.length
   ·rw [show i = n by omega]
   ·have hv := vald_lt hp
    rw [dbase_pow] at hv
    rw [Nat.mod_eq_of_lt (Nat.lt_of_lt_of_le hv (Nat.pow_le_pow_right (by decide) (by omega))), Nat.mod_eq_of_lt (Nat.lt_of_lt_of_le hv (Nat.pow_le_pow_right (by decide) (by omega)))]
  rw [hlost]
  have hd := down_loop l hp hl n hn (decide (valD l % 2 ^ n ≠ 0)) (1000001 - 1) 0 [] (by omega) (by omega) (by omega) rfl (fun y hy => by cases hy) (by rw [Nat.pow_zero, Nat.mod_one]; rfl) (.inl rfl)
  rw [Nat.mul_zero, Nat.add_zero] at hd
  have hj : Ev (fun k => r1_Down.j1 k l (n : Int) (decide (valD l % 2 ^ n ≠ 0))) (toD (valD l / 2 ^ n), decide (valD l % 2 ^ n ≠ 0)) := Ev.step (fun k => by rw [r1_Down.j1]) hd
  refine Ev.step (fun k => ?_) hj
  rw [r1_Down.l0]
  by_cases h : (i : Int) < (n : Int)
  ·rw [if_pos h, wrapB (16 * _) (by omega) (by omega), if_neg (by omega)]
  ·rw [if_neg h]
 | d + 1, i, hi => by
  have ih := lost_loop l hp hl n hn d (i + 1) (by omega)
  have hbit := rbit_ev l hp i (by omega)
  have hs : valD l % 2 ^ (i + 1) = valD l % 2 ^ i + 2 ^ i * (valD l / 2 ^ i % 2) := by rw [Nat.pow_succ, Nat.mod_mul]
  refine Ev.step (fun k => ?_) ih
  rw [r1_Down.l0, if_pos (by omega), wrapB (16 * _) (by omega) (by omega), if_pos (by omega)]
  by_cases h : valD l % 2 ^ i ≠ 0
  ·rw [decide_eq_true h, if_pos rfl, wrap_succ i (by omega), decide_eq_true (by rw [hs]; omega)]
  ·rw [decide_eq_false h, if_neg (by decide), hbit, Option.bind_some, wrap_succ i (by omega)]
   congr 1
   rw [hs]
   have h0 : valD l % 2 ^ i = 0 := Decidable.not_not.1 h
   rw [h0, Nat.zero_add]
   have hm : valD l / 2 ^ i % 2 < 2 := Nat.mod_lt _ (by decide)
   obtain ⟨b, hb⟩ : ∃ b, b = valD l / 2 ^ i % 2 := ⟨_, rfl⟩
   rw [← hb] at hm ⊢
   have hpos := Nat.two_pow_pos i
   rcases (show b = 0 ∨ b = 1 by omega) with e | e
   ·subst e; rw [Nat.mul_zero]; rfl
   ·subst e; rw [Nat.mul_one, decide_eq_true (by omega)]; rfl
theorem rdown_ev (l : List Int) (hp : Digs l) (hl : l.length ≤ 1000000) (n : Nat) (hn : n ≤ 10000000) : Ev (fun k => r1_Down.f k l (n : Int)) (toD (valD l / 2 ^ n), decide (valD l % 2 ^ n ≠ 0)) := by
 have h := lost_loop l hp hl n hn (min n (16 * l.length)) 0 (by omega)
 rw [Nat.pow_zero, Nat.mod_one] at h
 exact h
end Go.Proofs.YtflcanpajgpghaaDoor.Pure
end
section
namespace Go.Proofs.YtflcanpajgpghaaDoor.Pure
open Go.RowKit Go.Proofs.YtflcanpajgpghaaDoor.Pr Go.Proofs.YtflcanpajgpghaaDoorW.PrintWords Go.Proofs.YtflcanpajgpghaaDoorW.PrintLast Go.Proofs.YtflcanpajgpghaaDoorW.PrintMore Go.Proofs.YtflcanpajgpghaaDoor.Flo
theorem lenIs_le {x L m : Nat} (h : LenIs x L) (hm : x < 2 ^ m) : L ≤ m := by
 by_cases h0 : x = 0
 ·rw [h.1 h0]; exact Nat.zero_le _
 ·obtain ⟨_, h2, _⟩ := h.2 h0
  apply Nat.le_of_not_lt
  intro hlt
  have : 2 ^ m ≤ 2 ^ (L - 1) := Nat.pow_le_pow_right (by decide) (by omega)
  omega
theorem set_bit (q : List Int) (hq : Digs q) (i t : Nat) (hi : i / 16 < q.length) (hv : valD q = 2 ^ (i + 1) * t) : ∃ a : Nat, q.getD (i / 16) 0 = (a : Int) ∧ a + 2 ^ (i % 16) < 65536 ∧ Go.bits .or .u64 (a : Int) (shl .u64 1 ((i % 16 : Nat) : Int)) = ((a + 2 ^ (i % 16) : Nat) : Int) ∧
  valD (q.set (i / 16) ((a + 2 ^ (i % 16) : Nat) : Int)) = 2 ^ i * (2 * t + 1) := by
 obtain ⟨a, ga, ha2, hd, _⟩ := vald_drop q (i / 16) hq
 have hrl : i % 16 < 16 := Nat.mod_lt _ (by decide)
 have hsplit : valD q = valD (q.take (i / 16)) + 65536 ^ (i / 16) * valD (q.drop (i / 16)) := by
  have := vald_append (q.take (i / 16)) (q.drop (i / 16))
  rw [List.take_append_drop, List.length_take, Nat.min_eq_left (Nat.le_of_lt hi)] at this
  exact this
 have hlow := vald_take_lt hq (i / 16)
 have hi2 : i + 1 = 16 * (i / 16) + (i % 16 + 1) := by omega
 have hmul : valD q / 65536 ^ (i / 16) = 2 ^ (i % 16 + 1) * t := by
  rw [hv, hi2, Nat.pow_add, ← dbase_pow, Nat.mul_assoc, Nat.mul_div_cancel_left _ (dbase_pos _)]
 rw [hsplit, Nat.add_mul_div_left _ _ (dbase_pos _), Nat.div_eq_of_lt hlow, Nat.zero_add, hd] at hmul
 obtain ⟨j, hj⟩ : ∃ j, 16 = i % 16 + 1 + j := ⟨16 - (i % 16 + 1), by omega⟩
 have e16 : (65536 : Nat) = 2 ^ (i % 16 + 1) * 2 ^ j := by rw [← Nat.pow_add, ← hj]
 have hamod : a % 2 ^ (i % 16 + 1) = 0 := by
  have h1 : (a + 65536 * valD (q.drop (i / 16 + 1))) % 2 ^ (i % 16 + 1) = 0 := by rw [hmul, Nat.mul_mod_right]
  rw [e16, Nat.mul_assoc, Nat.add_mul_mod_self_left] at h1
  exact h1
 obtain ⟨s, hs⟩ : ∃ s, a = 2 ^ (i % 16 + 1) * s := ⟨a / 2 ^ (i % 16 + 1), by
  have := Nat.div_add_mod a (2 ^ (i % 16 + 1))
  rw [hamod, Nat.add_zero] at this
  exact this.symm⟩
 have hp2 : 2 ^ (i % 16) < 2 ^ (i % 16 + 1) := Nat.pow_lt_pow_right (by decide) (by omega)
 have hbound : a + 2 ^ (i % 16) < 65536 := by
  have h1 : s < 2 ^ j := by
   rw [hs, e16] at ha2
   exact Nat.lt_of_mul_lt_mul_left ha2
  have h2 : 2 ^ (i % 16 + 1) * (s + 1) ≤ 2 ^ (i % 16 + 1) * 2 ^ j := Nat.mul_le_mul_left _ h1
  rw [Nat.mul_succ, ← e16, ← hs] at h2
  omega
 have hp3 : 2 ^ (i % 16) < 65536 := by omega
 have hsh : shl .u64 1 ((i % 16 : Nat) : Int) = ((2 ^ (i % 16) : Nat) : Int) := by
  have h9 := shl_u64 1 (i % 16) (by omega)
  rw [Nat.one_mul, Nat.mod_eq_of_lt (Nat.lt_of_lt_of_le hp3 (by decide))] at h9
  exact h9
 refine ⟨a, ga, hbound, ?_, ?_⟩
 ·rw [hsh, bits_or _ _ (by omega) (by omega), hs, or_bit]
 ·have := vald_set q (i / 16) (a + 2 ^ (i % 16)) hi a ga
  rw [Nat.mul_add, hv] at this
  have e : 65536 ^ (i / 16) * 2 ^ (i % 16) = 2 ^ i := by
   rw [dbase_pow, ← Nat.pow_add]
   congr 1
   omega
  rw [e] at this
  have e2 : 2 ^ (i + 1) * t = 2 ^ i * (2 * t) := by rw [Nat.pow_succ, Nat.mul_assoc]
  rw [e2] at this
  rw [Nat.mul_succ]
  omega
theorem div_loop (l b : List Int) (hp : Digs l) (hb : Digs b) (hb0 : valD b ≠ 0) (hl : l.length ≤ 100000) (hbl : b.length ≤ 100000) : ∀ (i : Nat) (q : List Int) (r t : Nat), i ≤ 16 * l.length → q.length = l.length → Digs q → valD q = 2 ^ i * t → valD l / 2 ^ i = t * valD b + r → r < valD b →
  Ev (fun k => r1_Divide.l0 k l b q (toD r) ((i : Int) - 1)) (toD (valD l / valD b), toD (valD l % valD b))
 | 0, q, r, t, hi, hql, hq, hv, hdiv, hr => by
  rw [Nat.pow_zero, Nat.div_one] at hdiv
  rw [Nat.pow_zero, Nat.one_mul] at hv
  have hpos : 0 < valD b := Nat.pos_of_ne_zero hb0
  have e1 : valD l / valD b = t := by rw [hdiv, Nat.mul_comm t, Nat.mul_add_div hpos, Nat.div_eq_of_lt hr, Nat.add_zero]
  have e2 : valD l % valD b = r := by rw [hdiv, Nat.mul_comm t, Nat.mul_add_mod, Nat.mod_eq_of_lt hr]
  rw [e1, e2]
  have ht := rtrim_ev q hq (by omega)
  rw [hv] at ht
  refine Ev.step (fun k => ?_) (Ev.bind (f := fun _ u => some (u, toD r)) ht (Ev.now _))
  rw [r1_Divide.l0, if_neg (by omega)]
 | i + 1, q, r, t, hi, hql, hq, hv, hdiv, hr => by
  have hrl : (toD r).length ≤ b.length := lenD_le _ _ (Nat.lt_trans hr (vald_lt hb))
  have hup := rup_ev (toD r) (digs_toD r) 1 (by omega)
  rw [val_toD, Nat.pow_one] at hup
  have hbit := rbit_ev l hp i (by omega)
  obtain ⟨c, hc⟩ : ∃ c, c = valD l / 2 ^ i % 2 := ⟨_, rfl⟩
  rw [← hc] at hbit
  have hc2 : c < 2 := by rw [hc]; exact Nat.mod_lt _ (by decide)
  have hone : Digs [(c : Int)] := digs_one (by omega)
  have h2l : (toD (r * 2)).length ≤ b.length + 1 := by
   refine lenD_le _ _ ?_
   rw [Nat.pow_succ]
   exact Nat.mul_lt_mul_of_lt_of_le (Nat.lt_trans hr (vald_lt hb)) (by decide) (by decide)
  have hsum := rsum_ev (toD (r * 2)) [(c : Int)] (digs_toD _) hone (by omega) (show 1 ≤ 900000 by decide)
  have hvone : valD [(c : Int)] = c := by simp [valD]
  rw [val_toD, hvone] at hsum
  have h3l : (toD (r * 2 + c)).length ≤ b.length + 1 := by
   refine lenD_le _ _ ?_
   rw [Nat.pow_succ]
   have h1 := Nat.lt_trans hr (vald_lt hb)
   have h2 : (r + 1) * 2 ≤ 65536 ^ b.length * 65536 := Nat.mul_le_mul h1 (by decide)
   omega
  obtain ⟨o, ho, ho1⟩ := rcmp_ev (toD (r * 2 + c)) b (digs_toD _) hb (by omega) (by omega)
  rw [val_toD] at ho1
  have hdiv2 : valD l / 2 ^ i = 2 * (t * valD b + r) + c := by
   have h1 : valD l / 2 ^ i / 2 = valD l / 2 ^ (i + 1) := by rw [Nat.div_div_eq_div_mul, Nat.pow_succ]
   rw [hdiv] at h1
   omega
  have hk : ((i + 1 : Nat) : Int) - 1 = (i : Int) := by omega
  have hwi : wrap64 ((i : Int) - 1) = (i : Int) - 1 := wrapB _ (by omega) (by omega)
  have hq16 : wrap64 (Int.tdiv (i : Int) 16) = ((i / 16 : Nat) : Int) := by rw [Int.tdiv_eq_ediv_of_nonneg (by omega), wrapB _ (by omega) (by omega)]; omega
  have hr16 : IntKind.u64.wrap (Int.tmod (i : Int) 16) = ((i % 16 : Nat) : Int) := by rw [Int.tmod_eq_emod_of_nonneg (by omega), show ((i : Int) % 16) = ((i % 16 : Nat) : Int) by omega, u64_in _ (by omega)]
  have hin : i / 16 < q.length := by rw [hql]; exact Nat.div_lt_of_lt_mul (by omega)
  by_cases hge : o ≥ 0
  ·have hle := ho1.1 hge
   have hmin := rminus_ev (toD (r * 2 + c)) b (digs_toD _) hb (by omega) (by rw [val_toD]; exact hle)
   rw [val_toD] at hmin
   obtain ⟨a, ga, ha2, hor, hval⟩ := set_bit q hq i t hin hv
   have ih := div_loop l b hp hb hb0 hl hbl i (q.set (i / 16) ((a + 2 ^ (i % 16) : Nat) : Int)) (r * 2 + c - valD b) (2 * t + 1) (by omega) (by rw [List.length_set]; exact hql) (digs_set hq _ ⟨Int.natCast_nonneg _, Int.ofNat_lt.2 ha2⟩) hval
    (by rw [hdiv2, Nat.add_mul, Nat.one_mul, Nat.mul_assoc]; omega) (by omega)
   have q2 : (0 : Int) ≤ ((i / 16 : Nat) : Int) := Int.natCast_nonneg _
   have q3 : ((i / 16 : Nat) : Int) < ((q.length : Nat) : Int) := Int.ofNat_lt.2 hin
   have q4 : (0 : Int) ≤ ((i % 16 : Nat) : Int) := Int.natCast_nonneg _
   have q5 : (0 : Int) ≤ ((i : Nat) : Int) := Int.natCast_nonneg _
   refine Ev.step (fun k => ?_) (Ev.bind hup (f := fun k t567 => (r1_Sum.f k t567 [(c : Int)]).bind fun t574 => (r1_Cmp.f k t574 b).bind fun t577 => if t577 ≥ 0 then ((r1_Minus.f k t574 b).bind fun t578 => r1_Divide.l0 k l b (q.set (i / 16) ((a + 2 ^ (i % 16) : Nat) : Int)) t578 ((i : Int) - 1)) else r1_Divide.l0 k l b q t574 ((i : Int) - 1))
    (Ev.bind hsum (Ev.bind ho (Ev.congr (fun k => if_pos hge) (Ev.bind hmin (f := fun k t578 => r1_Divide.l0 k l b (q.set (i / 16) ((a + 2 ^ (i % 16) : Nat) : Int)) t578 ((i : Int) - 1)) ih)))))
   rw [hk, r1_Divide.l0, if_pos q5, hbit, hwi, hq16, hr16]
   simp only [Option.bind_some, if_pos q2, if_pos q3, if_pos q4, Int.toNat_natCast, rd_nat, ga, hor]
   rfl
  ·have hlt : r * 2 + c < valD b := by
    apply Nat.lt_of_not_le
    intro hle
    exact hge (ho1.2 hle)
   have ih := div_loop l b hp hb hb0 hl hbl i q (r * 2 + c) (2 * t) (by omega) hql hq (by rw [hv, Nat.pow_succ, Nat.mul_assoc])
    (by rw [hdiv2, Nat.mul_assoc]; omega) hlt
   have q5 : (0 : Int) ≤ ((i : Nat) : Int) := Int.natCast_nonneg _
   refine Ev.step (fun k => ?_) (Ev.bind hup (f := fun k t567 => (r1_Sum.f k t567 [(c : Int)]).bind fun t574 => (r1_Cmp.f k t574 b).bind fun t577 => if t577 ≥ 0 then ((r1_Minus.f k t574 b).bind fun t578 => if 0 ≤ ((i / 16 : Nat) : Int) then (if ((i / 16 : Nat) : Int) < ((q.length : Nat) : Int) then (if 0 ≤ ((i % 16 : Nat) : Int) then r1_Divide.l0 k l b (q.set ((i / 16 : Nat) : Int).toNat (Go.bits .or .u64 (rd q ((i / 16 : Nat) : Int)) (shl .u64 1 ((i % 16 : Nat) : Int)))) t578 ((i : Int) - 1) else none) else none) else none) else r1_Divide.l0 k l b q t574 ((i : Int) - 1))
    (Ev.bind hsum (Ev.bind ho (Ev.congr (fun k => if_neg hge) ih))))
   rw [hk, r1_Divide.l0, if_pos q5, hbit, hwi, hq16, hr16]
   simp only [Option.bind_some]
   rfl
theorem rdiv_ev (l b : List Int) (hp : Digs l) (hb : Digs b) (hb0 : valD b ≠ 0) (hl : l.length ≤ 100000) (hbl : b.length ≤ 100000) : Ev (fun k => r1_Divide.f k l b) (toD (valD l / valD b), toD (valD l % valD b)) := by
 obtain ⟨L, h1, h2, h3⟩ := rlen_ev l hp (by omega)
 have hlt := lenIs_lt h2
 have hz : valD l / 2 ^ L = 0 := Nat.div_eq_of_lt hlt
 have h := div_loop l b hp hb hb0 hl hbl L (List.replicate l.length 0) 0 0 h1 (List.length_replicate ..) (zeros_digs _) (by rw [zeros_val, Nat.mul_zero]) (by rw [hz, Nat.zero_mul]) (Nat.pos_of_ne_zero hb0)
 rw [toD_zero] at h
 have q1 : (0 : Int) ≤ ((l.length : Nat) : Int) := Int.natCast_nonneg _
 refine Ev.congr (fun k => ?_) (Ev.bind h3 (f := fun k t => r1_Divide.l0 k l b (List.replicate l.length 0) [] (wrap64 (t - 1))) (Ev.congr (fun k => by rw [wrapB _ (by omega) (by omega)]) h))
 unfold r1_Divide.f
 rw [if_pos q1, Int.toNat_natCast, if_pos (by omega)]
end Go.Proofs.YtflcanpajgpghaaDoor.Pure
end
section
namespace Go.Proofs.YtflcanpajgpghaaDoor.Pure
open Go.RowKit Go.Proofs.YtflcanpajgpghaaDoor.Pr Go.Proofs.YtflcanpajgpghaaDoorW.PrintWords Go.Proofs.YtflcanpajgpghaaDoorW.PrintLast Go.Proofs.YtflcanpajgpghaaDoorW.PrintMore Go.Proofs.YtflcanpajgpghaaDoor.Flo
theorem ten_loop (M : Nat) (hMM : M ≤ 100000) : ∀ (n a p : Nat), n ≤ 1000000 → 1 ≤ a → 1 ≤ p → a * p ^ (2 * n) < 2 ^ M → Ev (fun k => r5_Ten.l0 k (n : Int) (toD a) (toD p)) (toD (a * p ^ n)) := by
 intro n
 induction n using Nat.strongRecOn with
 | _ n ih =>
  intro a p hn ha hp hM
  by_cases h0 : n = 0
  ·subst h0
   rw [Nat.pow_zero, Nat.mul_one]
   refine Ev.step (f := fun _ => some (toD a)) (fun k => ?_) (Ev.now _)
   rw [r5_Ten.l0, if_neg (by omega)]
  ·have hpp : p ≤ p ^ (2 * n) := by
    have := Nat.pow_le_pow_right hp (show 1 ≤ 2 * n by omega)
    rwa [Nat.pow_one] at this
   have hp1 : 1 ≤ p ^ (2 * n) := Nat.pow_pos hp
   have haM : a < 2 ^ M := Nat.lt_of_le_of_lt (Nat.le_mul_of_pos_right _ hp1) hM
   have hpM : p < 2 ^ M := Nat.lt_of_le_of_lt (Nat.le_trans hpp (Nat.le_mul_of_pos_left _ ha)) hM
   have la := lenD_of haM
   have lp := lenD_of hpM
   have hsq := rprod_ev (toD p) (toD p) (digs_toD _) (digs_toD _) (by omega) (by omega)
   rw [val_toD] at hsq
   have hap := rprod_ev (toD a) (toD p) (digs_toD _) (digs_toD _) (by omega) (by omega)
   rw [val_toD, val_toD] at hap
   have hw : wrap64 (Int.tdiv (n : Int) 2) = ((n / 2 : Nat) : Int) := by rw [Int.tdiv_eq_ediv_of_nonneg (by omega), wrapB _ (by omega) (by omega)]; omega
   have hm : Int.tmod (n : Int) 2 = ((n % 2 : Nat) : Int) := by rw [Int.tmod_eq_emod_of_nonneg (by omega)]; omega
   have hp2 : ∀ z, (p * p) ^ z = p ^ (2 * z) := fun z => by rw [Nat.pow_mul, Nat.pow_two]
   by_cases ho : n % 2 = 1
   ·have g := ih (n / 2) (by omega) (a * p) (p * p) (by omega) (Nat.mul_pos ha hp) (Nat.mul_pos hp hp) (by
      rw [hp2, Nat.mul_assoc, ← Nat.pow_succ']
      exact Nat.lt_of_le_of_lt (Nat.mul_le_mul_left _ (Nat.pow_le_pow_right hp (by omega))) hM)
    have e : a * p * (p * p) ^ (n / 2) = a * p ^ n := by
     rw [hp2, Nat.mul_assoc, ← Nat.pow_succ']
     congr 2
     omega
    rw [e] at g
    refine Ev.step (fun k => ?_) (Ev.bind hap (f := fun k t529 => (r1_Product.f k (toD p) (toD p)).bind fun t532 => r5_Ten.l0 k ((n / 2 : Nat) : Int) t529 t532) (Ev.bind hsq g))
    rw [r5_Ten.l0, if_pos (by omega), hm, if_pos (by rw [ho]; rfl), hw]
   ·have ho' : ¬ ((n % 2 : Nat) : Int) = 1 := by omega
    have g := ih (n / 2) (by omega) a (p * p) (by omega) ha (Nat.mul_pos hp hp) (by
      rw [hp2]
      exact Nat.lt_of_le_of_lt (Nat.mul_le_mul_left _ (Nat.pow_le_pow_right hp (by omega))) hM)
    have e : a * (p * p) ^ (n / 2) = a * p ^ n := by
     rw [hp2]
     congr 2
     omega
    rw [e] at g
    refine Ev.step (fun k => ?_) (Ev.bind hsq (f := fun k t535 => r5_Ten.l0 k ((n / 2 : Nat) : Int) (toD a) t535) g)
    rw [r5_Ten.l0, if_pos (by omega), hm, if_neg ho', hw]
theorem ten_ev (n : Nat) (hn : n ≤ 2000) : Ev (fun k => r5_Ten.f k (n : Int)) (toD (10 ^ n)) := by
 have h := ten_loop (4 * (2 * n) + 1) (by omega) n 1 10 (by omega) (by decide) (by decide) (by
  rw [Nat.one_mul]
  exact ten_lt (2 * n))
 rw [Nat.one_mul] at h
 have h1 : toD 1 = [1] := by rw [toD_pos (by decide)]; show (1 : Int) :: toD 0 = [1]; rw [toD_zero]
 have h10 : toD 10 = [10] := by rw [toD_pos (by decide)]; show (10 : Int) :: toD 0 = [10]; rw [toD_zero]
 rw [h1, h10] at h
 exact h
theorem whole_loop (s : ByteArray) (hs : AllDigits s) (hsz : s.size ≤ 1000) : ∀ d i : Nat, i + d = s.size → Ev (fun k => r5_Whole.l0 k s (toD (dval s i)) (i : Int)) (toD (dval s s.size))
 | 0, i, hi => by
  obtain rfl : i = s.size := by omega
  refine Ev.step (f := fun _ => some (toD (dval s s.size))) (fun k => ?_) (Ev.now _)
  rw [r5_Whole.l0, if_neg (by omega)]
 | d + 1, i, hi => by
  have ih := whole_loop s hs hsz d (i + 1) (by omega)
  have hb := hs i (by omega)
  have hlt : dval s i < 2 ^ (4 * i + 1) := Nat.lt_trans (dval_lt s hs i (by omega)) (ten_lt i)
  have hlt2 : dval s i * 10 < 2 ^ (4 * i + 1 + 4) := by rw [Nat.pow_add]; exact Nat.mul_lt_mul_of_lt_of_le hlt (by decide) (by decide)
  have l1 := lenD_of hlt
  have l2 := lenD_of hlt2
  have hten : Digs [(10 : Int)] := digs_one (by omega)
  have hdig : Digs [((bt s (i : Int) - 48).toNat : Int)] := digs_one (by omega)
  have hpr := rprod_ev (toD (dval s i)) [10] (digs_toD _) hten (by omega) (show 1 ≤ 400000 by decide)
  rw [val_toD, show valD [(10 : Int)] = 10 from rfl] at hpr
  have hsu := rsum_ev (toD (dval s i * 10)) [((bt s (i : Int) - 48).toNat : Int)] (digs_toD _) hdig (by omega) (show 1 ≤ 900000 by decide)
  rw [val_toD, show valD [((bt s (i : Int) - 48).toNat : Int)] = (bt s (i : Int) - 48).toNat by rw [valD, valD, Int.toNat_natCast, Nat.mul_zero, Nat.add_zero]] at hsu
  have hbt : (bt s (i : Int) - 48) % 256 = (((bt s (i : Int) - 48).toNat : Nat) : Int) := by omega
  refine Ev.step (fun k => ?_) (Ev.bind hpr (f := fun k t463 => (r1_Sum.f k t463 [((bt s (i : Int) - 48).toNat : Int)]).bind fun t469 => r5_Whole.l0 k s t469 ((i + 1 : Nat) : Int)) (Ev.bind hsu ih))
  rw [r5_Whole.l0, if_pos (by omega), hbt, wrap_succ i (by omega)]
  have q : (0 : Int) ≤ (i : Int) := Int.natCast_nonneg _
  simp only [if_pos q]
theorem whole_ev (s : ByteArray) (hs : AllDigits s) (hsz : s.size ≤ 1000) : Ev (fun k => r5_Whole.f k s) (toD (dval s s.size)) := by
 have h := whole_loop s hs hsz s.size 0 (by omega)
 have e0 : dval s 0 = 0 := rfl
 rw [e0, toD_zero] at h
 exact h
theorem sign_false : r1_Sign.f false = some 0 := rfl
theorem inf_false : r1_Infinite.f false = some ((INF : Nat) : Int) := by kernel_rfl
theorem rjoin_ev (e : Int) (j R : Nat) (hj : (j : Int) = e + 1074) (hb : j ≤ 100000) (hR : R ≤ 9007199254740992) (h2 : j = 0 ∨ 4503599627370496 ≤ R) :
  Ev (fun k => r1_Round.j4 k false e (R : Int)) ((min (j * 4503599627370496 + R) INF : Nat) : Int) := by
 have hj5 : ∀ (e' : Int) (j' R' : Nat), (j' : Int) = e' + 1074 → j' ≤ 100001 → R' < 9007199254740992 → (j' = 0 ∨ 4503599627370496 ≤ R') → Ev (fun k => r1_Round.j5 k false e' (R' : Int)) ((min (j' * 4503599627370496 + R') INF : Nat) : Int) := by
  intro e' j' R' hj' hb' hR' h2'
  refine Ev.step (f := fun _ => some ((min (j' * 4503599627370496 + R') INF : Nat) : Int)) (fun k => ?_) (Ev.now _)
  rw [r1_Round.j5]
  by_cases ho : e' > 971
  ·rw [if_pos ho, inf_false, Option.bind_some]
   unfold INF
   rw [Nat.min_eq_right (by omega)]
  ·rw [if_neg ho]
   by_cases hs : R' < 4503599627370496
   ·obtain rfl : j' = 0 := by omega
    rw [if_pos (by omega), sign_false, Option.bind_some, or_nought _ (by omega), Nat.zero_mul, Nat.zero_add]
    unfold INF
    rw [Nat.min_eq_left (by omega)]
   ·rw [if_neg (by omega), sign_false, Option.bind_some, wrapB _ (by omega) (by omega)]
    have h1 : IntKind.u64.wrap (e' + 1075) = ((j' + 1 : Nat) : Int) := by rw [show (e' + 1075) = ((j' + 1 : Nat) : Int) by omega, u64_in _ (by omega)]
    have h3 : IntKind.u64.wrap (((j' + 1 : Nat) : Int) * 4503599627370496) = (((j' + 1) * 4503599627370496 : Nat) : Int) := by rw [show (((j' + 1 : Nat) : Int) * 4503599627370496) = (((j' + 1) * 4503599627370496 : Nat) : Int) by omega, u64_in _ (by omega)]
    have h4 : IntKind.u64.wrap ((R' : Int) - 4503599627370496) = ((R' - 4503599627370496 : Nat) : Int) := by rw [show ((R' : Int) - 4503599627370496) = ((R' - 4503599627370496 : Nat) : Int) by omega, u64_in _ (by omega)]
    rw [h1, h3, h4, or_nought _ (by omega), or_frac _ _ (by omega) (by omega)]
    unfold INF
    rw [Nat.min_eq_left (by omega)]
    exact congrArg (fun z : Nat => some (z : Int)) (by omega)
 by_cases hbig : R = 9007199254740992
 ·subst hbig
  have g := hj5 (e + 1) (j + 1) 4503599627370496 (by omega) (by omega) (by decide) (.inr (by decide))
  rw [show (j + 1) * 4503599627370496 + 4503599627370496 = j * 4503599627370496 + 9007199254740992 by omega] at g
  refine Ev.step (fun k => ?_) g
  rw [r1_Round.j4, if_pos (by rfl), wrapB _ (by omega) (by omega)]
  rfl
 ·have g := hj5 e j R hj (by omega) (by omega) h2
  refine Ev.step (fun k => ?_) g
  rw [r1_Round.j4, if_neg (by omega)]
def rnd2 (y : Nat) (lost : Bool) : Nat := if 2 < y % 4 ∨ (y % 4 = 2 ∧ (lost = true ∨ y / 4 % 2 = 1)) then y / 4 + 1 else y / 4
theorem rtail_ev (y : Nat) (lost : Bool) (e : Int) (j : Nat) (hy : y < 36028797018963968) (hj : (j : Int) = e + 1074) (hb : j ≤ 100000) (h2 : j = 0 ∨ 4503599627370496 ≤ y / 4) :
  Ev (fun k => r1_Round.j2 k false e (toD y) lost) ((min (j * 4503599627370496 + rnd2 y lost) INF : Nat) : Int) := by
 have hs := small_low y (by omega)
 have hlow : Go.bits .and .u64 (y : Int) 3 = ((y % 4 : Nat) : Int) := by
  have := bits_and y 3 (by omega) (by decide)
  rw [show (3 : Nat) = 2 ^ 2 - 1 from rfl, Nat.and_two_pow_sub_one_eq_mod] at this
  exact this
 have hq : ((y : Int) / 4) = ((y / 4 : Nat) : Int) := by omega
 have hmod : Int.tmod ((y / 4 : Nat) : Int) 2 = ((y / 4 % 2 : Nat) : Int) := by rw [Int.tmod_eq_emod_of_nonneg (by omega)]; omega
 have hj3 : ∀ (z : Bool), Ev (fun k => r1_Round.j3 k false e ((y / 4 : Nat) : Int) z) ((min (j * 4503599627370496 + (if z = true then y / 4 + 1 else y / 4)) INF : Nat) : Int) := by
  intro z
  have g := rjoin_ev e j (if z = true then y / 4 + 1 else y / 4) hj hb (by split <;> omega) (by split <;> omega)
  refine Ev.step (fun k => ?_) g
  rw [r1_Round.j3]
  cases z with
  | true => rw [if_pos rfl, if_pos rfl, show (((y / 4 : Nat) : Int) + 1) = ((y / 4 + 1 : Nat) : Int) by omega, u64_in _ (by omega)]
  | false => rw [if_neg (by decide), if_neg (by decide)]
 have hgo : ∀ z : Bool, (z = true ↔ (2 < y % 4 ∨ (y % 4 = 2 ∧ (lost = true ∨ y / 4 % 2 = 1)))) → (if z = true then y / 4 + 1 else y / 4) = rnd2 y lost := by
  intro z hz
  unfold rnd2
  cases z with
  | true => rw [if_pos rfl, if_pos (hz.1 rfl)]
  | false => rw [if_neg (by decide), if_neg (fun c => by have := hz.2 c; cases this)]
 by_cases c1 : 2 < y % 4
 ·have g := hj3 true
  rw [hgo true ⟨fun _ => .inl c1, fun _ => rfl⟩] at g
  refine Ev.step (fun k => ?_) g
  rw [r1_Round.j2, hs, Option.bind_some, Option.bind_some, hlow, if_pos (by omega), hq]
 ·by_cases c2 : y % 4 = 2
  ·cases lost with
   | true =>
    have g := hj3 true
    rw [hgo true ⟨fun _ => .inr ⟨c2, .inl rfl⟩, fun _ => rfl⟩] at g
    refine Ev.step (fun k => ?_) g
    rw [r1_Round.j2, hs, Option.bind_some, Option.bind_some, hlow, if_neg (by omega), if_pos (by omega), if_pos rfl, hq]
   | false =>
    have g := hj3 (((y / 4 % 2 : Nat) : Int) == 1)
    rw [hgo _ ⟨fun h => .inr ⟨c2, .inr (by have := beq_iff_eq.1 h; omega)⟩, fun h => beq_iff_eq.2 (by
     rcases h with h | h
     ·omega
     ·rcases h.2 with h3 | h3
      ·cases h3
      ·omega)⟩] at g
    refine Ev.step (fun k => ?_) g
    rw [r1_Round.j2, hs, Option.bind_some, Option.bind_some, hlow, if_neg (by omega), if_pos (by omega), if_neg (by decide), hq, hmod]
  ·have g := hj3 false
   rw [hgo false ⟨(fun h => by cases h), (fun h => by omega)⟩] at g
   refine Ev.step (fun k => ?_) g
   rw [r1_Round.j2, hs, Option.bind_some, Option.bind_some, hlow, if_neg (by omega), if_neg (by omega), hq]
end Go.Proofs.YtflcanpajgpghaaDoor.Pure
end
section
namespace Go.Proofs.YtflcanpajgpghaaDoor.Pure
open Go.RowKit Go.Proofs.YtflcanpajgpghaaDoor.Pr Go.Proofs.YtflcanpajgpghaaDoorW.PrintWords Go.Proofs.YtflcanpajgpghaaDoorW.PrintLast Go.Proofs.YtflcanpajgpghaaDoorW.PrintMore Go.Proofs.YtflcanpajgpghaaDoor.Flo
theorem two_nearest {A B P M y R j : Nat} (hB : 0 < B) (hP : 0 < P) (hM : 0 < M) (hK : K * (M * 2 ^ 2) = 2 ^ (j + 1) * P) (hA : A * P = y * (B * M) + R) (hR : R < B * M) (h1 : y / 4 < 9007199254740992) (h2 : j = 0 ∨ 4503599627370496 ≤ y / 4) (lost : Bool) (hl : lost = true ↔ 0 < R) :
  Nearest A B (j * 4503599627370496 + rnd2 y lost) := by
 have h := cut_nearest (n := 2) hB hP hM (by decide) hK hA hR h1 h2
 have e : rnd2 y lost = if 2 ^ (2 - 1) < y % 2 ^ 2 ∨ (y % 2 ^ 2 = 2 ^ (2 - 1) ∧ (0 < R ∨ y / 2 ^ 2 % 2 = 1)) then y / 2 ^ 2 + 1 else y / 2 ^ 2 := by
  unfold rnd2
  simp only [hl]
 rw [e]
 exact h
theorem far_below {A B P M x R L : Nat} {e : Int} (hB : 0 < B) (hP : 0 < P) (hM : 0 < M) (hA : A * P = x * (B * M) + R) (hR : R < B * M) (hx : x < 2 ^ L) (he : L + e < -1100)
  (hK : ∀ n j : Nat, (j : Int) = e + n + 1074 → K * (M * 2 ^ n) = 2 ^ (j + 1) * P) : Nearest A B 0 := by
 refine zero_nearest ?_
 obtain ⟨n, hn⟩ : ∃ n : Nat, (n : Int) = -1074 - e := ⟨(-1074 - e).toNat, by omega⟩
 have hKK := hK n 0 (by omega)
 rw [Nat.zero_add, Nat.pow_one] at hKK
 have c1 : A * P < 2 ^ L * (B * M) := by
  have := Nat.mul_le_mul_right (B * M) (show x + 1 ≤ 2 ^ L from hx)
  rw [Nat.add_mul, Nat.one_mul] at this
  omega
 have c2 : A * P * (K * 2 ^ n) < 2 ^ L * (B * M) * (K * 2 ^ n) := Nat.mul_lt_mul_of_pos_right c1 (Nat.mul_pos K_pos (Nat.two_pow_pos n))
 have c3 : 2 ^ L * (B * M) * (K * 2 ^ n) = 2 ^ (L + 1) * B * P := by
  have : 2 ^ L * (B * M) * (K * 2 ^ n) = 2 ^ L * B * (K * (M * 2 ^ n)) := by simp only [Nat.mul_assoc, Nat.mul_comm, Nat.mul_left_comm]
  rw [this, hKK, Nat.pow_succ]
  simp only [Nat.mul_assoc, Nat.mul_comm, Nat.mul_left_comm]
 have c4 : A * P * (K * 2 ^ n) = A * K * 2 ^ n * P := by simp only [Nat.mul_assoc, Nat.mul_comm, Nat.mul_left_comm]
 rw [c3, c4] at c2
 have c5 := Nat.lt_of_mul_lt_mul_right c2
 have c6 : A * K * 2 ^ (L + 1) ≤ A * K * 2 ^ n := Nat.mul_le_mul_left _ (Nat.pow_le_pow_right (by decide) (by omega))
 have c7 : A * K * 2 ^ (L + 1) < 2 ^ (L + 1) * B := Nat.lt_of_le_of_lt c6 c5
 rw [Nat.mul_comm _ (2 ^ (L + 1))] at c7
 exact Nat.lt_of_mul_lt_mul_left c7
theorem round_ev {A B P M x R : Nat} {e : Int} (m : Nat) (hm : m ≤ 20000) (hB : 0 < B) (hP : 0 < P) (hM : 0 < M) (hA : A * P = x * (B * M) + R) (hR : R < B * M) (hx : x ≠ 0) (hbig : R = 0 ∨ 2 ^ 60 ≤ x) (he : -8000 ≤ e) (he2 : e ≤ 8000) (hxl : x < 2 ^ m)
  (hK : ∀ n j : Nat, (j : Int) = e + n + 1074 → K * (M * 2 ^ n) = 2 ^ (j + 1) * P) :
  ∃ v, Nearest A B v ∧ Ev (fun k => r1_Round.f k false e (toD x) (decide (0 < R))) ((min v INF : Nat) : Int) := by
 have hll := lenD_of hxl
 obtain ⟨L, hL1, hL2, hL3⟩ := rlen_ev (toD x) (digs_toD x) (by omega)
 rw [val_toD] at hL2
 obtain ⟨g1, g2, g3⟩ := hL2.2 hx
 have hL20 := lenIs_le hL2 hxl
 have hstart : ∀ r : Int, Ev (fun k => r1_Round.j0 k false e (toD x) (decide (0 < R)) (L : Int) (decide ((wrap64 ((L : Int) + e)) < (-1100)))) r → Ev (fun k => r1_Round.f k false e (toD x) (decide (0 < R))) r := by
  intro r hr
  refine Ev.congr (fun k => ?_) (Ev.bind hL3 (f := fun k t505 => if t505 = 0 then (if decide (0 < R) = true then (r1_Round.j0 k false e (toD x) (decide (0 < R)) t505 (decide ((wrap64 (t505 + e)) < (-1100)))) else (r1_Round.j0 k false e (toD x) (decide (0 < R)) t505 true)) else (r1_Round.j0 k false e (toD x) (decide (0 < R)) t505 (decide ((wrap64 (t505 + e)) < (-1100))))) (Ev.congr (fun k => if_neg (by omega)) hr))
  rfl
 have hwL : wrap64 ((L : Int) + e) = (L : Int) + e := wrapB _ (by omega) (by omega)
 rw [hwL] at hstart
 by_cases hlow : (L : Int) + e < -1100
 ·refine ⟨0, far_below hB hP hM hA hR g3 hlow hK, hstart _ ?_⟩
  refine Ev.step (f := fun _ => some ((min 0 INF : Nat) : Int)) (fun k => ?_) (Ev.now _)
  rw [r1_Round.j0, if_pos (decide_eq_true hlow), sign_false, Option.bind_some, Nat.zero_min]
  rfl
 ·
  obtain ⟨drop, hd1, hd2, hd3⟩ : ∃ drop : Int, (L : Int) - 53 ≤ drop ∧ -1074 - e ≤ drop ∧ (drop = (L : Int) - 53 ∨ drop = -1074 - e) := by
   by_cases h : -1074 - e ≤ (L : Int) - 53
   ·exact ⟨(L : Int) - 53, by omega, h, .inl rfl⟩
   ·exact ⟨-1074 - e, by omega, by omega, .inr rfl⟩
  obtain ⟨j, hj⟩ : ∃ j : Nat, (j : Int) = e + drop + 1074 := ⟨(e + drop + 1074).toNat, by omega⟩
  obtain ⟨y, lost, hy, hj0, hnear, hrun⟩ : ∃ (y : Nat) (lost : Bool), y < 36028797018963968 ∧ (j = 0 ∨ 4503599627370496 ≤ y / 4) ∧ Nearest A B (j * 4503599627370496 + rnd2 y lost) ∧
    (∀ r : Int, Ev (fun k => r1_Round.j2 k false (e + drop) (toD y) lost) r → Ev (fun k => r1_Round.j1 k false e (toD x) (decide (0 < R)) drop) r) := by
   have hwe : wrap64 (e + drop) = e + drop := wrapB _ (by omega) (by omega)
   by_cases h2 : 2 ≤ drop
   ·obtain ⟨d, hd⟩ : ∃ d : Nat, (d : Int) = drop - 2 := ⟨(drop - 2).toNat, by omega⟩
    have hBM : 0 < B * M := Nat.mul_pos hB hM
    have hdm := Nat.div_add_mod x (2 ^ d)
    have hml := Nat.mod_lt x (Nat.two_pow_pos d)
    have hylt : x / 2 ^ d < 36028797018963968 := by
     rw [Nat.div_lt_iff_lt_mul (Nat.two_pow_pos d), show (36028797018963968 : Nat) = 2 ^ 55 from rfl, ← Nat.pow_add]
     exact Nat.lt_of_lt_of_le g3 (Nat.pow_le_pow_right (by decide) (by omega))
    have hge : j = 0 ∨ 4503599627370496 ≤ x / 2 ^ d / 4 := by
     rcases hd3 with h | h
     ·refine .inr ?_
      have : 2 ^ 54 ≤ x / 2 ^ d := by
       rw [Nat.le_div_iff_mul_le (Nat.two_pow_pos d), ← Nat.pow_add]
       exact Nat.le_trans (Nat.pow_le_pow_right (by decide) (by omega)) g2
      omega
     ·exact .inl (by omega)
    have hA' : A * P = x / 2 ^ d * (B * (M * 2 ^ d)) + (x % 2 ^ d * (B * M) + R) := by
     rw [hA, ← Nat.add_assoc]
     congr 1
     rw [← Nat.mul_assoc B M, show x / 2 ^ d * (B * M * 2 ^ d) = 2 ^ d * (x / 2 ^ d) * (B * M) by simp only [Nat.mul_assoc, Nat.mul_comm, Nat.mul_left_comm], ← Nat.add_mul, hdm]
    have hR' : x % 2 ^ d * (B * M) + R < B * (M * 2 ^ d) := by
     have h1 : (x % 2 ^ d + 1) * (B * M) ≤ 2 ^ d * (B * M) := Nat.mul_le_mul_right _ hml
     rw [Nat.add_mul, Nat.one_mul] at h1
     rw [← Nat.mul_assoc B M, Nat.mul_comm (B * M)]
     omega
    have hK' : K * (M * 2 ^ d * 2 ^ 2) = 2 ^ (j + 1) * P := by
     rw [Nat.mul_assoc M, ← Nat.pow_add]
     exact hK (d + 2) j (by omega)
    have hlost : (decide (0 < R) || decide (x % 2 ^ d ≠ 0)) = true ↔ 0 < x % 2 ^ d * (B * M) + R := by
     rw [Bool.or_eq_true, decide_eq_true_iff, decide_eq_true_iff]
     constructor
     ·rintro (h | h)
      ·omega
      ·have := Nat.mul_pos (Nat.pos_of_ne_zero h) hBM
       omega
     ·intro h
      by_cases h0 : 0 < R
      ·exact .inl h0
      ·refine .inr (fun hz => ?_)
       rw [hz, Nat.zero_mul] at h
       omega
    refine ⟨x / 2 ^ d, (decide (0 < R) || decide (x % 2 ^ d ≠ 0)), hylt, hge, two_nearest hB hP (Nat.mul_pos hM (Nat.two_pow_pos d)) hK' hA' hR' (by omega) hge _ hlost, fun r hr => ?_⟩
    have hdn := rdown_ev (toD x) (digs_toD x) (by omega) d (by omega)
    rw [val_toD] at hdn
    refine Ev.step (fun k => ?_) (Ev.bind hdn (f := fun k bt511 => if decide (0 < R) = true then (r1_Round.j2 k false (e + drop) bt511.1 true) else (r1_Round.j2 k false (e + drop) bt511.1 bt511.2)) ?_)
    ·rw [r1_Round.j1, if_pos h2, wrapB (drop - 2) (by omega) (by omega), ← hd, hwe]
    ·by_cases h0 : 0 < R
     ·rw [decide_eq_true h0, Bool.true_or] at hr
      simp only [decide_eq_true h0, if_true]
      exact hr
     ·rw [decide_eq_false h0, Bool.false_or] at hr
      simp only [decide_eq_false h0, Bool.false_eq_true, if_false]
      exact hr
   ·
    have hR0 : R = 0 := by
     rcases hbig with h | h
     ·exact h
     ·exfalso
      have : 2 ^ 60 < 2 ^ L := Nat.lt_of_le_of_lt h g3
      have := (Nat.pow_lt_pow_iff_right (by decide : 1 < 2)).1 this
      omega
    subst hR0
    obtain ⟨s, hs⟩ : ∃ s : Nat, (s : Int) = 2 - drop := ⟨(2 - drop).toNat, by omega⟩
    have hylt : x * 2 ^ s < 36028797018963968 := by
     have h1 : x * 2 ^ s < 2 ^ L * 2 ^ s := Nat.mul_lt_mul_of_pos_right g3 (Nat.two_pow_pos s)
     rw [← Nat.pow_add] at h1
     rw [show (36028797018963968 : Nat) = 2 ^ 55 from rfl]
     exact Nat.lt_of_lt_of_le h1 (Nat.pow_le_pow_right (by decide) (by omega))
    have hge : j = 0 ∨ 4503599627370496 ≤ x * 2 ^ s / 4 := by
     rcases hd3 with h | h
     ·refine .inr ?_
      have : 2 ^ 54 ≤ x * 2 ^ s := by
       have h1 : 2 ^ (L - 1) * 2 ^ s ≤ x * 2 ^ s := Nat.mul_le_mul_right _ g2
       rw [← Nat.pow_add] at h1
       exact Nat.le_trans (Nat.pow_le_pow_right (by decide) (by omega)) h1
      omega
     ·exact .inl (by omega)
    have hA' : A * (P * 2 ^ s) = x * 2 ^ s * (B * M) + 0 := by
     rw [← Nat.mul_assoc, hA, Nat.add_zero, Nat.add_zero]
     simp only [Nat.mul_assoc, Nat.mul_comm, Nat.mul_left_comm]
    have hK' : K * (M * 2 ^ 2) = 2 ^ (j + 1) * (P * 2 ^ s) := by
     have h1 := hK 2 (j + s) (by omega)
     rw [h1, show j + s + 1 = j + 1 + s by omega, Nat.pow_add]
     simp only [Nat.mul_assoc, Nat.mul_comm, Nat.mul_left_comm]
    refine ⟨x * 2 ^ s, false, hylt, hge, two_nearest hB (Nat.mul_pos hP (Nat.two_pow_pos s)) hM hK' hA' hR (by omega) hge _ ⟨(fun h => by cases h), (fun h => by omega)⟩, fun r hr => ?_⟩
    have hup := rup_ev (toD x) (digs_toD x) s (by omega)
    rw [val_toD] at hup
    refine Ev.step (fun k => ?_) (Ev.bind hup (f := fun k t515 => r1_Round.j2 k false (e + drop) t515 false) hr)
    rw [r1_Round.j1, if_neg (by omega), wrapB (2 - drop) (by omega) (by omega), ← hs, hwe]
    rfl
  refine ⟨_, hnear, hstart _ ?_⟩
  by_cases hfar : (L : Int) + e > 1100
  ·have hinf : INF ≤ j * 4503599627370496 + rnd2 y lost := by
    unfold INF
    omega
   rw [Nat.min_eq_right hinf]
   refine Ev.step (f := fun _ => some ((INF : Nat) : Int)) (fun k => ?_) (Ev.now _)
   rw [r1_Round.j0, if_neg (fun c => hlow (of_decide_eq_true c)), hwL, if_pos hfar, inf_false, Option.bind_some]
  ·have ht := hrun _ (rtail_ev y lost (e + drop) j hy (by omega) (by omega) hj0)
   have hw1 : wrap64 ((-1074) - e) = -1074 - e := wrapB _ (by omega) (by omega)
   have hw2 : wrap64 ((L : Int) - 53) = (L : Int) - 53 := wrapB _ (by omega) (by omega)
   refine Ev.step (fun k => ?_) ht
   rw [r1_Round.j0, if_neg (fun c => hlow (of_decide_eq_true c)), hwL, if_neg hfar, hw1, hw2]
   by_cases hc : -1074 - e > (L : Int) - 53
   ·rw [if_pos hc, show -1074 - e = drop by omega]
   ·rw [if_neg hc, show (L : Int) - 53 = drop by omega]
end Go.Proofs.YtflcanpajgpghaaDoor.Pure
end
section
namespace Go.Proofs.YtflcanpajgpghaaDoor.Pure
open Go.RowKit Go.Proofs.YtflcanpajgpghaaDoor.Pr Go.Proofs.YtflcanpajgpghaaDoorW.PrintWords Go.Proofs.YtflcanpajgpghaaDoorW.PrintLast Go.Proofs.YtflcanpajgpghaaDoorW.PrintMore Go.Proofs.YtflcanpajgpghaaDoor.Flo
theorem len_pos_toD (r : Nat) : decide (((toD r).length : Int) > 0) = decide (0 < r) := by
 by_cases h : r = 0
 ·subst h; rw [toD_zero]; rfl
 ·rw [toD_pos h, List.length_cons, decide_eq_true (by omega), decide_eq_true (by omega)]
theorem quot_big {D t ld lt u : Nat} (hD : D ≠ 0) (ht : t ≠ 0) (hd : LenIs D ld) (hl : LenIs t lt) (h : lt + 61 ≤ ld + u) : 2 ^ 60 ≤ D * 2 ^ u / t := by
 obtain ⟨a1, a2, a3⟩ := hd.2 hD
 obtain ⟨b1, b2, b3⟩ := hl.2 ht
 rw [Nat.le_div_iff_mul_le (Nat.pos_of_ne_zero ht)]
 have h1 : 2 ^ 60 * t ≤ 2 ^ 60 * 2 ^ lt := Nat.mul_le_mul_left _ (Nat.le_of_lt b3)
 rw [← Nat.pow_add] at h1
 have h2 : 2 ^ (60 + lt) ≤ 2 ^ (ld - 1 + u) := Nat.pow_le_pow_right (by decide) (by omega)
 rw [Nat.pow_add 2 (ld - 1)] at h2
 have h3 : 2 ^ (ld - 1) * 2 ^ u ≤ D * 2 ^ u := Nat.mul_le_mul_right _ a2
 omega
theorem near_ev (s : ByteArray) (e : Int) (hs : AllDigits s) (hsz : s.size ≤ 400) (he : -100000 ≤ e) (he2 : e ≤ 100000) : ∃ w, ReadAs (dval s s.size) e w ∧ Ev (fun k => r5_Near.f k s e) ((w : Nat) : Int) := by
 have hwh := whole_ev s hs (by omega)
 have hD1 : dval s s.size < 2 ^ (4 * s.size + 1) := Nat.lt_trans (dval_lt s hs s.size (Nat.le_refl _)) (ten_lt s.size)
 obtain ⟨m, hm⟩ : ∃ m, m = 4 * s.size + 1 := ⟨_, rfl⟩
 have hD : dval s s.size < 2 ^ m := by rw [hm]; exact hD1
 have hm2 : m ≤ 1601 := by omega
 clear hm
 obtain ⟨D, hDD⟩ : ∃ D, D = dval s s.size := ⟨_, rfl⟩
 rw [← hDD] at hwh hD ⊢
 clear hD1 hDD
 have hlD := lenD_of hD
 have hgo : ∀ w : Int, Ev (fun k => if ((toD D).length : Int) = 0 then (r5_Near.j0 k (toD D) true s e) else (r5_Near.j0 k (toD D) (decide (e < (-1000))) s e)) w → Ev (fun k => r5_Near.f k s e) w := by
  intro w h
  exact Ev.bind hwh (f := fun k t584 => if (t584.length : Int) = 0 then (r5_Near.j0 k t584 true s e) else (r5_Near.j0 k t584 (decide (e < (-1000))) s e)) h
 unfold ReadAs
 by_cases h1 : D = 0 ∨ e < -1000
 ·refine ⟨0, by rw [if_pos h1], hgo _ ?_⟩
  have hz : Ev (fun k => r5_Near.j0 k (toD D) true s e) ((0 : Nat) : Int) := Ev.step (f := fun _ => some 0) (fun k => by rw [r5_Near.j0, if_pos rfl]) (Ev.now _)
  by_cases h0 : ((toD D).length : Int) = 0
  ·simp only [if_pos h0]; exact hz
  ·have hD0 : D ≠ 0 := by intro h; rw [h, toD_zero] at h0; exact h0 rfl
   have he3 : e < -1000 := h1.resolve_left hD0
   simp only [if_neg h0, decide_eq_true he3]
   exact hz
 ·have hD0 : D ≠ 0 := fun h => h1 (.inl h)
  have he3 : ¬ e < -1000 := fun h => h1 (.inr h)
  have hlen : ¬ ((toD D).length : Int) = 0 := by rw [toD_pos hD0, List.length_cons]; omega
  simp only [if_neg hlen, decide_eq_false he3] at hgo
  by_cases h2 : 400 < e
  ·refine ⟨INF, by rw [if_neg h1, if_pos h2], hgo _ ?_⟩
   refine Ev.step (f := fun _ => some ((INF : Nat) : Int)) (fun k => ?_) (Ev.now _)
   rw [r5_Near.j0, if_neg (by decide), if_pos h2, inf_false, Option.bind_some]
  ·by_cases h3 : e ≥ 0
   ·obtain ⟨n, rfl⟩ := Int.eq_ofNat_of_zero_le h3
    have hten := ten_ev n (by omega)
    have h10 := ten_lt n
    have hlt := lenD_of h10
    have hpr := rprod_ev (toD D) (toD (10 ^ n)) (digs_toD _) (digs_toD _) (by omega) (by omega)
    rw [val_toD, val_toD] at hpr
    have hx : D * 10 ^ n < 2 ^ (m + (4 * n + 1)) := by
     have : D * 10 ^ n < 2 ^ m * 2 ^ (4 * n + 1) := Nat.mul_lt_mul'' hD h10
     rwa [← Nat.pow_add] at this
    obtain ⟨v, hv, hve⟩ := round_ev (m + (4 * n + 1)) (by omega) (A := D * 10 ^ n) (B := 1) (P := 1) (M := 1) (x := D * 10 ^ n) (R := 0) (e := 0) (by decide) (by decide) (by decide) (by omega) (by decide) (Nat.mul_ne_zero hD0 (Nat.ne_of_gt (Nat.pow_pos (by decide)))) (.inl rfl) (by decide) (by decide) hx
     (fun n' j hj => by have := K_split 0 0 0 n' j hj (by decide); rw [Nat.pow_zero] at this; exact this)
    refine ⟨min v INF, ?_, hgo _ ?_⟩
    ·rw [if_neg h1, if_neg h2]
     refine ⟨v, ?_, rfl⟩
     unfold upN loN
     rw [show (-(n : Int)).toNat = 0 by omega, Nat.pow_zero, Int.toNat_natCast]
     exact hv
    ·have hve : Ev (fun k => r1_Round.f k false 0 (toD (D * 10 ^ n)) false) ((min v INF : Nat) : Int) := hve
     refine Ev.step (fun k => ?_) (Ev.bind hten (f := fun k t588 => (r1_Product.f k (toD D) t588).bind fun t591 => (r1_Round.f k false 0 t591 false).bind fun t594 => some t594) (Ev.bind hpr (Ev.bind hve (Ev.now _))))
     rw [r5_Near.j0, if_neg (by decide), if_neg h2, if_pos h3]
   ·obtain ⟨n, hn⟩ := Int.eq_ofNat_of_zero_le (show 0 ≤ -e by omega)
    have hten := ten_ev n (by omega)
    have h10 := ten_lt n
    have hlt := lenD_of h10
    have ht0 : 10 ^ n ≠ 0 := Nat.ne_of_gt (Nat.pow_pos (by decide))
    obtain ⟨lt, t1, t2, t3⟩ := rlen_ev (toD (10 ^ n)) (digs_toD _) (by omega)
    obtain ⟨ld, d1, d2, d3⟩ := rlen_ev (toD D) (digs_toD _) (by omega)
    rw [val_toD] at t2 d2
    have hlt2 := lenIs_le t2 h10
    have hld2 := lenIs_le d2 hD
    have hrest : ∀ u : Nat, lt + 61 ≤ ld + u → u ≤ 6000 → ∃ v, Nearest D (10 ^ n) v ∧ Ev (fun k => (r1_Up.f k (toD D) (u : Int)).bind fun t610 => ((r1_Divide.f k t610 (toD (10 ^ n))).bind fun bt613 => ((r1_Round.f k false (-(u : Int)) bt613.1 (decide ((bt613.2.length : Int) > 0))).bind fun t619 => (some t619)))) ((min v INF : Nat) : Int) := by
     intro u hu hu2
     have hup := rup_ev (toD D) (digs_toD _) u (by omega)
     rw [val_toD] at hup
     have hxu : D * 2 ^ u < 2 ^ (m + u) := by rw [Nat.pow_add]; exact Nat.mul_lt_mul_of_pos_right hD (Nat.two_pow_pos u)
     have hlu := lenD_of hxu
     have hdv := rdiv_ev (toD (D * 2 ^ u)) (toD (10 ^ n)) (digs_toD _) (digs_toD _) (by rw [val_toD]; exact ht0) (by omega) (by omega)
     rw [val_toD, val_toD] at hdv
     have hq := quot_big hD0 ht0 d2 t2 hu
     obtain ⟨v, hv, hve⟩ := round_ev (m + u) (by omega) (A := D) (B := 10 ^ n) (P := 2 ^ u) (M := 1) (x := D * 2 ^ u / 10 ^ n) (R := D * 2 ^ u % 10 ^ n) (e := -(u : Int)) (Nat.pos_of_ne_zero ht0) (Nat.two_pow_pos u) (by decide)
      (by rw [Nat.mul_one, Nat.mul_comm (D * 2 ^ u / 10 ^ n)]; exact (Nat.div_add_mod ..).symm) (by rw [Nat.mul_one]; exact Nat.mod_lt _ (Nat.pos_of_ne_zero ht0)) (by
       have : 0 < 2 ^ 60 := Nat.two_pow_pos 60
       omega) (.inr hq) (by omega) (by omega) (Nat.lt_of_le_of_lt (Nat.div_le_self ..) hxu)
      (fun n' j hj => by have := K_split (-(u : Int)) u 0 n' j hj (by omega); rw [Nat.pow_zero] at this; exact this)
     refine ⟨v, hv, ?_⟩
     rw [← len_pos_toD] at hve
     exact Ev.bind hup (Ev.bind hdv (f := fun k bt613 => (r1_Round.f k false (-(u : Int)) bt613.1 (decide ((bt613.2.length : Int) > 0))).bind fun t619 => (some t619)) (Ev.bind hve (Ev.now _)))
    have hw1 : wrap64 ((lt : Int) - (ld : Int)) = (lt : Int) - ld := wrapB _ (by omega) (by omega)
    have hw2 : wrap64 ((lt : Int) - (ld : Int) + 70) = (lt : Int) - ld + 70 := wrapB _ (by omega) (by omega)
    have hw0 : wrap64 (-e) = (n : Int) := by rw [wrapB _ (by omega) (by omega)]; exact hn
    have hread : ∀ v, Nearest D (10 ^ n) v → (if D = 0 ∨ e < -1000 then min v INF = 0 else if 400 < e then min v INF = INF else ∃ v', Nearest (upN D e) (loN e) v' ∧ min v INF = min v' INF) := by
     intro v hv
     rw [if_neg h1, if_neg h2]
     refine ⟨v, ?_, rfl⟩
     unfold upN loN
     rw [show e.toNat = 0 by omega, show (-e).toNat = n by omega, Nat.pow_zero, Nat.mul_one]
     exact hv
    by_cases hneg : (lt : Int) - ld + 70 < 0
    ·obtain ⟨v, hv, hve⟩ := hrest 0 (by omega) (by omega)
     refine ⟨min v INF, hread v hv, hgo _ ?_⟩
     refine Ev.step (fun k => ?_) (Ev.bind hten (f := fun k t595 => (r1_Len.f k t595).bind fun t598 => (r1_Len.f k (toD D)).bind fun t599 => (if (wrap64 ((wrap64 (t598 - t599)) + 70)) < 0 then ((r1_Up.f k (toD D) 0).bind fun t600 => ((r1_Divide.f k t600 t595).bind fun bt603 => ((r1_Round.f k false 0 bt603.1 (decide ((bt603.2.length : Int) > 0))).bind fun t609 => (some t609)))) else ((r1_Up.f k (toD D) (wrap64 ((wrap64 (t598 - t599)) + 70))).bind fun t610 => ((r1_Divide.f k t610 t595).bind fun bt613 => ((r1_Round.f k false (wrap64 (-(wrap64 ((wrap64 (t598 - t599)) + 70)))) bt613.1 (decide ((bt613.2.length : Int) > 0))).bind fun t619 => (some t619))))))
      (Ev.bind t3 (Ev.bind d3 (Ev.congr (fun k => by rw [hw1, hw2, if_pos hneg]; rfl) hve))))
     rw [r5_Near.j0, if_neg (by decide), if_neg h2, if_neg h3, hw0]
    ·obtain ⟨u, hu⟩ := Int.eq_ofNat_of_zero_le (show 0 ≤ (lt : Int) - ld + 70 by omega)
     obtain ⟨v, hv, hve⟩ := hrest u (by omega) (by omega)
     have hw3 : wrap64 (-((lt : Int) - ld + 70)) = -(u : Int) := by rw [wrapB _ (by omega) (by omega), hu]
     refine ⟨min v INF, hread v hv, hgo _ ?_⟩
     refine Ev.step (fun k => ?_) (Ev.bind hten (f := fun k t595 => (r1_Len.f k t595).bind fun t598 => (r1_Len.f k (toD D)).bind fun t599 => (if (wrap64 ((wrap64 (t598 - t599)) + 70)) < 0 then ((r1_Up.f k (toD D) 0).bind fun t600 => ((r1_Divide.f k t600 t595).bind fun bt603 => ((r1_Round.f k false 0 bt603.1 (decide ((bt603.2.length : Int) > 0))).bind fun t609 => (some t609)))) else ((r1_Up.f k (toD D) (wrap64 ((wrap64 (t598 - t599)) + 70))).bind fun t610 => ((r1_Divide.f k t610 t595).bind fun bt613 => ((r1_Round.f k false (wrap64 (-(wrap64 ((wrap64 (t598 - t599)) + 70)))) bt613.1 (decide ((bt613.2.length : Int) > 0))).bind fun t619 => (some t619))))))
      (Ev.bind t3 (Ev.bind d3 (Ev.congr (fun k => by rw [hw1, hw2, if_neg hneg, hw3, hu]) hve))))
     rw [r5_Near.j0, if_neg (by decide), if_neg h2, if_neg h3, hw0]
end Go.Proofs.YtflcanpajgpghaaDoor.Pure
end
section
namespace Go.Proofs.YtflcanpajgpghaaDoor.Pure
open Go.RowKit Go.Proofs.YtflcanpajgpghaaDoor.Pr Go.Proofs.YtflcanpajgpghaaDoorW.PrintWords Go.Proofs.YtflcanpajgpghaaDoorW.PrintLast Go.Proofs.YtflcanpajgpghaaDoorW.PrintMore Go.Proofs.YtflcanpajgpghaaDoor.Flo
theorem app_assoc (a b c : ByteArray) : a ++ b ++ c = a ++ (b ++ c) := ba_ext (by simp only [bytes_append, List.append_assoc])
theorem cut_dot (s f : ByteArray) (hs : AllDigits s) (hs0 : s.size ≠ 0) (hf : AllDigits f) (hf0 : f.size ≠ 0) (hsz : s.size + f.size ≤ 1000) (x : Bool) :
  Ev (fun k => dec_cut.f k (((s ++ (⟨#[46]⟩ : ByteArray)) ++ f) ++ (if x = true then (⟨#[101, 48]⟩ : ByteArray) else ⟨#[]⟩))) (s ++ f, -(f.size : Int), true) := by
 obtain ⟨p, hp⟩ : ∃ p, p = (if x = true then (⟨#[101, 48]⟩ : ByteArray) else ⟨#[]⟩) := ⟨_, rfl⟩
 rw [← hp, app_assoc, app_assoc]
 obtain ⟨S, hS⟩ : ∃ S, S = s ++ ((⟨#[46]⟩ : ByteArray) ++ (f ++ p)) := ⟨_, rfl⟩
 rw [← hS]
 have hdot : (⟨#[46]⟩ : ByteArray).size = 1 := rfl
 have hpsz : p.size = if x = true then 2 else 0 := by rw [hp]; cases x <;> rfl
 have hSs : S.size = s.size + (1 + (f.size + p.size)) := by rw [hS, app_size, app_size, app_size, hdot]
 have hps : p.size ≤ 2 := by rw [hpsz]; cases x <;> simp
 have b1 : ∀ i : Nat, i < s.size → bt S (i : Int) = bt s (i : Int) := fun i hi => by rw [hS, bt_app, if_pos hi]
 have b2 : bt S (s.size : Int) = 46 := by
  rw [hS, bt_app, if_neg (by omega), Nat.sub_self, bt_app, if_pos (by rw [hdot]; omega)]
  rfl
 have b3 : ∀ i : Nat, i < f.size → bt S ((s.size + 1 + i : Nat) : Int) = bt f (i : Int) := fun i hi => by
  rw [hS, bt_app, if_neg (by omega), bt_app, if_neg (by rw [hdot]; omega), bt_app, hdot, if_pos (by omega)]
  congr 2
  omega
 have b4 : ∀ i : Nat, bt S ((s.size + 1 + f.size + i : Nat) : Int) = bt p (i : Int) := fun i => by
  rw [hS, bt_app, if_neg (by omega), bt_app, if_neg (by rw [hdot]; omega), bt_app, hdot, if_neg (by omega)]
  congr 2
  omega
 have hDE : DE S 0 s.size := by
  refine ⟨Nat.zero_le _, by omega, fun t _ ht => ⟨by omega, ?_⟩, fun c => ?_⟩
  ·rw [b1 t ht]; exact hs t ht
  ·have := c.2.1; rw [b2] at this; omega
 have b40 := b4 0
 rw [Nat.add_zero] at b40
 have hDE2 : DE S (s.size + 1) (s.size + 1 + f.size) := by
  refine ⟨by omega, by omega, fun t h1 h2 => ⟨by omega, ?_⟩, fun c => ?_⟩
  ·obtain ⟨i, rfl⟩ := Nat.exists_eq_add_of_le h1
   rw [b3 i (by omega)]
   exact hf i (by omega)
  ·have c1 := c.1
   have c2 := c.2.2
   cases x with
   | true =>
    rw [b40, hp] at c2
    exact absurd c2 (by decide)
   | false =>
    rw [show p.size = 0 from hpsz] at hSs
    omega
 have e1 : S.extract 0 s.size = s := by rw [hS]; exact ext_app _ _
 have e2 : S.extract (s.size + 1) (s.size + 1 + f.size) = f := by
  refine ba_ext ?_
  rw [bytes_extract, hS, bytes_append, bytes_append, bytes_append, ← List.append_assoc, ← List.append_assoc, List.take_left' (by rw [List.length_append, List.length_append, bytes_length, bytes_length, bytes_length, hdot]), List.drop_left' (by rw [List.length_append, bytes_length, bytes_length, hdot])]
 refine cut_ev S s.size (s.size + 1 + f.size) (by omega) hDE _ (fun h => absurd h hs0) (fun _ _ _ => ⟨hDE2, fun h => by omega, fun _ => ?_⟩) (fun _ h => absurd ⟨by omega, b2⟩ h)
 rw [e1, e2, show s.size + 1 + f.size - s.size - 1 = f.size by omega]
 cases x with
 | false =>
  rw [show p.size = 0 from hpsz] at hSs
  exact tail_ev S (s.size + 1 + f.size) (by omega) (by omega) _ _ _ (fun _ => rfl) (fun h => by omega) (fun h => by omega) (fun h => by omega) (fun h => by omega)
 | true =>
  rw [show p.size = 2 from hpsz] at hSs
  have b41 := b4 1
  have e101 : bt S ((s.size + 1 + f.size : Nat) : Int) = 101 := by rw [b40, hp]; rfl
  have e48 : bt S ((s.size + 1 + f.size + 1 : Nat) : Int) = 48 := by rw [b41, hp]; rfl
  have hDE3 : DE S (s.size + 1 + f.size + 1) S.size := by
   refine ⟨by omega, Nat.le_refl _, fun t h1 h2 => ⟨h2, ?_⟩, fun c => by have := c.1; omega⟩
   obtain rfl : t = s.size + 1 + f.size + 1 := by omega
   rw [e48]
   decide
  have hx := exp_ev S (s.size + 1 + f.size + 1) S.size (by omega) (by omega) 1 (-(f.size : Int)) (s ++ f) (.inl rfl) (by omega) hDE3
  rw [if_neg (by omega)] at hx
  have hef : efrom S (s.size + 1 + f.size + 1) = 0 := by
   unfold efrom
   rw [show S.size - (s.size + 1 + f.size + 1) = 1 by omega, efold, efold, e48]
   rfl
  rw [hef, show (-(f.size : Int) + 1 * ((0 : Nat) : Int)) = -(f.size : Int) by omega] at hx
  refine tail_ev S (s.size + 1 + f.size) (by omega) (by omega) _ _ _ (fun h => by omega) (fun _ h => absurd e101 h) (fun _ _ _ h => ?_) (fun _ _ _ h => ?_) (fun _ _ _ => hx)
  ·rw [e48] at h; exact absurd h (by decide)
  ·rw [e48] at h; exact absurd h (by decide)
theorem nought_one : (⟨#[48]⟩ : ByteArray) = strOfNums [((48 : Int))] := rfl
def zer (t : ByteArray) : Nat → ByteArray
 | 0 => t
 | m + 1 => zer t m ++ (⟨#[48]⟩ : ByteArray)
theorem zer_size (t : ByteArray) : ∀ m, (zer t m).size = t.size + m
 | 0 => rfl
 | m + 1 => by rw [zer, app_size, zer_size t m]; rfl
theorem zer_digits {t : ByteArray} (h : AllDigits t) : ∀ m, AllDigits (zer t m)
 | 0 => h
 | m + 1 => alld_app (zer_digits h m) (by rw [nought_one]; exact alld_one (by decide) (by decide))
theorem zer_val (s t : ByteArray) : ∀ m, dval (s ++ zer t m) (s ++ zer t m).size = dval (s ++ t) (s ++ t).size * 10 ^ m
 | 0 => by rw [Nat.pow_zero, Nat.mul_one]; rfl
 | m + 1 => by
  rw [zer, ← app_assoc, nought_one, dval_one _ _ (by decide) (by decide), zer_val s t m, Nat.pow_succ, Nat.mul_assoc]
  rfl
theorem app_empty (a : ByteArray) : a ++ (⟨#[]⟩ : ByteArray) = a := ba_ext (by rw [bytes_append]; exact List.append_nil _)
theorem noughts_end (s t : ByteArray) (hs : AllDigits s) (hs0 : s.size ≠ 0) (hs1 : s.size ≤ 41) (ht : AllDigits t) (ht0 : t.size ≠ 0) (ht1 : t.size ≤ 41) (n : Nat) (hn : n ≤ 255) : Ev (fun k => minstrellaw05_DecNoughts.j3 k (n : Int) s t) true := by
 have hdot : (⟨#[46]⟩ : ByteArray).size = 1 := rfl
 have alln : ∀ m, AllDigits (s ++ zer t m) := fun m => alld_app hs (zer_digits ht m)
 have parse : ∀ (m : Nat) (x : Bool), m ≤ 255 → ∃ v, ReadAs (dval (s ++ t) (s ++ t).size * 10 ^ m) (-(t.size : Int) - m) v ∧ Ev (fun k => dec_Parse.f k (((s ++ (⟨#[46]⟩ : ByteArray)) ++ zer t m) ++ (if x = true then (⟨#[101, 48]⟩ : ByteArray) else ⟨#[]⟩))) (((v : Nat) : Int), 0) := by
  intro m x hm
  have hc := cut_dot s (zer t m) hs hs0 (zer_digits ht m) (by rw [zer_size]; omega) (by rw [zer_size]; omega) x
  have hx : (if x = true then (⟨#[101, 48]⟩ : ByteArray) else ⟨#[]⟩).size ≤ 2 := by cases x <;> decide
  obtain ⟨v, hv, hve⟩ := parse_of_cut _ _ _ (by rw [app_size, app_size, app_size, zer_size, hdot]; omega) (alln m) (by rw [app_size, zer_size]; omega) (by rw [zer_size]; omega) (by rw [zer_size]; omega) hc
  refine ⟨v, ?_, hve⟩
  rw [zer_val, zer_size, show (-((t.size + m : Nat) : Int)) = -(t.size : Int) - m by omega] at hv
  exact hv
 obtain ⟨v0, r0, p0⟩ := parse 0 false (by omega)
 obtain ⟨v1, r1, p1⟩ := parse n false hn
 obtain ⟨v2, r2, p2⟩ := parse n true hn
 obtain ⟨v3, r3, p3⟩ := near_ev (s ++ t) (-(t.size : Int)) (alld_app hs ht) (by rw [app_size]; omega) (by omega) (by omega)
 rw [Nat.pow_zero, Nat.mul_one, show (-(t.size : Int) - ((0 : Nat) : Int)) = -(t.size : Int) by omega] at r0
 rw [if_neg (by decide), app_empty] at p0 p1
 rw [if_pos rfl] at p2
 have e1 : v0 = v1 := readAs_noughts (by omega) (by omega) r0 r1
 have e2 : v0 = v2 := readAs_noughts (by omega) (by omega) r0 r2
 have e3 : v0 = v3 := readAs_one r0 r3
 subst e1 e2 e3
 have hlast : Ev (fun k => minstrellaw05_DecNoughts.l2 k (n : Int) s t (v0 : Int) 0 ((s ++ (⟨#[46]⟩ : ByteArray)) ++ zer t n) (n : Int)) true := by
  have hsz2 : ((s ++ (⟨#[46]⟩ : ByteArray)) ++ zer t n).size + 2 ≤ 9223372036854775807 := by rw [app_size, app_size, zer_size, hdot]; omega
  have hsz3 : s.size + t.size ≤ 9223372036854775807 := by omega
  have hw : wrap64 (n : Int) = (n : Int) := wrapB _ (by omega) (by omega)
  have hw2 : wrap64 (-(t.size : Int)) = -(t.size : Int) := wrapB _ (by omega) (by omega)
  refine Ev.step (fun k => ?_) (Ev.bind p1 (f := fun k bt630 => if ((s ++ (⟨#[46]⟩ : ByteArray)) ++ zer t n).size + 2 ≤ 9223372036854775807 then ((dec_Parse.f k (((s ++ (⟨#[46]⟩ : ByteArray)) ++ zer t n) ++ (⟨#[101, 48]⟩ : ByteArray))).bind fun bt632 => (if (v0 : Int) = bt630.1 then (if (v0 : Int) = bt632.1 then (if (0 : Int) = 0 then (if bt630.2 = 0 then (if bt632.2 = 0 then (if s.size + t.size ≤ 9223372036854775807 then ((r5_Near.f k (s ++ t) (-(t.size : Int))).bind fun t634 => (if (v0 : Int) = t634 then ((minstrellaw05_lives.f k).bind fun t635 => (some t635)) else (none))) else (none)) else (none)) else (none)) else (none)) else (none)) else (none))) else (none))
   (Ev.congr (fun k => if_pos hsz2) (Ev.bind p2 (f := fun k bt632 => (if (v0 : Int) = (v0 : Int) then (if (v0 : Int) = bt632.1 then (if (0 : Int) = 0 then (if (0 : Int) = 0 then (if bt632.2 = 0 then (if s.size + t.size ≤ 9223372036854775807 then ((r5_Near.f k (s ++ t) (-(t.size : Int))).bind fun t634 => (if (v0 : Int) = t634 then ((minstrellaw05_lives.f k).bind fun t635 => (some t635)) else (none))) else (none)) else (none)) else (none)) else (none)) else (none)) else (none)))
    (Ev.congr (fun k => by rw [if_pos rfl, if_pos rfl, if_pos rfl, if_pos rfl, if_pos rfl, if_pos hsz3]) (Ev.bind p3 (f := fun k t634 => if (v0 : Int) = t634 then ((minstrellaw05_lives.f k).bind fun t635 => (some t635)) else (none)) (Ev.congr (fun k => if_pos rfl) lives_bind))))))
  rw [minstrellaw05_DecNoughts.l2, hw, if_neg (by omega), hw2]
 have hloop : ∀ d m : Nat, m + d = n → Ev (fun k => minstrellaw05_DecNoughts.l2 k (n : Int) s t (v0 : Int) 0 ((s ++ (⟨#[46]⟩ : ByteArray)) ++ zer t m) (m : Int)) true := by
  intro d
  induction d with
  | zero =>
   intro m hm
   obtain rfl : m = n := by omega
   exact hlast
  | succ d ih =>
   intro m hm
   have g := ih (m + 1) (by omega)
   rw [zer, ← app_assoc] at g
   have hsz : ((s ++ (⟨#[46]⟩ : ByteArray)) ++ zer t m).size + 1 ≤ 9223372036854775807 := by rw [app_size, app_size, zer_size, hdot]; omega
   have hw : wrap64 (n : Int) = (n : Int) := wrapB _ (by omega) (by omega)
   have hw2 : wrap64 ((m : Int) + 1) = ((m + 1 : Nat) : Int) := by rw [wrapB _ (by omega) (by omega)]; omega
   refine Ev.step (fun k => ?_) g
   rw [minstrellaw05_DecNoughts.l2, hw, if_pos (by omega), if_pos hsz, hw2]
 have h0 := hloop n 0 (by omega)
 have hsa : s.size + 1 ≤ 9223372036854775807 := by omega
 have hsb : (s ++ (⟨#[46]⟩ : ByteArray)).size + t.size ≤ 9223372036854775807 := by rw [app_size, hdot]; omega
 refine Ev.step (fun k => ?_) (Ev.bind p0 (f := fun k bt628 => minstrellaw05_DecNoughts.l2 k (n : Int) s t bt628.1 bt628.2 ((s ++ (⟨#[46]⟩ : ByteArray)) ++ t) 0) h0)
 rw [minstrellaw05_DecNoughts.j3, if_pos hsa, if_pos hsb]
 rfl
theorem noughts_l1 (l1 : List Int) (h1 : ∀ x ∈ l1, 0 ≤ x ∧ x < 256) (n : Nat) (hn : n ≤ 255) (s : ByteArray) (hs : AllDigits s) (hs0 : s.size ≠ 0) (hs1 : s.size ≤ 41) : ∀ (d i : Nat) (t : ByteArray), i + d = 40 → t.size = i + 1 → AllDigits t →
  Ev (fun k => minstrellaw05_DecNoughts.l1 k l1 (n : Int) s t (i : Int)) true
 | 0, i, t, hi, ht, dt => by
  have he := noughts_end s t hs hs0 hs1 dt (by omega) (by omega) n hn
  refine Ev.step (fun k => ?_) he
  rw [minstrellaw05_DecNoughts.l1]
  by_cases c : (i : Int) < (l1.length : Int)
  ·rw [if_pos c, if_neg (by omega)]
  ·rw [if_neg c]
 | d + 1, i, t, hi, ht, dt => by
  by_cases c : (i : Int) < (l1.length : Int)
  ·obtain ⟨p, hp, hp2⟩ := rd_byte h1 i (by omega)
   have tp : Int.tmod (rd l1 (i : Int)) 10 = ((p % 10 : Nat) : Int) := by rw [hp, Int.tmod_eq_emod_of_nonneg (by omega)]; omega
   have cp : (48 + ((p % 10 : Nat) : Int)) % 256 = ((48 + p % 10 : Nat) : Int) := by omega
   have ih := noughts_l1 l1 h1 n hn s hs hs0 hs1 d (i + 1) (t ++ strOfNums [((48 + p % 10 : Nat) : Int)]) (by omega) (by rw [app_size, one_size]; omega) (alld_app dt (alld_one (by omega) (by omega)))
   have c1 : (i : Int) < 40 := by omega
   have c2 : (0 : Int) ≤ (i : Int) := by omega
   have c3 : t.size + 1 ≤ 9223372036854775807 := by omega
   have c4 : i ≤ 1000000000 := by omega
   refine Ev.step (fun k => ?_) ih
   rw [minstrellaw05_DecNoughts.l1, if_pos c, if_pos c1, if_pos c2, tp, cp, Option.bind_some, if_pos (by rw [one_size]; exact c3), wrap_succ i c4]
  ·have he := noughts_end s t hs hs0 hs1 dt (by omega) (by omega) n hn
   refine Ev.step (fun k => ?_) he
   rw [minstrellaw05_DecNoughts.l1, if_neg c]
theorem noughts_l0 (l0 l1 : List Int) (h0 : ∀ x ∈ l0, 0 ≤ x ∧ x < 256) (h1 : ∀ x ∈ l1, 0 ≤ x ∧ x < 256) (n : Nat) (hn : n ≤ 255) : ∀ (d i : Nat) (s : ByteArray), i + d = 40 → s.size = i + 1 → AllDigits s →
  Ev (fun k => minstrellaw05_DecNoughts.l0 k l0 l1 (n : Int) s (⟨#[53]⟩ : ByteArray) (i : Int)) true := by
 have five : AllDigits (⟨#[53]⟩ : ByteArray) := by
  rw [show (⟨#[53]⟩ : ByteArray) = strOfNums [((53 : Int))] from rfl]
  exact alld_one (by decide) (by decide)
 intro d
 induction d with
 | zero =>
  intro i s hi hs ds
  have he : Ev (fun k => minstrellaw05_DecNoughts.j1 k l1 (n : Int) s (⟨#[53]⟩ : ByteArray)) true := Ev.step (fun k => by rw [minstrellaw05_DecNoughts.j1]; rfl) (noughts_l1 l1 h1 n hn s ds (by omega) (by omega) 40 0 (⟨#[53]⟩ : ByteArray) (by omega) rfl five)
  refine Ev.step (fun k => ?_) he
  rw [minstrellaw05_DecNoughts.l0]
  by_cases c : (i : Int) < (l0.length : Int)
  ·rw [if_pos c, if_neg (by omega)]
  ·rw [if_neg c]
 | succ d ih =>
  intro i s hi hs ds
  by_cases c : (i : Int) < (l0.length : Int)
  ·obtain ⟨p, hp, hp2⟩ := rd_byte h0 i (by omega)
   have tp : Int.tmod (rd l0 (i : Int)) 10 = ((p % 10 : Nat) : Int) := by rw [hp, Int.tmod_eq_emod_of_nonneg (by omega)]; omega
   have cp : (48 + ((p % 10 : Nat) : Int)) % 256 = ((48 + p % 10 : Nat) : Int) := by omega
   have g := ih (i + 1) (s ++ strOfNums [((48 + p % 10 : Nat) : Int)]) (by omega) (by rw [app_size, one_size]; omega) (alld_app ds (alld_one (by omega) (by omega)))
   have c1 : (i : Int) < 40 := by omega
   have c2 : (0 : Int) ≤ (i : Int) := by omega
   have c3 : s.size + 1 ≤ 9223372036854775807 := by omega
   have c4 : i ≤ 1000000000 := by omega
   refine Ev.step (fun k => ?_) g
   rw [minstrellaw05_DecNoughts.l0, if_pos c, if_pos c1, if_pos c2, tp, cp, Option.bind_some, if_pos (by rw [one_size]; exact c3), wrap_succ i c4]
  ·have he : Ev (fun k => minstrellaw05_DecNoughts.j1 k l1 (n : Int) s (⟨#[53]⟩ : ByteArray)) true := Ev.step (fun k => by rw [minstrellaw05_DecNoughts.j1]; rfl) (noughts_l1 l1 h1 n hn s ds (by omega) (by omega) 40 0 (⟨#[53]⟩ : ByteArray) (by omega) rfl five)
   refine Ev.step (fun k => ?_) he
   rw [minstrellaw05_DecNoughts.l0, if_neg c]
theorem DecNoughts : minstrellaw05_DecNoughts.Pure := by
 intro l0 l1 a2 _ _ w0 _ _ w1 w2
 have h2 : 0 ≤ a2 ∧ a2 ≤ 255 := by simpa [Lit.wf, IntKind.min, IntKind.max, IntKind.signed, IntKind.bits] using w2
 obtain ⟨n, rfl⟩ := Int.eq_ofNat_of_zero_le h2.1
 have one : AllDigits (⟨#[49]⟩ : ByteArray) := by
  rw [show (⟨#[49]⟩ : ByteArray) = strOfNums [((49 : Int))] from rfl]
  exact alld_one (by decide) (by decide)
 exact Ev.rounds (noughts_l0 l0 l1 (byte_of_wf w0) (byte_of_wf w1) n (by omega) 40 0 (⟨#[49]⟩ : ByteArray) (by omega) rfl one)
end Go.Proofs.YtflcanpajgpghaaDoor.Pure
end
