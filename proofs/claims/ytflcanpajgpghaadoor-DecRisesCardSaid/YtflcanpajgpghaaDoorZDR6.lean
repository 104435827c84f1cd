/- A part of the proof of the law that RowDecRises shows: lemmas, and contracts of the calls that it reaches. -/
import Derived.Test.YtflcanpajgpghaaDoorProg
import Derived.Below
import Derived.Deep.Draws
import Derived.Deep.AppendLies
import Derived.Maps.AppendAt
import Derived.OwnWalk
import Derived.Laws.BytesArg
import Derived.Laws.MakeOwn
import Derived.Laws.OwnMore
import Derived.Deep.OwnRows
import Derived.Tactics
import Derived.Lib.ConvBytes
import Derived.Laws.Slices
import Derived.WalkKit
import Derived.KernelRfl
import Derived.RowKit3
import Derived.Deep.LoopGhost
import Derived.Deep.QuietTactic
import Derived.BigQuiet
import Derived.WideLaws
import Derived.Deep.DeepCutAuto
import Derived.Deep.CutBlock
import Derived.Deep.RegionHeld3
import Derived.Laws.Rows
import Derived.Lib.AppendStr
import Derived.ArgAppend
import Derived.Laws.IdiomCopy
import Derived.OrdersHeld
import Derived.Laws.BitsLemmas
import Derived.RowKit
import Derived.Test.YtflcanpajgpghaaDoorZDR0
import Derived.Test.YtflcanpajgpghaaDoorZDR5
set_option linter.unusedVariables false
set_option linter.unusedSimpArgs false
namespace Go.Proofs.YtflcanpajgpghaaDoor.Pure
open Go.RowKit Go.Proofs.YtflcanpajgpghaaDoor.Pr Go.Proofs.YtflcanpajgpghaaDoorW.PrintWords Go.Proofs.YtflcanpajgpghaaDoorW.PrintLast Go.Proofs.YtflcanpajgpghaaDoorW.PrintMore Go.Proofs.YtflcanpajgpghaaDoor.Flo
theorem ten5 : (10 : Nat) ^ (4 + 1) = 100000 := by decide
theorem one_size (c : Int) : (strOfNums [c]).size = 1 := rfl
theorem one_bt (c : Int) (h : 0 ≤ c) (h2 : c < 256) : bt (strOfNums [c]) ((0 : Nat) : Int) = c := by
 show (((UInt8.ofNat c.toNat).toNat : Nat) : Int) = c
 rw [UInt8.toNat_ofNat_of_lt' (by show c.toNat < 256; omega)]
 omega
theorem alld_app {a b : ByteArray} (ha : AllDigits a) (hb : AllDigits b) : AllDigits (a ++ b) := by
 intro i hi
 rw [app_size] at hi
 rw [bt_app]
 by_cases h : i < a.size
 ·rw [if_pos h]; exact ha i h
 ·rw [if_neg h]; exact hb _ (by omega)
theorem alld_one {c : Int} (h : 48 ≤ c) (h2 : c ≤ 57) : AllDigits (strOfNums [c]) := by
 intro i hi
 rw [one_size] at hi
 obtain rfl : i = 0 := by omega
 rw [one_bt c (by omega) (by omega)]
 exact ⟨h, h2⟩
theorem dval_app (a b : ByteArray) : ∀ i, i ≤ a.size → dval (a ++ b) i = dval a i
 | 0, _ => rfl
 | i + 1, h => by rw [dval, dval, dval_app a b i (by omega), bt_app, if_pos (by omega)]
theorem dval_one (s : ByteArray) (c : Int) (h : 48 ≤ c) (h2 : c ≤ 57) : dval (s ++ strOfNums [c]) (s ++ strOfNums [c]).size = dval s s.size * 10 + (c - 48).toNat := by
 rw [app_size, one_size, dval, dval_app s _ s.size (Nat.le_refl _), bt_app, if_neg (by omega), Nat.sub_self, one_bt c (by omega) (by omega)]
theorem ldigits_ev : ∀ (m n : Nat), n < 10 ^ (m + 1) → m ≤ 17 → ∃ g, AllDigits g ∧ g.size ≠ 0 ∧ g.size ≤ m + 1 ∧ Ev (fun k => minstrellaw05_digits.f k (n : Int)) g := by
 intro m
 induction m with
 | zero =>
  intro n hn _
  have h10 : n < 10 := by simpa using hn
  have hc : (48 + ((Int.tmod (n : Int) 10) % 256)) % 256 = ((48 + n % 10 : Nat) : Int) := by rw [Int.tmod_eq_emod_of_nonneg (by omega)]; omega
  refine ⟨strOfNums [((48 + n % 10 : Nat) : Int)], alld_one (by omega) (by omega), by rw [one_size]; decide, by rw [one_size]; omega, Ev.step (f := fun _ => some (strOfNums [((48 + n % 10 : Nat) : Int)])) (fun k => ?_) (Ev.now _)⟩
  rw [minstrellaw05_digits.f, hc, Option.bind_some, if_neg (by omega)]
 | succ m ih =>
  intro n hn hm
  have hc : (48 + ((Int.tmod (n : Int) 10) % 256)) % 256 = ((48 + n % 10 : Nat) : Int) := by rw [Int.tmod_eq_emod_of_nonneg (by omega)]; omega
  by_cases h10 : n < 10
  ·refine ⟨strOfNums [((48 + n % 10 : Nat) : Int)], alld_one (by omega) (by omega), by rw [one_size]; decide, by rw [one_size]; omega, Ev.step (f := fun _ => some (strOfNums [((48 + n % 10 : Nat) : Int)])) (fun k => ?_) (Ev.now _)⟩
   rw [minstrellaw05_digits.f, hc, Option.bind_some, if_neg (by omega)]
  ·have hn18 : n < 10 ^ 19 := Nat.lt_of_lt_of_le hn (Nat.pow_le_pow_right (by decide) (by omega))
   have hbig : (10 : Nat) ^ 19 = 10000000000000000000 := by decide
   obtain ⟨g, g1, g2, g3, g4⟩ := ih (n / 10) (by rw [Nat.pow_succ] at hn; omega) (by omega)
   have hq : wrap64 (Int.tdiv (n : Int) 10) = ((n / 10 : Nat) : Int) := by
    rw [Int.tdiv_eq_ediv_of_nonneg (by omega), wrapB _ (by omega) (by omega)]; omega
   refine ⟨g ++ strOfNums [((48 + n % 10 : Nat) : Int)], alld_app g1 (alld_one (by omega) (by omega)), by rw [app_size, one_size]; omega, by rw [app_size, one_size]; omega, Ev.step (fun k => ?_) (Ev.bind g4 (f := fun _ t => if t.size + (strOfNums [((48 + n % 10 : Nat) : Int)]).size ≤ 9223372036854775807 then some (t ++ strOfNums [((48 + n % 10 : Nat) : Int)]) else none) (Ev.congr (fun _ => if_pos (by rw [one_size]; omega)) (Ev.now _)))⟩
   rw [minstrellaw05_digits.f, hc, Option.bind_some, if_pos (by omega), hq]
theorem ldigits_neg (n : Int) (h : n < 0) : ∃ g : ByteArray, g.size = 1 ∧ Ev (fun k => minstrellaw05_digits.f k n) g := by
 refine ⟨strOfNums [(48 + ((Int.tmod n 10) % 256)) % 256], one_size _, Ev.step (f := fun _ => some (strOfNums [(48 + ((Int.tmod n 10) % 256)) % 256])) (fun k => ?_) (Ev.now _)⟩
 rw [minstrellaw05_digits.f, Option.bind_some, if_neg (by omega)]
def Rel (s t : ByteArray) (x : Int) : Prop := (x = 0 ∧ s = t) ∨ (x < 0 ∧ dval s s.size < dval t t.size) ∨ (0 < x ∧ dval t t.size < dval s s.size)
theorem rel_step {s t : ByteArray} {x : Int} (h : Rel s t x) (a b : Nat) (ha : a < 10) (hb : b < 10) :
  Rel (s ++ strOfNums [((48 + a : Nat) : Int)]) (t ++ strOfNums [((48 + b : Nat) : Int)]) (if x = 0 then (if a = b then 0 else (a : Int) - b) else x) := by
 unfold Rel
 rw [dval_one _ _ (by omega) (by omega), dval_one _ _ (by omega) (by omega)]
 rcases h with ⟨h1, h2⟩ | ⟨h1, h2⟩ | ⟨h1, h2⟩
 ·rw [if_pos h1]
  by_cases e : a = b
  ·rw [if_pos e, e, h2]; exact .inl ⟨rfl, rfl⟩
  ·rw [if_neg e, h2]; omega
 ·rw [if_neg (by omega)]; omega
 ·rw [if_neg (by omega)]; omega
theorem lives_bind : Ev (fun k => (minstrellaw05_lives.f k).bind fun t => some t) true := Ev.bind lives_ev (Ev.now _)
theorem j3_ev (s t : ByteArray) (x : Int) (E : Int) (v w : Nat) (h : Rel s t x) (hv : ReadAs (dval s s.size) E v) (hw : ReadAs (dval t t.size) E w) : Ev (fun k => minstrellaw05_DecRises.j3 k x (v : Int) (w : Int) false) true := by
 have mv := readAs_max hv
 have mw := readAs_max hw
 rcases h with ⟨h1, h2⟩ | ⟨h1, h2⟩ | ⟨h1, h2⟩
 ·subst h2
  have e := readAs_one hv hw
  refine Ev.step (fun k => ?_) lives_bind
  rw [minstrellaw05_DecRises.j3, if_neg (by decide), if_pos (by omega), if_pos (by omega), if_pos h1, if_pos (by rw [e])]
 ·have hle := readAs_le (Nat.le_of_lt h2) hv hw
  have hl := less_ev w v mw mv
  rw [decide_eq_false (by omega)] at hl
  refine Ev.step (fun k => ?_) (Ev.bind hl (f := fun k t693 => if t693 = true then none else (if x = 0 then (if (v : Int) = (w : Int) then ((minstrellaw05_lives.f k).bind fun t694 => (some t694)) else (none)) else ((minstrellaw05_lives.f k).bind fun t695 => (some t695)))) (Ev.congr (fun k => by rw [if_neg (by decide), if_neg (by omega)]) lives_bind))
  rw [minstrellaw05_DecRises.j3, if_neg (by decide), if_pos (by omega), if_neg (by omega)]
 ·have hle := readAs_le (Nat.le_of_lt h2) hw hv
  have hl := less_ev v w mv mw
  rw [decide_eq_false (by omega)] at hl
  refine Ev.step (fun k => ?_) (Ev.bind hl (f := fun k t696 => if t696 = true then (none) else (if x ≥ 0 then (if x = 0 then (if (v : Int) = (w : Int) then ((minstrellaw05_lives.f k).bind fun t697 => (some t697)) else (none)) else ((minstrellaw05_lives.f k).bind fun t698 => (some t698))) else ((minstrelref01_Less.f k (w : Int) (v : Int)).bind fun t699 => (if t699 = true then (none) else (if x = 0 then (if (v : Int) = (w : Int) then ((minstrellaw05_lives.f k).bind fun t700 => (some t700)) else (none)) else ((minstrellaw05_lives.f k).bind fun t701 => (some t701))))))) (Ev.congr (fun k => by rw [if_neg (by decide), if_pos (by omega), if_neg (by omega)]) lives_bind))
  rw [minstrellaw05_DecRises.j3, if_neg (by decide), if_neg (by omega)]
theorem j2_ev (s t : ByteArray) (x : Int) (h : Rel s t x) (hs : AllDigits s) (ht : AllDigits t) (hs0 : s.size ≠ 0) (hst : s.size = t.size) (hs30 : s.size ≤ 30) (g : ByteArray) (hg : AllDigits g) (hg0 : g.size ≠ 0) (hgs : g.size ≤ 20) (neg : Bool) :
  Ev (fun k => minstrellaw05_DecRises.j2 k s t x ((if neg = true then (⟨#[101, 45]⟩ : ByteArray) else ⟨#[101]⟩) ++ g)) true := by
 obtain ⟨E, hE, hc, hEe⟩ := cut_exp s g hs hs0 hg hg0 (by omega) neg
 obtain ⟨E', hE', hc', hEe'⟩ := cut_exp t g ht (by omega) hg hg0 (by omega) neg
 obtain rfl : E = E' := by rw [hEe, hEe']
 obtain ⟨p, hp⟩ : ∃ p, p = (if neg = true then (⟨#[101, 45]⟩ : ByteArray) else ⟨#[101]⟩) := ⟨_, rfl⟩
 have hps : p.size ≤ 2 := by rw [hp]; cases neg <;> decide
 rw [← hp] at hc hc' ⊢
 have hEE : -100000 ≤ (if neg = true then -(E : Int) else (E : Int)) ∧ (if neg = true then -(E : Int) else (E : Int)) ≤ 100000 := by cases neg <;> simp <;> omega
 obtain ⟨v, hv, hve⟩ := parse_of_cut _ s _ (by rw [app_size, app_size]; omega) hs (by omega) hEE.1 hEE.2 hc
 obtain ⟨w, hw, hwe⟩ := parse_of_cut _ t _ (by rw [app_size, app_size]; omega) ht (by omega) hEE.1 hEE.2 hc'
 have hj := j3_ev s t x _ v w h hv hw
 refine Ev.step (fun k => ?_) (Ev.bind hve (f := fun k bt687 => if t.size + (p ++ g).size ≤ 9223372036854775807 then ((dec_Parse.f k (t ++ (p ++ g))).bind fun bt689 => (if bt687.2 = 0 then (minstrellaw05_DecRises.j3 k x bt687.1 bt689.1 (bt689.2 != 0)) else (minstrellaw05_DecRises.j3 k x bt687.1 bt689.1 true))) else (none))
  (Ev.congr (fun k => if_pos (by rw [app_size]; omega)) (Ev.bind hwe (f := fun k bt689 => if (0 : Int) = 0 then (minstrellaw05_DecRises.j3 k x (v : Int) bt689.1 (bt689.2 != 0)) else (minstrellaw05_DecRises.j3 k x (v : Int) bt689.1 true)) (Ev.congr (fun k => if_pos rfl) hj))))
 rw [minstrellaw05_DecRises.j2, if_pos (by rw [app_size]; omega)]
theorem end_ev (l0 l1 : List Int) (a2 : Int) (h2 : -32768 ≤ a2 ∧ a2 ≤ 32767) (s t : ByteArray) (x i : Int) (h : Rel s t x) (hs : AllDigits s) (ht : AllDigits t) (hst : s.size = t.size) (hs30 : s.size ≤ 30) : Ev (fun k => minstrellaw05_DecRises.j1 k l0 l1 a2 s t x i false) true := by
 by_cases h0 : s.size = 0
 ·refine Ev.step (fun k => ?_) lives_bind
  rw [minstrellaw05_DecRises.j1, if_neg (by decide), if_pos ((nil_iff s).2 h0)]
 ·have hw : wrap64 a2 = a2 := wrapB _ (by omega) (by omega)
  have hnil : ¬ s.toList = ([] : List UInt8) := fun c => h0 ((nil_iff s).1 c)
  by_cases hn : a2 < 0
  ·obtain ⟨n, hn2⟩ := Int.eq_ofNat_of_zero_le (show 0 ≤ -a2 by omega)
   obtain ⟨q, hq, hqe⟩ := ldigits_neg a2 hn
   obtain ⟨g, g1, g2, g3, g4⟩ := ldigits_ev 4 n (by rw [ten5]; omega) (by omega)
   have hj := j2_ev s t x h hs ht h0 hst hs30 g g1 g2 (by omega) true
   refine Ev.step (fun k => ?_) (Ev.bind hqe (f := fun k t685 => if 1 + t685.size ≤ 9223372036854775807 then (if a2 < 0 then ((minstrellaw05_digits.f k (n : Int)).bind fun t686 => (if 2 + t686.size ≤ 9223372036854775807 then (minstrellaw05_DecRises.j2 k s t x ((⟨#[101, 45]⟩ : ByteArray) ++ t686)) else (none))) else (minstrellaw05_DecRises.j2 k s t x ((⟨#[101]⟩ : ByteArray) ++ t685))) else (none))
    (Ev.congr (fun k => by rw [if_pos (by omega), if_pos hn]) (Ev.bind g4 (f := fun k t686 => if 2 + t686.size ≤ 9223372036854775807 then (minstrellaw05_DecRises.j2 k s t x ((⟨#[101, 45]⟩ : ByteArray) ++ t686)) else (none)) (Ev.congr (fun k => if_pos (by omega)) hj))))
   rw [minstrellaw05_DecRises.j1, if_neg (by decide), if_neg hnil, hw, wrapB (-a2) (by omega) (by omega), hn2]
  ·obtain ⟨n, hn2⟩ := Int.eq_ofNat_of_zero_le (show 0 ≤ a2 by omega)
   obtain ⟨g, g1, g2, g3, g4⟩ := ldigits_ev 4 n (by rw [ten5]; omega) (by omega)
   have hj := j2_ev s t x h hs ht h0 hst hs30 g g1 g2 (by omega) false
   rw [← hn2] at g4
   refine Ev.step (fun k => ?_) (Ev.bind g4 (f := fun k t685 => if 1 + t685.size ≤ 9223372036854775807 then (if a2 < 0 then ((minstrellaw05_digits.f k (wrap64 (-a2))).bind fun t686 => (if 2 + t686.size ≤ 9223372036854775807 then (minstrellaw05_DecRises.j2 k s t x ((⟨#[101, 45]⟩ : ByteArray) ++ t686)) else (none))) else (minstrellaw05_DecRises.j2 k s t x ((⟨#[101]⟩ : ByteArray) ++ t685))) else (none))
    (Ev.congr (fun k => by rw [if_pos (by omega), if_neg hn]; rfl) hj))
   rw [minstrellaw05_DecRises.j1, if_neg (by decide), if_neg hnil, hw]
theorem rd_byte {l : List Int} (h : ∀ x ∈ l, 0 ≤ x ∧ x < 256) (i : Nat) (hi : i < l.length) : ∃ p : Nat, rd l (i : Int) = (p : Int) ∧ p < 256 := by
 have hm : l.getD i 0 ∈ l := by rw [List.getD_eq_getElem?_getD, List.getElem?_eq_getElem hi]; exact List.getElem_mem hi
 have := h _ hm
 refine ⟨(l.getD i 0).toNat, ?_, by omega⟩
 rw [rd_nat]
 omega
theorem rises_loop (l0 l1 : List Int) (a2 : Int) (h0 : ∀ x ∈ l0, 0 ≤ x ∧ x < 256) (h1 : ∀ x ∈ l1, 0 ≤ x ∧ x < 256) (h2 : -32768 ≤ a2 ∧ a2 ≤ 32767) : ∀ (d i : Nat) (s t : ByteArray) (x : Int), i + d = 30 → s.size = i → t.size = i → AllDigits s → AllDigits t → Rel s t x → -10 ≤ x → x ≤ 10 →
  Ev (fun k => minstrellaw05_DecRises.l0 k l0 l1 a2 s t x (i : Int)) true
 | 0, i, s, t, x, hi, hs, ht, ds, dt, hr, _, _ => by
  have he := end_ev l0 l1 a2 h2 s t x (i : Int) hr ds dt (by omega) (by omega)
  refine Ev.step (fun k => ?_) he
  rw [minstrellaw05_DecRises.l0]
  by_cases c1 : (i : Int) < (l0.length : Int)
  ·rw [if_pos c1]
   by_cases c2 : (i : Int) < (l1.length : Int)
   ·rw [if_pos c2, decide_eq_false (by omega)]
   ·rw [if_neg c2]
  ·rw [if_neg c1]
 | d + 1, i, s, t, x, hi, hs, ht, ds, dt, hr, hx1, hx2 => by
  have he := end_ev l0 l1 a2 h2 s t x (i : Int) hr ds dt (by omega) (by omega)
  by_cases c1 : (i : Int) < (l0.length : Int)
  ·by_cases c2 : (i : Int) < (l1.length : Int)
   ·obtain ⟨p, hp, hp2⟩ := rd_byte h0 i (by omega)
    obtain ⟨q, hq, hq2⟩ := rd_byte h1 i (by omega)
    have tp : Int.tmod (rd l0 (i : Int)) 10 = ((p % 10 : Nat) : Int) := by rw [hp, Int.tmod_eq_emod_of_nonneg (by omega)]; omega
    have tq : Int.tmod (rd l1 (i : Int)) 10 = ((q % 10 : Nat) : Int) := by rw [hq, Int.tmod_eq_emod_of_nonneg (by omega)]; omega
    have cp : (48 + ((p % 10 : Nat) : Int)) % 256 = ((48 + p % 10 : Nat) : Int) := by omega
    have cq : (48 + ((q % 10 : Nat) : Int)) % 256 = ((48 + q % 10 : Nat) : Int) := by omega
    have ih := rises_loop l0 l1 a2 h0 h1 h2 d (i + 1) (s ++ strOfNums [((48 + p % 10 : Nat) : Int)]) (t ++ strOfNums [((48 + q % 10 : Nat) : Int)]) _ (by omega) (by rw [app_size, one_size]; omega) (by rw [app_size, one_size]; omega)
     (alld_app ds (alld_one (by omega) (by omega))) (alld_app dt (alld_one (by omega) (by omega))) (rel_step hr (p % 10) (q % 10) (by omega) (by omega)) (by split <;> (try split) <;> omega) (by split <;> (try split) <;> omega)
    refine Ev.step (fun k => ?_) (Ev.step (g := fun k => minstrellaw05_DecRises.j1 k l0 l1 a2 s t x (i : Int) true) (fun k => ?_) ih)
    ·rw [minstrellaw05_DecRises.l0, if_pos c1, if_pos c2, decide_eq_true (by omega)]
    ·rw [minstrellaw05_DecRises.j1, if_pos rfl, if_pos (by omega), if_pos c1, if_pos c2, tp, tq, cp, cq]
     simp only [Option.bind_some]
     by_cases e0 : x = 0
     ·rw [if_pos e0, if_pos e0]
      by_cases e1 : p % 10 = q % 10
      ·rw [if_pos (by omega), if_pos (by rw [one_size]; omega), if_pos (by rw [one_size]; omega), if_pos e1, e0, wrapB _ (by omega) (by omega)]
       rfl
      ·rw [if_neg (by omega), if_pos (by rw [one_size]; omega), if_pos (by rw [one_size]; omega), if_neg e1, wrapB ((p % 10 : Nat) : Int) (by omega) (by omega), wrapB ((q % 10 : Nat) : Int) (by omega) (by omega), wrapB (((p % 10 : Nat) : Int) - _) (by omega) (by omega), wrapB ((i : Int) + 1) (by omega) (by omega)]
       rfl
     ·rw [if_neg e0, if_neg e0, if_pos (by rw [one_size]; omega), if_pos (by rw [one_size]; omega), wrapB _ (by omega) (by omega)]
      rfl
   ·refine Ev.step (fun k => ?_) he
    rw [minstrellaw05_DecRises.l0, if_pos c1, if_neg c2]
  ·refine Ev.step (fun k => ?_) he
   rw [minstrellaw05_DecRises.l0, if_neg c1]
theorem byte_of_wf {l : List Int} (h : ∀ x ∈ l, (Lit.int .u8 x).wf = true) : ∀ x ∈ l, 0 ≤ x ∧ x < 256 := by
 intro x hx
 have h1 : 0 ≤ x ∧ x ≤ 255 := by simpa [Lit.wf, IntKind.min, IntKind.max, IntKind.signed, IntKind.bits] using h x hx
 omega
theorem DecRises : minstrellaw05_DecRises.Pure := by
 intro l0 l1 a2 _ _ w0 _ _ w1 w2
 have h2 : -32768 ≤ a2 ∧ a2 ≤ 32767 := by simpa [Lit.wf, IntKind.min, IntKind.max, IntKind.signed, IntKind.bits] using w2
 have h := rises_loop l0 l1 a2 (byte_of_wf w0) (byte_of_wf w1) h2 30 0 ⟨#[]⟩ ⟨#[]⟩ 0 (by omega) rfl rfl (fun i hi => absurd hi (Nat.not_lt_zero _)) (fun i hi => absurd hi (Nat.not_lt_zero _)) (.inl ⟨rfl, rfl⟩) (by omega) (by omega)
 exact Ev.rounds h
end Go.Proofs.YtflcanpajgpghaaDoor.Pure
