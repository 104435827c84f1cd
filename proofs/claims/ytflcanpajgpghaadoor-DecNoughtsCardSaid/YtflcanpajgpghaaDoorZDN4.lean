/- A part of the proof of the law that RowDecNoughts shows: lemmas, and contracts of the calls that it reaches. -/
import Derived.Test.YtflcanpajgpghaaDoorProg
import Derived.Below
import Derived.Deep.Draws
import Derived.Deep.AppendLies
import Derived.Maps.AppendAt
import Derived.OwnWalk
import Derived.Laws.BytesArg
import Derived.Laws.MakeOwn
import Derived.Laws.OwnMore
import Derived.Deep.OwnRows
import Derived.Tactics
import Derived.Lib.ConvBytes
import Derived.Laws.Slices
import Derived.WalkKit
import Derived.KernelRfl
import Derived.RowKit3
import Derived.Deep.LoopGhost
import Derived.Deep.QuietTactic
import Derived.BigQuiet
import Derived.WideLaws
import Derived.Deep.DeepCutAuto
import Derived.Deep.CutBlock
import Derived.Deep.RegionHeld3
import Derived.Laws.Rows
import Derived.Lib.AppendStr
import Derived.ArgAppend
import Derived.Laws.IdiomCopy
import Derived.OrdersHeld
import Derived.Laws.BitsLemmas
import Derived.RowKit
import Derived.Test.YtflcanpajgpghaaDoorZDN0
import Derived.Test.YtflcanpajgpghaaDoorZDN1
import Derived.Test.YtflcanpajgpghaaDoorZDN3
import Derived.Test.YtflcanpajgpghaaDoorZDN2
set_option linter.unusedVariables false
set_option linter.unusedSimpArgs false
section
namespace Go.Proofs.YtflcanpajgpghaaDoor.Pr
open Go.RowKit Go.Proofs.YtflcanpajgpghaaDoorW.PrintWords Go.Proofs.YtflcanpajgpghaaDoorW.PrintLast Go.Proofs.YtflcanpajgpghaaDoorW.PrintMore
attribute [local go_sem] max2_int min2_int max_two min_two max_three min_three max_four min_four
mutual
def dec_cut.j0 : Nat → ByteArray → ByteArray → Int → Option (ByteArray × Int × Bool)
 | 0, _, _, _ => none
 | k + 1, x6, x366000, x366001 => if x6.toList = ([] : List UInt8) then (some (x366000, x366001, true)) else (if 0 < (x6.size : Int) then (if (bt x6 0) = 101 then (dec_cut.j1 k x6 false x366000 x366001) else (dec_cut.j1 k x6 ((bt x6 0) != 69) x366000 x366001)) else (none))
def dec_cut.j1 : Nat → ByteArray → Bool → ByteArray → Int → Option (ByteArray × Int × Bool)
 | 0, _, _, _, _ => none
 | k + 1, x6, x56, x366000, x366001 => if x56 = true then (some (x366000, x366001, false)) else (if 1 ≤ (x6.size : Int) then (if (x6.extract 1 x6.size).toList = ([] : List UInt8) then (dec_cut.j2 k (x6.extract 1 x6.size) 1 false x366000 x366001) else (if 0 < ((x6.extract 1 x6.size).size : Int) then (if (bt (x6.extract 1 x6.size) 0) = 43 then (dec_cut.j2 k (x6.extract 1 x6.size) 1 true x366000 x366001) else (dec_cut.j2 k (x6.extract 1 x6.size) 1 ((bt (x6.extract 1 x6.size) 0) == 45) x366000 x366001)) else (none))) else (none))
def dec_cut.j2 : Nat → ByteArray → Int → Bool → ByteArray → Int → Option (ByteArray × Int × Bool)
 | 0, _, _, _, _, _ => none
 | k + 1, x6, x8, x71, x366000, x366001 => if x71 = true then (if 0 < (x6.size : Int) then (if (bt x6 0) = 45 then (if 1 ≤ (x6.size : Int) then (dec_cut.j3 k (x6.extract 1 x6.size) (-1) x366000 x366001) else (none)) else (if 1 ≤ (x6.size : Int) then (dec_cut.j3 k (x6.extract 1 x6.size) x8 x366000 x366001) else (none))) else (none)) else (dec_cut.j3 k x6 x8 x366000 x366001)
def dec_cut.j3 : Nat → ByteArray → Int → ByteArray → Int → Option (ByteArray × Int × Bool)
 | 0, _, _, _, _ => none
 | k + 1, x6, x8, x366000, x366001 => if x6.toList = ([] : List UInt8) then (dec_cut.j4 k x6 x8 true x366000 x366001) else ((dec_digits.f k x6).bind fun t368 => (dec_cut.j4 k x6 x8 (t368 != (x6.size : Int)) x366000 x366001))
def dec_cut.j4 : Nat → ByteArray → Int → Bool → ByteArray → Int → Option (ByteArray × Int × Bool)
 | 0, _, _, _, _, _ => none
 | k + 1, x6, x8, x85, x366000, x366001 => if x85 = true then (some (x366000, x366001, false)) else (dec_cut.l0 k x6 x8 0 (x6.size : Int) 0 x366000 x366001)
def dec_cut.l0 : Nat → ByteArray → Int → Int → Int → Int → ByteArray → Int → Option (ByteArray × Int × Bool)
 | 0, _, _, _, _, _, _, _ => none
 | k + 1, x6, x8, x9, x88, x89, x366000, x366001 => if x89 < x88 then (if 0 ≤ x89 then (if x89 < (x6.size : Int) then (dec_cut.l0 k x6 x8 (mn (wrap64 ((wrap64 (10 * x9)) + (((bt x6 x89) - 48) % 256))) 9999) x88 (wrap64 (x89 + 1)) x366000 x366001) else (none)) else (none)) else (some (x366000, wrap64 (x366001 + (wrap64 (x8 * x9))), true))
end
def dec_cut.f (k : Nat) (a0 : ByteArray) : Option (ByteArray × Int × Bool) := (dec_digits.f k a0).bind fun t364 => (if 0 ≤ t364 then (if t364 ≤ (a0.size : Int) then (if t364 = 0 then (some (a0.extract 0 (t364 : Int).toNat, 0, false)) else ((strings_HasPrefix.f (a0.extract (t364 : Int).toNat a0.size) (⟨#[46]⟩ : ByteArray)).bind fun t366 => (if t366 = true then (if 1 ≤ ((a0.extract (t364 : Int).toNat a0.size).size : Int) then ((dec_digits.f k ((a0.extract (t364 : Int).toNat a0.size).extract 1 (a0.extract (t364 : Int).toNat a0.size).size)).bind fun t367 => (if t367 = 0 then (some (a0.extract 0 (t364 : Int).toNat, 0, false)) else (if 1 ≤ (wrap64 (1 + t367)) then (if (wrap64 (1 + t367)) ≤ ((a0.extract (t364 : Int).toNat a0.size).size : Int) then (if (a0.extract 0 (t364 : Int).toNat).size + ((a0.extract (t364 : Int).toNat a0.size).extract 1 ((wrap64 (1 + t367)) : Int).toNat).size ≤ 9223372036854775807 then (if 0 ≤ (wrap64 (1 + t367)) then (dec_cut.j0 k ((a0.extract (t364 : Int).toNat a0.size).extract ((wrap64 (1 + t367)) : Int).toNat (a0.extract (t364 : Int).toNat a0.size).size) ((a0.extract 0 (t364 : Int).toNat) ++ ((a0.extract (t364 : Int).toNat a0.size).extract 1 ((wrap64 (1 + t367)) : Int).toNat)) (wrap64 (-t367))) else (none)) else (none)) else (none)) else (none)))) else (none)) else (dec_cut.j0 k (a0.extract (t364 : Int).toNat a0.size) (a0.extract 0 (t364 : Int).toNat) 0)))) else (none)) else (none))
theorem dec_cut.mono_l : ∀ k, (∀ y0 y1 y2, LeO (dec_cut.j0 k y0 y1 y2) (dec_cut.j0 (k + 1) y0 y1 y2)) ∧ (∀ y0 y1 y2 y3, LeO (dec_cut.j1 k y0 y1 y2 y3) (dec_cut.j1 (k + 1) y0 y1 y2 y3)) ∧ (∀ y0 y1 y2 y3 y4, LeO (dec_cut.j2 k y0 y1 y2 y3 y4) (dec_cut.j2 (k + 1) y0 y1 y2 y3 y4)) ∧ (∀ y0 y1 y2 y3, LeO (dec_cut.j3 k y0 y1 y2 y3) (dec_cut.j3 (k + 1) y0 y1 y2 y3)) ∧ (∀ y0 y1 y2 y3 y4, LeO (dec_cut.j4 k y0 y1 y2 y3 y4) (dec_cut.j4 (k + 1) y0 y1 y2 y3 y4)) ∧ (∀ y0 y1 y2 y3 y4 y5 y6, LeO (dec_cut.l0 k y0 y1 y2 y3 y4 y5 y6) (dec_cut.l0 (k + 1) y0 y1 y2 y3 y4 y5 y6))
 | 0 => ⟨fun _ _ _ r h => by simp [dec_cut.j0] at h, fun _ _ _ _ r h => by simp [dec_cut.j1] at h, fun _ _ _ _ _ r h => by simp [dec_cut.j2] at h, fun _ _ _ _ r h => by simp [dec_cut.j3] at h, fun _ _ _ _ _ r h => by simp [dec_cut.j4] at h, fun _ _ _ _ _ _ _ r h => by simp [dec_cut.l0] at h⟩
 | k + 1 => by
  obtain ⟨ih0, ih1, ih2, ih3, ih4, ih5⟩ := dec_cut.mono_l k
  refine ⟨?_, ?_, ?_, ?_, ?_, ?_⟩
  all_goals intros
  all_goals first | unfold dec_cut.j0 | unfold dec_cut.j1 | unfold dec_cut.j2 | unfold dec_cut.j3 | unfold dec_cut.j4 | unfold dec_cut.l0
  all_goals repeat' first
   | (with_reducible exact ih0 _ _ _)
   | (with_reducible exact ih1 _ _ _ _)
   | (with_reducible exact ih2 _ _ _ _ _)
   | (with_reducible exact ih3 _ _ _ _)
   | (with_reducible exact ih4 _ _ _ _ _)
   | (with_reducible exact ih5 _ _ _ _ _ _ _)
   | (with_reducible exact dec_digits.mono _ _)
   | (with_reducible exact LeO.refl _)
   | (with_reducible exact LeO.none _)
   | (with_reducible refine LeO.ite ?_ ?_)
   | (with_reducible refine LeO.bind ?_ (fun _ => ?_))
   | exact ih0 _ _ _
   | exact ih1 _ _ _ _
   | exact ih2 _ _ _ _ _
   | exact ih3 _ _ _ _
   | exact ih4 _ _ _ _ _
   | exact ih5 _ _ _ _ _ _ _
   | exact dec_digits.mono _ _
   | exact LeO.none _
   | refine LeO.ite ?_ ?_
   | refine LeO.bind ?_ (fun _ => ?_)
theorem dec_cut.mono : ∀ a0 k, LeO (dec_cut.f k a0) (dec_cut.f (k + 1) a0) := by
 intro a0 k
 obtain ⟨ih0, ih1, ih2, ih3, ih4, ih5⟩ := dec_cut.mono_l k
 unfold dec_cut.f
 repeat' first
   | (with_reducible exact ih0 _ _ _)
   | (with_reducible exact ih1 _ _ _ _)
   | (with_reducible exact ih2 _ _ _ _ _)
   | (with_reducible exact ih3 _ _ _ _)
   | (with_reducible exact ih4 _ _ _ _ _)
   | (with_reducible exact ih5 _ _ _ _ _ _ _)
   | (with_reducible exact dec_digits.mono _ _)
   | (with_reducible exact LeO.refl _)
   | (with_reducible exact LeO.none _)
   | (with_reducible refine LeO.ite ?_ ?_)
   | (with_reducible refine LeO.bind ?_ (fun _ => ?_))
   | exact ih0 _ _ _
   | exact ih1 _ _ _ _
   | exact ih2 _ _ _ _ _
   | exact ih3 _ _ _ _
   | exact ih4 _ _ _ _ _
   | exact ih5 _ _ _ _ _ _ _
   | exact dec_digits.mono _ _
   | exact LeO.none _
   | refine LeO.ite ?_ ?_
   | refine LeO.bind ?_ (fun _ => ?_)
def dec_cut.T2 : Bool × List (List Nat × List Nat) := (true, [([], []), ([], []), ([0, 1], [0, 1]), ([2], [2]), ([], []), ([], []), ([4, 5], [4, 5]), ([], []), ([7, 3, 0, 1, 2, 3, 7], [3, 7]), ([6, 8, 0, 1, 2, 3, 4, 5, 6, 7, 8], [6])])
def dec_cut.B2 : List Nat := [0, 0, 3, 7, 0, 0, 48, 0, 143, 511]
theorem dec_cut.tab2 : rtab .any (opsOf Tryd.f17 2) = dec_cut.T2 := by kernel_rfl
theorem dec_cut.bits2 : waitsOk dec_cut.T2.2 dec_cut.B2 = true := by kernel_rfl
def dec_cut.T9 : Bool × List (List Nat × List Nat) := (true, [([], []), ([0], [0]), ([], []), ([], []), ([3], [3]), ([2, 4], [2, 4]), ([1, 5], [1, 5]), ([], []), ([7], [7]), ([], []), ([], []), ([10], [10]), ([9, 11], [9, 11]), ([0, 1, 2, 3, 4, 5, 6], []), ([13, 6, 0, 1, 2, 3, 4, 5, 6], [6, 13]), ([0, 1, 2, 3, 4, 5, 6, 7, 8, 13, 14], []), ([15, 8, 14, 0, 1, 2, 3, 4, 5, 6, 7, 8, 13, 14], [8, 15]), ([12, 16, 0, 1, 2, 3, 4, 5, 6, 7, 8, 9, 10, 11, 12, 13, 14, 15, 16], [2, 9, 12])])
def dec_cut.B9 : List Nat := [0, 1, 0, 0, 8, 28, 63, 0, 128, 0, 0, 1024, 3584, 127, 8319, 25087, 57855, 131071]
theorem dec_cut.tab9 : rtab .any (opsOf Tryd.f17 9) = dec_cut.T9 := by kernel_rfl
theorem dec_cut.bits9 : waitsOk dec_cut.T9.2 dec_cut.B9 = true := by kernel_rfl
set_option maxHeartbeats 8000000 in
set_option maxRecDepth 100000 in
theorem dec_cut.calls (k : Nat) (a0 : ByteArray) (r1 : ByteArray) (r2 : Int) (r3 : Bool) (w : World) (h : dec_cut.f k a0 = some (r1, r2, r3)) :
  Calls Tryd.prog 17 #[.string a0] w fun e w' => e = .returned (.tuple #[.agg #[.string r1, .int .i64 r2], .bool r3]) ∧ Below w.heap.size w w' := by
 have hu47 := Tryd.underlying47
 have HB := am (Below.refl w.heap.size w)
 have H : ((dec_digits.f k a0).bind fun t364 => (if 0 ≤ t364 then (if t364 ≤ (a0.size : Int) then (if t364 = 0 then (some (a0.extract 0 (t364 : Int).toNat, 0, false)) else ((strings_HasPrefix.f (a0.extract (t364 : Int).toNat a0.size) (⟨#[46]⟩ : ByteArray)).bind fun t366 => (if t366 = true then (if 1 ≤ ((a0.extract (t364 : Int).toNat a0.size).size : Int) then ((dec_digits.f k ((a0.extract (t364 : Int).toNat a0.size).extract 1 (a0.extract (t364 : Int).toNat a0.size).size)).bind fun t367 => (if t367 = 0 then (some (a0.extract 0 (t364 : Int).toNat, 0, false)) else (if 1 ≤ (wrap64 (1 + t367)) then (if (wrap64 (1 + t367)) ≤ ((a0.extract (t364 : Int).toNat a0.size).size : Int) then (if (a0.extract 0 (t364 : Int).toNat).size + ((a0.extract (t364 : Int).toNat a0.size).extract 1 ((wrap64 (1 + t367)) : Int).toNat).size ≤ 9223372036854775807 then (if 0 ≤ (wrap64 (1 + t367)) then (dec_cut.j0 k ((a0.extract (t364 : Int).toNat a0.size).extract ((wrap64 (1 + t367)) : Int).toNat (a0.extract (t364 : Int).toNat a0.size).size) ((a0.extract 0 (t364 : Int).toNat) ++ ((a0.extract (t364 : Int).toNat a0.size).extract 1 ((wrap64 (1 + t367)) : Int).toNat)) (wrap64 (-t367))) else (none)) else (none)) else (none)) else (none)))) else (none)) else (dec_cut.j0 k (a0.extract (t364 : Int).toNat a0.size) (a0.extract 0 (t364 : Int).toNat) 0)))) else (none)) else (none))) = some (r1, r2, r3) := h
 clear h
 replace H := Option.bind_eq_some_iff.mp H
 obtain ⟨t364, A20, H⟩ := H
 try dsimp only at H
 have A2 := am A20
 clear A20
 by_cases c3 : 0 ≤ t364
 ·rw [if_pos c3] at H
  have c3b0 := eq_true c3
  have c3b1 : decide (0 ≤ t364) = true := decide_eq_true c3
  clear c3
  by_cases c4 : t364 ≤ (a0.size : Int)
  ·rw [if_pos c4] at H
   have c4b0 := eq_true c4
   have c4b1 : decide (t364 ≤ (a0.size : Int)) = true := decide_eq_true c4
   clear c4
   obtain ⟨ji5, hji5⟩ : ∃ j_ : ByteArray, (a0.extract 0 (t364 : Int).toNat) = j_ := ⟨_, rfl⟩
   replace H : (if t364 = 0 then (some (ji5, 0, false)) else ((strings_HasPrefix.f (a0.extract (t364 : Int).toNat a0.size) (⟨#[46]⟩ : ByteArray)).bind fun t366 => (if t366 = true then (if 1 ≤ ((a0.extract (t364 : Int).toNat a0.size).size : Int) then ((dec_digits.f k ((a0.extract (t364 : Int).toNat a0.size).extract 1 (a0.extract (t364 : Int).toNat a0.size).size)).bind fun t367 => (if t367 = 0 then (some (ji5, 0, false)) else (if 1 ≤ (wrap64 (1 + t367)) then (if (wrap64 (1 + t367)) ≤ ((a0.extract (t364 : Int).toNat a0.size).size : Int) then (if (ji5).size + ((a0.extract (t364 : Int).toNat a0.size).extract 1 ((wrap64 (1 + t367)) : Int).toNat).size ≤ 9223372036854775807 then (if 0 ≤ (wrap64 (1 + t367)) then (dec_cut.j0 k ((a0.extract (t364 : Int).toNat a0.size).extract ((wrap64 (1 + t367)) : Int).toNat (a0.extract (t364 : Int).toNat a0.size).size) ((ji5) ++ ((a0.extract (t364 : Int).toNat a0.size).extract 1 ((wrap64 (1 + t367)) : Int).toNat)) (wrap64 (-t367))) else (none)) else (none)) else (none)) else (none)))) else (none)) else (dec_cut.j0 k (a0.extract (t364 : Int).toNat a0.size) ji5 0)))) = some (r1, r2, r3) := by first | (rw [hji5] at H; exact H) | (simp only [hji5] at H ⊢; exact H) | exact H
   (try rw [hji5] at A2)
   have c6b0 := eq_true (pD : 0 ≤ t364)
   have c7b0 := eq_true (pD : t364 ≤ (a0.size : Int))
   obtain ⟨ji8, hji8⟩ : ∃ j_ : ByteArray, (a0.extract (t364 : Int).toNat a0.size) = j_ := ⟨_, rfl⟩
   replace H : (if t364 = 0 then (some (ji5, 0, false)) else ((strings_HasPrefix.f (ji8) (⟨#[46]⟩ : ByteArray)).bind fun t366 => (if t366 = true then (if 1 ≤ ((ji8).size : Int) then ((dec_digits.f k ((ji8).extract 1 (ji8).size)).bind fun t367 => (if t367 = 0 then (some (ji5, 0, false)) else (if 1 ≤ (wrap64 (1 + t367)) then (if (wrap64 (1 + t367)) ≤ ((ji8).size : Int) then (if (ji5).size + ((ji8).extract 1 ((wrap64 (1 + t367)) : Int).toNat).size ≤ 9223372036854775807 then (if 0 ≤ (wrap64 (1 + t367)) then (dec_cut.j0 k ((ji8).extract ((wrap64 (1 + t367)) : Int).toNat (ji8).size) ((ji5) ++ ((ji8).extract 1 ((wrap64 (1 + t367)) : Int).toNat)) (wrap64 (-t367))) else (none)) else (none)) else (none)) else (none)))) else (none)) else (dec_cut.j0 k ji8 ji5 0)))) = some (r1, r2, r3) := by first | (rw [hji8] at H; exact H) | (simp only [hji8] at H ⊢; exact H) | exact H
   (try rw [hji8] at A2)
   by_cases c9 : t364 = 0
   ·rw [if_pos c9] at H
    have c9b0 : (t364 == 0) = true := beq_iff_eq.mpr c9
    have c9b1 : (t364 != 0) = false := bne_eq_false_iff_eq.mpr c9
    clear c9
    simp only [Option.some.injEq, Prod.mk.injEq] at H
    obtain ⟨rfl, rfl, rfl⟩ := H
    go_enter Tryd.func17, Tryd.ntmps17
    try go_wp2_with (first | ((with_reducible refine gate_dst (N := 2) rfl ?_); (try (refine gate_guard (by rfl) ?_; dsimp only)); refine box_event ?hg (N := 2) ?hd (cs := #[.string (⟨#[]⟩ : ByteArray), .int .i64 0]) (t := 47) ?hr ?_; (case hd => rfl); (case hg => rfl); (case hr => first | (go_simp; done) | (go_simp; rfl)); intro gb363 hg w10 hbox hb; have BK363 := am (hbox); have GW363 := am ((by rw [hg]; exact (below_size pB) : w.heap.size ≤ gb363)); have GE363 := am ((by rw [hg]; exact (below_size pB) : w.heap.size ≤ gb363)); replace HB := am (below_step pB hb); clear hb hbox hg) | ((with_reducible refine gate_callee (f := 42) rfl ?_); refine goesL_ (some 12) rfl rfl Tryd.func42 (by kernel_rfl) rfl #[.string a0] rfl pM ?_; (with_reducible refine (dec_digits.calls k a0 t364 _ A2.out).mono ?_); rintro e w' ⟨rfl, ⟨nd, rfl⟩⟩; refine ⟨_, rfl, ?_⟩; (try (rw [drewN_self w10]; generalize hq_ : World.drewN w10 _ = w10; have n0_ : Aside0 (w10.heap[gb363]? = some (.cells #[.string (⟨#[]⟩ : ByteArray), .int .i64 0] 47 (0, 0))) := ⟨by rw [← hq_]; exact (pK BK363.out)⟩; have n1_ : Aside0 (Below w.heap.size w w10) := ⟨by rw [← hq_]; exact pB⟩; clear BK363 HB hq_; have BK363 := n0_; have HB := n1_; clear n0_ n1_))))
    replace BK363 := am (blk_drew BK363.out)
    replace HB := am (below_drew1 HB.out)
    refine start_ (n := 10) (S := fun w' => True) (ds := []) (bm 10 0) (by kernel_rfl) rfl rfl trivial (fun hHeld => ?_); refine with_tabW dec_cut.tab2 dec_cut.bits2 (fun HT_ HW_ => ?_)
    generalize w10.drew = w11 at BK363 HB hHeld ⊢
    refine pure_ (i := 0) (N := some 13) (v := ?_) (a' := ?_) (bm 10 1) rfl rfl (any_of HT_.out (by kernel_rfl)) (fun _ _ _ h => h) (Or.inl ⟨by kernel_rfl, ?_⟩) ?_ ?_
    rotate_left
    ·intro w'
     go_simp
     with_reducible rfl
    rotate_left
    ·exact pA
    refine pure_ (i := 1) (N := some 14) (v := ?_) (a' := ?_) (bm 10 3) rfl rfl (any_of HT_.out (by kernel_rfl)) (fun _ _ _ h => h) (Or.inl ⟨by kernel_rfl, ?_⟩) ?_ ?_
    rotate_left
    ·intro w'
     go_simp
     with_reducible rfl
    rotate_left
    ·exact pA
    refine pure_ (i := 2) (N := some 15) (v := ?_) (a' := ?_) (bm 10 7) rfl rfl (any_of HT_.out (by kernel_rfl)) (fun _ _ _ h => h) (Or.inl ⟨by kernel_rfl, ?_⟩) ?_ ?_
    rotate_left
    ·intro w'
     go_simp
     with_reducible rfl
    rotate_left
    ·exact pA
    refine pure_ (i := 3) (N := some 16) (v := ?_) (a' := ?_) (bm 10 15) rfl rfl (any_of HT_.out (by kernel_rfl)) (fun _ _ _ h => h) (Or.inl ⟨by kernel_rfl, ?_⟩) ?_ ?_
    rotate_left
    ·intro w'
     go_simp
     with_reducible rfl
    rotate_left
    ·exact pA
    refine pure_ (i := 4) (N := some 17) (v := ?_) (a' := ?_) (bm 10 31) rfl rfl (any_of HT_.out (by kernel_rfl)) (fun _ _ _ h => h) (Or.inl ⟨by kernel_rfl, ?_⟩) ?_ ?_
    rotate_left
    ·intro w'
     go_simp
     with_reducible rfl
    rotate_left
    ·exact pA
    refine pure_ (i := 5) (N := some 18) (v := ?_) (a' := ?_) (bm 10 63) rfl rfl (any_of HT_.out (by kernel_rfl)) (fun _ _ _ h => h) (Or.inl ⟨by kernel_rfl, ?_⟩) ?_ ?_
    rotate_left
    ·intro w'
     go_simp
     with_reducible rfl
    rotate_left
    ·exact pA
    refine pure_ (i := 6) (N := some 19) (v := ?_) (a' := ?_) (bm 10 127) rfl rfl (any_of HT_.out (by kernel_rfl)) (fun _ _ _ h => h) (Or.inl ⟨by kernel_rfl, ?_⟩) ?_ ?_
    rotate_left
    ·intro w'
     go_simp
     with_reducible rfl
    rotate_left
    ·exact pA
    refine one_ (i := 7) (N := some 5) (bm 10 255) rfl rfl (one_of HT_.out (by kernel_rfl)) (by decide) (fun K hK => ?_)
    refine box_step ?hg (N := 5) ?hd (cs := #[.string (⟨#[]⟩ : ByteArray), .int .i64 0]) (t := 47) ?hr ?_; (case hd => rfl); (case hg => rfl); (case hr => first | (go_simp; done) | (go_simp; rfl))
    intro gb365 hg w12 hbox hb
    have n0_ := am (pkb BK363.out hb)
    have n1_ := am (below_step pB hb)
    have n2_ := am (hbox)
    have n3_ := am ((by rw [hg]; exact (below_size pB) : w.heap.size ≤ gb365))
    have n4_ := am ((by rw [hg]; exact (below_size pB) : w.heap.size ≤ gb365))
    have n5_ := am ((by rw [hg]; exact Nat.ne_of_lt (pkl BK363.out) : gb363 ≠ gb365))
    have n6_ := am ((by rw [hg]; exact Nat.ne_of_gt (pkl BK363.out) : gb365 ≠ gb363))
    clear BK363 HB; have BK363 := n0_; have HB := n1_; have BK365 := n2_; have GW365 := n3_; have GE365 := n4_; have NB363_365 := n5_; have NB365_363 := n6_; clear n0_ n1_ n2_ n3_ n4_ n5_ n6_ hb hbox hg
    refine hK.out _ _ trivial (fun hHeld => ?_)
    clear hK K
    refine norm_ (a' := ?_) ?_ ?_
    rotate_left
    ·show Act.put _ (some 5) _ = _
     exact pA
    refine one_ (i := 8) (N := none) (bm 10 511) rfl rfl (one_of HT_.out (by kernel_rfl)) (by decide) (fun K hK => ?_)
    have hs13 : w12.cell? ⟨gb365, 0, none⟩ = some (.string (⟨#[]⟩ : ByteArray)) := cz0 BK365.out
    have hfs13 := blk_frozen BK365.out 0
    have hns13_0 := NB363_365.out
    have hms13_0 := NB365_363.out
    have hs14 : w12.cell? ⟨gb365, 1, none⟩ = some (.int .i64 0) := cz1 BK365.out
    have hfs14 := blk_frozen BK365.out 1
    have hns14_0 := NB363_365.out
    have hms14_0 := NB365_363.out
    refine skip_ (w1 := ?_) ?hw rfl ?_ ?_; (case hw => kernel_rfl)
    rotate_left
    ·go_simp
     rfl
    refine hK.out _ _ trivial (fun hHeld => ?_)
    clear hK K
    refine pure_ (i := 9) (N := some 6) (v := ?_) (a' := ?_) (bm 10 1023) rfl rfl (any_of HT_.out (by kernel_rfl)) (fun _ _ _ h => h) (Or.inl ⟨by kernel_rfl, ?_⟩) ?_ ?_
    rotate_left
    ·intro w'
     go_simp
     with_reducible rfl
    rotate_left
    ·exact pA
    refine done_ (done_of HT_.out (by kernel_rfl)) ?_
    have hnb15 := NB365_363.out
    have hnc15 := NB363_365.out
    have q16 := cf2 BK365.out
    have q17 := cf2 BK363.out
    try go_wp2
    refine bodyPost_ret (results_ct rfl _ _ gb363 47 #[.string ji5, .int .i64 0] (0, 0) _ rfl (by (with_reducible repeat (first | refine blk_drewN ?_ _ | refine blk_drew ?_ | refine blk_alloc ?_ _)); refine blk_put (cs := #[.string ji5, .int .i64 0]) ?_ 1 _ rfl; (with_reducible repeat (first | refine blk_drewN ?_ _ | refine blk_drew ?_ | refine blk_alloc ?_ _)); refine blk_put (cs := #[.string (⟨#[]⟩ : ByteArray), .int .i64 0]) ?_ 0 _ rfl; (with_reducible repeat (first | refine blk_drewN ?_ _ | refine blk_drew ?_ | refine blk_alloc ?_ _)); refine blk_far ?_ NB363_365.out _; (with_reducible repeat (first | refine blk_drewN ?_ _ | refine blk_drew ?_ | refine blk_alloc ?_ _)); refine blk_far ?_ NB363_365.out _; (with_reducible repeat (first | refine blk_drewN ?_ _ | refine blk_drew ?_ | refine blk_alloc ?_ _)); exact BK363.out) Tryd.underlying47 rfl (by kernel_rfl)) rfl ?_
    exact ⟨by first | rfl | (simp [errW_none, errW_some] <;> rfl) | (simp only [← hji5, ← hji8]; first | rfl | (simp [errW_none, errW_some] <;> rfl)) | (simp [*, errW_none, errW_some] <;> rfl), pB⟩
   ·rw [if_neg c9] at H
    have c9b0 : (t364 == 0) = false := beq_eq_false_iff_ne.mpr c9
    have c9b1 : (t364 != 0) = true := bne_iff_ne.mpr c9
    replace H := Option.bind_eq_some_iff.mp H
    obtain ⟨t366, A180, H⟩ := H
    try dsimp only at H
    have A18 := am A180
    clear A180
    have HC19 := am H
    clear H
    go_enter Tryd.func17, Tryd.ntmps17
    try go_wp2_with (first | ((with_reducible refine gate_dst (N := 2) rfl ?_); (try (refine gate_guard (by rfl) ?_; dsimp only)); refine box_event ?hg (N := 2) ?hd (cs := #[.string (⟨#[]⟩ : ByteArray), .int .i64 0]) (t := 47) ?hr ?_; (case hd => rfl); (case hg => rfl); (case hr => first | (go_simp; done) | (go_simp; rfl)); intro gb363 hg w20 hbox hb; have BK363 := am (hbox); have GW363 := am ((by rw [hg]; exact (below_size pB) : w.heap.size ≤ gb363)); have GE363 := am ((by rw [hg]; exact (below_size pB) : w.heap.size ≤ gb363)); replace HB := am (below_step pB hb); clear hb hbox hg) | ((with_reducible refine gate_callee (f := 42) rfl ?_); refine goesL_ (some 12) rfl rfl Tryd.func42 (by kernel_rfl) rfl #[.string a0] rfl pM ?_; (with_reducible refine (dec_digits.calls k a0 t364 _ A2.out).mono ?_); rintro e w' ⟨rfl, ⟨nd, rfl⟩⟩; refine ⟨_, rfl, ?_⟩; (try (rw [drewN_self w20]; generalize hq_ : World.drewN w20 _ = w20; have n0_ : Aside0 (w20.heap[gb363]? = some (.cells #[.string (⟨#[]⟩ : ByteArray), .int .i64 0] 47 (0, 0))) := ⟨by rw [← hq_]; exact (pK BK363.out)⟩; have n1_ : Aside0 (Below w.heap.size w w20) := ⟨by rw [← hq_]; exact pB⟩; clear BK363 HB hq_; have BK363 := n0_; have HB := n1_; clear n0_ n1_))))
    replace BK363 := am (blk_drew BK363.out)
    replace HB := am (below_drew1 HB.out)
    refine start_ (n := 10) (S := fun w' => True) (ds := []) (bm 10 0) (by kernel_rfl) rfl rfl trivial (fun hHeld => ?_); refine with_tabW dec_cut.tab2 dec_cut.bits2 (fun HT_ HW_ => ?_)
    generalize w20.drew = w21 at BK363 HB hHeld ⊢
    refine pure_ (i := 0) (N := some 13) (v := ?_) (a' := ?_) (bm 10 1) rfl rfl (any_of HT_.out (by kernel_rfl)) (fun _ _ _ h => h) (Or.inl ⟨by kernel_rfl, ?_⟩) ?_ ?_
    rotate_left
    ·intro w'
     go_simp
     with_reducible rfl
    rotate_left
    ·exact pA
    refine pure_ (i := 1) (N := some 14) (v := ?_) (a' := ?_) (bm 10 3) rfl rfl (any_of HT_.out (by kernel_rfl)) (fun _ _ _ h => h) (Or.inl ⟨by kernel_rfl, ?_⟩) ?_ ?_
    rotate_left
    ·intro w'
     go_simp
     with_reducible rfl
    rotate_left
    ·exact pA
    refine pure_ (i := 2) (N := some 15) (v := ?_) (a' := ?_) (bm 10 7) rfl rfl (any_of HT_.out (by kernel_rfl)) (fun _ _ _ h => h) (Or.inl ⟨by kernel_rfl, ?_⟩) ?_ ?_
    rotate_left
    ·intro w'
     go_simp
     with_reducible rfl
    rotate_left
    ·exact pA
    refine pure_ (i := 3) (N := some 16) (v := ?_) (a' := ?_) (bm 10 15) rfl rfl (any_of HT_.out (by kernel_rfl)) (fun _ _ _ h => h) (Or.inl ⟨by kernel_rfl, ?_⟩) ?_ ?_
    rotate_left
    ·intro w'
     go_simp
     with_reducible rfl
    rotate_left
    ·exact pA
    refine pure_ (i := 4) (N := some 17) (v := ?_) (a' := ?_) (bm 10 31) rfl rfl (any_of HT_.out (by kernel_rfl)) (fun _ _ _ h => h) (Or.inl ⟨by kernel_rfl, ?_⟩) ?_ ?_
    rotate_left
    ·intro w'
     go_simp
     with_reducible rfl
    rotate_left
    ·exact pA
    refine pure_ (i := 5) (N := some 18) (v := ?_) (a' := ?_) (bm 10 63) rfl rfl (any_of HT_.out (by kernel_rfl)) (fun _ _ _ h => h) (Or.inl ⟨by kernel_rfl, ?_⟩) ?_ ?_
    rotate_left
    ·intro w'
     go_simp
     with_reducible rfl
    rotate_left
    ·exact pA
    refine pure_ (i := 6) (N := some 19) (v := ?_) (a' := ?_) (bm 10 127) rfl rfl (any_of HT_.out (by kernel_rfl)) (fun _ _ _ h => h) (Or.inl ⟨by kernel_rfl, ?_⟩) ?_ ?_
    rotate_left
    ·intro w'
     go_simp
     with_reducible rfl
    rotate_left
    ·exact pA
    refine one_ (i := 7) (N := some 5) (bm 10 255) rfl rfl (one_of HT_.out (by kernel_rfl)) (by decide) (fun K hK => ?_)
    refine box_step ?hg (N := 5) ?hd (cs := #[.string (⟨#[]⟩ : ByteArray), .int .i64 0]) (t := 47) ?hr ?_; (case hd => rfl); (case hg => rfl); (case hr => first | (go_simp; done) | (go_simp; rfl))
    intro gb365 hg w22 hbox hb
    have n0_ := am (pkb BK363.out hb)
    have n1_ := am (below_step pB hb)
    have n2_ := am (hbox)
    have n3_ := am ((by rw [hg]; exact (below_size pB) : w.heap.size ≤ gb365))
    have n4_ := am ((by rw [hg]; exact (below_size pB) : w.heap.size ≤ gb365))
    have n5_ := am ((by rw [hg]; exact Nat.ne_of_lt (pkl BK363.out) : gb363 ≠ gb365))
    have n6_ := am ((by rw [hg]; exact Nat.ne_of_gt (pkl BK363.out) : gb365 ≠ gb363))
    clear BK363 HB; have BK363 := n0_; have HB := n1_; have BK365 := n2_; have GW365 := n3_; have GE365 := n4_; have NB363_365 := n5_; have NB365_363 := n6_; clear n0_ n1_ n2_ n3_ n4_ n5_ n6_ hb hbox hg
    refine hK.out _ _ trivial (fun hHeld => ?_)
    clear hK K
    refine norm_ (a' := ?_) ?_ ?_
    rotate_left
    ·show Act.put _ (some 5) _ = _
     exact pA
    refine one_ (i := 8) (N := none) (bm 10 511) rfl rfl (one_of HT_.out (by kernel_rfl)) (by decide) (fun K hK => ?_)
    have hs23 : w22.cell? ⟨gb365, 0, none⟩ = some (.string (⟨#[]⟩ : ByteArray)) := cz0 BK365.out
    have hfs23 := blk_frozen BK365.out 0
    have hns23_0 := NB363_365.out
    have hms23_0 := NB365_363.out
    have hs24 : w22.cell? ⟨gb365, 1, none⟩ = some (.int .i64 0) := cz1 BK365.out
    have hfs24 := blk_frozen BK365.out 1
    have hns24_0 := NB363_365.out
    have hms24_0 := NB365_363.out
    refine skip_ (w1 := ?_) ?hw rfl ?_ ?_; (case hw => kernel_rfl)
    rotate_left
    ·go_simp
     rfl
    refine hK.out _ _ trivial (fun hHeld => ?_)
    clear hK K
    refine pure_ (i := 9) (N := some 6) (v := ?_) (a' := ?_) (bm 10 1023) rfl rfl (any_of HT_.out (by kernel_rfl)) (fun _ _ _ h => h) (Or.inl ⟨by kernel_rfl, ?_⟩) ?_ ?_
    rotate_left
    ·intro w'
     go_simp
     with_reducible rfl
    rotate_left
    ·exact pA
    refine done_ (done_of HT_.out (by kernel_rfl)) ?_
    go_upto_if 24 with (first | ((with_reducible refine gate_callee (f := 43) rfl ?_); refine goesL_ (some 24) rfl rfl Tryd.func43 (by kernel_rfl) rfl #[.string ji8, .string (⟨#[46]⟩ : ByteArray)] rfl (by (try simp only [List.map_toArray, List.map_cons, List.map_nil]); first | done | (simp only [hji8]; rfl) | rfl | (simp only [List.length_drop, List.length_take]; rfl)) ?_; (with_reducible refine (strings_HasPrefix.calls ji8 (⟨#[46]⟩ : ByteArray) t366 _ A18.out).mono ?_); rintro e w' ⟨rfl, ⟨nd, rfl⟩⟩; refine ⟨_, rfl, ?_⟩))
    (try simp only [Act.put, List.setIfInBounds_toArray, List.set_cons_zero, List.set_cons_succ])
    go_cut [6] (fun v6 wc => ∃ (kq : Nat) (x6_18 : ByteArray) (x364000_18 : ByteArray) (x364001_18 : Int) (x366000_18 : ByteArray) (x366001_18 : Int), v6 = .string x6_18 ∧ Aside0 (dec_cut.j0 kq x6_18 x366000_18 x366001_18 = some (r1, r2, r3)) ∧ Aside0 (kq ≤ k) ∧ Aside0 (wc.heap[gb363]? = some (.cells #[.string x364000_18, .int .i64 x364001_18] 47 (0, 0))) ∧ Aside0 (wc.heap[gb365]? = some (.cells #[.string x366000_18, .int .i64 x366001_18] 47 (0, 0))) ∧ Aside0 (Below w.heap.size w wc))
    case first =>
     have H := HC19.out
     clear HC19
     by_cases c25 : t366 = true
     ·subst c25
      rw [if_pos rfl] at H
      by_cases c26 : 1 ≤ ((ji8).size : Int)
      ·rw [if_pos c26] at H
       have c26b0 := eq_true c26
       have c26b1 : decide (1 ≤ ((ji8).size : Int)) = true := decide_eq_true c26
       clear c26
       obtain ⟨ji27, hji27⟩ : ∃ j_ : ByteArray, ((ji8).extract 1 (ji8).size) = j_ := ⟨_, rfl⟩
       replace H : ((dec_digits.f k (ji27)).bind fun t367 => (if t367 = 0 then (some (ji5, 0, false)) else (if 1 ≤ (wrap64 (1 + t367)) then (if (wrap64 (1 + t367)) ≤ ((ji8).size : Int) then (if (ji5).size + ((ji8).extract 1 ((wrap64 (1 + t367)) : Int).toNat).size ≤ 9223372036854775807 then (if 0 ≤ (wrap64 (1 + t367)) then (dec_cut.j0 k ((ji8).extract ((wrap64 (1 + t367)) : Int).toNat (ji8).size) ((ji5) ++ ((ji8).extract 1 ((wrap64 (1 + t367)) : Int).toNat)) (wrap64 (-t367))) else (none)) else (none)) else (none)) else (none)))) = some (r1, r2, r3) := by first | (rw [hji27] at H; exact H) | (simp only [hji27] at H ⊢; exact H) | exact H
       replace H := Option.bind_eq_some_iff.mp H
       obtain ⟨t367, A280, H⟩ := H
       try dsimp only at H
       have A28 := am A280
       clear A280
       by_cases c29 : t367 = 0
       ·rw [if_pos c29] at H
        have c29b0 : (t367 == 0) = true := beq_iff_eq.mpr c29
        have c29b1 : (t367 != 0) = false := bne_eq_false_iff_eq.mpr c29
        clear c29
        (first | rw [c29b0] | (simp only [i64_w, i32_w]; rw [c29b0]) | rw [c29b1] | (simp only [i64_w, i32_w]; rw [c29b1]) | skip)
        simp only [Option.some.injEq, Prod.mk.injEq] at H
        obtain ⟨rfl, rfl, rfl⟩ := H
        go_wp2_with (first | ((with_reducible refine gate_callee (f := 42) rfl ?_); refine goesL_ (some 27) rfl rfl Tryd.func42 (by kernel_rfl) rfl #[.string ji27] rfl (by (try simp only [List.map_toArray, List.map_cons, List.map_nil]); first | done | (simp only [hji27]; rfl) | rfl | (simp only [List.length_drop, List.length_take]; rfl)) ?_; (with_reducible refine (dec_digits.calls k ji27 t367 _ A28.out).mono ?_); rintro e w' ⟨rfl, ⟨nd, rfl⟩⟩; refine ⟨_, rfl, ?_⟩; have hnb30 := NB365_363.out; have hnc30 := NB363_365.out; have q31 := cf2 BK365.out; have q32 := cf2 BK363.out))
        refine bodyPost_ret (results_ct rfl _ _ gb363 47 #[.string ji5, .int .i64 0] (0, 0) _ rfl (by (with_reducible repeat (first | refine blk_drewN ?_ _ | refine blk_drew ?_ | refine blk_alloc ?_ _)); refine blk_put (cs := #[.string ji5, .int .i64 0]) ?_ 1 _ rfl; (with_reducible repeat (first | refine blk_drewN ?_ _ | refine blk_drew ?_ | refine blk_alloc ?_ _)); refine blk_put (cs := #[.string (⟨#[]⟩ : ByteArray), .int .i64 0]) ?_ 0 _ rfl; (with_reducible repeat (first | refine blk_drewN ?_ _ | refine blk_drew ?_ | refine blk_alloc ?_ _)); refine blk_far ?_ NB363_365.out _; (with_reducible repeat (first | refine blk_drewN ?_ _ | refine blk_drew ?_ | refine blk_alloc ?_ _)); refine blk_far ?_ NB363_365.out _; (with_reducible repeat (first | refine blk_drewN ?_ _ | refine blk_drew ?_ | refine blk_alloc ?_ _)); exact BK363.out) Tryd.underlying47 rfl (by kernel_rfl)) rfl ?_
        exact ⟨by first | rfl | (simp [errW_none, errW_some] <;> rfl) | (simp only [← hji5, ← hji8, ← hji27]; first | rfl | (simp [errW_none, errW_some] <;> rfl)) | (simp [*, errW_none, errW_some] <;> rfl), pB⟩
       ·rw [if_neg c29] at H
        have c29b0 : (t367 == 0) = false := beq_eq_false_iff_ne.mpr c29
        have c29b1 : (t367 != 0) = true := bne_iff_ne.mpr c29
        (first | rw [c29b0] | (simp only [i64_w, i32_w]; rw [c29b0]) | rw [c29b1] | (simp only [i64_w, i32_w]; rw [c29b1]) | skip)
        by_cases c33 : 1 ≤ (wrap64 (1 + t367))
        ·rw [if_pos c33] at H
         have c33b0 := eq_true c33
         have c33b1 : decide (1 ≤ (wrap64 (1 + t367))) = true := decide_eq_true c33
         by_cases c34 : (wrap64 (1 + t367)) ≤ ((ji8).size : Int)
         ·rw [if_pos c34] at H
          have c34b0 := eq_true c34
          have c34b1 : decide ((wrap64 (1 + t367)) ≤ ((ji8).size : Int)) = true := decide_eq_true c34
          obtain ⟨ji35, hji35⟩ : ∃ j_ : ByteArray, ((ji8).extract 1 ((wrap64 (1 + t367)) : Int).toNat) = j_ := ⟨_, rfl⟩
          replace H : (if (ji5).size + (ji35).size ≤ 9223372036854775807 then (if 0 ≤ (wrap64 (1 + t367)) then (dec_cut.j0 k ((ji8).extract ((wrap64 (1 + t367)) : Int).toNat (ji8).size) ((ji5) ++ (ji35)) (wrap64 (-t367))) else (none)) else (none)) = some (r1, r2, r3) := by first | (rw [hji35] at H; exact H) | (simp only [hji35] at H ⊢; exact H) | exact H
          (try rw [hji35] at A28)
          by_cases c36 : (ji5).size + (ji35).size ≤ 9223372036854775807
          ·rw [if_pos c36] at H
           have c36b0 := eq_true c36
           have c36b1 : decide ((ji5).size + (ji35).size ≤ 9223372036854775807) = true := decide_eq_true c36
           try have c36b2 : (9223372036854775807 < (ji5).size + (ji35).size) = False := eq_false (Nat.not_lt.2 c36)
           obtain ⟨ji37, hji37⟩ : ∃ j_ : Int, (wrap64 (1 + t367)) = j_ := ⟨_, rfl⟩
           replace H : (if 0 ≤ (ji37) then (dec_cut.j0 k ((ji8).extract ((ji37) : Int).toNat (ji8).size) ((ji5) ++ (ji35)) (wrap64 (-t367))) else (none)) = some (r1, r2, r3) := by first | (rw [hji37] at H; exact H) | (simp only [hji37] at H ⊢; exact H)
           (try rw [hji37] at hji35)
           (try rw [hji37] at c33b0)
           (try rw [hji37] at c33b1)
           (try rw [hji37] at c33)
           (try rw [hji37] at c34b0)
           (try rw [hji37] at c34b1)
           (try rw [hji37] at c34)
           (try rw [hji37] at A28)
           have hji37w : (IntKind.i64.wrap (1 + t367)) = ji37 := (i64_w _).trans hji37
           by_cases c38 : 0 ≤ (ji37)
           ·rw [if_pos c38] at H
            have c38b0 := eq_true c38
            have c38b1 : decide (0 ≤ (ji37)) = true := decide_eq_true c38
            clear c38
            have c39b0 := eq_true (pD : (ji37) ≤ ((ji8).size : Int))
            obtain ⟨ji40, hji40⟩ : ∃ j_ : ByteArray, ((ji8).extract ((ji37) : Int).toNat (ji8).size) = j_ := ⟨_, rfl⟩
            replace H : (dec_cut.j0 k ji40 ((ji5) ++ (ji35)) (wrap64 (-t367))) = some (r1, r2, r3) := by first | (rw [hji40] at H; exact H) | (simp only [hji40] at H ⊢; exact H) | exact H
            (try rw [hji40] at A28)
            have H' := am H
            clear H
            try go_wp2_with (first | ((with_reducible refine gate_callee (f := 42) rfl ?_); refine goesL_ (some 27) rfl rfl Tryd.func42 (by kernel_rfl) rfl #[.string ji27] rfl (by (try simp only [List.map_toArray, List.map_cons, List.map_nil]); first | done | (simp only [hji27]; rfl) | rfl | (simp only [List.length_drop, List.length_take]; rfl)) ?_; (with_reducible refine (dec_digits.calls k ji27 t367 _ A28.out).mono ?_); rintro e w' ⟨rfl, ⟨nd, rfl⟩⟩; refine ⟨_, rfl, ?_⟩))
            have n0_ : Aside0 (((w22.setCell ⟨gb365, 0, none⟩ (.string ji5)).setCell ⟨gb365, 1, none⟩ (.int .i64 0)).heap[gb363]? = some (.cells #[.string (⟨#[]⟩ : ByteArray), .int .i64 0] 47 (0, 0))) := ⟨by (with_reducible repeat (first | refine blk_drewN ?_ _ | refine blk_drew ?_ | refine blk_alloc ?_ _)); refine blk_far ?_ NB363_365.out _; (with_reducible repeat (first | refine blk_drewN ?_ _ | refine blk_drew ?_ | refine blk_alloc ?_ _)); refine blk_far ?_ NB363_365.out _; (with_reducible repeat (first | refine blk_drewN ?_ _ | refine blk_drew ?_ | refine blk_alloc ?_ _)); exact BK363.out⟩
            have n1_ : Aside0 (((w22.setCell ⟨gb365, 0, none⟩ (.string ji5)).setCell ⟨gb365, 1, none⟩ (.int .i64 0)).heap[gb365]? = some (.cells #[.string ji5, .int .i64 0] 47 (0, 0))) := ⟨by (with_reducible repeat (first | refine blk_drewN ?_ _ | refine blk_drew ?_ | refine blk_alloc ?_ _)); refine blk_put (cs := #[.string ji5, .int .i64 0]) ?_ 1 _ rfl; (with_reducible repeat (first | refine blk_drewN ?_ _ | refine blk_drew ?_ | refine blk_alloc ?_ _)); refine blk_put (cs := #[.string (⟨#[]⟩ : ByteArray), .int .i64 0]) ?_ 0 _ rfl; (with_reducible repeat (first | refine blk_drewN ?_ _ | refine blk_drew ?_ | refine blk_alloc ?_ _)); exact BK365.out⟩
            have n2_ : Aside0 (Below w.heap.size w ((w22.setCell ⟨gb365, 0, none⟩ (.string ji5)).setCell ⟨gb365, 1, none⟩ (.int .i64 0))) := ⟨pB⟩
            (try clear BK363); (try clear BK365); (try clear HB)
            generalize ((w22.setCell ⟨gb365, 0, none⟩ (.string ji5)).setCell ⟨gb365, 1, none⟩ (.int .i64 0)) = w41 at n0_ n1_ n2_ ⊢
            have BK363 := n0_; have BK365 := n1_; have HB := n2_; clear n0_ n1_ n2_
            (try (rw [drewN_self w41]; generalize hq_ : World.drewN w41 _ = w41; have n0_ : Aside0 (w41.heap[gb363]? = some (.cells #[.string (⟨#[]⟩ : ByteArray), .int .i64 0] 47 (0, 0))) := ⟨by rw [← hq_]; exact (pK BK363.out)⟩; have n1_ : Aside0 (w41.heap[gb365]? = some (.cells #[.string ji5, .int .i64 0] 47 (0, 0))) := ⟨by rw [← hq_]; exact (pK BK365.out)⟩; have n2_ : Aside0 (Below w.heap.size w w41) := ⟨by rw [← hq_]; exact pB⟩; clear BK363 BK365 HB hq_; have BK363 := n0_; have BK365 := n1_; have HB := n2_; clear n0_ n1_ n2_))
            replace BK363 := am (blk_drew BK363.out)
            replace BK365 := am (blk_drew BK365.out)
            replace HB := am (below_drew1 HB.out)
            refine start_ (n := 18) (S := fun w' => w'.cell? ⟨gb365, 0, none⟩ = some (.string ji5) ∧ w'.cell? ⟨gb365, 1, none⟩ = some (.int .i64 0)) (ds := [14, 16]) (bm 18 0) (by kernel_rfl) rfl rfl ⟨cz0 BK365.out, cz1 BK365.out⟩ (fun hHeld => ?_); refine with_tabW dec_cut.tab9 dec_cut.bits9 (fun HT_ HW_ => ?_)
            generalize w41.drew = w42 at BK363 BK365 HB hHeld ⊢
            refine pure_ (i := 0) (N := some 31) (v := ?_) (a' := ?_) (bm 18 1) rfl rfl (any_of HT_.out (by kernel_rfl)) (fun _ _ _ h => h) (Or.inl ⟨by kernel_rfl, ?_⟩) ?_ ?_
            rotate_left
            ·intro w'
             go_simp
             with_reducible rfl
            rotate_left
            ·exact pA
            refine pure_ (i := 2) (N := some 33) (v := ?_) (a' := ?_) (bm 18 5) rfl rfl (any_of HT_.out (by kernel_rfl)) (fun _ _ _ h => h) (Or.inl ⟨by kernel_rfl, ?_⟩) ?_ ?_
            rotate_left
            ·intro w'
             go_simp
             with_reducible rfl
            rotate_left
            ·exact pA
            refine pure_ (i := 3) (N := some 34) (v := ?_) (a' := ?_) (bm 18 13) rfl rfl (any_of HT_.out (by kernel_rfl)) (fun _ _ _ h => h) (Or.inl ⟨by kernel_rfl, ?_⟩) ?_ ?_
            rotate_left
            ·intro w'
             go_simp
             with_reducible rfl
            rotate_left
            ·exact pA
            refine pure_ (i := 4) (N := some 35) (v := ?_) (a' := ?_) (bm 18 29) rfl rfl (any_of HT_.out (by kernel_rfl)) (fun _ _ _ h => h) (Or.inl ⟨by kernel_rfl, ?_⟩) ?_ ?_
            rotate_left
            ·intro w'
             go_simp
             with_reducible rfl
            rotate_left
            ·exact pA
            refine pure_ (i := 5) (N := some 36) (v := ?_) (a' := ?_) (bm 18 61) rfl rfl (any_of HT_.out (by kernel_rfl)) (fun _ _ _ h => h) (Or.inl ⟨by kernel_rfl, ?_⟩) ?_ ?_
            rotate_left
            ·intro w'
             go_simp
             with_reducible rfl
            rotate_left
            ·exact pA
            refine pure_ (i := 7) (N := some 38) (v := ?_) (a' := ?_) (bm 18 189) rfl rfl (any_of HT_.out (by kernel_rfl)) (fun _ _ _ h => h) (Or.inl ⟨by kernel_rfl, ?_⟩) ?_ ?_
            rotate_left
            ·intro w'
             go_simp
             with_reducible rfl
            rotate_left
            ·exact pA
            refine pure_ (i := 8) (N := some 39) (v := ?_) (a' := ?_) (bm 18 445) rfl rfl (any_of HT_.out (by kernel_rfl)) (fun _ _ _ h => h) (Or.inl ⟨by kernel_rfl, ?_⟩) ?_ ?_
            rotate_left
            ·intro w'
             go_simp
             with_reducible rfl
            rotate_left
            ·exact pA
            refine pure_ (i := 9) (N := some 40) (v := ?_) (a' := ?_) (bm 18 957) rfl rfl (any_of HT_.out (by kernel_rfl)) (fun _ _ _ h => h) (Or.inl ⟨by kernel_rfl, ?_⟩) ?_ ?_
            rotate_left
            ·intro w'
             go_simp
             with_reducible rfl
            rotate_left
            ·exact pA
            refine pure_ (i := 10) (N := some 41) (v := ?_) (a' := ?_) (bm 18 1981) rfl rfl (any_of HT_.out (by kernel_rfl)) (fun _ _ _ h => h) (Or.inl ⟨by kernel_rfl, ?_⟩) ?_ ?_
            rotate_left
            ·intro w'
             go_simp
             with_reducible rfl
            rotate_left
            ·exact pA
            refine pure_ (i := 11) (N := some 42) (v := ?_) (a' := ?_) (bm 18 4029) rfl rfl (any_of HT_.out (by kernel_rfl)) (fun _ _ _ h => h) (Or.inl ⟨by kernel_rfl, ?_⟩) ?_ ?_
            rotate_left
            ·intro w'
             go_simp
             with_reducible rfl
            rotate_left
            ·exact pA
            refine pure_ (i := 12) (N := some 43) (v := ?_) (a' := ?_) (bm 18 8125) rfl rfl (any_of HT_.out (by kernel_rfl)) (fun _ _ _ h => h) (Or.inl ⟨by kernel_rfl, ?_⟩) ?_ ?_
            rotate_left
            ·intro w'
             go_simp
             with_reducible rfl
            rotate_left
            ·exact pA
            refine take_ (i := 1) (N := some 32) (v := ?_) (a' := ?_) (bm 18 8127) rfl rfl (take_ofW HT_.out HW_.out (by kernel_rfl)) (fun _ _ _ h => h) (Or.inl ⟨by kernel_rfl, ?_⟩) hHeld ?_ ?_
            rotate_left
            ·rintro w' ⟨s0, s1⟩
             go_simp
             with_reducible rfl
            rotate_left
            ·exact pA
            refine pure_ (i := 6) (N := some 37) (v := ?_) (a' := ?_) (bm 18 8191) rfl rfl (any_of HT_.out (by kernel_rfl)) (fun _ _ _ h => h) (Or.inl ⟨by kernel_rfl, ?_⟩) ?_ ?_
            rotate_left
            ·intro w'
             go_simp
             with_reducible rfl
            rotate_left
            ·exact pA
            refine pure_ (i := 13) (N := some 44) (v := ?_) (a' := ?_) (bm 18 16383) rfl rfl (any_of HT_.out (by kernel_rfl)) (fun _ _ _ h => h) (Or.inl ⟨by kernel_rfl, ?_⟩) ?_ ?_
            rotate_left
            ·intro w'
             go_simp
             with_reducible rfl
            rotate_left
            ·exact pA
            refine last_ (i := 14) (N := none) (bm 18 32767) rfl rfl (one_of HT_.out (by kernel_rfl)) (by decide) (fun K hK => ?_)
            have hs43 : w42.cell? ⟨gb365, 0, none⟩ = some (.string ji5) := cz0 BK365.out
            have hfs43 := blk_frozen BK365.out 0
            have hns43_0 := NB363_365.out
            have hms43_0 := NB365_363.out
            refine skip_ (w1 := ?_) ?hw rfl ?_ ?_; (case hw => kernel_rfl)
            rotate_left
            ·go_simp
             rfl
            refine hK.out _ _ ?_
            clear hK K
            refine pure_ (i := 15) (N := some 45) (v := ?_) (a' := ?_) (bm 18 65535) rfl rfl (any_of HT_.out (by kernel_rfl)) (fun _ _ _ h => h) (Or.inl ⟨by kernel_rfl, ?_⟩) ?_ ?_
            rotate_left
            ·intro w'
             go_simp
             with_reducible rfl
            rotate_left
            ·exact pA
            refine last_ (i := 16) (N := none) (bm 18 131071) rfl rfl (one_of HT_.out (by kernel_rfl)) (by decide) (fun K hK => ?_)
            have hs44 : w42.cell? ⟨gb365, 1, none⟩ = some (.int .i64 0) := cz1 BK365.out
            have hfs44 := blk_frozen BK365.out 1
            have hns44_0 := NB363_365.out
            have hms44_0 := NB365_363.out
            refine skip_ (w1 := ?_) ?hw rfl ?_ ?_; (case hw => kernel_rfl)
            rotate_left
            ·go_simp
             rfl
            refine hK.out _ _ ?_
            clear hK K
            refine pure_ (i := 17) (N := some 6) (v := ?_) (a' := ?_) (bm 18 262143) rfl rfl (any_of HT_.out (by kernel_rfl)) (fun _ _ _ h => h) (Or.inl ⟨by kernel_rfl, ?_⟩) ?_ ?_
            rotate_left
            ·intro w'
             go_simp
             with_reducible rfl
            rotate_left
            ·exact pA
            refine done_ (done_of HT_.out (by kernel_rfl)) ?_
            try go_wp2
            go_meet
            case rel => exact ⟨_, (ji40), ((⟨#[]⟩ : ByteArray)), (0), ((ji5) ++ (ji35)), (wrap64 (-t367)), (by first | rfl | (simp; done) | (simp only [← hji40] <;> (first | rfl | simp)) | (simp [*]; done)), H', ⟨by first | omega | exact Nat.le_refl _⟩, ⟨by (with_reducible repeat (first | refine blk_drewN ?_ _ | refine blk_drew ?_ | refine blk_alloc ?_ _)); refine blk_far ?_ NB363_365.out _; (with_reducible repeat (first | refine blk_drewN ?_ _ | refine blk_drew ?_ | refine blk_alloc ?_ _)); refine blk_far ?_ NB363_365.out _; (with_reducible repeat (first | refine blk_drewN ?_ _ | refine blk_drew ?_ | refine blk_alloc ?_ _)); exact BK363.out⟩, ⟨by (with_reducible repeat (first | refine blk_drewN ?_ _ | refine blk_drew ?_ | refine blk_alloc ?_ _)); refine blk_put (cs := #[.string ((ji5) ++ (ji35)), .int .i64 0]) ?_ 1 _ rfl; (with_reducible repeat (first | refine blk_drewN ?_ _ | refine blk_drew ?_ | refine blk_alloc ?_ _)); refine blk_put (cs := #[.string ji5, .int .i64 0]) ?_ 0 _ rfl; (with_reducible repeat (first | refine blk_drewN ?_ _ | refine blk_drew ?_ | refine blk_alloc ?_ _)); exact BK365.out⟩, ⟨pB⟩⟩
           ·rw [if_neg c38] at H
            exact absurd H (by simp)
          ·rw [if_neg c36] at H
           exact absurd H (by simp)
         ·rw [if_neg c34] at H
          exact absurd H (by simp)
        ·rw [if_neg c33] at H
         exact absurd H (by simp)
      ·rw [if_neg c26] at H
       exact absurd H (by simp)
     ·replace c25 := Bool.eq_false_iff.mpr c25
      subst c25
      rw [if_neg (show ¬ (false = true) by decide)] at H
      have H' := am H
      clear H
      go_wp2
      go_meet
      case rel => exact ⟨_, (ji8), ((⟨#[]⟩ : ByteArray)), (0), (ji5), (0), (by first | rfl | (simp; done) | (simp only [← hji8] <;> (first | rfl | simp)) | (simp [*]; done)), H', ⟨by first | omega | exact Nat.le_refl _⟩, ⟨by (with_reducible repeat (first | refine blk_drewN ?_ _ | refine blk_drew ?_ | refine blk_alloc ?_ _)); refine blk_far ?_ NB363_365.out _; (with_reducible repeat (first | refine blk_drewN ?_ _ | refine blk_drew ?_ | refine blk_alloc ?_ _)); refine blk_far ?_ NB363_365.out _; (with_reducible repeat (first | refine blk_drewN ?_ _ | refine blk_drew ?_ | refine blk_alloc ?_ _)); exact BK363.out⟩, ⟨by (with_reducible repeat (first | refine blk_drewN ?_ _ | refine blk_drew ?_ | refine blk_alloc ?_ _)); refine blk_put (cs := #[.string ji5, .int .i64 0]) ?_ 1 _ rfl; (with_reducible repeat (first | refine blk_drewN ?_ _ | refine blk_drew ?_ | refine blk_alloc ?_ _)); refine blk_put (cs := #[.string (⟨#[]⟩ : ByteArray), .int .i64 0]) ?_ 0 _ rfl; (with_reducible repeat (first | refine blk_drewN ?_ _ | refine blk_drew ?_ | refine blk_alloc ?_ _)); exact BK365.out⟩, ⟨pB⟩⟩
    case rest =>
     clear HC19
     try clear c1
     try clear c2
     try clear p2
     try clear c3
     try clear c3b0
     try clear c3b1
     try clear c4
     try clear c4b0
     try clear c4b1
     try clear c6
     try clear c6b0
     try clear p6
     try clear c7
     try clear c7b0
     try clear c9
     try clear c9b0
     try clear c9b1
     try clear c15
     try clear c17
     try clear c25
     try clear c26
     try clear c26b0
     try clear c26b1
     try clear c29
     try clear c29b0
     try clear c29b1
     try clear c30
     try clear c33
     try clear c33b0
     try clear c33b1
     try clear c34
     try clear c34b0
     try clear c34b1
     try clear c36
     try clear c36b0
     try clear c36b1
     try clear c36b2
     try clear c38
     try clear c38b0
     try clear c38b1
     try clear c39
     try clear c39b0
     try clear c42
     try clear c43
     try clear q16 q17 q31 q32
     obtain ⟨kq, x6_18, x364000_18, x364001_18, x366000_18, x366001_18, rfl, HA, HJ18, BK363, BK365, HB⟩ := hcut
     cases kq with
     | zero => exact absurd HA.out (by simp [dec_cut.j0])
     | succ kj18 =>
      have H := HA.out
      clear HA
      simp only [dec_cut.j0] at H
      by_cases c45 : x6_18.toList = ([] : List UInt8)
      ·rw [if_pos c45] at H
       have c45b0 : (x6_18.toList == ([] : List UInt8)) = true := beq_iff_eq.mpr c45
       have c45b1 : (x6_18.toList != ([] : List UInt8)) = false := bne_eq_false_iff_eq.mpr c45
       clear c45
       simp only [Option.some.injEq, Prod.mk.injEq] at H
       obtain ⟨rfl, rfl, rfl⟩ := H
       have hnb46 := NB365_363.out
       have hnc46 := NB363_365.out
       have q47 := cf2 BK365.out
       have q48 := cf2 BK363.out
       go_wp2
       refine bodyPost_ret (results_ct rfl _ _ gb363 47 #[.string x366000_18, .int .i64 x366001_18] (0, 0) _ rfl (by (with_reducible repeat (first | refine blk_drewN ?_ _ | refine blk_drew ?_ | refine blk_alloc ?_ _)); refine blk_put (cs := #[.string x366000_18, .int .i64 x364001_18]) ?_ 1 _ rfl; (with_reducible repeat (first | refine blk_drewN ?_ _ | refine blk_drew ?_ | refine blk_alloc ?_ _)); refine blk_put (cs := #[.string x364000_18, .int .i64 x364001_18]) ?_ 0 _ rfl; (with_reducible repeat (first | refine blk_drewN ?_ _ | refine blk_drew ?_ | refine blk_alloc ?_ _)); exact BK363.out) Tryd.underlying47 rfl (by kernel_rfl)) rfl ?_
       exact ⟨by first | rfl | (simp [errW_none, errW_some] <;> rfl) | (simp only [← hji5, ← hji8]; first | rfl | (simp [errW_none, errW_some] <;> rfl)) | (simp [*, errW_none, errW_some] <;> rfl), pB⟩
      ·rw [if_neg c45] at H
       have c45b0 : (x6_18.toList == ([] : List UInt8)) = false := beq_eq_false_iff_ne.mpr c45
       have c45b1 : (x6_18.toList != ([] : List UInt8)) = true := bne_iff_ne.mpr c45
       have HC49 := am H
       clear H
       go_upto_region 12 with (fail)
       go_cut [56] (fun v56 wc => ∃ (kq : Nat) (x56_48 : Bool), v56 = .bool x56_48 ∧ Aside0 (dec_cut.j1 kq x6_18 x56_48 x366000_18 x366001_18 = some (r1, r2, r3)) ∧ Aside0 (kq ≤ kj18) ∧ Aside0 (wc.heap[gb363]? = some (.cells #[.string x364000_18, .int .i64 x364001_18] 47 (0, 0))) ∧ Aside0 (wc.heap[gb365]? = some (.cells #[.string x366000_18, .int .i64 x366001_18] 47 (0, 0))) ∧ Aside0 (Below w.heap.size w wc))
       case first =>
        have H := HC49.out
        clear HC49
        by_cases c50 : 0 < (x6_18.size : Int)
        ·rw [if_pos c50] at H
         have c50b0 : decide (0 < (x6_18.size : Int)) = true := decide_eq_true c50
         have c50b1 : decide (0 < x6_18.size) = true := decide_eq_true (by omega)
         clear c50
         (first | rw [c50b0] | (simp only [i64_w, i32_w]; rw [c50b0]) | rw [c50b1] | (simp only [i64_w, i32_w]; rw [c50b1]) | skip)
         by_cases c52 : (bt x6_18 0) = 101
         ·rw [if_pos c52] at H
          have c52b0 : ((bt x6_18 0) == 101) = true := beq_iff_eq.mpr c52
          have c52b1 : ((bt x6_18 0) != 101) = false := bne_eq_false_iff_eq.mpr c52
          clear c52
          have H' := am H
          clear H
          have p51 : 0 ≤ (0 : Int) := (by omega)
          have q51 : 0 < x6_18.size := (by have : (0 : Int) < (x6_18.size : Int) := pD; omega)
          have hx51 : ∀ h : 0 < x6_18.size, ((x6_18[0]'h).toNat : Int) = bt x6_18 0 := bt_at x6_18 0
          clear p51
          have qi51 : (0 < (x6_18.size : Int)) = True := eq_true pD
          replace q51 := eq_true q51
          go_wp2
          go_meet
          case rel => exact ⟨_, (false), (by first | rfl | (simp; done) | (simp [*]; done)), H', ⟨by have := HJ18.out; first | omega | exact Nat.le_refl _⟩, ⟨by (with_reducible repeat (first | refine blk_drewN ?_ _ | refine blk_drew ?_ | refine blk_alloc ?_ _)); exact BK363.out⟩, ⟨by (with_reducible repeat (first | refine blk_drewN ?_ _ | refine blk_drew ?_ | refine blk_alloc ?_ _)); exact BK365.out⟩, ⟨pB⟩⟩
         ·rw [if_neg c52] at H
          have c52b0 : ((bt x6_18 0) == 101) = false := beq_eq_false_iff_ne.mpr c52
          have c52b1 : ((bt x6_18 0) != 101) = true := bne_iff_ne.mpr c52
          have H' := am H
          clear H
          have p51 : 0 ≤ (0 : Int) := (by omega)
          have q51 : 0 < x6_18.size := (by have : (0 : Int) < (x6_18.size : Int) := pD; omega)
          have hx51 : ∀ h : 0 < x6_18.size, ((x6_18[0]'h).toNat : Int) = bt x6_18 0 := bt_at x6_18 0
          clear p51
          have qi51 : (0 < (x6_18.size : Int)) = True := eq_true pD
          replace q51 := eq_true q51
          have p53 : 0 ≤ (0 : Int) := (by omega)
          have q53 : 0 < x6_18.size := (by have : (0 : Int) < (x6_18.size : Int) := pD; omega)
          have hx53 : ∀ h : 0 < x6_18.size, ((x6_18[0]'h).toNat : Int) = bt x6_18 0 := bt_at x6_18 0
          clear p53
          have qi53 : (0 < (x6_18.size : Int)) = True := eq_true pD
          replace q53 := eq_true q53
          go_wp2
          go_meet
          case rel => exact ⟨_, (((bt x6_18 0) != 69)), (by first | rfl | (simp; done) | (simp [*]; done)), H', ⟨by have := HJ18.out; first | omega | exact Nat.le_refl _⟩, ⟨by (with_reducible repeat (first | refine blk_drewN ?_ _ | refine blk_drew ?_ | refine blk_alloc ?_ _)); exact BK363.out⟩, ⟨by (with_reducible repeat (first | refine blk_drewN ?_ _ | refine blk_drew ?_ | refine blk_alloc ?_ _)); exact BK365.out⟩, ⟨pB⟩⟩
        ·rw [if_neg c50] at H
         exact absurd H (by simp)
       case rest =>
        clear HC49
        try clear c1
        try clear c2
        try clear p2
        try clear c3
        try clear c3b0
        try clear c3b1
        try clear c4
        try clear c4b0
        try clear c4b1
        try clear c5
        try clear p5
        try clear q5
        try clear hx5
        try clear qi5
        try clear c6
        try clear c6b0
        try clear p6
        try clear c7
        try clear c7b0
        try clear c9
        try clear c9b0
        try clear c9b1
        try clear c15
        try clear c17
        try clear c25
        try clear c26
        try clear c26b0
        try clear c26b1
        try clear c29
        try clear c29b0
        try clear c29b1
        try clear c30
        try clear c33
        try clear c33b0
        try clear c33b1
        try clear c34
        try clear c34b0
        try clear c34b1
        try clear c36
        try clear c36b0
        try clear c36b1
        try clear c36b2
        try clear c38
        try clear c38b0
        try clear c38b1
        try clear c39
        try clear c39b0
        try clear c42
        try clear c43
        try clear c45
        try clear c45b0
        try clear c45b1
        try clear c46
        try clear c50
        try clear c50b0
        try clear c50b1
        try clear p51
        try clear q51
        try clear hx51
        try clear qi51
        try clear c52
        try clear c52b0
        try clear c52b1
        try clear p53
        try clear q53
        try clear hx53
        try clear qi53
        try clear q16 q17 q31 q32 q47 q48
        try clear p2
        try clear p51
        try clear p53
        try clear p6
        try clear q51
        try clear q53
        obtain ⟨kq, x56_48, rfl, HA, HJ48, BK363, BK365, HB⟩ := hcut
        cases kq with
        | zero => exact absurd HA.out (by simp [dec_cut.j1])
        | succ kj48 =>
         have H := HA.out
         clear HA
         simp only [dec_cut.j1] at H
         by_cases c54 : x56_48 = true
         ·subst c54
          rw [if_pos rfl] at H
          simp only [Option.some.injEq, Prod.mk.injEq] at H
          obtain ⟨rfl, rfl, rfl⟩ := H
          have hnb55 := NB365_363.out
          have hnc55 := NB363_365.out
          have q56 := cf2 BK365.out
          have q57 := cf2 BK363.out
          go_wp2
          refine bodyPost_ret (results_ct rfl _ _ gb363 47 #[.string x366000_18, .int .i64 x366001_18] (0, 0) _ rfl (by (with_reducible repeat (first | refine blk_drewN ?_ _ | refine blk_drew ?_ | refine blk_alloc ?_ _)); refine blk_put (cs := #[.string x366000_18, .int .i64 x364001_18]) ?_ 1 _ rfl; (with_reducible repeat (first | refine blk_drewN ?_ _ | refine blk_drew ?_ | refine blk_alloc ?_ _)); refine blk_put (cs := #[.string x364000_18, .int .i64 x364001_18]) ?_ 0 _ rfl; (with_reducible repeat (first | refine blk_drewN ?_ _ | refine blk_drew ?_ | refine blk_alloc ?_ _)); exact BK363.out) Tryd.underlying47 rfl (by kernel_rfl)) rfl ?_
          exact ⟨by first | rfl | (simp [errW_none, errW_some] <;> rfl) | (simp only [← hji5, ← hji8]; first | rfl | (simp [errW_none, errW_some] <;> rfl)) | (simp [*, errW_none, errW_some] <;> rfl), pB⟩
         ·replace c54 := Bool.eq_false_iff.mpr c54
          subst c54
          rw [if_neg (show ¬ (false = true) by decide)] at H
          by_cases c58 : 1 ≤ (x6_18.size : Int)
          ·rw [if_pos c58] at H
           have c58b0 := eq_true c58
           have c58b1 : decide (1 ≤ (x6_18.size : Int)) = true := decide_eq_true c58
           clear c58
           obtain ⟨ji59, hji59⟩ : ∃ j_ : ByteArray, (x6_18.extract 1 x6_18.size) = j_ := ⟨_, rfl⟩
           replace H : (if (ji59).toList = ([] : List UInt8) then (dec_cut.j2 kj48 ji59 1 false x366000_18 x366001_18) else (if 0 < ((ji59).size : Int) then (if (bt (ji59) 0) = 43 then (dec_cut.j2 kj48 ji59 1 true x366000_18 x366001_18) else (dec_cut.j2 kj48 ji59 1 ((bt (ji59) 0) == 45) x366000_18 x366001_18)) else (none))) = some (r1, r2, r3) := by first | (rw [hji59] at H; exact H) | (simp only [hji59] at H ⊢; exact H) | exact H
           have HC60 := am H
           clear H
           go_upto_region 16 with (fail)
           go_cut [71] (fun v71 wc => ∃ (kq : Nat) (x71_59 : Bool), v71 = .bool x71_59 ∧ Aside0 (dec_cut.j2 kq ji59 1 x71_59 x366000_18 x366001_18 = some (r1, r2, r3)) ∧ Aside0 (kq ≤ kj48) ∧ Aside0 (wc.heap[gb363]? = some (.cells #[.string x364000_18, .int .i64 x364001_18] 47 (0, 0))) ∧ Aside0 (wc.heap[gb365]? = some (.cells #[.string x366000_18, .int .i64 x366001_18] 47 (0, 0))) ∧ Aside0 (Below w.heap.size w wc))
           case first =>
            have H := HC60.out
            clear HC60
            by_cases c61 : (ji59).toList = ([] : List UInt8)
            ·rw [if_pos c61] at H
             have c61b0 : ((ji59).toList == ([] : List UInt8)) = true := beq_iff_eq.mpr c61
             have c61b1 : ((ji59).toList != ([] : List UInt8)) = false := bne_eq_false_iff_eq.mpr c61
             clear c61
             (first | rw [c61b0] | (simp only [i64_w, i32_w]; rw [c61b0]) | rw [c61b1] | (simp only [i64_w, i32_w]; rw [c61b1]) | skip)
             have H' := am H
             clear H
             go_wp2
             go_meet
             case rel => exact ⟨_, (false), (by first | rfl | (simp; done) | (simp [*]; done)), H', ⟨by have := HJ18.out; have := HJ48.out; first | omega | exact Nat.le_refl _⟩, ⟨by (with_reducible repeat (first | refine blk_drewN ?_ _ | refine blk_drew ?_ | refine blk_alloc ?_ _)); exact BK363.out⟩, ⟨by (with_reducible repeat (first | refine blk_drewN ?_ _ | refine blk_drew ?_ | refine blk_alloc ?_ _)); exact BK365.out⟩, ⟨pB⟩⟩
            ·rw [if_neg c61] at H
             have c61b0 : ((ji59).toList == ([] : List UInt8)) = false := beq_eq_false_iff_ne.mpr c61
             have c61b1 : ((ji59).toList != ([] : List UInt8)) = true := bne_iff_ne.mpr c61
             (first | rw [c61b0] | (simp only [i64_w, i32_w]; rw [c61b0]) | rw [c61b1] | (simp only [i64_w, i32_w]; rw [c61b1]) | skip)
             by_cases c62 : 0 < ((ji59).size : Int)
             ·rw [if_pos c62] at H
              have c62b0 : decide (0 < ((ji59).size : Int)) = true := decide_eq_true c62
              have c62b1 : decide (0 < (ji59).size) = true := decide_eq_true (by omega)
              clear c62
              by_cases c64 : (bt (ji59) 0) = 43
              ·rw [if_pos c64] at H
               have c64b0 : ((bt (ji59) 0) == 43) = true := beq_iff_eq.mpr c64
               have c64b1 : ((bt (ji59) 0) != 43) = false := bne_eq_false_iff_eq.mpr c64
               clear c64
               have H' := am H
               clear H
               have p63 : 0 ≤ (0 : Int) := (by omega)
               have q63 : 0 < ji59.size := (by have : (0 : Int) < (ji59.size : Int) := pD; omega)
               have hx63 : ∀ h : 0 < ji59.size, ((ji59[0]'h).toNat : Int) = bt ji59 0 := bt_at ji59 0
               clear p63
               have qi63 : (0 < (ji59.size : Int)) = True := eq_true pD
               replace q63 := eq_true q63
               go_wp2
               go_meet
               case rel => exact ⟨_, (true), (by first | rfl | (simp; done) | (simp [*]; done)), H', ⟨by have := HJ18.out; have := HJ48.out; first | omega | exact Nat.le_refl _⟩, ⟨by (with_reducible repeat (first | refine blk_drewN ?_ _ | refine blk_drew ?_ | refine blk_alloc ?_ _)); exact BK363.out⟩, ⟨by (with_reducible repeat (first | refine blk_drewN ?_ _ | refine blk_drew ?_ | refine blk_alloc ?_ _)); exact BK365.out⟩, ⟨pB⟩⟩
              ·rw [if_neg c64] at H
               have c64b0 : ((bt (ji59) 0) == 43) = false := beq_eq_false_iff_ne.mpr c64
               have c64b1 : ((bt (ji59) 0) != 43) = true := bne_iff_ne.mpr c64
               have H' := am H
               clear H
               have p63 : 0 ≤ (0 : Int) := (by omega)
               have q63 : 0 < ji59.size := (by have : (0 : Int) < (ji59.size : Int) := pD; omega)
               have hx63 : ∀ h : 0 < ji59.size, ((ji59[0]'h).toNat : Int) = bt ji59 0 := bt_at ji59 0
               clear p63
               have qi63 : (0 < (ji59.size : Int)) = True := eq_true pD
               replace q63 := eq_true q63
               have p65 : 0 ≤ (0 : Int) := (by omega)
               have q65 : 0 < ji59.size := (by have : (0 : Int) < (ji59.size : Int) := pD; omega)
               have hx65 : ∀ h : 0 < ji59.size, ((ji59[0]'h).toNat : Int) = bt ji59 0 := bt_at ji59 0
               clear p65
               have qi65 : (0 < (ji59.size : Int)) = True := eq_true pD
               replace q65 := eq_true q65
               go_wp2
               go_meet
               case rel => exact ⟨_, (((bt (ji59) 0) == 45)), (by first | rfl | (simp; done) | (simp only [← hji59] <;> (first | rfl | simp)) | (simp [*]; done)), H', ⟨by have := HJ18.out; have := HJ48.out; first | omega | exact Nat.le_refl _⟩, ⟨by (with_reducible repeat (first | refine blk_drewN ?_ _ | refine blk_drew ?_ | refine blk_alloc ?_ _)); exact BK363.out⟩, ⟨by (with_reducible repeat (first | refine blk_drewN ?_ _ | refine blk_drew ?_ | refine blk_alloc ?_ _)); exact BK365.out⟩, ⟨pB⟩⟩
             ·rw [if_neg c62] at H
              exact absurd H (by simp)
           case rest =>
            clear HC60
            try clear c1
            try clear c2
            try clear p2
            try clear c3
            try clear c3b0
            try clear c3b1
            try clear c4
            try clear c4b0
            try clear c4b1
            try clear c5
            try clear p5
            try clear q5
            try clear hx5
            try clear qi5
            try clear c6
            try clear c6b0
            try clear p6
            try clear q6
            try clear hx6
            try clear qi6
            try clear c7
            try clear c7b0
            try clear c9
            try clear c9b0
            try clear c9b1
            try clear c15
            try clear c17
            try clear c25
            try clear c26
            try clear c26b0
            try clear c26b1
            try clear c29
            try clear c29b0
            try clear c29b1
            try clear c30
            try clear c33
            try clear c33b0
            try clear c33b1
            try clear c34
            try clear c34b0
            try clear c34b1
            try clear c36
            try clear c36b0
            try clear c36b1
            try clear c36b2
            try clear c38
            try clear c38b0
            try clear c38b1
            try clear c39
            try clear c39b0
            try clear c42
            try clear c43
            try clear c45
            try clear c45b0
            try clear c45b1
            try clear c46
            try clear c50
            try clear c50b0
            try clear c50b1
            try clear p51
            try clear q51
            try clear hx51
            try clear qi51
            try clear c52
            try clear c52b0
            try clear c52b1
            try clear p53
            try clear q53
            try clear hx53
            try clear qi53
            try clear c54
            try clear c55
            try clear c58
            try clear c58b0
            try clear c58b1
            try clear c61
            try clear c61b0
            try clear c61b1
            try clear c62
            try clear c62b0
            try clear c62b1
            try clear p63
            try clear q63
            try clear hx63
            try clear qi63
            try clear c64
            try clear c64b0
            try clear c64b1
            try clear p64
            try clear p65
            try clear q65
            try clear hx65
            try clear qi65
            try clear q16 q17 q31 q32 q47 q48 q56 q57
            try clear p2
            try clear p5
            try clear p51
            try clear p53
            try clear p6
            try clear p63
            try clear p65
            try clear q5
            try clear q51
            try clear q53
            try clear q63
            try clear q65
            obtain ⟨kq, x71_59, rfl, HA, HJ59, BK363, BK365, HB⟩ := hcut
            cases kq with
            | zero => exact absurd HA.out (by simp [dec_cut.j2])
            | succ kj59 =>
             have H := HA.out
             clear HA
             simp only [dec_cut.j2] at H
             have HC66 := am H
             clear H
             go_upto_if 71 with (fail)
             go_cut [6, 8] (fun v6 v8 wc => ∃ (kq : Nat) (x6_65 : ByteArray) (x8_65 : Int), v6 = .string x6_65 ∧ v8 = .int .i64 x8_65 ∧ Aside0 (dec_cut.j3 kq x6_65 x8_65 x366000_18 x366001_18 = some (r1, r2, r3)) ∧ Aside0 (kq ≤ kj59) ∧ Aside0 (wc.heap[gb363]? = some (.cells #[.string x364000_18, .int .i64 x364001_18] 47 (0, 0))) ∧ Aside0 (wc.heap[gb365]? = some (.cells #[.string x366000_18, .int .i64 x366001_18] 47 (0, 0))) ∧ Aside0 (Below w.heap.size w wc))
             case first =>
              have H := HC66.out
              clear HC66
              by_cases c67 : x71_59 = true
              ·subst c67
               rw [if_pos rfl] at H
               by_cases c68 : 0 < (ji59.size : Int)
               ·rw [if_pos c68] at H
                have c68b0 : decide (0 < (ji59.size : Int)) = true := decide_eq_true c68
                have c68b1 : decide (0 < ji59.size) = true := decide_eq_true (by omega)
                clear c68
                (first | rw [c68b0] | (simp only [i64_w, i32_w]; rw [c68b0]) | rw [c68b1] | (simp only [i64_w, i32_w]; rw [c68b1]) | skip)
                by_cases c70 : (bt ji59 0) = 45
                ·rw [if_pos c70] at H
                 have c70b0 : ((bt ji59 0) == 45) = true := beq_iff_eq.mpr c70
                 have c70b1 : ((bt ji59 0) != 45) = false := bne_eq_false_iff_eq.mpr c70
                 clear c70
                 by_cases c71 : 1 ≤ (ji59.size : Int)
                 ·rw [if_pos c71] at H
                  have c71b0 := eq_true c71
                  have c71b1 : decide (1 ≤ (ji59.size : Int)) = true := decide_eq_true c71
                  clear c71
                  obtain ⟨ji72, hji72⟩ : ∃ j_ : ByteArray, (ji59.extract 1 ji59.size) = j_ := ⟨_, rfl⟩
                  replace H : (dec_cut.j3 kj59 ji72 (-1) x366000_18 x366001_18) = some (r1, r2, r3) := by first | (rw [hji72] at H; exact H) | (simp only [hji72] at H ⊢; exact H) | exact H
                  have H' := am H
                  clear H
                  have p69 : 0 ≤ (0 : Int) := (by omega)
                  have q69 : 0 < ji59.size := (by have : (0 : Int) < (ji59.size : Int) := pD; omega)
                  have hx69 : ∀ h : 0 < ji59.size, ((ji59[0]'h).toNat : Int) = bt ji59 0 := bt_at ji59 0
                  clear p69
                  have qi69 : (0 < (ji59.size : Int)) = True := eq_true pD
                  replace q69 := eq_true q69
                  go_wp2
                  go_meet
                  case rel => exact ⟨_, (ji72), ((-1)), (by first | rfl | (simp; done) | (simp only [← hji72] <;> (first | rfl | simp)) | (simp [*]; done)), (by first | rfl | (simp; done) | (simp [*]; done)), H', ⟨by have := HJ18.out; have := HJ48.out; have := HJ59.out; first | omega | exact Nat.le_refl _⟩, ⟨by (with_reducible repeat (first | refine blk_drewN ?_ _ | refine blk_drew ?_ | refine blk_alloc ?_ _)); exact BK363.out⟩, ⟨by (with_reducible repeat (first | refine blk_drewN ?_ _ | refine blk_drew ?_ | refine blk_alloc ?_ _)); exact BK365.out⟩, ⟨pB⟩⟩
                 ·rw [if_neg c71] at H
                  exact absurd H (by simp)
                ·rw [if_neg c70] at H
                 have c70b0 : ((bt ji59 0) == 45) = false := beq_eq_false_iff_ne.mpr c70
                 have c70b1 : ((bt ji59 0) != 45) = true := bne_iff_ne.mpr c70
                 by_cases c73 : 1 ≤ (ji59.size : Int)
                 ·rw [if_pos c73] at H
                  have c73b0 := eq_true c73
                  have c73b1 : decide (1 ≤ (ji59.size : Int)) = true := decide_eq_true c73
                  clear c73
                  obtain ⟨ji74, hji74⟩ : ∃ j_ : ByteArray, (ji59.extract 1 ji59.size) = j_ := ⟨_, rfl⟩
                  replace H : (dec_cut.j3 kj59 ji74 1 x366000_18 x366001_18) = some (r1, r2, r3) := by first | (rw [hji74] at H; exact H) | (simp only [hji74] at H ⊢; exact H) | exact H
                  have H' := am H
                  clear H
                  have p69 : 0 ≤ (0 : Int) := (by omega)
                  have q69 : 0 < ji59.size := (by have : (0 : Int) < (ji59.size : Int) := pD; omega)
                  have hx69 : ∀ h : 0 < ji59.size, ((ji59[0]'h).toNat : Int) = bt ji59 0 := bt_at ji59 0
                  clear p69
                  have qi69 : (0 < (ji59.size : Int)) = True := eq_true pD
                  replace q69 := eq_true q69
                  go_wp2
                  go_meet
                  case rel => exact ⟨_, (ji74), (1), (by first | rfl | (simp; done) | (simp only [← hji74] <;> (first | rfl | simp)) | (simp [*]; done)), (by first | rfl | (simp; done) | (simp [*]; done)), H', ⟨by have := HJ18.out; have := HJ48.out; have := HJ59.out; first | omega | exact Nat.le_refl _⟩, ⟨by (with_reducible repeat (first | refine blk_drewN ?_ _ | refine blk_drew ?_ | refine blk_alloc ?_ _)); exact BK363.out⟩, ⟨by (with_reducible repeat (first | refine blk_drewN ?_ _ | refine blk_drew ?_ | refine blk_alloc ?_ _)); exact BK365.out⟩, ⟨pB⟩⟩
                 ·rw [if_neg c73] at H
                  exact absurd H (by simp)
               ·rw [if_neg c68] at H
                exact absurd H (by simp)
              ·replace c67 := Bool.eq_false_iff.mpr c67
               subst c67
               rw [if_neg (show ¬ (false = true) by decide)] at H
               have H' := am H
               clear H
               go_wp2
               go_meet
               case rel => exact ⟨_, (ji59), (1), (by first | rfl | (simp; done) | (simp only [← hji59] <;> (first | rfl | simp)) | (simp [*]; done)), (by first | rfl | (simp; done) | (simp [*]; done)), H', ⟨by have := HJ18.out; have := HJ48.out; have := HJ59.out; first | omega | exact Nat.le_refl _⟩, ⟨by (with_reducible repeat (first | refine blk_drewN ?_ _ | refine blk_drew ?_ | refine blk_alloc ?_ _)); exact BK363.out⟩, ⟨by (with_reducible repeat (first | refine blk_drewN ?_ _ | refine blk_drew ?_ | refine blk_alloc ?_ _)); exact BK365.out⟩, ⟨pB⟩⟩
             case rest =>
              clear HC66
              try clear c1
              try clear c2
              try clear p2
              try clear c3
              try clear c3b0
              try clear c3b1
              try clear c4
              try clear c4b0
              try clear c4b1
              try clear c5
              try clear p5
              try clear q5
              try clear hx5
              try clear qi5
              try clear c6
              try clear c6b0
              try clear p6
              try clear q6
              try clear hx6
              try clear qi6
              try clear c7
              try clear c7b0
              try clear c9
              try clear c9b0
              try clear c9b1
              try clear c15
              try clear c17
              try clear c25
              try clear c26
              try clear c26b0
              try clear c26b1
              try clear c29
              try clear c29b0
              try clear c29b1
              try clear c30
              try clear c33
              try clear c33b0
              try clear c33b1
              try clear c34
              try clear c34b0
              try clear c34b1
              try clear c36
              try clear c36b0
              try clear c36b1
              try clear c36b2
              try clear c38
              try clear c38b0
              try clear c38b1
              try clear c39
              try clear c39b0
              try clear c42
              try clear c43
              try clear c45
              try clear c45b0
              try clear c45b1
              try clear c46
              try clear c50
              try clear c50b0
              try clear c50b1
              try clear p51
              try clear q51
              try clear hx51
              try clear qi51
              try clear c52
              try clear c52b0
              try clear c52b1
              try clear p53
              try clear q53
              try clear hx53
              try clear qi53
              try clear c54
              try clear c55
              try clear c58
              try clear c58b0
              try clear c58b1
              try clear c61
              try clear c61b0
              try clear c61b1
              try clear c62
              try clear c62b0
              try clear c62b1
              try clear p63
              try clear q63
              try clear hx63
              try clear qi63
              try clear c64
              try clear c64b0
              try clear c64b1
              try clear p64
              try clear p65
              try clear q65
              try clear hx65
              try clear qi65
              try clear c67
              try clear c68
              try clear c68b0
              try clear c68b1
              try clear p69
              try clear q69
              try clear hx69
              try clear qi69
              try clear c70
              try clear c70b0
              try clear c70b1
              try clear c71
              try clear c71b0
              try clear c71b1
              try clear c73
              try clear c73b0
              try clear c73b1
              try clear q16 q17 q31 q32 q47 q48 q56 q57
              try clear p2
              try clear p5
              try clear p51
              try clear p53
              try clear p6
              try clear p63
              try clear p64
              try clear p65
              try clear p69
              try clear q5
              try clear q51
              try clear q53
              try clear q6
              try clear q63
              try clear q65
              try clear q69
              obtain ⟨kq, x6_65, x8_65, rfl, rfl, HA, HJ65, BK363, BK365, HB⟩ := hcut
              cases kq with
              | zero => exact absurd HA.out (by simp [dec_cut.j3])
              | succ kj65 =>
               have H := HA.out
               clear HA
               simp only [dec_cut.j3] at H
               have HC75 := am H
               clear H
               go_upto_region 20 with (fail)
               go_cut [85] (fun v85 wc => ∃ (kq : Nat) (x85_74 : Bool), v85 = .bool x85_74 ∧ Aside0 (dec_cut.j4 kq x6_65 x8_65 x85_74 x366000_18 x366001_18 = some (r1, r2, r3)) ∧ Aside0 (kq ≤ kj65) ∧ Aside0 (wc.heap[gb363]? = some (.cells #[.string x364000_18, .int .i64 x364001_18] 47 (0, 0))) ∧ Aside0 (wc.heap[gb365]? = some (.cells #[.string x366000_18, .int .i64 x366001_18] 47 (0, 0))) ∧ Aside0 (Below w.heap.size w wc))
               case first =>
                have H := HC75.out
                clear HC75
                by_cases c76 : x6_65.toList = ([] : List UInt8)
                ·rw [if_pos c76] at H
                 have c76b0 : (x6_65.toList == ([] : List UInt8)) = true := beq_iff_eq.mpr c76
                 have c76b1 : (x6_65.toList != ([] : List UInt8)) = false := bne_eq_false_iff_eq.mpr c76
                 clear c76
                 (first | rw [c76b0] | (simp only [i64_w, i32_w]; rw [c76b0]) | rw [c76b1] | (simp only [i64_w, i32_w]; rw [c76b1]) | skip)
                 have H' := am H
                 clear H
                 go_wp2
                 go_meet
                 case rel => exact ⟨_, (true), (by first | rfl | (simp; done) | (simp [*]; done)), H', ⟨by have := HJ18.out; have := HJ48.out; have := HJ59.out; have := HJ65.out; first | omega | exact Nat.le_refl _⟩, ⟨by (with_reducible repeat (first | refine blk_drewN ?_ _ | refine blk_drew ?_ | refine blk_alloc ?_ _)); exact BK363.out⟩, ⟨by (with_reducible repeat (first | refine blk_drewN ?_ _ | refine blk_drew ?_ | refine blk_alloc ?_ _)); exact BK365.out⟩, ⟨pB⟩⟩
                ·rw [if_neg c76] at H
                 have c76b0 : (x6_65.toList == ([] : List UInt8)) = false := beq_eq_false_iff_ne.mpr c76
                 have c76b1 : (x6_65.toList != ([] : List UInt8)) = true := bne_iff_ne.mpr c76
                 (first | rw [c76b0] | (simp only [i64_w, i32_w]; rw [c76b0]) | rw [c76b1] | (simp only [i64_w, i32_w]; rw [c76b1]) | skip)
                 replace H := Option.bind_eq_some_iff.mp H
                 obtain ⟨t368, A770, H⟩ := H
                 try dsimp only at H
                 have A77 := am A770
                 clear A770
                 have H' := am H
                 clear H
                 go_wp2_with (first | (go_at_call 42; (with_reducible refine (dec_digits.calls kj65 x6_65 t368 _ A77.out).mono ?_); rintro e w' ⟨rfl, ⟨nd, rfl⟩⟩))
                 go_meet
                 case rel => exact ⟨_, ((t368 != (x6_65.size : Int))), (by first | rfl | (simp; done) | (simp [*]; done)), H', ⟨by have := HJ18.out; have := HJ48.out; have := HJ59.out; have := HJ65.out; first | omega | exact Nat.le_refl _⟩, ⟨by (with_reducible repeat (first | refine blk_drewN ?_ _ | refine blk_drew ?_ | refine blk_alloc ?_ _)); exact BK363.out⟩, ⟨by (with_reducible repeat (first | refine blk_drewN ?_ _ | refine blk_drew ?_ | refine blk_alloc ?_ _)); exact BK365.out⟩, ⟨pB⟩⟩
               case rest =>
                clear HC75
                try clear c1
                try clear c2
                try clear p2
                try clear c3
                try clear c3b0
                try clear c3b1
                try clear c4
                try clear c4b0
                try clear c4b1
                try clear c5
                try clear p5
                try clear q5
                try clear hx5
                try clear qi5
                try clear c6
                try clear c6b0
                try clear p6
                try clear q6
                try clear hx6
                try clear qi6
                try clear c7
                try clear c7b0
                try clear c9
                try clear c9b0
                try clear c9b1
                try clear c15
                try clear c17
                try clear c25
                try clear c26
                try clear c26b0
                try clear c26b1
                try clear c29
                try clear c29b0
                try clear c29b1
                try clear c30
                try clear c33
                try clear c33b0
                try clear c33b1
                try clear c34
                try clear c34b0
                try clear c34b1
                try clear c36
                try clear c36b0
                try clear c36b1
                try clear c36b2
                try clear c38
                try clear c38b0
                try clear c38b1
                try clear c39
                try clear c39b0
                try clear c42
                try clear c43
                try clear c45
                try clear c45b0
                try clear c45b1
                try clear c46
                try clear c50
                try clear c50b0
                try clear c50b1
                try clear p51
                try clear q51
                try clear hx51
                try clear qi51
                try clear c52
                try clear c52b0
                try clear c52b1
                try clear p53
                try clear q53
                try clear hx53
                try clear qi53
                try clear c54
                try clear c55
                try clear c58
                try clear c58b0
                try clear c58b1
                try clear c61
                try clear c61b0
                try clear c61b1
                try clear c62
                try clear c62b0
                try clear c62b1
                try clear p63
                try clear q63
                try clear hx63
                try clear qi63
                try clear c64
                try clear c64b0
                try clear c64b1
                try clear p64
                try clear p65
                try clear q65
                try clear hx65
                try clear qi65
                try clear c67
                try clear c68
                try clear c68b0
                try clear c68b1
                try clear p69
                try clear q69
                try clear hx69
                try clear qi69
                try clear c70
                try clear c70b0
                try clear c70b1
                try clear c71
                try clear c71b0
                try clear c71b1
                try clear c73
                try clear c73b0
                try clear c73b1
                try clear c76
                try clear c76b0
                try clear c76b1
                try clear q16 q17 q31 q32 q47 q48 q56 q57
                try clear p2
                try clear p5
                try clear p51
                try clear p53
                try clear p6
                try clear p63
                try clear p64
                try clear p65
                try clear p69
                try clear q5
                try clear q51
                try clear q53
                try clear q6
                try clear q63
                try clear q65
                try clear q69
                obtain ⟨kq, x85_74, rfl, HA, HJ74, BK363, BK365, HB⟩ := hcut
                cases kq with
                | zero => exact absurd HA.out (by simp [dec_cut.j4])
                | succ kj74 =>
                 have H := HA.out
                 clear HA
                 simp only [dec_cut.j4] at H
                 by_cases c78 : x85_74 = true
                 ·subst c78
                  rw [if_pos rfl] at H
                  simp only [Option.some.injEq, Prod.mk.injEq] at H
                  obtain ⟨rfl, rfl, rfl⟩ := H
                  have hnb79 := NB365_363.out
                  have hnc79 := NB363_365.out
                  have q80 := cf2 BK365.out
                  have q81 := cf2 BK363.out
                  go_wp2
                  refine bodyPost_ret (results_ct rfl _ _ gb363 47 #[.string x366000_18, .int .i64 x366001_18] (0, 0) _ rfl (by (with_reducible repeat (first | refine blk_drewN ?_ _ | refine blk_drew ?_ | refine blk_alloc ?_ _)); refine blk_put (cs := #[.string x366000_18, .int .i64 x364001_18]) ?_ 1 _ rfl; (with_reducible repeat (first | refine blk_drewN ?_ _ | refine blk_drew ?_ | refine blk_alloc ?_ _)); refine blk_put (cs := #[.string x364000_18, .int .i64 x364001_18]) ?_ 0 _ rfl; (with_reducible repeat (first | refine blk_drewN ?_ _ | refine blk_drew ?_ | refine blk_alloc ?_ _)); exact BK363.out) Tryd.underlying47 rfl (by kernel_rfl)) rfl ?_
                  exact ⟨by first | rfl | (simp [errW_none, errW_some] <;> rfl) | (simp only [← hji5, ← hji8, ← hji59]; first | rfl | (simp [errW_none, errW_some] <;> rfl)) | (simp [*, errW_none, errW_some] <;> rfl), pB⟩
                 ·replace c78 := Bool.eq_false_iff.mpr c78
                  subst c78
                  rw [if_neg (show ¬ (false = true) by decide)] at H
                  have H' := am H
                  clear H
                  go_wp2
                  go_loopg [9, 89] kj74 (fun kq v9 v89 w' => ∃ (x9_6 : Int) (x89_6 : Int), v9 = .int .i64 x9_6 ∧ v89 = .int .i64 x89_6 ∧ Aside0 (dec_cut.l0 kq x6_65 x8_65 x9_6 (x6_65.size : Int) x89_6 x366000_18 x366001_18 = some (r1, r2, r3)) ∧ Aside0 (kq ≤ kj74) ∧ Aside0 (w'.heap[gb363]? = some (.cells #[.string x364000_18, .int .i64 x364001_18] 47 (0, 0))) ∧ Aside0 (w'.heap[gb365]? = some (.cells #[.string x366000_18, .int .i64 x366001_18] 47 (0, 0))) ∧ Aside0 (Below w.heap.size w w'))
                  case atStart => exact ⟨(0), (0), (by first | rfl | (simp; done) | (simp [*]; done)), (by first | rfl | (simp; done) | (simp [*]; done)), H', ⟨Nat.le_refl _⟩, ⟨by (with_reducible repeat (first | refine blk_drewN ?_ _ | refine blk_drew ?_ | refine blk_alloc ?_ _)); exact BK363.out⟩, ⟨by (with_reducible repeat (first | refine blk_drewN ?_ _ | refine blk_drew ?_ | refine blk_alloc ?_ _)); exact BK365.out⟩, ⟨pB⟩⟩
                  case round =>
                   clear H'
                   try clear c1
                   try clear c2
                   try clear p2
                   try clear c3
                   try clear c3b0
                   try clear c3b1
                   try clear c4
                   try clear c4b0
                   try clear c4b1
                   try clear c5
                   try clear p5
                   try clear q5
                   try clear hx5
                   try clear qi5
                   try clear c6
                   try clear c6b0
                   try clear p6
                   try clear q6
                   try clear hx6
                   try clear qi6
                   try clear c7
                   try clear c7b0
                   try clear c9
                   try clear c9b0
                   try clear c9b1
                   try clear c15
                   try clear c17
                   try clear c25
                   try clear c26
                   try clear c26b0
                   try clear c26b1
                   try clear c29
                   try clear c29b0
                   try clear c29b1
                   try clear c30
                   try clear c33
                   try clear c33b0
                   try clear c33b1
                   try clear c34
                   try clear c34b0
                   try clear c34b1
                   try clear c36
                   try clear c36b0
                   try clear c36b1
                   try clear c36b2
                   try clear c38
                   try clear c38b0
                   try clear c38b1
                   try clear c39
                   try clear c39b0
                   try clear c42
                   try clear c43
                   try clear c45
                   try clear c45b0
                   try clear c45b1
                   try clear c46
                   try clear c50
                   try clear c50b0
                   try clear c50b1
                   try clear p51
                   try clear q51
                   try clear hx51
                   try clear qi51
                   try clear c52
                   try clear c52b0
                   try clear c52b1
                   try clear p53
                   try clear q53
                   try clear hx53
                   try clear qi53
                   try clear c54
                   try clear c55
                   try clear c58
                   try clear c58b0
                   try clear c58b1
                   try clear c61
                   try clear c61b0
                   try clear c61b1
                   try clear c62
                   try clear c62b0
                   try clear c62b1
                   try clear p63
                   try clear q63
                   try clear hx63
                   try clear qi63
                   try clear c64
                   try clear c64b0
                   try clear c64b1
                   try clear p64
                   try clear p65
                   try clear q65
                   try clear hx65
                   try clear qi65
                   try clear c67
                   try clear c68
                   try clear c68b0
                   try clear c68b1
                   try clear p69
                   try clear q69
                   try clear hx69
                   try clear qi69
                   try clear c70
                   try clear c70b0
                   try clear c70b1
                   try clear c71
                   try clear c71b0
                   try clear c71b1
                   try clear c73
                   try clear c73b0
                   try clear c73b1
                   try clear c76
                   try clear c76b0
                   try clear c76b1
                   try clear c78
                   try clear c79
                   try clear q16 q17 q31 q32 q47 q48 q56 q57 q80 q81
                   try clear p2
                   try clear p5
                   try clear p51
                   try clear p53
                   try clear p6
                   try clear p63
                   try clear p64
                   try clear p65
                   try clear p69
                   try clear q5
                   try clear q51
                   try clear q53
                   try clear q6
                   try clear q63
                   try clear q65
                   try clear q69
                   obtain ⟨x9_6, x89_6, rfl, rfl, HA, HK6, BK363, BK365, HB⟩ := hrel
                   cases gk with
                   | zero => exact absurd HA.out (by simp [dec_cut.l0])
                   | succ k6 =>
                    have H := HA.out
                    clear HA
                    simp only [dec_cut.l0] at H
                    by_cases c82 : x89_6 < (x6_65.size : Int)
                    ·rw [if_pos c82] at H
                     have c82b0 : decide (x89_6 < (x6_65.size : Int)) = true := decide_eq_true c82
                     clear c82
                     by_cases c83 : 0 ≤ x89_6
                     ·rw [if_pos c83] at H
                      have c83b0 : decide (0 ≤ x89_6) = true := decide_eq_true c83
                      clear c83
                      by_cases c84 : x89_6 < (x6_65.size : Int)
                      ·rw [if_pos c84] at H
                       have c84b0 : decide (x89_6 < (x6_65.size : Int)) = true := decide_eq_true c84
                       clear c84
                       obtain ⟨ji86, hji86⟩ : ∃ j_ : Int, (mn (wrap64 ((wrap64 (10 * x9_6)) + (((bt x6_65 x89_6) - 48) % 256))) 9999) = j_ := ⟨_, rfl⟩
                       replace H : (dec_cut.l0 k6 x6_65 x8_65 ji86 (x6_65.size : Int) (wrap64 (x89_6 + 1)) x366000_18 x366001_18) = some (r1, r2, r3) := by first | (rw [hji86] at H; exact H) | (simp only [hji86] at H ⊢; exact H)
                       have hji86_ : (if 9999 < (wrap64 ((wrap64 (10 * x9_6)) + (((bt x6_65 x89_6) - 48) % 256))) then 9999 else (wrap64 ((wrap64 (10 * x9_6)) + (((bt x6_65 x89_6) - 48) % 256)))) = ji86 := hji86
                       have H' := am H
                       clear H
                       have p85 : 0 ≤ (x89_6 : Int) := pD
                       have q85 : x89_6 < (x6_65.size : Int) := pD
                       have hx85 := bt_at x6_65 x89_6
                       replace p85 := eq_true p85
                       replace q85 := eq_true q85
                       go_wp2
                       go_roundg k6
                       case measure => have := HJ18.out; have := HJ48.out; have := HJ59.out; have := HJ65.out; have := HJ74.out; have := HK6.out; omega
                       case rel => exact ⟨(ji86), (wrap64 (x89_6 + 1)), (by first | rfl | (simp; done) | (simp only [← hji86] <;> (first | rfl | simp)) | (simp [*]; done)), (by first | rfl | (simp; done) | (simp [*]; done)), H', ⟨by have := HJ18.out; have := HJ48.out; have := HJ59.out; have := HJ65.out; have := HJ74.out; have := HK6.out; omega⟩, ⟨by (with_reducible repeat (first | refine blk_drewN ?_ _ | refine blk_drew ?_ | refine blk_alloc ?_ _)); exact BK363.out⟩, ⟨by (with_reducible repeat (first | refine blk_drewN ?_ _ | refine blk_drew ?_ | refine blk_alloc ?_ _)); exact BK365.out⟩, ⟨pB⟩⟩
                      ·rw [if_neg c84] at H
                       exact absurd H (by simp)
                     ·rw [if_neg c83] at H
                      exact absurd H (by simp)
                    ·rw [if_neg c82] at H
                     have c82b0 : decide (x89_6 < (x6_65.size : Int)) = false := decide_eq_false c82
                     clear c82
                     simp only [Option.some.injEq, Prod.mk.injEq] at H
                     obtain ⟨rfl, rfl, rfl⟩ := H
                     have hnb87 := NB365_363.out
                     have hnc87 := NB363_365.out
                     have q88 := cf2 BK365.out
                     have q89 := cf2 BK363.out
                     go_wp2
                     refine bodyPost_ret (results_ct rfl _ _ gb363 47 #[.string x366000_18, .int .i64 (wrap64 (x366001_18 + (wrap64 (x8_65 * x9_6))))] (0, 0) _ rfl (by (with_reducible repeat (first | refine blk_drewN ?_ _ | refine blk_drew ?_ | refine blk_alloc ?_ _)); refine blk_put (cs := #[.string x366000_18, .int .i64 x364001_18]) ?_ 1 _ rfl; (with_reducible repeat (first | refine blk_drewN ?_ _ | refine blk_drew ?_ | refine blk_alloc ?_ _)); refine blk_put (cs := #[.string x364000_18, .int .i64 x364001_18]) ?_ 0 _ rfl; (with_reducible repeat (first | refine blk_drewN ?_ _ | refine blk_drew ?_ | refine blk_alloc ?_ _)); refine blk_far ?_ NB363_365.out _; (with_reducible repeat (first | refine blk_drewN ?_ _ | refine blk_drew ?_ | refine blk_alloc ?_ _)); exact BK363.out) Tryd.underlying47 rfl (by kernel_rfl)) rfl ?_
                     exact ⟨by first | rfl | (simp [errW_none, errW_some] <;> rfl) | (simp only [← hji5, ← hji8, ← hji59]; first | rfl | (simp [errW_none, errW_some] <;> rfl)) | (simp [*, errW_none, errW_some] <;> rfl), pB⟩
          ·rw [if_neg c58] at H
           exact absurd H (by simp)
  ·rw [if_neg c4] at H
   exact absurd H (by simp)
 ·rw [if_neg c3] at H
  exact absurd H (by simp)
end Go.Proofs.YtflcanpajgpghaaDoor.Pr
end
section
namespace Go.Proofs.YtflcanpajgpghaaDoor.Pr
open Go.RowKit Go.Proofs.YtflcanpajgpghaaDoorW.PrintWords Go.Proofs.YtflcanpajgpghaaDoorW.PrintLast Go.Proofs.YtflcanpajgpghaaDoorW.PrintMore
attribute [local go_sem] max2_int min2_int max_two min_two max_three min_three max_four min_four
def flo_shifted.f (a0 : Int) (a1 : Bool) (a2 : Int) : Option (Int) := if 0 ≤ a2 then (if a2 > 64 then (some 0) else (if 0 ≤ (wrap64 (a2 - 1)) then (if (Go.bits .and .u64 a0 (IntKind.u64.wrap ((shl .u64 1 a2) - 1))) > (shl .u64 1 (wrap64 (a2 - 1))) then (some (IntKind.u64.wrap ((shr .u64 a0 a2) + 1))) else (if (Go.bits .and .u64 a0 (IntKind.u64.wrap ((shl .u64 1 a2) - 1))) = (shl .u64 1 (wrap64 (a2 - 1))) then (if a1 = true then (some (IntKind.u64.wrap ((shr .u64 a0 a2) + 1))) else (if (Go.bits .and .u64 (shr .u64 a0 a2) 1) = 1 then (some (IntKind.u64.wrap ((shr .u64 a0 a2) + 1))) else (some (shr .u64 a0 a2)))) else (some (shr .u64 a0 a2)))) else (none))) else (none)
set_option maxHeartbeats 8000000 in
set_option maxRecDepth 100000 in
theorem flo_shifted.calls (a0 : Int) (a1 : Bool) (a2 : Int) (r : Int) (w : World) (h : flo_shifted.f a0 a1 a2 = some r) :
  Calls Tryd.prog 70 #[.int .u64 a0, .bool a1, .int .i64 a2] w fun e w' => e = .returned (.int .u64 r) ∧ Drawn0 w w' := by
 have H : (if 0 ≤ a2 then (if a2 > 64 then (some 0) else (if 0 ≤ (wrap64 (a2 - 1)) then (if (Go.bits .and .u64 a0 (IntKind.u64.wrap ((shl .u64 1 a2) - 1))) > (shl .u64 1 (wrap64 (a2 - 1))) then (some (IntKind.u64.wrap ((shr .u64 a0 a2) + 1))) else (if (Go.bits .and .u64 a0 (IntKind.u64.wrap ((shl .u64 1 a2) - 1))) = (shl .u64 1 (wrap64 (a2 - 1))) then (if a1 = true then (some (IntKind.u64.wrap ((shr .u64 a0 a2) + 1))) else (if (Go.bits .and .u64 (shr .u64 a0 a2) 1) = 1 then (some (IntKind.u64.wrap ((shr .u64 a0 a2) + 1))) else (some (shr .u64 a0 a2)))) else (some (shr .u64 a0 a2)))) else (none))) else (none)) = some r := h
 clear h
 by_cases c4 : 0 ≤ a2
 ·rw [if_pos c4] at H
  have c4b0 := eq_true c4
  have c4b1 : decide (0 ≤ a2) = true := decide_eq_true c4
  clear c4
  obtain ⟨ji5, hji5⟩ : ∃ j_ : Int, (shr .u64 a0 a2) = j_ := ⟨_, rfl⟩
  replace H : (if a2 > 64 then (some 0) else (if 0 ≤ (wrap64 (a2 - 1)) then (if (Go.bits .and .u64 a0 (IntKind.u64.wrap ((shl .u64 1 a2) - 1))) > (shl .u64 1 (wrap64 (a2 - 1))) then (some (IntKind.u64.wrap ((ji5) + 1))) else (if (Go.bits .and .u64 a0 (IntKind.u64.wrap ((shl .u64 1 a2) - 1))) = (shl .u64 1 (wrap64 (a2 - 1))) then (if a1 = true then (some (IntKind.u64.wrap ((ji5) + 1))) else (if (Go.bits .and .u64 (ji5) 1) = 1 then (some (IntKind.u64.wrap ((ji5) + 1))) else (some ji5))) else (some ji5))) else (none))) = some r := by first | (rw [hji5] at H; exact H) | (simp only [hji5] at H ⊢; exact H)
  have hji5_ : (a0 / 2 ^ min a2.toNat 64) = ji5 := hji5
  have hji5z : a2 ≤ 64 → (a0 / 2 ^ a2.toNat) = ji5 := shr_small hji5
  by_cases c6 : a2 > 64
  ·rw [if_pos c6] at H
   have c6b0 : decide (64 < a2) = true := decide_eq_true c6
   clear c6
   obtain rfl := Option.some.inj H
   go_enter Tryd.func70, Tryd.ntmps70
   go_wp2
   repeat (go_quiet (fail); try go_wp2)
   go_ret
   exact ⟨by first | rfl | (simp; done) | (simp only [← hji5] <;> (first | rfl | simp)) | (simp [*]; done), by repeat (first | exact Drawn0.refl _ | apply Drawn0.step)⟩
  ·rw [if_neg c6] at H
   have c6b0 : decide (64 < a2) = false := decide_eq_false c6
   clear c6
   have c7b0 := eq_true (pD : 0 ≤ a2)
   obtain ⟨ji8, hji8⟩ : ∃ j_ : Int, (shl .u64 1 a2) = j_ := ⟨_, rfl⟩
   replace H : (if 0 ≤ (wrap64 (a2 - 1)) then (if (Go.bits .and .u64 a0 (IntKind.u64.wrap ((ji8) - 1))) > (shl .u64 1 (wrap64 (a2 - 1))) then (some (IntKind.u64.wrap ((ji5) + 1))) else (if (Go.bits .and .u64 a0 (IntKind.u64.wrap ((ji8) - 1))) = (shl .u64 1 (wrap64 (a2 - 1))) then (if a1 = true then (some (IntKind.u64.wrap ((ji5) + 1))) else (if (Go.bits .and .u64 (ji5) 1) = 1 then (some (IntKind.u64.wrap ((ji5) + 1))) else (some ji5))) else (some ji5))) else (none)) = some r := by first | (rw [hji8] at H; exact H) | (simp only [hji8] at H ⊢; exact H)
   have hji8_ : (IntKind.u64.wrap (1 * 2 ^ min a2.toNat 64)) = ji8 := hji8
   have hji8z : a2 ≤ 64 → (IntKind.u64.wrap (1 * 2 ^ a2.toNat)) = ji8 := shl_small hji8
   have hji8u : (IntKind.u64.wrap (2 ^ min a2.toNat 64)) = ji8 := by have h_ := hji8_; rw [Int.one_mul] at h_; exact h_
   have hji8v : a2 ≤ 64 → (IntKind.u64.wrap (2 ^ a2.toNat)) = ji8 := fun hle_ => by have h_ := hji8z hle_; rw [Int.one_mul] at h_; exact h_
   obtain ⟨ji9, hji9⟩ : ∃ j_ : Int, (wrap64 (a2 - 1)) = j_ := ⟨_, rfl⟩
   replace H : (if 0 ≤ (ji9) then (if (Go.bits .and .u64 a0 (IntKind.u64.wrap ((ji8) - 1))) > (shl .u64 1 (ji9)) then (some (IntKind.u64.wrap ((ji5) + 1))) else (if (Go.bits .and .u64 a0 (IntKind.u64.wrap ((ji8) - 1))) = (shl .u64 1 (ji9)) then (if a1 = true then (some (IntKind.u64.wrap ((ji5) + 1))) else (if (Go.bits .and .u64 (ji5) 1) = 1 then (some (IntKind.u64.wrap ((ji5) + 1))) else (some ji5))) else (some ji5))) else (none)) = some r := by first | (rw [hji9] at H; exact H) | (simp only [hji9] at H ⊢; exact H)
   have hji9w : (IntKind.i64.wrap (a2 - 1)) = ji9 := (i64_w _).trans hji9
   by_cases c10 : 0 ≤ (ji9)
   ·rw [if_pos c10] at H
    have c10b0 := eq_true c10
    have c10b1 : decide (0 ≤ (ji9)) = true := decide_eq_true c10
    clear c10
    obtain ⟨ji11, hji11⟩ : ∃ j_ : Int, (shl .u64 1 (ji9)) = j_ := ⟨_, rfl⟩
    replace H : (if (Go.bits .and .u64 a0 (IntKind.u64.wrap ((ji8) - 1))) > (ji11) then (some (IntKind.u64.wrap ((ji5) + 1))) else (if (Go.bits .and .u64 a0 (IntKind.u64.wrap ((ji8) - 1))) = (ji11) then (if a1 = true then (some (IntKind.u64.wrap ((ji5) + 1))) else (if (Go.bits .and .u64 (ji5) 1) = 1 then (some (IntKind.u64.wrap ((ji5) + 1))) else (some ji5))) else (some ji5))) = some r := by first | (rw [hji11] at H; exact H) | (simp only [hji11] at H ⊢; exact H)
    have hji11_ : (IntKind.u64.wrap (1 * 2 ^ min (ji9).toNat 64)) = ji11 := hji11
    have hji11z : (ji9) ≤ 64 → (IntKind.u64.wrap (1 * 2 ^ (ji9).toNat)) = ji11 := shl_small hji11
    have hji11u : (IntKind.u64.wrap (2 ^ min (ji9).toNat 64)) = ji11 := by have h_ := hji11_; rw [Int.one_mul] at h_; exact h_
    have hji11v : (ji9) ≤ 64 → (IntKind.u64.wrap (2 ^ (ji9).toNat)) = ji11 := fun hle_ => by have h_ := hji11z hle_; rw [Int.one_mul] at h_; exact h_
    by_cases c12 : (Go.bits .and .u64 a0 (IntKind.u64.wrap ((ji8) - 1))) > (ji11)
    ·rw [if_pos c12] at H
     have c12b0 : decide ((ji11) < (Go.bits .and .u64 a0 (IntKind.u64.wrap ((ji8) - 1)))) = true := decide_eq_true c12
     clear c12
     obtain rfl := Option.some.inj H
     go_enter Tryd.func70, Tryd.ntmps70
     go_wp2
     repeat (go_quiet (fail); try go_wp2)
     go_ret
     exact ⟨by first | rfl | (simp; done) | (simp only [← hji5, ← hji8, ← hji9, ← hji11] <;> (first | rfl | simp)) | (simp [*]; done), by repeat (first | exact Drawn0.refl _ | apply Drawn0.step)⟩
    ·rw [if_neg c12] at H
     have c12b0 : decide ((ji11) < (Go.bits .and .u64 a0 (IntKind.u64.wrap ((ji8) - 1)))) = false := decide_eq_false c12
     clear c12
     by_cases c13 : (Go.bits .and .u64 a0 (IntKind.u64.wrap ((ji8) - 1))) = (ji11)
     ·rw [if_pos c13] at H
      have c13b0 : ((Go.bits .and .u64 a0 (IntKind.u64.wrap ((ji8) - 1))) == (ji11)) = true := beq_iff_eq.mpr c13
      have c13b1 : ((Go.bits .and .u64 a0 (IntKind.u64.wrap ((ji8) - 1))) != (ji11)) = false := bne_eq_false_iff_eq.mpr c13
      clear c13
      by_cases c14 : a1 = true
      ·subst c14
       rw [if_pos rfl] at H
       obtain rfl := Option.some.inj H
       go_enter Tryd.func70, Tryd.ntmps70
       go_wp2
       repeat (go_quiet (fail); try go_wp2)
       go_ret
       exact ⟨by first | rfl | (simp; done) | (simp only [← hji5, ← hji8, ← hji9, ← hji11] <;> (first | rfl | simp)) | (simp [*]; done), by repeat (first | exact Drawn0.refl _ | apply Drawn0.step)⟩
      ·replace c14 := Bool.eq_false_iff.mpr c14
       subst c14
       rw [if_neg (show ¬ (false = true) by decide)] at H
       by_cases c15 : (Go.bits .and .u64 (ji5) 1) = 1
       ·rw [if_pos c15] at H
        have c15b0 : ((Go.bits .and .u64 (ji5) 1) == 1) = true := beq_iff_eq.mpr c15
        have c15b1 : ((Go.bits .and .u64 (ji5) 1) != 1) = false := bne_eq_false_iff_eq.mpr c15
        clear c15
        obtain rfl := Option.some.inj H
        go_enter Tryd.func70, Tryd.ntmps70
        go_wp2
        repeat (go_quiet (fail); try go_wp2)
        go_ret
        exact ⟨by first | rfl | (simp; done) | (simp only [← hji5, ← hji8, ← hji9, ← hji11] <;> (first | rfl | simp)) | (simp [*]; done), by repeat (first | exact Drawn0.refl _ | apply Drawn0.step)⟩
       ·rw [if_neg c15] at H
        have c15b0 : ((Go.bits .and .u64 (ji5) 1) == 1) = false := beq_eq_false_iff_ne.mpr c15
        have c15b1 : ((Go.bits .and .u64 (ji5) 1) != 1) = true := bne_iff_ne.mpr c15
        obtain rfl := Option.some.inj H
        go_enter Tryd.func70, Tryd.ntmps70
        go_wp2
        repeat (go_quiet (fail); try go_wp2)
        go_ret
        exact ⟨by first | rfl | (simp; done) | (simp only [← hji5, ← hji8, ← hji9, ← hji11] <;> (first | rfl | simp)) | (simp [*]; done), by repeat (first | exact Drawn0.refl _ | apply Drawn0.step)⟩
     ·rw [if_neg c13] at H
      have c13b0 : ((Go.bits .and .u64 a0 (IntKind.u64.wrap ((ji8) - 1))) == (ji11)) = false := beq_eq_false_iff_ne.mpr c13
      have c13b1 : ((Go.bits .and .u64 a0 (IntKind.u64.wrap ((ji8) - 1))) != (ji11)) = true := bne_iff_ne.mpr c13
      obtain rfl := Option.some.inj H
      go_enter Tryd.func70, Tryd.ntmps70
      go_wp2
      repeat (go_quiet (fail); try go_wp2)
      go_ret
      exact ⟨by first | rfl | (simp; done) | (simp only [← hji5, ← hji8, ← hji9, ← hji11] <;> (first | rfl | simp)) | (simp [*]; done), by repeat (first | exact Drawn0.refl _ | apply Drawn0.step)⟩
   ·rw [if_neg c10] at H
    exact absurd H (by simp)
 ·rw [if_neg c4] at H
  exact absurd H (by simp)
mutual
def flo_Make.j0 : Nat → Int → Int → Bool → Int → Option (Int)
 | 0, _, _, _, _ => none
 | k + 1, x1, x2, x3, x9 => if x2 = 0 then (if x3 = true then (flo_Make.j1 k ((mn (mx x1 (-1048576)) 1048576) - 1) 1 false x9) else (some x9)) else (flo_Make.j1 k (mn (mx x1 (-1048576)) 1048576) x2 x3 x9)
def flo_Make.j1 : Nat → Int → Int → Bool → Int → Option (Int)
 | 0, _, _, _, _ => none
 | k + 1, x1, x2, x3, x9 => (bits_Len64.f x2).bind fun t369 => (if (mx (wrap64 ((wrap64 (t369 - 52)) - 1)) (wrap64 ((-1074) - x1))) > 0 then ((flo_shifted.f x2 x3 (mx (wrap64 ((wrap64 (t369 - 52)) - 1)) (wrap64 ((-1074) - x1)))).bind fun t370 => (flo_Make.j2 k x1 t370 x9 (mx (wrap64 ((wrap64 (t369 - 52)) - 1)) (wrap64 ((-1074) - x1))))) else (if (mx (wrap64 ((wrap64 (t369 - 52)) - 1)) (wrap64 ((-1074) - x1))) = 0 then (if x3 = true then (flo_Make.j2 k x1 (IntKind.u64.wrap (x2 + (Go.bits .and .u64 x2 1))) x9 (mx (wrap64 ((wrap64 (t369 - 52)) - 1)) (wrap64 ((-1074) - x1)))) else (flo_Make.j2 k x1 x2 x9 (mx (wrap64 ((wrap64 (t369 - 52)) - 1)) (wrap64 ((-1074) - x1))))) else (if 0 ≤ (wrap64 (-(mx (wrap64 ((wrap64 (t369 - 52)) - 1)) (wrap64 ((-1074) - x1))))) then (if x3 = true then (if 0 ≤ (wrap64 ((wrap64 (-(mx (wrap64 ((wrap64 (t369 - 52)) - 1)) (wrap64 ((-1074) - x1))))) - 1)) then (flo_Make.j2 k x1 (Go.bits .or .u64 (shl .u64 x2 (wrap64 (-(mx (wrap64 ((wrap64 (t369 - 52)) - 1)) (wrap64 ((-1074) - x1)))))) (shl .u64 1 (wrap64 ((wrap64 (-(mx (wrap64 ((wrap64 (t369 - 52)) - 1)) (wrap64 ((-1074) - x1))))) - 1)))) x9 (mx (wrap64 ((wrap64 (t369 - 52)) - 1)) (wrap64 ((-1074) - x1)))) else (none)) else (flo_Make.j2 k x1 (shl .u64 x2 (wrap64 (-(mx (wrap64 ((wrap64 (t369 - 52)) - 1)) (wrap64 ((-1074) - x1)))))) x9 (mx (wrap64 ((wrap64 (t369 - 52)) - 1)) (wrap64 ((-1074) - x1))))) else (none))))
def flo_Make.j2 : Nat → Int → Int → Int → Int → Option (Int)
 | 0, _, _, _, _ => none
 | k + 1, x1, x2, x9, x10 => if x2 = 9007199254740992 then (flo_Make.j3 k (wrap64 ((wrap64 (x1 + x10)) + 1)) 4503599627370496 x9) else (flo_Make.j3 k (wrap64 (x1 + x10)) x2 x9)
def flo_Make.j3 : Nat → Int → Int → Int → Option (Int)
 | 0, _, _, _ => none
 | k + 1, x1, x2, x9 => if x2 = 0 then (some x9) else (if x1 > 971 then (some (Go.bits .or .u64 x9 9218868437227405312)) else (if x2 < 4503599627370496 then (some (Go.bits .or .u64 x9 x2)) else (some (Go.bits .or .u64 (Go.bits .or .u64 x9 (IntKind.u64.wrap ((IntKind.u64.wrap (wrap64 (x1 + 1075))) * 4503599627370496))) (Go.bits .and .u64 x2 4503599627370495)))))
end
def flo_Make.f (k : Nat) (a0 : Bool) (a1 : Int) (a2 : Int) (a3 : Bool) : Option (Int) := if a0 = true then (flo_Make.j0 k a1 a2 a3 9223372036854775808) else (flo_Make.j0 k a1 a2 a3 0)
theorem flo_Make.mono_l : ∀ k, (∀ y0 y1 y2 y3, LeO (flo_Make.j0 k y0 y1 y2 y3) (flo_Make.j0 (k + 1) y0 y1 y2 y3)) ∧ (∀ y0 y1 y2 y3, LeO (flo_Make.j1 k y0 y1 y2 y3) (flo_Make.j1 (k + 1) y0 y1 y2 y3)) ∧ (∀ y0 y1 y2 y3, LeO (flo_Make.j2 k y0 y1 y2 y3) (flo_Make.j2 (k + 1) y0 y1 y2 y3)) ∧ (∀ y0 y1 y2, LeO (flo_Make.j3 k y0 y1 y2) (flo_Make.j3 (k + 1) y0 y1 y2))
 | 0 => ⟨fun _ _ _ _ r h => by simp [flo_Make.j0] at h, fun _ _ _ _ r h => by simp [flo_Make.j1] at h, fun _ _ _ _ r h => by simp [flo_Make.j2] at h, fun _ _ _ r h => by simp [flo_Make.j3] at h⟩
 | k + 1 => by
  obtain ⟨ih0, ih1, ih2, ih3⟩ := flo_Make.mono_l k
  refine ⟨?_, ?_, ?_, ?_⟩
  all_goals intros
  all_goals first | unfold flo_Make.j0 | unfold flo_Make.j1 | unfold flo_Make.j2 | unfold flo_Make.j3
  all_goals repeat' first
   | (with_reducible exact ih0 _ _ _ _)
   | (with_reducible exact ih1 _ _ _ _)
   | (with_reducible exact ih2 _ _ _ _)
   | (with_reducible exact ih3 _ _ _)
   | (with_reducible exact LeO.refl _)
   | (with_reducible exact LeO.none _)
   | (with_reducible refine LeO.ite ?_ ?_)
   | (with_reducible refine LeO.bind ?_ (fun _ => ?_))
   | exact ih0 _ _ _ _
   | exact ih1 _ _ _ _
   | exact ih2 _ _ _ _
   | exact ih3 _ _ _
   | exact LeO.none _
   | refine LeO.ite ?_ ?_
   | refine LeO.bind ?_ (fun _ => ?_)
theorem flo_Make.mono : ∀ a0 a1 a2 a3 k, LeO (flo_Make.f k a0 a1 a2 a3) (flo_Make.f (k + 1) a0 a1 a2 a3) := by
 intro a0 a1 a2 a3 k
 obtain ⟨ih0, ih1, ih2, ih3⟩ := flo_Make.mono_l k
 unfold flo_Make.f
 repeat' first
   | (with_reducible exact ih0 _ _ _ _)
   | (with_reducible exact ih1 _ _ _ _)
   | (with_reducible exact ih2 _ _ _ _)
   | (with_reducible exact ih3 _ _ _)
   | (with_reducible exact LeO.refl _)
   | (with_reducible exact LeO.none _)
   | (with_reducible refine LeO.ite ?_ ?_)
   | (with_reducible refine LeO.bind ?_ (fun _ => ?_))
   | exact ih0 _ _ _ _
   | exact ih1 _ _ _ _
   | exact ih2 _ _ _ _
   | exact ih3 _ _ _
   | exact LeO.none _
   | refine LeO.ite ?_ ?_
   | refine LeO.bind ?_ (fun _ => ?_)
set_option maxHeartbeats 8000000 in
set_option maxRecDepth 100000 in
theorem flo_Make.calls (k : Nat) (a0 : Bool) (a1 : Int) (a2 : Int) (a3 : Bool) (r : Int) (w : World) (h : flo_Make.f k a0 a1 a2 a3 = some r) :
  Calls Tryd.prog 44 #[.bool a0, .int .i64 a1, .int .u64 a2, .bool a3] w fun e w' => e = .returned (.int .u64 r) ∧ Below w.heap.size w w' := by
 have HB := am (Below.refl w.heap.size w)
 have H : (if a0 = true then (flo_Make.j0 k a1 a2 a3 9223372036854775808) else (flo_Make.j0 k a1 a2 a3 0)) = some r := h
 clear h
 have HC5 := am H
 clear H
 go_enter Tryd.func44, Tryd.ntmps44
 go_upto_if 11 with (fail)
 go_cut [9] (fun v9 wc => ∃ (kq : Nat) (x9_4 : Int), v9 = .int .u64 x9_4 ∧ Aside0 (flo_Make.j0 kq a1 a2 a3 x9_4 = some r) ∧ Aside0 (kq ≤ k) ∧ Aside0 (Below w.heap.size w wc))
 case first =>
  have H := HC5.out
  clear HC5
  by_cases c6 : a0 = true
  ·subst c6
   rw [if_pos rfl] at H
   have H' := am H
   clear H
   go_wp2
   go_meet
   case rel => exact ⟨_, (9223372036854775808), (by first | rfl | (simp; done) | (simp [*]; done)), H', ⟨by first | omega | exact Nat.le_refl _⟩, ⟨pB⟩⟩
  ·replace c6 := Bool.eq_false_iff.mpr c6
   subst c6
   rw [if_neg (show ¬ (false = true) by decide)] at H
   have H' := am H
   clear H
   go_wp2
   go_meet
   case rel => exact ⟨_, (0), (by first | rfl | (simp; done) | (simp [*]; done)), H', ⟨by first | omega | exact Nat.le_refl _⟩, ⟨pB⟩⟩
 case rest =>
  clear HC5
  try clear p2
  try clear c4
  try clear c6
  obtain ⟨kq, x9_4, rfl, HA, HJ4, HB⟩ := hcut
  cases kq with
  | zero => exact absurd HA.out (by simp [flo_Make.j0])
  | succ kj4 =>
   have H := HA.out
   clear HA
   simp only [flo_Make.j0] at H
   obtain ⟨ji7, hji7⟩ : ∃ j_ : Int, (mx a1 (-1048576)) = j_ := ⟨_, rfl⟩
   replace H : (if a2 = 0 then (if a3 = true then (flo_Make.j1 kj4 ((mn (ji7) 1048576) - 1) 1 false x9_4) else (some x9_4)) else (flo_Make.j1 kj4 (mn (ji7) 1048576) a2 a3 x9_4)) = some r := by first | (rw [hji7] at H; exact H) | (simp only [hji7] at H ⊢; exact H)
   have hji7_ : (if a1 < (-1048576) then (-1048576) else a1) = ji7 := hji7
   obtain ⟨ji8, hji8⟩ : ∃ j_ : Int, (mn (ji7) 1048576) = j_ := ⟨_, rfl⟩
   replace H : (if a2 = 0 then (if a3 = true then (flo_Make.j1 kj4 ((ji8) - 1) 1 false x9_4) else (some x9_4)) else (flo_Make.j1 kj4 ji8 a2 a3 x9_4)) = some r := by first | (rw [hji8] at H; exact H) | (simp only [hji8] at H ⊢; exact H)
   have hji8_ : (if 1048576 < (ji7) then 1048576 else (ji7)) = ji8 := hji8
   have HC9 := am H
   clear H
   go_upto_if 16 with (fail)
   go_cut [1, 2, 3] (fun v1 v2 v3 wc => ∃ (kq : Nat) (x1_8 : Int) (x2_8 : Int) (x3_8 : Bool), v1 = .int .i64 x1_8 ∧ v2 = .int .u64 x2_8 ∧ v3 = .bool x3_8 ∧ Aside0 (flo_Make.j1 kq x1_8 x2_8 x3_8 x9_4 = some r) ∧ Aside0 (kq ≤ kj4) ∧ Aside0 (Below w.heap.size w wc))
   case first =>
    have H := HC9.out
    clear HC9
    by_cases c10 : a2 = 0
    ·rw [if_pos c10] at H
     have c10b0 : (a2 == 0) = true := beq_iff_eq.mpr c10
     have c10b1 : (a2 != 0) = false := bne_eq_false_iff_eq.mpr c10
     clear c10
     (first | rw [c10b0] | (simp only [i64_w, i32_w]; rw [c10b0]) | rw [c10b1] | (simp only [i64_w, i32_w]; rw [c10b1]) | skip)
     by_cases c11 : a3 = true
     ·subst c11
      rw [if_pos rfl] at H
      have H' := am H
      clear H
      go_wp2
      go_meet
      case rel => exact ⟨_, ((ji8) - 1), (1), (false), (by first | rfl | (simp; done) | (simp only [← hji8] <;> (first | rfl | simp)) | (simp [*]; done)), (by first | rfl | (simp; done) | (simp [*]; done)), (by first | rfl | (simp; done) | (simp [*]; done)), H', ⟨by have := HJ4.out; first | omega | exact Nat.le_refl _⟩, ⟨pB⟩⟩
     ·replace c11 := Bool.eq_false_iff.mpr c11
      subst c11
      rw [if_neg (show ¬ (false = true) by decide)] at H
      obtain rfl := Option.some.inj H
      go_wp2
      go_ret
      exact ⟨by first | rfl | (simp [errW_none, errW_some] <;> rfl) | (simp only [← hji7, ← hji8]; first | rfl | (simp [errW_none, errW_some] <;> rfl)) | (simp [*, errW_none, errW_some] <;> rfl), pB⟩
    ·rw [if_neg c10] at H
     have c10b0 : (a2 == 0) = false := beq_eq_false_iff_ne.mpr c10
     have c10b1 : (a2 != 0) = true := bne_iff_ne.mpr c10
     (first | rw [c10b0] | (simp only [i64_w, i32_w]; rw [c10b0]) | rw [c10b1] | (simp only [i64_w, i32_w]; rw [c10b1]) | skip)
     have H' := am H
     clear H
     go_wp2
     go_meet
     case rel => exact ⟨_, (ji8), (a2), (a3), (by first | rfl | (simp; done) | (simp only [← hji8] <;> (first | rfl | simp)) | (simp [*]; done)), (by first | rfl | (simp; done) | (simp [*]; done)), (by first | rfl | (simp; done) | (simp [*]; done)), H', ⟨by have := HJ4.out; first | omega | exact Nat.le_refl _⟩, ⟨pB⟩⟩
   case rest =>
    clear HC9
    try clear c1
    try clear p2
    try clear c4
    try clear c6
    try clear c10
    try clear c10b0
    try clear c10b1
    try clear c11
    try clear p2
    obtain ⟨kq, x1_8, x2_8, x3_8, rfl, rfl, rfl, HA, HJ8, HB⟩ := hcut
    cases kq with
    | zero => exact absurd HA.out (by simp [flo_Make.j1])
    | succ kj8 =>
     have H := HA.out
     clear HA
     simp only [flo_Make.j1] at H
     replace H := Option.bind_eq_some_iff.mp H
     obtain ⟨t369, A120, H⟩ := H
     try dsimp only at H
     have A12 := am A120
     clear A120
     obtain ⟨ji13, hji13⟩ : ∃ j_ : Int, (mx (wrap64 ((wrap64 (t369 - 52)) - 1)) (wrap64 ((-1074) - x1_8))) = j_ := ⟨_, rfl⟩
     replace H : (if (ji13) > 0 then ((flo_shifted.f x2_8 x3_8 (ji13)).bind fun t370 => (flo_Make.j2 kj8 x1_8 t370 x9_4 ji13)) else (if (ji13) = 0 then (if x3_8 = true then (flo_Make.j2 kj8 x1_8 (IntKind.u64.wrap (x2_8 + (Go.bits .and .u64 x2_8 1))) x9_4 ji13) else (flo_Make.j2 kj8 x1_8 x2_8 x9_4 ji13)) else (if 0 ≤ (wrap64 (-(ji13))) then (if x3_8 = true then (if 0 ≤ (wrap64 ((wrap64 (-(ji13))) - 1)) then (flo_Make.j2 kj8 x1_8 (Go.bits .or .u64 (shl .u64 x2_8 (wrap64 (-(ji13)))) (shl .u64 1 (wrap64 ((wrap64 (-(ji13))) - 1)))) x9_4 ji13) else (none)) else (flo_Make.j2 kj8 x1_8 (shl .u64 x2_8 (wrap64 (-(ji13)))) x9_4 ji13)) else (none)))) = some r := by first | (rw [hji13] at H; exact H) | (simp only [hji13] at H ⊢; exact H)
     (try rw [hji13] at A12)
     have hji13_ : (if (wrap64 ((wrap64 (t369 - 52)) - 1)) < (wrap64 ((-1074) - x1_8)) then (wrap64 ((-1074) - x1_8)) else (wrap64 ((wrap64 (t369 - 52)) - 1))) = ji13 := hji13
     have HC14 := am H
     clear H
     go_upto_block 0 with (first | ((with_reducible refine gate_callee (f := 69) rfl ?_); refine goesL_ (some 23) rfl rfl Tryd.func69 (by kernel_rfl) rfl #[.int .u64 x2_8] rfl pM ?_; (with_reducible refine (bits_Len64.calls x2_8 t369 _ A12.out).mono ?_); rintro e w' ⟨rfl, ⟨nd, rfl⟩⟩; refine ⟨_, rfl, ?_⟩))
     (try simp only [Act.put, List.setIfInBounds_toArray, List.set_cons_zero, List.set_cons_succ])
     go_cut [2] (fun v2 wc => ∃ (kq : Nat) (x2_13 : Int), v2 = .int .u64 x2_13 ∧ Aside0 (flo_Make.j2 kq x1_8 x2_13 x9_4 ji13 = some r) ∧ Aside0 (kq ≤ kj8) ∧ Aside0 (Below w.heap.size w wc))
     case first =>
      have H := HC14.out
      clear HC14
      by_cases c15 : (ji13) > 0
      ·rw [if_pos c15] at H
       have c15b0 : decide (0 < (ji13)) = true := decide_eq_true c15
       clear c15
       (first | rw [c15b0] | (simp only [i64_w, i32_w]; rw [c15b0]) | rw [c15b1] | (simp only [i64_w, i32_w]; rw [c15b1]) | skip)
       replace H := Option.bind_eq_some_iff.mp H
       obtain ⟨t370, A160, H⟩ := H
       try dsimp only at H
       have A16 := am A160
       clear A160
       have H' := am H
       clear H
       go_wp2_with (first | ((with_reducible refine gate_callee (f := 70) rfl ?_); refine goesL_ (some 46) rfl rfl Tryd.func70 (by kernel_rfl) rfl #[.int .u64 x2_8, .bool x3_8, .int .i64 ji13] rfl (by (try simp only [List.map_toArray, List.map_cons, List.map_nil]); first | done | (simp only [hji13]; rfl) | rfl | (simp only [List.length_drop, List.length_take]; rfl)) ?_; (with_reducible refine (flo_shifted.calls x2_8 x3_8 ji13 t370 _ A16.out).mono ?_); rintro e w' ⟨rfl, ⟨nd, rfl⟩⟩; refine ⟨_, rfl, ?_⟩))
       go_meet
       case rel => exact ⟨_, (t370), (by first | rfl | (simp; done) | (simp [*]; done)), H', ⟨by have := HJ4.out; have := HJ8.out; first | omega | exact Nat.le_refl _⟩, ⟨pB⟩⟩
      ·rw [if_neg c15] at H
       have c15b0 : decide (0 < (ji13)) = false := decide_eq_false c15
       clear c15
       (first | rw [c15b0] | (simp only [i64_w, i32_w]; rw [c15b0]) | rw [c15b1] | (simp only [i64_w, i32_w]; rw [c15b1]) | skip)
       by_cases c17 : (ji13) = 0
       ·rw [if_pos c17] at H
        have c17b0 : ((ji13) == 0) = true := beq_iff_eq.mpr c17
        have c17b1 : ((ji13) != 0) = false := bne_eq_false_iff_eq.mpr c17
        clear c17
        by_cases c18 : x3_8 = true
        ·subst c18
         rw [if_pos rfl] at H
         have H' := am H
         clear H
         go_wp2
         go_meet
         case rel => exact ⟨_, (IntKind.u64.wrap (x2_8 + (Go.bits .and .u64 x2_8 1))), (by first | rfl | (simp; done) | (simp [*]; done)), H', ⟨by have := HJ4.out; have := HJ8.out; first | omega | exact Nat.le_refl _⟩, ⟨pB⟩⟩
        ·replace c18 := Bool.eq_false_iff.mpr c18
         subst c18
         rw [if_neg (show ¬ (false = true) by decide)] at H
         have H' := am H
         clear H
         go_wp2
         go_meet
         case rel => exact ⟨_, (x2_8), (by first | rfl | (simp; done) | (simp [*]; done)), H', ⟨by have := HJ4.out; have := HJ8.out; first | omega | exact Nat.le_refl _⟩, ⟨pB⟩⟩
       ·rw [if_neg c17] at H
        have c17b0 : ((ji13) == 0) = false := beq_eq_false_iff_ne.mpr c17
        have c17b1 : ((ji13) != 0) = true := bne_iff_ne.mpr c17
        obtain ⟨ji19, hji19⟩ : ∃ j_ : Int, (wrap64 (-(ji13))) = j_ := ⟨_, rfl⟩
        replace H : (if 0 ≤ (ji19) then (if x3_8 = true then (if 0 ≤ (wrap64 ((ji19) - 1)) then (flo_Make.j2 kj8 x1_8 (Go.bits .or .u64 (shl .u64 x2_8 (ji19)) (shl .u64 1 (wrap64 ((ji19) - 1)))) x9_4 ji13) else (none)) else (flo_Make.j2 kj8 x1_8 (shl .u64 x2_8 (ji19)) x9_4 ji13)) else (none)) = some r := by first | (rw [hji19] at H; exact H) | (simp only [hji19] at H ⊢; exact H)
        have hji19w : (IntKind.i64.wrap (-(ji13))) = ji19 := (i64_w _).trans hji19
        by_cases c20 : 0 ≤ (ji19)
        ·rw [if_pos c20] at H
         have c20b0 := eq_true c20
         have c20b1 : decide (0 ≤ (ji19)) = true := decide_eq_true c20
         clear c20
         obtain ⟨ji21, hji21⟩ : ∃ j_ : Int, (shl .u64 x2_8 (ji19)) = j_ := ⟨_, rfl⟩
         replace H : (if x3_8 = true then (if 0 ≤ (wrap64 ((ji19) - 1)) then (flo_Make.j2 kj8 x1_8 (Go.bits .or .u64 (ji21) (shl .u64 1 (wrap64 ((ji19) - 1)))) x9_4 ji13) else (none)) else (flo_Make.j2 kj8 x1_8 ji21 x9_4 ji13)) = some r := by first | (rw [hji21] at H; exact H) | (simp only [hji21] at H ⊢; exact H)
         have hji21_ : (IntKind.u64.wrap (x2_8 * 2 ^ min (ji19).toNat 64)) = ji21 := hji21
         have hji21z : (ji19) ≤ 64 → (IntKind.u64.wrap (x2_8 * 2 ^ (ji19).toNat)) = ji21 := shl_small hji21
         by_cases c22 : x3_8 = true
         ·subst c22
          rw [if_pos rfl] at H
          obtain ⟨ji23, hji23⟩ : ∃ j_ : Int, (wrap64 ((ji19) - 1)) = j_ := ⟨_, rfl⟩
          replace H : (if 0 ≤ (ji23) then (flo_Make.j2 kj8 x1_8 (Go.bits .or .u64 (ji21) (shl .u64 1 (ji23))) x9_4 ji13) else (none)) = some r := by first | (rw [hji23] at H; exact H) | (simp only [hji23] at H ⊢; exact H)
          have hji23w : (IntKind.i64.wrap ((ji19) - 1)) = ji23 := (i64_w _).trans hji23
          by_cases c24 : 0 ≤ (ji23)
          ·rw [if_pos c24] at H
           have c24b0 := eq_true c24
           have c24b1 : decide (0 ≤ (ji23)) = true := decide_eq_true c24
           clear c24
           obtain ⟨ji25, hji25⟩ : ∃ j_ : Int, (shl .u64 1 (ji23)) = j_ := ⟨_, rfl⟩
           replace H : (flo_Make.j2 kj8 x1_8 (Go.bits .or .u64 (ji21) (ji25)) x9_4 ji13) = some r := by first | (rw [hji25] at H; exact H) | (simp only [hji25] at H ⊢; exact H)
           have hji25_ : (IntKind.u64.wrap (1 * 2 ^ min (ji23).toNat 64)) = ji25 := hji25
           have hji25z : (ji23) ≤ 64 → (IntKind.u64.wrap (1 * 2 ^ (ji23).toNat)) = ji25 := shl_small hji25
           have hji25u : (IntKind.u64.wrap (2 ^ min (ji23).toNat 64)) = ji25 := by have h_ := hji25_; rw [Int.one_mul] at h_; exact h_
           have hji25v : (ji23) ≤ 64 → (IntKind.u64.wrap (2 ^ (ji23).toNat)) = ji25 := fun hle_ => by have h_ := hji25z hle_; rw [Int.one_mul] at h_; exact h_
           have H' := am H
           clear H
           go_wp2
           go_meet
           case rel => exact ⟨_, (Go.bits .or .u64 (ji21) (ji25)), (by first | rfl | (simp; done) | (simp only [← hji21, ← hji25] <;> (first | rfl | simp)) | (simp [*]; done)), H', ⟨by have := HJ4.out; have := HJ8.out; first | omega | exact Nat.le_refl _⟩, ⟨pB⟩⟩
          ·rw [if_neg c24] at H
           exact absurd H (by simp)
         ·replace c22 := Bool.eq_false_iff.mpr c22
          subst c22
          rw [if_neg (show ¬ (false = true) by decide)] at H
          have H' := am H
          clear H
          go_wp2
          go_meet
          case rel => exact ⟨_, (ji21), (by first | rfl | (simp; done) | (simp only [← hji21] <;> (first | rfl | simp)) | (simp [*]; done)), H', ⟨by have := HJ4.out; have := HJ8.out; first | omega | exact Nat.le_refl _⟩, ⟨pB⟩⟩
        ·rw [if_neg c20] at H
         exact absurd H (by simp)
     case rest =>
      clear HC14
      try clear c1
      try clear c2
      try clear p2
      try clear c4
      try clear c6
      try clear p6
      try clear c7
      try clear c10
      try clear c10b0
      try clear c10b1
      try clear c11
      try clear c15
      try clear c15b0
      try clear c15b1
      try clear c17
      try clear c17b0
      try clear c17b1
      try clear c18
      try clear c20
      try clear c20b0
      try clear c20b1
      try clear c22
      try clear c24
      try clear c24b0
      try clear c24b1
      try clear p2
      obtain ⟨kq, x2_13, rfl, HA, HJ13, HB⟩ := hcut
      cases kq with
      | zero => exact absurd HA.out (by simp [flo_Make.j2])
      | succ kj13 =>
       have H := HA.out
       clear HA
       simp only [flo_Make.j2] at H
       have HC26 := am H
       clear H
       go_upto_if 59 with (fail)
       go_cut [1, 2] (fun v1 v2 wc => ∃ (kq : Nat) (x1_25 : Int) (x2_25 : Int), v1 = .int .i64 x1_25 ∧ v2 = .int .u64 x2_25 ∧ Aside0 (flo_Make.j3 kq x1_25 x2_25 x9_4 = some r) ∧ Aside0 (kq ≤ kj13) ∧ Aside0 (Below w.heap.size w wc))
       case first =>
        have H := HC26.out
        clear HC26
        by_cases c27 : x2_13 = 9007199254740992
        ·rw [if_pos c27] at H
         have c27b0 : (x2_13 == 9007199254740992) = true := beq_iff_eq.mpr c27
         have c27b1 : (x2_13 != 9007199254740992) = false := bne_eq_false_iff_eq.mpr c27
         clear c27
         (first | rw [c27b0] | (simp only [i64_w, i32_w]; rw [c27b0]) | rw [c27b1] | (simp only [i64_w, i32_w]; rw [c27b1]) | skip)
         have H' := am H
         clear H
         go_wp2
         go_meet
         case rel => exact ⟨_, (wrap64 ((wrap64 (x1_8 + ji13)) + 1)), (4503599627370496), (by first | rfl | (simp; done) | (simp only [← hji13] <;> (first | rfl | simp)) | (simp [*]; done)), (by first | rfl | (simp; done) | (simp [*]; done)), H', ⟨by have := HJ4.out; have := HJ8.out; have := HJ13.out; first | omega | exact Nat.le_refl _⟩, ⟨pB⟩⟩
        ·rw [if_neg c27] at H
         have c27b0 : (x2_13 == 9007199254740992) = false := beq_eq_false_iff_ne.mpr c27
         have c27b1 : (x2_13 != 9007199254740992) = true := bne_iff_ne.mpr c27
         (first | rw [c27b0] | (simp only [i64_w, i32_w]; rw [c27b0]) | rw [c27b1] | (simp only [i64_w, i32_w]; rw [c27b1]) | skip)
         have H' := am H
         clear H
         go_wp2
         go_meet
         case rel => exact ⟨_, (wrap64 (x1_8 + ji13)), (x2_13), (by first | rfl | (simp; done) | (simp only [← hji13] <;> (first | rfl | simp)) | (simp [*]; done)), (by first | rfl | (simp; done) | (simp [*]; done)), H', ⟨by have := HJ4.out; have := HJ8.out; have := HJ13.out; first | omega | exact Nat.le_refl _⟩, ⟨pB⟩⟩
       case rest =>
        clear HC26
        try clear c1
        try clear c2
        try clear p2
        try clear c4
        try clear c6
        try clear p6
        try clear c7
        try clear c10
        try clear c10b0
        try clear c10b1
        try clear c11
        try clear c15
        try clear c15b0
        try clear c15b1
        try clear c17
        try clear c17b0
        try clear c17b1
        try clear c18
        try clear c20
        try clear c20b0
        try clear c20b1
        try clear c22
        try clear c24
        try clear c24b0
        try clear c24b1
        try clear c27
        try clear c27b0
        try clear c27b1
        try clear p2
        try clear p6
        obtain ⟨kq, x1_25, x2_25, rfl, rfl, HA, HJ25, HB⟩ := hcut
        cases kq with
        | zero => exact absurd HA.out (by simp [flo_Make.j3])
        | succ kj25 =>
         have H := HA.out
         clear HA
         simp only [flo_Make.j3] at H
         by_cases c28 : x2_25 = 0
         ·rw [if_pos c28] at H
          have c28b0 : (x2_25 == 0) = true := beq_iff_eq.mpr c28
          have c28b1 : (x2_25 != 0) = false := bne_eq_false_iff_eq.mpr c28
          clear c28
          obtain rfl := Option.some.inj H
          go_wp2
          go_ret
          exact ⟨by first | rfl | (simp [errW_none, errW_some] <;> rfl) | (simp only [← hji7, ← hji8, ← hji13]; first | rfl | (simp [errW_none, errW_some] <;> rfl)) | (simp [*, errW_none, errW_some] <;> rfl), pB⟩
         ·rw [if_neg c28] at H
          have c28b0 : (x2_25 == 0) = false := beq_eq_false_iff_ne.mpr c28
          have c28b1 : (x2_25 != 0) = true := bne_iff_ne.mpr c28
          by_cases c29 : x1_25 > 971
          ·rw [if_pos c29] at H
           have c29b0 : decide (971 < x1_25) = true := decide_eq_true c29
           clear c29
           obtain rfl := Option.some.inj H
           go_wp2
           go_ret
           exact ⟨by first | rfl | (simp [errW_none, errW_some] <;> rfl) | (simp only [← hji7, ← hji8, ← hji13]; first | rfl | (simp [errW_none, errW_some] <;> rfl)) | (simp [*, errW_none, errW_some] <;> rfl), pB⟩
          ·rw [if_neg c29] at H
           have c29b0 : decide (971 < x1_25) = false := decide_eq_false c29
           clear c29
           by_cases c30 : x2_25 < 4503599627370496
           ·rw [if_pos c30] at H
            have c30b0 : decide (x2_25 < 4503599627370496) = true := decide_eq_true c30
            clear c30
            obtain rfl := Option.some.inj H
            go_wp2
            go_ret
            exact ⟨by first | rfl | (simp [errW_none, errW_some] <;> rfl) | (simp only [← hji7, ← hji8, ← hji13]; first | rfl | (simp [errW_none, errW_some] <;> rfl)) | (simp [*, errW_none, errW_some] <;> rfl), pB⟩
           ·rw [if_neg c30] at H
            have c30b0 : decide (x2_25 < 4503599627370496) = false := decide_eq_false c30
            clear c30
            obtain rfl := Option.some.inj H
            go_wp2
            go_ret
            exact ⟨by first | rfl | (simp [errW_none, errW_some] <;> rfl) | (simp only [← hji7, ← hji8, ← hji13]; first | rfl | (simp [errW_none, errW_some] <;> rfl)) | (simp [*, errW_none, errW_some] <;> rfl), pB⟩
def b_by.l0 : Nat → List Int → List Int → Int → Int → Option (Int × Bool)
 | 0, _, _, _, _ => none
 | k + 1, x0, x1, x6, x7 => if x7 ≥ 0 then ((b_len.f x0).bind fun t371 => ((b_len.f x1).bind fun t372 => (if t371 < (wrap64 (t372 + x7)) then (b_by.l0 k x0 x1 x6 (wrap64 (x7 - 1))) else ((b_up.f k x1 x7).bind fun t373 => ((b_cmp.f k x0 t373).bind fun t376 => (if t376 ≥ 0 then ((b_minus.f k x0 t373).bind fun t377 => (if 0 ≤ x7 then (b_by.l0 k t377 x1 (Go.bits .or .u64 x6 (shl .u64 1 x7)) (wrap64 (x7 - 1))) else (none))) else (b_by.l0 k x0 x1 x6 (wrap64 (x7 - 1))))))))) else (some (x6, decide ((x0.length : Int) > 0)))
def b_by.f (k : Nat) (l0 : List Int) (l1 : List Int) : Option (Int × Bool) := b_by.l0 k l0 l1 0 63
theorem b_by.mono_l : ∀ k, (∀ y0 y1 y2 y3, LeO (b_by.l0 k y0 y1 y2 y3) (b_by.l0 (k + 1) y0 y1 y2 y3))
 | 0 => fun _ _ _ _ r h => by simp [b_by.l0] at h
 | k + 1 => by
  have ih0 := b_by.mono_l k
  ·intro y0 y1 y2 y3
   unfold b_by.l0
   repeat' first
   | (with_reducible exact ih0 _ _ _ _)
   | (with_reducible exact b_cmp.mono _ _ _)
   | (with_reducible exact b_minus.mono _ _ _)
   | (with_reducible exact b_up.mono _ _ _)
   | (with_reducible exact LeO.refl _)
   | (with_reducible exact LeO.none _)
   | (with_reducible refine LeO.ite ?_ ?_)
   | (with_reducible refine LeO.bind ?_ (fun _ => ?_))
   | exact ih0 _ _ _ _
   | exact b_cmp.mono _ _ _
   | exact b_minus.mono _ _ _
   | exact b_up.mono _ _ _
   | exact LeO.none _
   | refine LeO.ite ?_ ?_
   | refine LeO.bind ?_ (fun _ => ?_)
theorem b_by.mono : ∀ a0 a1 k, LeO (b_by.f k a0 a1) (b_by.f (k + 1) a0 a1) := by
 intro a0 a1 k
 have ih0 := b_by.mono_l k
 unfold b_by.f
 repeat' first
   | (with_reducible exact ih0 _ _ _ _)
   | (with_reducible exact b_cmp.mono _ _ _)
   | (with_reducible exact b_minus.mono _ _ _)
   | (with_reducible exact b_up.mono _ _ _)
   | (with_reducible exact LeO.refl _)
   | (with_reducible exact LeO.none _)
   | (with_reducible refine LeO.ite ?_ ?_)
   | (with_reducible refine LeO.bind ?_ (fun _ => ?_))
   | exact ih0 _ _ _ _
   | exact b_cmp.mono _ _ _
   | exact b_minus.mono _ _ _
   | exact b_up.mono _ _ _
   | exact LeO.none _
   | refine LeO.ite ?_ ?_
   | refine LeO.bind ?_ (fun _ => ?_)
set_option maxHeartbeats 8000000 in
set_option maxRecDepth 100000 in
theorem b_by.calls (k : Nat) (P0_ : Nat → Prop) (A0 : Option Addr) (c0 : Nat) (l0 : List Int) (A1 : Option Addr) (c1 : Nat) (l1 : List Int) (r1 : Int) (r2 : Bool) (w : World) (hs0 : Kd.V (Kd.int .u32) 74 w w.heap.size (fun k_ => P0_ k_) (.slice A0 l0.length c0) l0) (hr1 : Kd.C (Kd.int .u32) w A1 l1.length l1) (hc1 : l1.length ≤ c1) (h : b_by.f k l0 l1 = some (r1, r2)) :
  Calls Tryd.prog 45 #[.slice A0 l0.length c0, .slice A1 l1.length c1] w fun e w' => e = .returned (.tuple #[.int .u64 r1, .bool r2]) ∧ Below w.heap.size w w' := by
 have HO0 := am (show Kd.V (Kd.int .u32) 74 w w.heap.size (fun k_ => (P0_ k_ ∨ w.heap.size ≤ k_)) (.slice A0 l0.length c0) l0 from Kd.V_mono hs0 (fun k_ hk => .inl hk))
 have HR1 := am hr1
 have HC1 := am hc1
 clear hr1 hc1
 have HB := am (Below.refl w.heap.size w)
 have H : (b_by.l0 k l0 l1 0 63) = some (r1, r2) := h
 clear h
 have H' := am H
 clear H
 go_enter Tryd.func45, Tryd.ntmps45
 go_wp2
 go_loopg [0, 6, 7] k (fun kq v0 v6 v7 w' => ∃ (x0_1 : List Int) (x6_1 : Int) (x7_1 : Int), v6 = .int .u64 x6_1 ∧ v7 = .int .i64 x7_1 ∧ Aside0 (b_by.l0 kq x0_1 l1 x6_1 x7_1 = some (r1, r2)) ∧ Aside0 (kq ≤ k) ∧ Aside0 (Kd.V (Kd.int .u32) 74 w' w.heap.size (fun k_ => (P0_ k_ ∨ w.heap.size ≤ k_)) v0 x0_1) ∧ Aside0 (Below w.heap.size w w'))
 case atStart => exact ⟨(l0), (0), (63), (by first | rfl | (simp; done) | (simp [*]; done)), (by first | rfl | (simp; done) | (simp [*]; done)), H', ⟨Nat.le_refl _⟩, ⟨by (with_reducible repeat (first | apply Kd.V_alloc | apply Kd.V_drewN | apply Kd.V_drew)); exact HO0.out⟩, ⟨pB⟩⟩
 case round =>
  clear H'
  try clear c1
  try clear p2
  obtain ⟨x0_1, x6_1, x7_1, rfl, rfl, HA, HK1, HO_0, HB⟩ := hrel
  cases gk with
  | zero => exact absurd HA.out (by simp [b_by.l0])
  | succ k1 =>
   have H := HA.out
   clear HA
   simp only [b_by.l0] at H
   by_cases c3 : x7_1 ≥ 0
   ·rw [if_pos c3] at H
    have c3b0 : decide (0 ≤ x7_1) = true := decide_eq_true c3
    clear c3
    replace H := Option.bind_eq_some_iff.mp H
    obtain ⟨t371, A40, H⟩ := H
    try dsimp only at H
    have A4 := am A40
    clear A40
    replace H := Option.bind_eq_some_iff.mp H
    obtain ⟨t372, A50, H⟩ := H
    try dsimp only at H
    have A5 := am A50
    clear A50
    by_cases c6 : t371 < (wrap64 (t372 + x7_1))
    ·rw [if_pos c6] at H
     have c6b0 : decide (t371 < (wrap64 (t372 + x7_1))) = true := decide_eq_true c6
     clear c6
     have H' := am H
     clear H
     obtain ⟨Ao7, co7, eo7⟩ := Kd.V_slice HO_0.out
     subst eo7
     go_wp2_with (first | ((with_reducible refine gate_callee (f := 36) rfl ?_); refine goesL_ (some 14) rfl rfl Tryd.func36 (by kernel_rfl) rfl #[.slice Ao7 x0_1.length co7] rfl pM ?_; (with_reducible refine (b_len.calls _ _ x0_1 t371 _ ?side1 ?side2 A4.out).mono ?_); (case side1 => repeat (first | exact (Kd.V_reads' HO_0.out).2.2 | (with_reducible refine Kd.C_alloc ?_ _) | (with_reducible refine Kd.C_drewN ?_ _) | (with_reducible refine Kd.C_drew ?_))); (case side2 => exact (Kd.V_reads' HO_0.out).2.1); rintro e w' ⟨rfl, ⟨nd, rfl⟩⟩; refine ⟨_, rfl, ?_⟩) | ((with_reducible refine gate_callee (f := 36) rfl ?_); refine goesL_ (some 16) rfl rfl Tryd.func36 (by kernel_rfl) rfl #[.slice A1 l1.length c1] rfl pM ?_; (with_reducible refine (b_len.calls _ _ l1 t372 _ ?side1 ?side2 A5.out).mono ?_); (case side1 => repeat (first | exact (Kd.C_below HR1.out pB) | (with_reducible refine Kd.C_alloc ?_ _) | (with_reducible refine Kd.C_drewN ?_ _) | (with_reducible refine Kd.C_drew ?_))); (case side2 => exact HC1.out); rintro e w' ⟨rfl, ⟨nd, rfl⟩⟩; refine ⟨_, rfl, ?_⟩))
     go_roundg k1
     case measure => have := HK1.out; omega
     case rel => exact ⟨(x0_1), (x6_1), (wrap64 (x7_1 - 1)), (by first | rfl | (simp; done) | (simp [*]; done)), (by first | rfl | (simp; done) | (simp [*]; done)), H', ⟨by have := HK1.out; omega⟩, ⟨by (with_reducible repeat (first | apply Kd.V_alloc | apply Kd.V_drewN | apply Kd.V_drew)); exact HO_0.out⟩, ⟨pB⟩⟩
    ·rw [if_neg c6] at H
     have c6b0 : decide (t371 < (wrap64 (t372 + x7_1))) = false := decide_eq_false c6
     clear c6
     replace H := Option.bind_eq_some_iff.mp H
     obtain ⟨t373, A80, H⟩ := H
     try dsimp only at H
     have A8 := am A80
     clear A80
     replace H := Option.bind_eq_some_iff.mp H
     obtain ⟨t376, A90, H⟩ := H
     try dsimp only at H
     have A9 := am A90
     clear A90
     by_cases c10 : t376 ≥ 0
     ·rw [if_pos c10] at H
      have c10b0 : decide (0 ≤ t376) = true := decide_eq_true c10
      clear c10
      replace H := Option.bind_eq_some_iff.mp H
      obtain ⟨t377, A110, H⟩ := H
      try dsimp only at H
      have A11 := am A110
      clear A110
      by_cases c12 : 0 ≤ x7_1
      ·rw [if_pos c12] at H
       have c12b0 := eq_true c12
       have c12b1 : decide (0 ≤ x7_1) = true := decide_eq_true c12
       clear c12
       obtain ⟨ji13, hji13⟩ : ∃ j_ : Int, (shl .u64 1 x7_1) = j_ := ⟨_, rfl⟩
       replace H : (b_by.l0 k1 t377 l1 (Go.bits .or .u64 x6_1 (ji13)) (wrap64 (x7_1 - 1))) = some (r1, r2) := by first | (rw [hji13] at H; exact H) | (simp only [hji13] at H ⊢; exact H)
       (try rw [hji13] at A4)
       (try rw [hji13] at A5)
       (try rw [hji13] at A8)
       (try rw [hji13] at A9)
       (try rw [hji13] at A11)
       have hji13_ : (IntKind.u64.wrap (1 * 2 ^ min x7_1.toNat 64)) = ji13 := hji13
       have hji13z : x7_1 ≤ 64 → (IntKind.u64.wrap (1 * 2 ^ x7_1.toNat)) = ji13 := shl_small hji13
       have hji13u : (IntKind.u64.wrap (2 ^ min x7_1.toNat 64)) = ji13 := by have h_ := hji13_; rw [Int.one_mul] at h_; exact h_
       have hji13v : x7_1 ≤ 64 → (IntKind.u64.wrap (2 ^ x7_1.toNat)) = ji13 := fun hle_ => by have h_ := hji13z hle_; rw [Int.one_mul] at h_; exact h_
       have H' := am H
       clear H
       obtain ⟨Ao14, co14, eo14⟩ := Kd.V_slice HO_0.out
       subst eo14
       go_wp2_with (first | ((with_reducible refine gate_callee (f := 36) rfl ?_); refine goesL_ (some 14) rfl rfl Tryd.func36 (by kernel_rfl) rfl #[.slice Ao14 x0_1.length co14] rfl pM ?_; (with_reducible refine (b_len.calls _ _ x0_1 t371 _ ?side1 ?side2 A4.out).mono ?_); (case side1 => repeat (first | exact (Kd.V_reads' HO_0.out).2.2 | (with_reducible refine Kd.C_alloc ?_ _) | (with_reducible refine Kd.C_drewN ?_ _) | (with_reducible refine Kd.C_drew ?_))); (case side2 => exact (Kd.V_reads' HO_0.out).2.1); rintro e w' ⟨rfl, ⟨nd, rfl⟩⟩; refine ⟨_, rfl, ?_⟩) | ((with_reducible refine gate_callee (f := 36) rfl ?_); refine goesL_ (some 16) rfl rfl Tryd.func36 (by kernel_rfl) rfl #[.slice A1 l1.length c1] rfl pM ?_; (with_reducible refine (b_len.calls _ _ l1 t372 _ ?side1 ?side2 A5.out).mono ?_); (case side1 => repeat (first | exact (Kd.C_below HR1.out pB) | (with_reducible refine Kd.C_alloc ?_ _) | (with_reducible refine Kd.C_drewN ?_ _) | (with_reducible refine Kd.C_drew ?_))); (case side2 => exact HC1.out); rintro e w' ⟨rfl, ⟨nd, rfl⟩⟩; refine ⟨_, rfl, ?_⟩) | ((with_reducible refine gate_callee (f := 40) rfl ?_); refine goesL_ (some 22) rfl rfl Tryd.func40 (by kernel_rfl) rfl #[.slice A1 l1.length c1, .int .i64 x7_1] rfl pM ?_; (with_reducible refine (b_up.calls k1 _ _ l1 x7_1 t373 _ ?side1 ?side2 A8.out).mono ?_); (case side1 => repeat (first | exact (Kd.C_below HR1.out pB) | (with_reducible refine Kd.C_alloc ?_ _) | (with_reducible refine Kd.C_drewN ?_ _) | (with_reducible refine Kd.C_drew ?_))); (case side2 => exact HC1.out); rintro e w15 ⟨v374, rfl, ho0, hb⟩; refine ⟨_, rfl, ?_⟩; replace HO_0 := am (Kd.V_elder' (pV HO_0.out) (Kd.R_base ho0) hb); have HO375 := am (Kd.R_lower (Kd.R_newM (M := fun k_ => (w.heap.size ≤ k_)) ho0 (below_size pB) (fun k_ h_ => h_)) (below_size pB)); replace HB := am (below_step pB hb); (try clear hb); (try clear ho0); obtain ⟨Ao16, co16, eo16⟩ := Kd.R_slice HO375.out; subst eo16) | ((with_reducible refine gate_callee (f := 35) rfl ?_); refine goesL_ (some 25) rfl rfl Tryd.func35 (by kernel_rfl) rfl #[.slice Ao14 x0_1.length co14, .slice Ao16 t373.length co16] rfl pM ?_; (with_reducible refine (b_cmp.calls k1 _ _ x0_1 _ _ t373 t376 _ ?side1 ?side2 ?side3 ?side4 A9.out).mono ?_); (case side1 => repeat (first | exact (Kd.V_reads' HO_0.out).2.2 | (with_reducible refine Kd.C_alloc ?_ _) | (with_reducible refine Kd.C_drewN ?_ _) | (with_reducible refine Kd.C_drew ?_))); (case side2 => exact (Kd.V_reads' HO_0.out).2.1); (case side3 => repeat (first | exact (Kd.R_reads' HO375.out).2.2 | (with_reducible refine Kd.C_alloc ?_ _) | (with_reducible refine Kd.C_drewN ?_ _) | (with_reducible refine Kd.C_drew ?_))); (case side4 => exact (Kd.R_reads' HO375.out).2.1); rintro e w' ⟨rfl, ⟨nd, rfl⟩⟩; refine ⟨_, rfl, ?_⟩) | ((with_reducible refine gate_callee (f := 39) rfl ?_); refine goesL_ (some 29) rfl rfl Tryd.func39 (by kernel_rfl) rfl #[.slice Ao14 x0_1.length co14, .slice Ao16 t373.length co16] rfl pM ?_; (with_reducible refine (b_minus.calls k1 _ _ x0_1 _ _ t373 t377 _ ?side1 ?side2 ?side3 ?side4 A11.out).mono ?_); (case side1 => repeat (first | exact (Kd.V_reads' HO_0.out).2.2 | (with_reducible refine Kd.C_alloc ?_ _) | (with_reducible refine Kd.C_drewN ?_ _) | (with_reducible refine Kd.C_drew ?_))); (case side2 => exact (Kd.V_reads' HO_0.out).2.1); (case side3 => repeat (first | exact (Kd.R_reads' HO375.out).2.2 | (with_reducible refine Kd.C_alloc ?_ _) | (with_reducible refine Kd.C_drewN ?_ _) | (with_reducible refine Kd.C_drew ?_))); (case side4 => exact (Kd.R_reads' HO375.out).2.1); rintro e w17 ⟨v378, rfl, ho0, hb⟩; refine ⟨_, rfl, ?_⟩; replace HO_0 := am (Kd.V_below (pV HO_0.out) hb); have HO379 := am (Kd.V_lower (Kd.V_mono (ok' := fun k_ => (P0_ k_ ∨ w.heap.size ≤ k_) ∧ some k_ ≠ (.slice Ao16 t373.length co16 : Value).ownBlock) ho0 (fun k_ hk_ => ⟨(.inr (Nat.le_trans (below_size pB) hk_)), (Kd.fresh' (Kd.R_lt (pR HO375.out)) k_ hk_)⟩)) (below_size pB)); replace HO375 := am (Kd.R_below (pR HO375.out) hb); replace HB := am (below_step pB hb); (try clear hb); (try clear ho0)))
       go_roundg k1
       case measure => have := HK1.out; omega
       case rel => exact ⟨(t377), (Go.bits .or .u64 x6_1 (ji13)), (wrap64 (x7_1 - 1)), (by first | rfl | (simp; done) | (simp only [← hji13] <;> (first | rfl | simp)) | (simp [*]; done)), (by first | rfl | (simp; done) | (simp [*]; done)), H', ⟨by have := HK1.out; omega⟩, ⟨by (with_reducible repeat (first | apply Kd.V_alloc | apply Kd.V_drewN | apply Kd.V_drew)); exact Kd.V_mono HO379.out (fun _ hk => hk.1)⟩, ⟨pB⟩⟩
      ·rw [if_neg c12] at H
       exact absurd H (by simp)
     ·rw [if_neg c10] at H
      have c10b0 : decide (0 ≤ t376) = false := decide_eq_false c10
      clear c10
      have H' := am H
      clear H
      obtain ⟨Ao18, co18, eo18⟩ := Kd.V_slice HO_0.out
      subst eo18
      go_wp2_with (first | ((with_reducible refine gate_callee (f := 36) rfl ?_); refine goesL_ (some 14) rfl rfl Tryd.func36 (by kernel_rfl) rfl #[.slice Ao18 x0_1.length co18] rfl pM ?_; (with_reducible refine (b_len.calls _ _ x0_1 t371 _ ?side1 ?side2 A4.out).mono ?_); (case side1 => repeat (first | exact (Kd.V_reads' HO_0.out).2.2 | (with_reducible refine Kd.C_alloc ?_ _) | (with_reducible refine Kd.C_drewN ?_ _) | (with_reducible refine Kd.C_drew ?_))); (case side2 => exact (Kd.V_reads' HO_0.out).2.1); rintro e w' ⟨rfl, ⟨nd, rfl⟩⟩; refine ⟨_, rfl, ?_⟩) | ((with_reducible refine gate_callee (f := 36) rfl ?_); refine goesL_ (some 16) rfl rfl Tryd.func36 (by kernel_rfl) rfl #[.slice A1 l1.length c1] rfl pM ?_; (with_reducible refine (b_len.calls _ _ l1 t372 _ ?side1 ?side2 A5.out).mono ?_); (case side1 => repeat (first | exact (Kd.C_below HR1.out pB) | (with_reducible refine Kd.C_alloc ?_ _) | (with_reducible refine Kd.C_drewN ?_ _) | (with_reducible refine Kd.C_drew ?_))); (case side2 => exact HC1.out); rintro e w' ⟨rfl, ⟨nd, rfl⟩⟩; refine ⟨_, rfl, ?_⟩) | ((with_reducible refine gate_callee (f := 40) rfl ?_); refine goesL_ (some 22) rfl rfl Tryd.func40 (by kernel_rfl) rfl #[.slice A1 l1.length c1, .int .i64 x7_1] rfl pM ?_; (with_reducible refine (b_up.calls k1 _ _ l1 x7_1 t373 _ ?side1 ?side2 A8.out).mono ?_); (case side1 => repeat (first | exact (Kd.C_below HR1.out pB) | (with_reducible refine Kd.C_alloc ?_ _) | (with_reducible refine Kd.C_drewN ?_ _) | (with_reducible refine Kd.C_drew ?_))); (case side2 => exact HC1.out); rintro e w19 ⟨v374, rfl, ho0, hb⟩; refine ⟨_, rfl, ?_⟩; replace HO_0 := am (Kd.V_elder' (pV HO_0.out) (Kd.R_base ho0) hb); have HO375 := am (Kd.R_lower (Kd.R_newM (M := fun k_ => (w.heap.size ≤ k_)) ho0 (below_size pB) (fun k_ h_ => h_)) (below_size pB)); replace HB := am (below_step pB hb); (try clear hb); (try clear ho0); obtain ⟨Ao20, co20, eo20⟩ := Kd.R_slice HO375.out; subst eo20) | ((with_reducible refine gate_callee (f := 35) rfl ?_); refine goesL_ (some 25) rfl rfl Tryd.func35 (by kernel_rfl) rfl #[.slice Ao18 x0_1.length co18, .slice Ao20 t373.length co20] rfl pM ?_; (with_reducible refine (b_cmp.calls k1 _ _ x0_1 _ _ t373 t376 _ ?side1 ?side2 ?side3 ?side4 A9.out).mono ?_); (case side1 => repeat (first | exact (Kd.V_reads' HO_0.out).2.2 | (with_reducible refine Kd.C_alloc ?_ _) | (with_reducible refine Kd.C_drewN ?_ _) | (with_reducible refine Kd.C_drew ?_))); (case side2 => exact (Kd.V_reads' HO_0.out).2.1); (case side3 => repeat (first | exact (Kd.R_reads' HO375.out).2.2 | (with_reducible refine Kd.C_alloc ?_ _) | (with_reducible refine Kd.C_drewN ?_ _) | (with_reducible refine Kd.C_drew ?_))); (case side4 => exact (Kd.R_reads' HO375.out).2.1); rintro e w' ⟨rfl, ⟨nd, rfl⟩⟩; refine ⟨_, rfl, ?_⟩))
      go_roundg k1
      case measure => have := HK1.out; omega
      case rel => exact ⟨(x0_1), (x6_1), (wrap64 (x7_1 - 1)), (by first | rfl | (simp; done) | (simp [*]; done)), (by first | rfl | (simp; done) | (simp [*]; done)), H', ⟨by have := HK1.out; omega⟩, ⟨by (with_reducible repeat (first | apply Kd.V_alloc | apply Kd.V_drewN | apply Kd.V_drew)); exact Kd.V_mono HO_0.out (fun _ hk => hk.1)⟩, ⟨pB⟩⟩
   ·rw [if_neg c3] at H
    have c3b0 : decide (0 ≤ x7_1) = false := decide_eq_false c3
    clear c3
    simp only [Option.some.injEq, Prod.mk.injEq] at H
    obtain ⟨rfl, rfl⟩ := H
    obtain ⟨Ao21, co21, eo21⟩ := Kd.V_slice HO_0.out
    subst eo21
    go_wp2
    go_ret2
    exact ⟨pE, pB⟩
end Go.Proofs.YtflcanpajgpghaaDoor.Pr
end
section
namespace Go.Proofs.YtflcanpajgpghaaDoor.Pr
open Go.RowKit Go.Proofs.YtflcanpajgpghaaDoorW.PrintWords Go.Proofs.YtflcanpajgpghaaDoorW.PrintLast Go.Proofs.YtflcanpajgpghaaDoorW.PrintMore
attribute [local go_sem] max2_int min2_int max_two min_two max_three min_three max_four min_four
mutual
def dec_nearest.l0 : Nat → List Int → Int → Int → ByteArray → Int → Option (Int)
 | 0, _, _, _, _, _ => none
 | k + 1, x3, x11, x12, x381000, x381001 => if x12 < x11 then (if 0 ≤ x12 then (if x12 < (x381000.size : Int) then ((b_times.f k x3 10 (((bt x381000 x12) - 48) % 256)).bind fun t381 => (dec_nearest.l0 k t381 x11 (wrap64 (x12 + 1)) x381000 x381001)) else (none)) else (none)) else (if (x3.length : Int) = 0 then (dec_nearest.j1 k x3 true x381000 x381001) else (dec_nearest.j1 k x3 (decide (x381001 < (-1000))) x381000 x381001))
def dec_nearest.j1 : Nat → List Int → Bool → ByteArray → Int → Option (Int)
 | 0, _, _, _, _ => none
 | k + 1, x3, x24, x381000, x381001 => if x24 = true then (some 0) else (if x381001 > 400 then ((flo_Make.f k false 9999 1 false).bind fun t384 => (some t384)) else ((some (([1] : List Int) : List Int)).bind fun y385 => (if x381001 ≥ 0 then ((b_tens.f k x3 x381001).bind fun t388 => (dec_nearest.j2 k t388 y385)) else ((b_tens.f k y385 (wrap64 (-x381001))).bind fun t391 => (dec_nearest.j2 k x3 t391)))))
def dec_nearest.j2 : Nat → List Int → List Int → Option (Int)
 | 0, _, _ => none
 | k + 1, x3, x5 => (b_len.f x3).bind fun t394 => ((b_len.f x5).bind fun t395 => (if (wrap64 (63 - (wrap64 (t394 - t395)))) ≥ 0 then ((b_up.f k x3 (wrap64 (63 - (wrap64 (t394 - t395))))).bind fun t396 => (dec_nearest.j3 k t396 x5 (wrap64 (63 - (wrap64 (t394 - t395)))))) else ((b_up.f k x5 (wrap64 (-(wrap64 (63 - (wrap64 (t394 - t395))))))).bind fun t399 => (dec_nearest.j3 k x3 t399 (wrap64 (63 - (wrap64 (t394 - t395))))))))
def dec_nearest.j3 : Nat → List Int → List Int → Int → Option (Int)
 | 0, _, _, _ => none
 | k + 1, x3, x5, x6 => (b_by.f k x3 x5).bind fun bt402 => (if bt402.2 = true then ((flo_Make.f k false (wrap64 (-x6)) (Go.bits .or .u64 bt402.1 1) false).bind fun t404 => (some t404)) else ((flo_Make.f k false (wrap64 (-x6)) bt402.1 false).bind fun t405 => (some t405)))
end
def dec_nearest.f (k : Nat) (a0_0 : ByteArray) (a0_1 : Int) : Option (Int) := dec_nearest.l0 k ([] : List Int) (a0_0.size : Int) 0 a0_0 a0_1
theorem dec_nearest.mono_l : ∀ k, (∀ y0 y1 y2 y3 y4, LeO (dec_nearest.l0 k y0 y1 y2 y3 y4) (dec_nearest.l0 (k + 1) y0 y1 y2 y3 y4)) ∧ (∀ y0 y1 y2 y3, LeO (dec_nearest.j1 k y0 y1 y2 y3) (dec_nearest.j1 (k + 1) y0 y1 y2 y3)) ∧ (∀ y0 y1, LeO (dec_nearest.j2 k y0 y1) (dec_nearest.j2 (k + 1) y0 y1)) ∧ (∀ y0 y1 y2, LeO (dec_nearest.j3 k y0 y1 y2) (dec_nearest.j3 (k + 1) y0 y1 y2))
 | 0 => ⟨fun _ _ _ _ _ r h => by simp [dec_nearest.l0] at h, fun _ _ _ _ r h => by simp [dec_nearest.j1] at h, fun _ _ r h => by simp [dec_nearest.j2] at h, fun _ _ _ r h => by simp [dec_nearest.j3] at h⟩
 | k + 1 => by
  obtain ⟨ih0, ih1, ih2, ih3⟩ := dec_nearest.mono_l k
  refine ⟨?_, ?_, ?_, ?_⟩
  all_goals intros
  all_goals first | unfold dec_nearest.l0 | unfold dec_nearest.j1 | unfold dec_nearest.j2 | unfold dec_nearest.j3
  all_goals repeat' first
   | (with_reducible exact ih0 _ _ _ _ _)
   | (with_reducible exact ih1 _ _ _ _)
   | (with_reducible exact ih2 _ _)
   | (with_reducible exact ih3 _ _ _)
   | (with_reducible exact b_by.mono _ _ _)
   | (with_reducible exact b_tens.mono _ _ _)
   | (with_reducible exact b_times.mono _ _ _ _)
   | (with_reducible exact b_up.mono _ _ _)
   | (with_reducible exact flo_Make.mono _ _ _ _ _)
   | (with_reducible exact LeO.refl _)
   | (with_reducible exact LeO.none _)
   | (with_reducible refine LeO.ite ?_ ?_)
   | (with_reducible refine LeO.bind ?_ (fun _ => ?_))
   | exact ih0 _ _ _ _ _
   | exact ih1 _ _ _ _
   | exact ih2 _ _
   | exact ih3 _ _ _
   | exact b_by.mono _ _ _
   | exact b_tens.mono _ _ _
   | exact b_times.mono _ _ _ _
   | exact b_up.mono _ _ _
   | exact flo_Make.mono _ _ _ _ _
   | exact LeO.none _
   | refine LeO.ite ?_ ?_
   | refine LeO.bind ?_ (fun _ => ?_)
theorem dec_nearest.mono : ∀ a0 a1 k, LeO (dec_nearest.f k a0 a1) (dec_nearest.f (k + 1) a0 a1) := by
 intro a0 a1 k
 obtain ⟨ih0, ih1, ih2, ih3⟩ := dec_nearest.mono_l k
 unfold dec_nearest.f
 repeat' first
   | (with_reducible exact ih0 _ _ _ _ _)
   | (with_reducible exact ih1 _ _ _ _)
   | (with_reducible exact ih2 _ _)
   | (with_reducible exact ih3 _ _ _)
   | (with_reducible exact b_by.mono _ _ _)
   | (with_reducible exact b_tens.mono _ _ _)
   | (with_reducible exact b_times.mono _ _ _ _)
   | (with_reducible exact b_up.mono _ _ _)
   | (with_reducible exact flo_Make.mono _ _ _ _ _)
   | (with_reducible exact LeO.refl _)
   | (with_reducible exact LeO.none _)
   | (with_reducible refine LeO.ite ?_ ?_)
   | (with_reducible refine LeO.bind ?_ (fun _ => ?_))
   | exact ih0 _ _ _ _ _
   | exact ih1 _ _ _ _
   | exact ih2 _ _
   | exact ih3 _ _ _
   | exact b_by.mono _ _ _
   | exact b_tens.mono _ _ _
   | exact b_times.mono _ _ _ _
   | exact b_up.mono _ _ _
   | exact flo_Make.mono _ _ _ _ _
   | exact LeO.none _
   | refine LeO.ite ?_ ?_
   | refine LeO.bind ?_ (fun _ => ?_)
set_option maxHeartbeats 8000000 in
set_option maxRecDepth 100000 in
theorem dec_nearest.calls (k : Nat) (a0_0 : ByteArray) (a0_1 : Int) (r : Int) (w : World) (h : dec_nearest.f k a0_0 a0_1 = some r) :
  Calls Tryd.prog 18 #[.agg #[.string a0_0, .int .i64 a0_1]] w fun e w' => e = .returned (.int .u64 r) ∧ Below w.heap.size w w' := by
 have hu47 := Tryd.underlying47
 have HB := am (Below.refl w.heap.size w)
 have H : (dec_nearest.l0 k ([] : List Int) (a0_0.size : Int) 0 a0_0 a0_1) = some r := h
 clear h
 have H' := am H
 clear H
 go_enter Tryd.func18, Tryd.ntmps18
 go_wp2_with (first | ((with_reducible refine gate_dst (N := 1) rfl ?_); refine box_event ?hg (N := 1) ?hd (cs := #[.string a0_0, .int .i64 a0_1]) (t := 47) ?hr ?_; (case hd => rfl); (case hg => rfl); (case hr => first | (go_simp; done) | (go_simp; rfl)); intro gb380 hg w2 hbox hb; have BK380 := am (hbox); have GW380 := am ((by rw [hg]; exact (below_size pB) : w.heap.size ≤ gb380)); have GE380 := am ((by rw [hg]; exact (below_size pB) : w.heap.size ≤ gb380)); replace HB := am (below_step pB hb); clear hb hbox hg; have q3 := cf2 BK380.out))
 go_loopg [3, 12] k (fun kq v3 v12 w' => ∃ (x3_1 : List Int) (x12_1 : Int), v12 = .int .i64 x12_1 ∧ Aside0 (dec_nearest.l0 kq x3_1 (a0_0.size : Int) x12_1 a0_0 a0_1 = some r) ∧ Aside0 (kq ≤ k) ∧ Aside0 (Kd.V (Kd.int .u32) 74 w' w.heap.size (fun k_ => k_ ≠ gb380) v3 x3_1) ∧ Aside0 (w'.heap[gb380]? = some (.cells #[.string a0_0, .int .i64 a0_1] 47 (0, 0))) ∧ Aside0 (Below w.heap.size w w'))
 case atStart => exact ⟨(([] : List Int)), (0), (by first | rfl | (simp; done) | (simp [*]; done)), H', ⟨Nat.le_refl _⟩, ⟨pZ⟩, ⟨by (with_reducible repeat (first | refine blk_drewN ?_ _ | refine blk_drew ?_ | refine blk_alloc ?_ _)); exact BK380.out⟩, ⟨pB⟩⟩
 case round =>
  clear H'
  try clear c1
  try clear p2
  try clear q3
  obtain ⟨x3_1, x12_1, rfl, HA, HK1, HO_3, BK380, HB⟩ := hrel
  cases gk with
  | zero => exact absurd HA.out (by simp [dec_nearest.l0])
  | succ k1 =>
   have H := HA.out
   clear HA
   simp only [dec_nearest.l0] at H
   by_cases c4 : x12_1 < (a0_0.size : Int)
   ·rw [if_pos c4] at H
    have c4b0 : decide (x12_1 < (a0_0.size : Int)) = true := decide_eq_true c4
    clear c4
    by_cases c5 : 0 ≤ x12_1
    ·rw [if_pos c5] at H
     have c5b0 : decide (0 ≤ x12_1) = true := decide_eq_true c5
     clear c5
     by_cases c6 : x12_1 < (a0_0.size : Int)
     ·rw [if_pos c6] at H
      have c6b0 : decide (x12_1 < (a0_0.size : Int)) = true := decide_eq_true c6
      clear c6
      replace H := Option.bind_eq_some_iff.mp H
      obtain ⟨t381, A80, H⟩ := H
      try dsimp only at H
      have A8 := am A80
      clear A80
      have H' := am H
      clear H
      have q9 := cf2 BK380.out
      have p7 : 0 ≤ (x12_1 : Int) := pD
      have q7 : x12_1 < (a0_0.size : Int) := pD
      have hx7 := bt_at a0_0 x12_1
      replace p7 := eq_true p7
      replace q7 := eq_true q7
      obtain ⟨Ao10, co10, eo10⟩ := Kd.V_slice HO_3.out
      subst eo10
      go_wp2_with (first | ((with_reducible refine gate_callee (f := 38) rfl ?_); refine goesL_ (some 22) rfl rfl Tryd.func38 (by kernel_rfl) rfl #[.slice Ao10 x3_1.length co10, .int .u32 10, .int .u32 (((bt a0_0 x12_1) - 48) % 256)] rfl pM ?_; (with_reducible refine (b_times.calls k1 _ _ x3_1 10 (((bt a0_0 x12_1) - 48) % 256) t381 _ ?side1 ?side2 A8.out).mono ?_); (case side1 => repeat (first | exact (Kd.V_reads' HO_3.out).2.2 | (with_reducible refine Kd.C_alloc ?_ _) | (with_reducible refine Kd.C_drewN ?_ _) | (with_reducible refine Kd.C_drew ?_))); (case side2 => exact (Kd.V_reads' HO_3.out).2.1); rintro e w11 ⟨v382, rfl, ho0, hb⟩; refine ⟨_, rfl, ?_⟩; replace HO_3 := am (Kd.V_below (pV HO_3.out) hb); have HO383 := am (Kd.V_lower (Kd.V_mono (ok' := fun k_ => k_ ≠ gb380) ho0 (fun k_ hk_ => (Kd.freshB (g := gb380) (o := .cells #[.string a0_0, .int .i64 a0_1] 47 (0, 0)) (pK BK380.out) k_ hk_))) (below_size pB)); replace BK380 := am (pkb BK380.out hb); replace HB := am (below_step pB hb); (try clear hb); (try clear ho0)))
      go_roundg k1
      case measure => have := HK1.out; omega
      case rel => exact ⟨(t381), (wrap64 (x12_1 + 1)), (by first | rfl | (simp; done) | (simp [*]; done)), H', ⟨by have := HK1.out; omega⟩, ⟨by (with_reducible repeat (first | apply Kd.V_alloc | apply Kd.V_drewN | apply Kd.V_drew)); exact HO383.out⟩, ⟨by (with_reducible repeat (first | refine blk_drewN ?_ _ | refine blk_drew ?_ | refine blk_alloc ?_ _)); exact BK380.out⟩, ⟨pB⟩⟩
     ·rw [if_neg c6] at H
      exact absurd H (by simp)
    ·rw [if_neg c5] at H
     exact absurd H (by simp)
   ·rw [if_neg c4] at H
    have c4b0 : decide (x12_1 < (a0_0.size : Int)) = false := decide_eq_false c4
    clear c4
    have HC12 := am H
    clear H
    go_upto_region 7 with (fail)
    go_cut [24] (fun v24 wc => ∃ (kq : Nat) (x24_11 : Bool), v24 = .bool x24_11 ∧ Aside0 (dec_nearest.j1 kq x3_1 x24_11 a0_0 a0_1 = some r) ∧ Aside0 (kq ≤ k1) ∧ Aside0 (Kd.V (Kd.int .u32) 74 wc w.heap.size (fun k_ => k_ ≠ gb380) u3 x3_1) ∧ Aside0 (wc.heap[gb380]? = some (.cells #[.string a0_0, .int .i64 a0_1] 47 (0, 0))) ∧ Aside0 (Below w.heap.size w wc))
    case first =>
     have H := HC12.out
     clear HC12
     by_cases c13 : (x3_1.length : Int) = 0
     ·rw [if_pos c13] at H
      have c13b0 : ((x3_1.length : Int) == 0) = true := beq_iff_eq.mpr c13
      have c13b1 : ((x3_1.length : Int) != 0) = false := bne_eq_false_iff_eq.mpr c13
      clear c13
      (first | rw [c13b0] | (simp only [i64_w, i32_w]; rw [c13b0]) | rw [c13b1] | (simp only [i64_w, i32_w]; rw [c13b1]) | skip)
      have H' := am H
      clear H
      obtain ⟨Ao14, co14, eo14⟩ := Kd.V_slice HO_3.out
      subst eo14
      go_wp2
      go_meet
      case rel => exact ⟨_, (true), (by first | rfl | (simp; done) | (simp [*]; done)), H', ⟨by have := HK1.out; first | omega | exact Nat.le_refl _⟩, ⟨by (with_reducible repeat (first | apply Kd.V_alloc | apply Kd.V_drewN | apply Kd.V_drew)); exact HO_3.out⟩, ⟨by (with_reducible repeat (first | refine blk_drewN ?_ _ | refine blk_drew ?_ | refine blk_alloc ?_ _)); exact BK380.out⟩, ⟨pB⟩⟩
     ·rw [if_neg c13] at H
      have c13b0 : ((x3_1.length : Int) == 0) = false := beq_eq_false_iff_ne.mpr c13
      have c13b1 : ((x3_1.length : Int) != 0) = true := bne_iff_ne.mpr c13
      have c13b2 : ¬ (x3_1 = []) := fun h_ => c13 (by rw [h_]; rfl)
      (first | rw [c13b0] | (simp only [i64_w, i32_w]; rw [c13b0]) | rw [c13b1] | (simp only [i64_w, i32_w]; rw [c13b1]) | skip)
      have H' := am H
      clear H
      obtain ⟨Ao15, co15, eo15⟩ := Kd.V_slice HO_3.out
      subst eo15
      have q16 := cf2 BK380.out
      go_wp2
      go_meet
      case rel => exact ⟨_, (decide (a0_1 < (-1000))), (by first | rfl | (simp; done) | (simp [*]; done)), H', ⟨by have := HK1.out; first | omega | exact Nat.le_refl _⟩, ⟨by (with_reducible repeat (first | apply Kd.V_alloc | apply Kd.V_drewN | apply Kd.V_drew)); exact HO_3.out⟩, ⟨by (with_reducible repeat (first | refine blk_drewN ?_ _ | refine blk_drew ?_ | refine blk_alloc ?_ _)); exact BK380.out⟩, ⟨pB⟩⟩
    case rest =>
     clear HC12
     try clear c1
     try clear p2
     try clear c3
     try clear c4
     try clear c4b0
     try clear c5
     try clear c5b0
     try clear c6
     try clear c6b0
     try clear p6
     try clear p7
     try clear q7
     try clear hx7
     try clear c13
     try clear c13b0
     try clear c13b1
     try clear c13b2
     try clear q16 q3 q9
     try clear p2
     try clear p7
     try clear q7
     obtain ⟨kq, x24_11, rfl, HA, HJ11, HO_3, BK380, HB⟩ := hcut
     cases kq with
     | zero => exact absurd HA.out (by simp [dec_nearest.j1])
     | succ kj11 =>
      have H := HA.out
      clear HA
      simp only [dec_nearest.j1] at H
      by_cases c17 : x24_11 = true
      ·subst c17
       rw [if_pos rfl] at H
       obtain rfl := Option.some.inj H
       go_wp2
       go_ret
       exact ⟨pE, pB⟩
      ·replace c17 := Bool.eq_false_iff.mpr c17
       subst c17
       rw [if_neg (show ¬ (false = true) by decide)] at H
       by_cases c18 : a0_1 > 400
       ·rw [if_pos c18] at H
        have c18b0 : decide (400 < a0_1) = true := decide_eq_true c18
        clear c18
        replace H := Option.bind_eq_some_iff.mp H
        obtain ⟨t384, A190, H⟩ := H
        try dsimp only at H
        have A19 := am A190
        clear A190
        obtain rfl := Option.some.inj H
        have q20 := cf2 BK380.out
        go_wp2_with (first | ((with_reducible refine gate_callee (f := 44) rfl ?_); refine goesL_ (some 37) rfl rfl Tryd.func44 (by kernel_rfl) rfl #[.bool false, .int .i64 9999, .int .u64 1, .bool false] rfl pM ?_; (with_reducible refine (flo_Make.calls kj11 false 9999 1 false t384 _ A19.out).mono ?_); rintro e w21 ⟨rfl, hb⟩; refine ⟨_, rfl, ?_⟩; replace HO_3 := am (Kd.V_below (pV HO_3.out) hb); replace BK380 := am (pkb BK380.out hb); replace HB := am (below_step pB hb); (try clear hb)))
        go_ret
        exact ⟨pE, pB⟩
       ·rw [if_neg c18] at H
        have c18b0 : decide (400 < a0_1) = false := decide_eq_false c18
        clear c18
        obtain ⟨y385, hy385⟩ : ∃ y_ : List Int, y_ = (([1] : List Int)) := ⟨_, rfl⟩
        replace H : (if a0_1 ≥ 0 then ((b_tens.f kj11 x3_1 a0_1).bind fun t388 => (dec_nearest.j2 kj11 t388 y385)) else ((b_tens.f kj11 y385 (wrap64 (-a0_1))).bind fun t391 => (dec_nearest.j2 kj11 x3_1 t391))) = some r := by first | (rw [hy385]; with_reducible exact H) | (have H2_ := (Option.bind_some _ _).symm.trans H; rw [hy385]; with_reducible exact H2_) | (have H2_ := (Option.bind_some _ _).symm.trans H; with_reducible exact H2_) | with_reducible exact H | (rw [hy385]; exact H) | exact H
        have Ny385 := am hy385
        clear hy385
        have HC22 := am H
        clear H
        have q23 := cf2 BK380.out
        go_upto_if 41 with (first | ((with_reducible refine gate_dst (N := 38) rfl ?_); refine Kd.R_lit (Kd.int .u32) _ 74 ?hg (N := 38) ?hd (xs := ([1] : List Int)) (inner := [.int .u32 1]) (ok := fun _ => True) (okp := fun _ => True) ?hr ?hp (fun _ hk => hk) trivial (Below.refl _ _) (Nat.le_refl _) (by simp) ?_; (case hd => rfl); (case hg => rfl); (case hr => first | (go_simp; done) | (go_simp; rfl)); (case hp => exact (Reps.one (show Kd.M (Kd.int .u32) _ _ _ 1 [.int .u32 1] from rfl) (Reps.none _ _))); intro v386 w24 ho25 hb hg_ hnew_; clear hg_ hnew_; (first | rw [← Ny385.out] at ho25 | (simp only [Int.reduceToNat] at ho25; rw [← Ny385.out] at ho25)); replace HO_3 := am (Kd.V_elder' (pV HO_3.out) (Kd.R_base ho25) hb); have HO387 := am (Kd.R_lower ho25 (below_size pB)); replace BK380 := am (pkb BK380.out hb); replace HB := am (below_step pB hb); clear hb ho25; have q26 := cf2 BK380.out))
        (try simp only [Act.put, List.setIfInBounds_toArray, List.set_cons_zero, List.set_cons_succ])
        go_cut [3, 5] (fun v3 v5 wc => ∃ (kq : Nat) (x3_21 : List Int) (x5_21 : List Int), Aside0 (dec_nearest.j2 kq x3_21 x5_21 = some r) ∧ Aside0 (kq ≤ kj11) ∧ Aside0 (Kd.V (Kd.int .u32) 74 wc w.heap.size (fun k_ => k_ ≠ gb380) v3 x3_21) ∧ Aside0 (Kd.V (Kd.int .u32) 74 wc w.heap.size (fun k_ => k_ ≠ gb380) v5 x5_21) ∧ Aside0 (wc.heap[gb380]? = some (.cells #[.string a0_0, .int .i64 a0_1] 47 (0, 0))) ∧ Aside0 (Below w.heap.size w wc))
        case first =>
         have H := HC22.out
         clear HC22
         by_cases c27 : a0_1 ≥ 0
         ·rw [if_pos c27] at H
          have c27b0 : decide (0 ≤ a0_1) = true := decide_eq_true c27
          clear c27
          (first | rw [c27b0] | (simp only [i64_w, i32_w]; rw [c27b0]) | rw [c27b1] | (simp only [i64_w, i32_w]; rw [c27b1]) | skip)
          replace H := Option.bind_eq_some_iff.mp H
          obtain ⟨t388, A280, H⟩ := H
          try dsimp only at H
          have A28 := am A280
          clear A280
          have H' := am H
          clear H
          have q29 := cf2 BK380.out
          obtain ⟨Ao30, co30, eo30⟩ := Kd.V_slice HO_3.out
          subst eo30
          go_wp2_with (first | ((with_reducible refine gate_callee (f := 37) rfl ?_); refine goesL_ (some 45) rfl rfl Tryd.func37 (by kernel_rfl) rfl #[.slice Ao30 x3_1.length co30, .int .i64 a0_1] rfl pM ?_; (with_reducible refine (b_tens.calls kj11 (fun k_ => (k_ ≠ gb380 ∧ some k_ ≠ (v386 : Value).ownBlock)) _ _ x3_1 a0_1 t388 _ ?side1 A28.out).mono ?_); (case side1 => exact HO_3.out); rintro e w31 ⟨v389, rfl, ho0, hb⟩; refine ⟨_, rfl, ?_⟩; replace HO_3 := am (Kd.V_below (pV HO_3.out) hb); have HO390 := am (Kd.V_lower (Kd.V_mono (ok' := fun k_ => some k_ ≠ (v386 : Value).ownBlock ∧ k_ ≠ gb380) ho0 (fun k_ hk_ => ⟨Or.elim hk_ (fun hs_ => hs_.2) (fun hn_ => (Kd.fresh' (Kd.R_lt (pR HO387.out)) k_ hn_)), Or.elim hk_ (fun hs_ => hs_.1) (fun hn_ => (Kd.freshB (g := gb380) (o := .cells #[.string a0_0, .int .i64 a0_1] 47 (0, 0)) (pK BK380.out) k_ hn_))⟩)) (below_size pB)); replace HO387 := am (Kd.R_below (pR HO387.out) hb); replace BK380 := am (pkb BK380.out hb); replace HB := am (below_step pB hb); (try clear hb); (try clear ho0)))
          go_meet
          case rel => exact ⟨_, (t388), (y385), H', ⟨by have := HK1.out; have := HJ11.out; first | omega | exact Nat.le_refl _⟩, ⟨by (with_reducible repeat (first | apply Kd.V_alloc | apply Kd.V_drewN | apply Kd.V_drew)); exact Kd.V_mono HO390.out (fun _ hk => hk.2)⟩, ⟨Kd.R_V (by (with_reducible repeat (first | apply Kd.R_alloc | apply Kd.R_drewN | apply Kd.R_drew)); exact Kd.R_mono (Kd.R_types HO387.out BK380.out (by decide)) (fun _ hk => hk.2))⟩, ⟨by (with_reducible repeat (first | refine blk_drewN ?_ _ | refine blk_drew ?_ | refine blk_alloc ?_ _)); exact BK380.out⟩, ⟨pB⟩⟩
         ·rw [if_neg c27] at H
          have c27b0 : decide (0 ≤ a0_1) = false := decide_eq_false c27
          clear c27
          (first | rw [c27b0] | (simp only [i64_w, i32_w]; rw [c27b0]) | rw [c27b1] | (simp only [i64_w, i32_w]; rw [c27b1]) | skip)
          replace H := Option.bind_eq_some_iff.mp H
          obtain ⟨t391, A320, H⟩ := H
          try dsimp only at H
          have A32 := am A320
          clear A320
          have H' := am H
          clear H
          have q33 := cf2 BK380.out
          obtain ⟨Ao34, co34, eo34⟩ := Kd.R_slice HO387.out
          subst eo34
          go_wp2_with (first | ((with_reducible refine gate_callee (f := 37) rfl ?_); refine goesL_ (some 50) rfl rfl Tryd.func37 (by kernel_rfl) rfl #[.slice Ao34 y385.length co34, .int .i64 (wrap64 (-a0_1))] rfl pM ?_; (with_reducible refine (b_tens.calls kj11 (fun k_ => some k_ = (.slice Ao34 y385.length co34 : Value).ownBlock) _ _ y385 (wrap64 (-a0_1)) t391 _ ?side1 A32.out).mono ?_); (case side1 => exact Kd.R_V (Kd.R_tight rfl (Kd.R_types (HO387.out) BK380.out (by decide)))); rintro e w35 ⟨v392, rfl, ho0, hb⟩; refine ⟨_, rfl, ?_⟩; replace HO_3 := am (Kd.V_below (pV HO_3.out) hb); have HO393 := am (Kd.V_lower (Kd.V_mono (ok' := fun k_ => k_ ≠ gb380) ho0 (fun k_ hk_ => Or.elim hk_ (fun hs_ => ((Kd.R_types (HO387.out) BK380.out (by decide)).1 k_ hs_.symm).2) (fun hn_ => (Kd.freshB (g := gb380) (o := .cells #[.string a0_0, .int .i64 a0_1] 47 (0, 0)) (pK BK380.out) k_ hn_)))) (below_size pB)); replace HO387 := am (Kd.R_below (pR HO387.out) hb); replace BK380 := am (pkb BK380.out hb); replace HB := am (below_step pB hb); (try clear hb); (try clear ho0)))
          go_meet
          case rel => exact ⟨_, (x3_1), (t391), H', ⟨by have := HK1.out; have := HJ11.out; first | omega | exact Nat.le_refl _⟩, ⟨by (with_reducible repeat (first | apply Kd.V_alloc | apply Kd.V_drewN | apply Kd.V_drew)); exact Kd.V_mono HO_3.out (fun _ hk => hk.1)⟩, ⟨by (with_reducible repeat (first | apply Kd.V_alloc | apply Kd.V_drewN | apply Kd.V_drew)); exact HO393.out⟩, ⟨by (with_reducible repeat (first | refine blk_drewN ?_ _ | refine blk_drew ?_ | refine blk_alloc ?_ _)); exact BK380.out⟩, ⟨pB⟩⟩
        case rest =>
         clear HC22
         try clear c1
         try clear c2
         try clear p2
         try clear c3
         try clear c4
         try clear c4b0
         try clear c5
         try clear c5b0
         try clear c6
         try clear c6b0
         try clear p6
         try clear p7
         try clear q7
         try clear hx7
         try clear c13
         try clear c13b0
         try clear c13b1
         try clear c13b2
         try clear c17
         try clear c18
         try clear c18b0
         try clear c27
         try clear c27b0
         try clear c27b1
         try clear q16 q20 q23 q26 q29 q33 q3 q9
         try clear p2
         try clear p6
         try clear p7
         try clear q7
         obtain ⟨kq, x3_21, x5_21, HA, HJ21, HO_3, HO_5, BK380, HB⟩ := hcut
         cases kq with
         | zero => exact absurd HA.out (by simp [dec_nearest.j2])
         | succ kj21 =>
          have H := HA.out
          clear HA
          simp only [dec_nearest.j2] at H
          replace H := Option.bind_eq_some_iff.mp H
          obtain ⟨t394, A360, H⟩ := H
          try dsimp only at H
          have A36 := am A360
          clear A360
          replace H := Option.bind_eq_some_iff.mp H
          obtain ⟨t395, A370, H⟩ := H
          try dsimp only at H
          have A37 := am A370
          clear A370
          have HC38 := am H
          clear H
          obtain ⟨Ao39, co39, eo39⟩ := Kd.V_slice HO_3.out
          subst eo39
          go_upto_if 58 with (first | ((with_reducible refine gate_callee (f := 36) rfl ?_); refine goesL_ (some 52) rfl rfl Tryd.func36 (by kernel_rfl) rfl #[.slice Ao39 x3_21.length co39] rfl pM ?_; (with_reducible refine (b_len.calls _ _ x3_21 t394 _ ?side1 ?side2 A36.out).mono ?_); (case side1 => repeat (first | exact (Kd.V_reads' HO_3.out).2.2 | (with_reducible refine Kd.C_alloc ?_ _) | (with_reducible refine Kd.C_drewN ?_ _) | (with_reducible refine Kd.C_drew ?_))); (case side2 => exact (Kd.V_reads' HO_3.out).2.1); rintro e w' ⟨rfl, ⟨nd, rfl⟩⟩; refine ⟨_, rfl, ?_⟩; obtain ⟨Ao40, co40, eo40⟩ := Kd.V_slice HO_5.out; subst eo40) | ((with_reducible refine gate_callee (f := 36) rfl ?_); refine goesL_ (some 54) rfl rfl Tryd.func36 (by kernel_rfl) rfl #[.slice Ao40 x5_21.length co40] rfl pM ?_; (with_reducible refine (b_len.calls _ _ x5_21 t395 _ ?side1 ?side2 A37.out).mono ?_); (case side1 => repeat (first | exact (Kd.V_reads' HO_5.out).2.2 | (with_reducible refine Kd.C_alloc ?_ _) | (with_reducible refine Kd.C_drewN ?_ _) | (with_reducible refine Kd.C_drew ?_))); (case side2 => exact (Kd.V_reads' HO_5.out).2.1); rintro e w' ⟨rfl, ⟨nd, rfl⟩⟩; refine ⟨_, rfl, ?_⟩))
          (try simp only [Act.put, List.setIfInBounds_toArray, List.set_cons_zero, List.set_cons_succ])
          go_cut [3, 5] (fun v3 v5 wc => ∃ (kq : Nat) (x3_37 : List Int) (x5_37 : List Int), Aside0 (dec_nearest.j3 kq x3_37 x5_37 (wrap64 (63 - (wrap64 (t394 - t395)))) = some r) ∧ Aside0 (kq ≤ kj21) ∧ Aside0 (Kd.V (Kd.int .u32) 74 wc w.heap.size (fun k_ => k_ ≠ gb380) v3 x3_37) ∧ Aside0 (Kd.V (Kd.int .u32) 74 wc w.heap.size (fun k_ => k_ ≠ gb380) v5 x5_37) ∧ Aside0 (wc.heap[gb380]? = some (.cells #[.string a0_0, .int .i64 a0_1] 47 (0, 0))) ∧ Aside0 (Below w.heap.size w wc))
          case first =>
           have H := HC38.out
           clear HC38
           by_cases c41 : (wrap64 (63 - (wrap64 (t394 - t395)))) ≥ 0
           ·rw [if_pos c41] at H
            have c41b0 : decide (0 ≤ (wrap64 (63 - (wrap64 (t394 - t395))))) = true := decide_eq_true c41
            clear c41
            (first | rw [c41b0] | (simp only [i64_w, i32_w]; rw [c41b0]) | rw [c41b1] | (simp only [i64_w, i32_w]; rw [c41b1]) | skip)
            replace H := Option.bind_eq_some_iff.mp H
            obtain ⟨t396, A420, H⟩ := H
            try dsimp only at H
            have A42 := am A420
            clear A420
            have H' := am H
            clear H
            go_wp2_with (first | ((with_reducible refine gate_callee (f := 40) rfl ?_); refine goesL_ (some 61) rfl rfl Tryd.func40 (by kernel_rfl) rfl #[.slice Ao39 x3_21.length co39, .int .i64 (wrap64 (63 - (wrap64 (t394 - t395))))] rfl pM ?_; (with_reducible refine (b_up.calls kj21 _ _ x3_21 (wrap64 (63 - (wrap64 (t394 - t395)))) t396 _ ?side1 ?side2 A42.out).mono ?_); (case side1 => repeat (first | exact (Kd.V_reads' HO_3.out).2.2 | (with_reducible refine Kd.C_alloc ?_ _) | (with_reducible refine Kd.C_drewN ?_ _) | (with_reducible refine Kd.C_drew ?_))); (case side2 => exact (Kd.V_reads' HO_3.out).2.1); rintro e w43 ⟨v397, rfl, ho0, hb⟩; refine ⟨_, rfl, ?_⟩; replace HO_3 := am (Kd.V_elder' (pV HO_3.out) (Kd.R_base ho0) hb); replace HO_5 := am (Kd.V_elder' (pV HO_5.out) (Kd.R_base ho0) hb); have HO398 := am (Kd.R_lower ho0 (below_size pB)); replace BK380 := am (pkb BK380.out hb); replace HB := am (below_step pB hb); (try clear hb); (try clear ho0)))
            go_meet
            case rel => exact ⟨_, (t396), (x5_21), H', ⟨by have := HK1.out; have := HJ11.out; have := HJ21.out; first | omega | exact Nat.le_refl _⟩, ⟨Kd.R_V (by (with_reducible repeat (first | apply Kd.R_alloc | apply Kd.R_drewN | apply Kd.R_drew)); exact Kd.R_mono (Kd.R_types HO398.out BK380.out (by decide)) (fun _ hk => hk.2))⟩, ⟨by (with_reducible repeat (first | apply Kd.V_alloc | apply Kd.V_drewN | apply Kd.V_drew)); exact Kd.V_mono HO_5.out (fun _ hk => hk.1)⟩, ⟨by (with_reducible repeat (first | refine blk_drewN ?_ _ | refine blk_drew ?_ | refine blk_alloc ?_ _)); exact BK380.out⟩, ⟨pB⟩⟩
           ·rw [if_neg c41] at H
            have c41b0 : decide (0 ≤ (wrap64 (63 - (wrap64 (t394 - t395))))) = false := decide_eq_false c41
            clear c41
            (first | rw [c41b0] | (simp only [i64_w, i32_w]; rw [c41b0]) | rw [c41b1] | (simp only [i64_w, i32_w]; rw [c41b1]) | skip)
            replace H := Option.bind_eq_some_iff.mp H
            obtain ⟨t399, A440, H⟩ := H
            try dsimp only at H
            have A44 := am A440
            clear A440
            have H' := am H
            clear H
            go_wp2_with (first | ((with_reducible refine gate_callee (f := 40) rfl ?_); refine goesL_ (some 65) rfl rfl Tryd.func40 (by kernel_rfl) rfl #[.slice Ao40 x5_21.length co40, .int .i64 (wrap64 (-(wrap64 (63 - (wrap64 (t394 - t395))))))] rfl pM ?_; (with_reducible refine (b_up.calls kj21 _ _ x5_21 (wrap64 (-(wrap64 (63 - (wrap64 (t394 - t395)))))) t399 _ ?side1 ?side2 A44.out).mono ?_); (case side1 => repeat (first | exact (Kd.V_reads' HO_5.out).2.2 | (with_reducible refine Kd.C_alloc ?_ _) | (with_reducible refine Kd.C_drewN ?_ _) | (with_reducible refine Kd.C_drew ?_))); (case side2 => exact (Kd.V_reads' HO_5.out).2.1); rintro e w45 ⟨v400, rfl, ho0, hb⟩; refine ⟨_, rfl, ?_⟩; replace HO_3 := am (Kd.V_elder' (pV HO_3.out) (Kd.R_base ho0) hb); replace HO_5 := am (Kd.V_elder' (pV HO_5.out) (Kd.R_base ho0) hb); have HO401 := am (Kd.R_lower ho0 (below_size pB)); replace BK380 := am (pkb BK380.out hb); replace HB := am (below_step pB hb); (try clear hb); (try clear ho0)))
            go_meet
            case rel => exact ⟨_, (x3_21), (t399), H', ⟨by have := HK1.out; have := HJ11.out; have := HJ21.out; first | omega | exact Nat.le_refl _⟩, ⟨by (with_reducible repeat (first | apply Kd.V_alloc | apply Kd.V_drewN | apply Kd.V_drew)); exact Kd.V_mono HO_3.out (fun _ hk => hk.1)⟩, ⟨Kd.R_V (by (with_reducible repeat (first | apply Kd.R_alloc | apply Kd.R_drewN | apply Kd.R_drew)); exact Kd.R_mono (Kd.R_types HO401.out BK380.out (by decide)) (fun _ hk => hk.2))⟩, ⟨by (with_reducible repeat (first | refine blk_drewN ?_ _ | refine blk_drew ?_ | refine blk_alloc ?_ _)); exact BK380.out⟩, ⟨pB⟩⟩
          case rest =>
           clear HC38
           try clear c1
           try clear c2
           try clear p2
           try clear c3
           try clear c4
           try clear c4b0
           try clear c5
           try clear c5b0
           try clear c6
           try clear c6b0
           try clear p6
           try clear p7
           try clear q7
           try clear hx7
           try clear c13
           try clear c13b0
           try clear c13b1
           try clear c13b2
           try clear c17
           try clear c18
           try clear c18b0
           try clear c27
           try clear c27b0
           try clear c27b1
           try clear c36
           try clear c37
           try clear c38
           try clear c40
           try clear c41
           try clear c41b0
           try clear c41b1
           try clear c44
           try clear q16 q20 q23 q26 q29 q33 q3 q9
           try clear p2
           try clear p6
           try clear p7
           try clear q7
           obtain ⟨kq, x3_37, x5_37, HA, HJ37, HO_3, HO_5, BK380, HB⟩ := hcut
           cases kq with
           | zero => exact absurd HA.out (by simp [dec_nearest.j3])
           | succ kj37 =>
            have H := HA.out
            clear HA
            simp only [dec_nearest.j3] at H
            replace H := Option.bind_eq_some_iff.mp H
            obtain ⟨⟨t402, t403⟩, A460, H⟩ := H
            try dsimp only at H
            have A46 := am A460
            clear A460
            by_cases c47 : t403 = true
            ·subst c47
             rw [if_pos rfl] at H
             replace H := Option.bind_eq_some_iff.mp H
             obtain ⟨t404, A480, H⟩ := H
             try dsimp only at H
             have A48 := am A480
             clear A480
             obtain rfl := Option.some.inj H
             obtain ⟨Ao49, co49, eo49⟩ := Kd.V_slice HO_3.out
             subst eo49
             obtain ⟨Ao50, co50, eo50⟩ := Kd.V_slice HO_5.out
             subst eo50
             go_wp2_with (first | ((with_reducible refine gate_callee (f := 45) rfl ?_); refine goesL_ (some 69) rfl rfl Tryd.func45 (by kernel_rfl) rfl #[.slice Ao49 x3_37.length co49, .slice Ao50 x5_37.length co50] rfl pM ?_; (with_reducible refine (b_by.calls kj37 (fun k_ => k_ ≠ gb380) _ _ x3_37 _ _ x5_37 t402 true _ ?side1 ?side2 ?side3 A46.out).mono ?_); (case side1 => exact HO_3.out); (case side2 => repeat (first | exact (Kd.V_reads' HO_5.out).2.2 | (with_reducible refine Kd.C_alloc ?_ _) | (with_reducible refine Kd.C_drewN ?_ _) | (with_reducible refine Kd.C_drew ?_))); (case side3 => exact (Kd.V_reads' HO_5.out).2.1); rintro e w51 ⟨rfl, hb⟩; refine ⟨_, rfl, ?_⟩; replace HO_3 := am (Kd.V_below (pV HO_3.out) hb); replace HO_5 := am (Kd.V_below (pV HO_5.out) hb); replace BK380 := am (pkb BK380.out hb); replace HB := am (below_step pB hb); (try clear hb)) | ((with_reducible refine gate_callee (f := 44) rfl ?_); refine goesL_ (some 78) rfl rfl Tryd.func44 (by kernel_rfl) rfl #[.bool false, .int .i64 (wrap64 (-(wrap64 (63 - (wrap64 (t394 - t395)))))), .int .u64 (Go.bits .or .u64 t402 1), .bool false] rfl pM ?_; (with_reducible refine (flo_Make.calls kj37 false (wrap64 (-(wrap64 (63 - (wrap64 (t394 - t395)))))) (Go.bits .or .u64 t402 1) false t404 _ A48.out).mono ?_); rintro e w52 ⟨rfl, hb⟩; refine ⟨_, rfl, ?_⟩; replace HO_3 := am (Kd.V_below (pV HO_3.out) hb); replace HO_5 := am (Kd.V_below (pV HO_5.out) hb); replace BK380 := am (pkb BK380.out hb); replace HB := am (below_step pB hb); (try clear hb)))
             go_ret
             exact ⟨pE, pB⟩
            ·replace c47 := Bool.eq_false_iff.mpr c47
             subst c47
             rw [if_neg (show ¬ (false = true) by decide)] at H
             replace H := Option.bind_eq_some_iff.mp H
             obtain ⟨t405, A530, H⟩ := H
             try dsimp only at H
             have A53 := am A530
             clear A530
             obtain rfl := Option.some.inj H
             obtain ⟨Ao54, co54, eo54⟩ := Kd.V_slice HO_3.out
             subst eo54
             obtain ⟨Ao55, co55, eo55⟩ := Kd.V_slice HO_5.out
             subst eo55
             go_wp2_with (first | ((with_reducible refine gate_callee (f := 45) rfl ?_); refine goesL_ (some 69) rfl rfl Tryd.func45 (by kernel_rfl) rfl #[.slice Ao54 x3_37.length co54, .slice Ao55 x5_37.length co55] rfl pM ?_; (with_reducible refine (b_by.calls kj37 (fun k_ => k_ ≠ gb380) _ _ x3_37 _ _ x5_37 t402 false _ ?side1 ?side2 ?side3 A46.out).mono ?_); (case side1 => exact HO_3.out); (case side2 => repeat (first | exact (Kd.V_reads' HO_5.out).2.2 | (with_reducible refine Kd.C_alloc ?_ _) | (with_reducible refine Kd.C_drewN ?_ _) | (with_reducible refine Kd.C_drew ?_))); (case side3 => exact (Kd.V_reads' HO_5.out).2.1); rintro e w56 ⟨rfl, hb⟩; refine ⟨_, rfl, ?_⟩; replace HO_3 := am (Kd.V_below (pV HO_3.out) hb); replace HO_5 := am (Kd.V_below (pV HO_5.out) hb); replace BK380 := am (pkb BK380.out hb); replace HB := am (below_step pB hb); (try clear hb)) | ((with_reducible refine gate_callee (f := 44) rfl ?_); refine goesL_ (some 78) rfl rfl Tryd.func44 (by kernel_rfl) rfl #[.bool false, .int .i64 (wrap64 (-(wrap64 (63 - (wrap64 (t394 - t395)))))), .int .u64 t402, .bool false] rfl pM ?_; (with_reducible refine (flo_Make.calls kj37 false (wrap64 (-(wrap64 (63 - (wrap64 (t394 - t395)))))) t402 false t405 _ A53.out).mono ?_); rintro e w57 ⟨rfl, hb⟩; refine ⟨_, rfl, ?_⟩; replace HO_3 := am (Kd.V_below (pV HO_3.out) hb); replace HO_5 := am (Kd.V_below (pV HO_5.out) hb); replace BK380 := am (pkb BK380.out hb); replace HB := am (below_step pB hb); (try clear hb)))
             go_ret
             exact ⟨pE, pB⟩
def dec_Parse.f (k : Nat) (a0 : ByteArray) : Option (Int × Int) := if (a0.size : Int) > 400 then (some (0, 2)) else ((dec_cut.f k a0).bind fun bt406 => (if bt406.2.2 = true then ((dec_nearest.f k bt406.1 bt406.2.1).bind fun t410 => (some (t410, 0))) else (some (0, 4))))
theorem dec_Parse.mono : ∀ a0 k, LeO (dec_Parse.f k a0) (dec_Parse.f (k + 1) a0) := by
 intro a0 k
 unfold dec_Parse.f
 repeat' first
   | (with_reducible exact dec_cut.mono _ _)
   | (with_reducible exact dec_nearest.mono _ _ _)
   | (with_reducible exact LeO.refl _)
   | (with_reducible exact LeO.none _)
   | (with_reducible refine LeO.ite ?_ ?_)
   | (with_reducible refine LeO.bind ?_ (fun _ => ?_))
   | exact dec_cut.mono _ _
   | exact dec_nearest.mono _ _ _
   | exact LeO.none _
   | refine LeO.ite ?_ ?_
   | refine LeO.bind ?_ (fun _ => ?_)
set_option maxHeartbeats 8000000 in
set_option maxRecDepth 100000 in
theorem dec_Parse.calls (k : Nat) (a0 : ByteArray) (r1 : Int) (r2 : Int) (w : World) (h : dec_Parse.f k a0 = some (r1, r2)) :
  Calls Tryd.prog 9 #[.string a0] w fun e w' => e = .returned (.tuple #[.int .u64 r1, .int .i64 r2]) ∧ Below w.heap.size w w' := by
 have hu47 := Tryd.underlying47
 have HB := am (Below.refl w.heap.size w)
 have H : (if (a0.size : Int) > 400 then (some (0, 2)) else ((dec_cut.f k a0).bind fun bt406 => (if bt406.2.2 = true then ((dec_nearest.f k bt406.1 bt406.2.1).bind fun t410 => (some (t410, 0))) else (some (0, 4))))) = some (r1, r2) := h
 clear h
 by_cases c2 : (a0.size : Int) > 400
 ·rw [if_pos c2] at H
  have c2b0 : decide (400 < (a0.size : Int)) = true := decide_eq_true c2
  have c2b1 : decide (400 < a0.size) = true := decide_eq_true (by omega)
  clear c2
  simp only [Option.some.injEq, Prod.mk.injEq] at H
  obtain ⟨rfl, rfl⟩ := H
  go_enter Tryd.func9, Tryd.ntmps9
  go_wp2
  go_ret2
  exact ⟨pE, pB⟩
 ·rw [if_neg c2] at H
  have c2b0 : decide (400 < (a0.size : Int)) = false := decide_eq_false c2
  have c2b1 : decide (400 < a0.size) = false := decide_eq_false (by omega)
  clear c2
  replace H := Option.bind_eq_some_iff.mp H
  obtain ⟨⟨t406, t407, t408⟩, A30, H⟩ := H
  try dsimp only at H
  have A3 := am A30
  clear A30
  by_cases c4 : t408 = true
  ·subst c4
   rw [if_pos rfl] at H
   replace H := Option.bind_eq_some_iff.mp H
   obtain ⟨t410, A50, H⟩ := H
   try dsimp only at H
   have A5 := am A50
   clear A50
   simp only [Option.some.injEq, Prod.mk.injEq] at H
   obtain ⟨rfl, rfl⟩ := H
   go_enter Tryd.func9, Tryd.ntmps9
   go_wp2_with (first | ((with_reducible refine gate_callee (f := 17) rfl ?_); refine goesL_ (some 11) rfl rfl Tryd.func17 (by kernel_rfl) rfl #[.string a0] rfl pM ?_; (with_reducible refine (dec_cut.calls k a0 t406 t407 true _ A3.out).mono ?_); rintro e w6 ⟨rfl, hb⟩; refine ⟨_, rfl, ?_⟩; replace HB := am (below_step pB hb); (try clear hb)) | ((with_reducible refine gate_dst (N := 4) rfl ?_); refine box_event ?hg (N := 4) ?hd (cs := #[.string (⟨#[]⟩ : ByteArray), .int .i64 0]) (t := 47) ?hr ?_; (case hd => rfl); (case hg => rfl); (case hr => first | (go_simp; done) | (go_simp; rfl)); intro gb409 hg w7 hbox hb; have BK409 := am (hbox); have GW409 := am ((by rw [hg]; exact (below_size pB) : w.heap.size ≤ gb409)); have GE409 := am ((by rw [hg]; exact (below_size pB) : w.heap.size ≤ gb409)); replace HB := am (below_step pB hb); clear hb hbox hg; have q8 := cf2 BK409.out) | ((with_reducible refine gate_callee (f := 18) rfl ?_); refine goesL_ (some 17) rfl rfl Tryd.func18 (by kernel_rfl) rfl #[.agg #[.string t406, .int .i64 t407]] rfl pM ?_; (with_reducible refine (dec_nearest.calls k t406 t407 t410 _ A5.out).mono ?_); rintro e w9 ⟨rfl, hb⟩; refine ⟨_, rfl, ?_⟩; replace BK409 := am (blk_below (g := gb409) (o := .cells #[.string t406, .int .i64 t407] 47 (0, 0)) (by (with_reducible repeat (first | refine blk_drewN ?_ _ | refine blk_drew ?_ | refine blk_alloc ?_ _)); refine blk_put (cs := #[.string t406, .int .i64 0]) ?_ 1 _ rfl; (with_reducible repeat (first | refine blk_drewN ?_ _ | refine blk_drew ?_ | refine blk_alloc ?_ _)); refine blk_put (cs := #[.string (⟨#[]⟩ : ByteArray), .int .i64 0]) ?_ 0 _ rfl; (with_reducible repeat (first | refine blk_drewN ?_ _ | refine blk_drew ?_ | refine blk_alloc ?_ _)); exact BK409.out) hb); replace HB := am (below_step pB hb); (try clear hb)))
   go_ret2
   exact ⟨pE, pB⟩
  ·replace c4 := Bool.eq_false_iff.mpr c4
   subst c4
   rw [if_neg (show ¬ (false = true) by decide)] at H
   simp only [Option.some.injEq, Prod.mk.injEq] at H
   obtain ⟨rfl, rfl⟩ := H
   go_enter Tryd.func9, Tryd.ntmps9
   go_wp2_with (first | ((with_reducible refine gate_callee (f := 17) rfl ?_); refine goesL_ (some 11) rfl rfl Tryd.func17 (by kernel_rfl) rfl #[.string a0] rfl pM ?_; (with_reducible refine (dec_cut.calls k a0 t406 t407 false _ A3.out).mono ?_); rintro e w10 ⟨rfl, hb⟩; refine ⟨_, rfl, ?_⟩; replace HB := am (below_step pB hb); (try clear hb)) | ((with_reducible refine gate_dst (N := 4) rfl ?_); refine box_event ?hg (N := 4) ?hd (cs := #[.string (⟨#[]⟩ : ByteArray), .int .i64 0]) (t := 47) ?hr ?_; (case hd => rfl); (case hg => rfl); (case hr => first | (go_simp; done) | (go_simp; rfl)); intro gb409 hg w11 hbox hb; have BK409 := am (hbox); have GW409 := am ((by rw [hg]; exact (below_size pB) : w.heap.size ≤ gb409)); have GE409 := am ((by rw [hg]; exact (below_size pB) : w.heap.size ≤ gb409)); replace HB := am (below_step pB hb); clear hb hbox hg; have q12 := cf2 BK409.out))
   go_ret2
   exact ⟨pE, pB⟩
def minstrellaw05_lives.f (k : Nat)  : Option (Bool) := (dec_Parse.f k (⟨#[49, 46, 53, 48, 101, 49]⟩ : ByteArray)).bind fun bt411 => (if bt411.1 = 4624633867356078080 then (if bt411.2 = 0 then ((dec_Print.f k bt411.1).bind fun t413 => (some (t413.toList == ([49, 53] : List UInt8)))) else (none)) else (none))
theorem minstrellaw05_lives.mono : ∀ k, LeO (minstrellaw05_lives.f k ) (minstrellaw05_lives.f (k + 1) ) := by
 intro  k
 unfold minstrellaw05_lives.f
 repeat' first
   | (with_reducible exact dec_Parse.mono _ _)
   | (with_reducible exact dec_Print.mono _ _)
   | (with_reducible exact LeO.refl _)
   | (with_reducible exact LeO.none _)
   | (with_reducible refine LeO.ite ?_ ?_)
   | (with_reducible refine LeO.bind ?_ (fun _ => ?_))
   | exact dec_Parse.mono _ _
   | exact dec_Print.mono _ _
   | exact LeO.none _
   | refine LeO.ite ?_ ?_
   | refine LeO.bind ?_ (fun _ => ?_)
set_option maxHeartbeats 8000000 in
set_option maxRecDepth 100000 in
theorem minstrellaw05_lives.calls (k : Nat)  (r : Bool) (w : World) (hG : PowLaid w) (h : minstrellaw05_lives.f k  = some r) :
  Calls Tryd.prog 7 #[] w fun e w' => e = .returned (.bool r) ∧ Below w.heap.size w w' := by
 have HG := am hG
 clear hG
 have HB := am (Below.refl w.heap.size w)
 have H : ((dec_Parse.f k (⟨#[49, 46, 53, 48, 101, 49]⟩ : ByteArray)).bind fun bt411 => (if bt411.1 = 4624633867356078080 then (if bt411.2 = 0 then ((dec_Print.f k bt411.1).bind fun t413 => (some (t413.toList == ([49, 53] : List UInt8)))) else (none)) else (none))) = some r := h
 clear h
 replace H := Option.bind_eq_some_iff.mp H
 obtain ⟨⟨t411, t412⟩, A10, H⟩ := H
 try dsimp only at H
 have A1 := am A10
 clear A10
 by_cases c2 : t411 = 4624633867356078080
 ·rw [if_pos c2] at H
  have c2b0 : (t411 == 4624633867356078080) = true := beq_iff_eq.mpr c2
  have c2b1 : (t411 != 4624633867356078080) = false := bne_eq_false_iff_eq.mpr c2
  clear c2
  by_cases c3 : t412 = 0
  ·rw [if_pos c3] at H
   have c3b0 : (t412 == 0) = true := beq_iff_eq.mpr c3
   have c3b1 : (t412 != 0) = false := bne_eq_false_iff_eq.mpr c3
   clear c3
   replace H := Option.bind_eq_some_iff.mp H
   obtain ⟨t413, A40, H⟩ := H
   try dsimp only at H
   have A4 := am A40
   clear A40
   obtain rfl := Option.some.inj H
   go_enter Tryd.func7, Tryd.ntmps7
   go_wp2_with (first | ((with_reducible refine gate_callee (f := 9) rfl ?_); refine goesL_ (some 4) rfl rfl Tryd.func9 (by kernel_rfl) rfl #[.string (⟨#[49, 46, 53, 48, 101, 49]⟩ : ByteArray)] rfl pM ?_; (with_reducible refine (dec_Parse.calls k (⟨#[49, 46, 53, 48, 101, 49]⟩ : ByteArray) t411 t412 _ A1.out).mono ?_); rintro e w5 ⟨rfl, hb⟩; refine ⟨_, rfl, ?_⟩; replace HB := am (below_step pB hb); (try clear hb)) | (go_at_call 8; (with_reducible refine (dec_Print.calls k t411 t413 _ ?side1 A4.out).mono ?_); (case side1 => exact pG); rintro e w6 ⟨rfl, hb⟩; replace HB := am (below_step pB hb); (try clear hb)))
   go_ret
   exact ⟨pE, pB⟩
  ·rw [if_neg c3] at H
   exact absurd H (by simp)
 ·rw [if_neg c2] at H
  exact absurd H (by simp)
end Go.Proofs.YtflcanpajgpghaaDoor.Pr
end
section
namespace Go.Proofs.YtflcanpajgpghaaDoor.Pr
open Go.RowKit Go.Proofs.YtflcanpajgpghaaDoorW.PrintWords Go.Proofs.YtflcanpajgpghaaDoorW.PrintLast Go.Proofs.YtflcanpajgpghaaDoorW.PrintMore
attribute [local go_sem] max2_int min2_int max_two min_two max_three min_three max_four min_four
def r1_Trim.l0 : Nat → List Int → Int → Option (List Int)
 | 0, _, _ => none
 | k + 1, x0, x3 => if x3 > 0 then (if 0 ≤ (wrap64 (x3 - 1)) then (if (wrap64 (x3 - 1)) < (x0.length : Int) then (if (rd x0 (wrap64 (x3 - 1))) = 0 then (r1_Trim.l0 k x0 (wrap64 (x3 - 1))) else ((some (([] : List Int) : List Int)).bind fun y416 => (if 0 ≤ x3 then (if x3 ≤ (x0.length : Int) then (if y416.length + (x0.take (x3 : Int).toNat).length < 17592186044416 then (some (y416 ++ (x0.take (x3 : Int).toNat))) else (none)) else (none)) else (none)))) else (none)) else (none)) else ((some (([] : List Int) : List Int)).bind fun y423 => (if 0 ≤ x3 then (if x3 ≤ (x0.length : Int) then (if y423.length + (x0.take (x3 : Int).toNat).length < 17592186044416 then (some (y423 ++ (x0.take (x3 : Int).toNat))) else (none)) else (none)) else (none)))
def r1_Trim.f (k : Nat) (l0 : List Int) : Option (List Int) := r1_Trim.l0 k l0 (l0.length : Int)
set_option maxHeartbeats 8000000 in
set_option maxRecDepth 100000 in
theorem r1_Trim.calls (k : Nat) (A0 : Option Addr) (c0 : Nat) (l0 : List Int) (r : List Int) (w : World) (hr0 : Kd.C (Kd.int .u64) w A0 l0.length l0) (hc0 : l0.length ≤ c0) (h : r1_Trim.f k l0 = some r) :
  Calls Tryd.prog 50 #[.slice A0 l0.length c0] w fun e w' => ∃ v0_ : Value, e = .returned (v0_) ∧ Kd.R (Kd.int .u64) 22 w' w.heap.size (fun _ => True) v0_ r ∧ Below w.heap.size w w' := by
 have HR0 := am hr0
 have HC0 := am hc0
 clear hr0 hc0
 have HB := am (Below.refl w.heap.size w)
 have H : (r1_Trim.l0 k l0 (l0.length : Int)) = some r := h
 clear h
 have H' := am H
 clear H
 go_enter Tryd.func50, Tryd.ntmps50
 go_wp2
 go_loopg [3] k (fun kq v3 w' => ∃ (x3_1 : Int), v3 = .int .i64 x3_1 ∧ Aside0 (r1_Trim.l0 kq l0 x3_1 = some r) ∧ Aside0 (kq ≤ k) ∧ Aside0 (Below w.heap.size w w'))
 case atStart => exact ⟨((l0.length : Int)), (by first | rfl | (simp; done) | (simp [*]; done)), H', ⟨Nat.le_refl _⟩, ⟨pB⟩⟩
 case round =>
  clear H'
  obtain ⟨x3_1, rfl, HA, HK1, HB⟩ := hrel
  cases gk with
  | zero => exact absurd HA.out (by simp [r1_Trim.l0])
  | succ k1 =>
   have H := HA.out
   clear HA
   simp only [r1_Trim.l0] at H
   by_cases c2 : x3_1 > 0
   ·rw [if_pos c2] at H
    have c2b0 : decide (0 < x3_1) = true := decide_eq_true c2
    clear c2
    obtain ⟨ji3, hji3⟩ : ∃ j_ : Int, (wrap64 (x3_1 - 1)) = j_ := ⟨_, rfl⟩
    replace H : (if 0 ≤ (ji3) then (if (ji3) < (l0.length : Int) then (if (rd l0 (ji3)) = 0 then (r1_Trim.l0 k1 l0 ji3) else ((some (([] : List Int) : List Int)).bind fun y416 => (if 0 ≤ x3_1 then (if x3_1 ≤ (l0.length : Int) then (if y416.length + (l0.take (x3_1 : Int).toNat).length < 17592186044416 then (some (y416 ++ (l0.take (x3_1 : Int).toNat))) else (none)) else (none)) else (none)))) else (none)) else (none)) = some r := by first | (rw [hji3] at H; exact H) | (simp only [hji3] at H ⊢; exact H)
    have hji3w : (IntKind.i64.wrap (x3_1 - 1)) = ji3 := (i64_w _).trans hji3
    by_cases c4 : 0 ≤ (ji3)
    ·rw [if_pos c4] at H
     have c4b0 : decide (0 ≤ (ji3)) = true := decide_eq_true c4
     clear c4
     by_cases c5 : (ji3) < (l0.length : Int)
     ·rw [if_pos c5] at H
      have c5b0 : decide ((ji3) < (l0.length : Int)) = true := decide_eq_true c5
      clear c5
      by_cases c6 : (rd l0 (ji3)) = 0
      ·rw [if_pos c6] at H
       have c6b0 : ((rd l0 (ji3)) == 0) = true := beq_iff_eq.mpr c6
       have c6b1 : ((rd l0 (ji3)) != 0) = false := bne_eq_false_iff_eq.mpr c6
       clear c6
       have H' := am H
       clear H
       have p415 : 0 ≤ ((ji3) : Int) := pD
       have q415 : (ji3) < (l0.length : Int) := pD
       obtain ⟨ad415, e415, hx415_0⟩ := Kd.at_int HR0.out (ji3) p415 q415
       cases e415
       replace hx415_0 := (HB.out.cell (World.block_lt_of_cell? w _ hx415_0)).trans hx415_0
       replace p415 := eq_true p415
       replace q415 := eq_true q415
       go_wp2
       go_roundg k1
       case measure => have := HK1.out; omega
       case rel => exact ⟨(ji3), (by first | rfl | (simp; done) | (simp only [← hji3] <;> (first | rfl | simp)) | (simp [*]; done)), H', ⟨by have := HK1.out; omega⟩, ⟨pB⟩⟩
      ·rw [if_neg c6] at H
       have c6b0 : ((rd l0 (ji3)) == 0) = false := beq_eq_false_iff_ne.mpr c6
       have c6b1 : ((rd l0 (ji3)) != 0) = true := bne_iff_ne.mpr c6
       obtain ⟨y416, hy416⟩ : ∃ y_ : List Int, y_ = (([] : List Int)) := ⟨_, rfl⟩
       replace H : (if 0 ≤ x3_1 then (if x3_1 ≤ (l0.length : Int) then (if y416.length + (l0.take (x3_1 : Int).toNat).length < 17592186044416 then (some (y416 ++ (l0.take (x3_1 : Int).toNat))) else (none)) else (none)) else (none)) = some r := by first | (rw [hy416]; with_reducible exact H) | (have H2_ := (Option.bind_some _ _).symm.trans H; rw [hy416]; with_reducible exact H2_) | (have H2_ := (Option.bind_some _ _).symm.trans H; with_reducible exact H2_) | with_reducible exact H | (rw [hy416]; exact H) | exact H
       have Ny416 := am hy416
       clear hy416
       by_cases c7 : 0 ≤ x3_1
       ·rw [if_pos c7] at H
        have c7b0 := eq_true c7
        have c7b1 : decide (0 ≤ x3_1) = true := decide_eq_true c7
        clear c7
        by_cases c8 : x3_1 ≤ (l0.length : Int)
        ·rw [if_pos c8] at H
         have c8b0 := eq_true c8
         have c8b1 : decide (x3_1 ≤ (l0.length : Int)) = true := decide_eq_true c8
         clear c8
         by_cases c9 : y416.length + (l0.take (x3_1 : Int).toNat).length < 17592186044416
         ·rw [if_pos c9] at H
          have LMc9 := am c9
          clear c9
          obtain ⟨y420, hy420⟩ : ∃ y_ : List Int, y_ = (y416 ++ (l0.take (x3_1 : Int).toNat)) := ⟨_, rfl⟩
          replace H : (some y420) = some r := by first | (rw [hy420]; with_reducible exact H) | (have H2_ := (Option.bind_some _ _).symm.trans H; rw [hy420]; with_reducible exact H2_) | (have H2_ := (Option.bind_some _ _).symm.trans H; with_reducible exact H2_) | with_reducible exact H | (rw [hy420]; exact H) | exact H
          have Ny420 := am hy420
          clear hy420
          obtain rfl := Option.some.inj H
          have p415 : 0 ≤ ((ji3) : Int) := pD
          have q415 : (ji3) < (l0.length : Int) := pD
          obtain ⟨ad415, e415, hx415_0⟩ := Kd.at_int HR0.out (ji3) p415 q415
          cases e415
          replace hx415_0 := (HB.out.cell (World.block_lt_of_cell? w _ hx415_0)).trans hx415_0
          replace p415 := eq_true p415
          replace q415 := eq_true q415
          go_wp2_with (first | ((with_reducible refine gate_dst (N := 18) rfl ?_); refine Kd.R_lit (Kd.int .u64) _ 22 ?hg (N := 18) ?hd (xs := ([] : List Int)) (inner := []) (ok := fun _ => True) (okp := fun _ => True) ?hr ?hp (fun _ hk => hk) trivial (Below.refl _ _) (Nat.le_refl _) (by simp) ?_; (case hd => rfl); (case hg => rfl); (case hr => first | (go_simp; done) | (go_simp; rfl)); (case hp => exact (Reps.none _ _)); intro v417 w10 ho11 hb hg_ hnew_; clear hg_ hnew_; (first | rw [← Ny416.out] at ho11 | (simp only [Int.reduceToNat] at ho11; rw [← Ny416.out] at ho11)); have HO418 := am (Kd.R_lower ho11 (below_size pB)); replace HB := am (below_step pB hb); clear hb ho11; obtain ⟨i012, hi012, _, hsz12, _⟩ := info_parts info22; obtain ⟨hcut12, hA12, hC12⟩ := print_take_of (P := Tryd.prog) (Value.int .u64) 0 52 22 .i64 Tryd.underlying52 hi012 hsz12 (some ad415) c0 l0 x3_1 pD pD HC0.out; have HR419 := am (Kd.C_of_reads (h1 := fun _ => rfl) (hA12 _ (Kd.reads_of_C HR0.out))); have HC419 := am hC12; clear hA12 hC12 hi012 hsz12) | ((with_reducible refine gate_builtin (b := .append) (xs := #[.tmp 18, .tmp 21]) rfl ?_); at_builtin; refine Kd.R_append_rows (Kd.int .u64) (w0 := w) w.heap.size rfl (.tmp 18) (.tmp 21) 52 22 (.int .u64 0) 8 rfl Tryd.underlying52 info22 rfl (by decide) (by omega) v417 y416 (l0.take (x3_1 : Int).toNat) _ _ _ (fun _ => True) (fun _ => False) rfl rfl ?aO ?aR (fun _ _ h => h) (fun _ h => h.elim) ?aF ?aB ?aS ?aL ?_; (case aR => first | (have h9_ := (Kd.C_below HR419.out HB.out); rw [show (l0.take (x3_1 : Int).toNat).length = x3_1.toNat from (by rw [List.length_take]; have h_ : (x3_1 : Int) ≤ (l0.length : Int) := pD; omega)] at h9_; exact h9_) | (rw [← show (l0.take (x3_1 : Int).toNat).length = x3_1.toNat from (by rw [List.length_take]; have h_ : (x3_1 : Int) ≤ (l0.length : Int) := pD; omega)]; exact pC (Kd.C_below HR419.out HB.out)) | (exact pC (Kd.C_below HR419.out HB.out))); (case aB => exact pB); (case aF => exact (fun _ _ => trivial)); (case aO => exact (pR HO418.out)); (case aS => exact (below_size pB)); (case aL => have := LMc9.out; have hlx_ := (show (l0.take (x3_1 : Int).toNat).length = x3_1.toNat from (by rw [List.length_take]; have h_ : (x3_1 : Int) ≤ (l0.length : Int) := pD; omega)); omega); intro v421 w13 ho hb hg hat; rw [← Ny420.out] at ho; replace HB := am (hb); have HO422 := am (ho); clear HO418; clear ho hb hg hat))
          go_ret
          exact ⟨_, by first | rfl | (simp [errW_none, errW_some] <;> rfl) | (simp only [← hji3]; first | rfl | (simp [errW_none, errW_some] <;> rfl)) | (simp [*, errW_none, errW_some] <;> rfl), by (with_reducible repeat (first | apply Kd.R_alloc | apply Kd.R_drewN | apply Kd.R_drew)); exact HO422.out, pB⟩
         ·rw [if_neg c9] at H
          exact absurd H (by simp)
        ·rw [if_neg c8] at H
         exact absurd H (by simp)
       ·rw [if_neg c7] at H
        exact absurd H (by simp)
     ·rw [if_neg c5] at H
      exact absurd H (by simp)
    ·rw [if_neg c4] at H
     exact absurd H (by simp)
   ·rw [if_neg c2] at H
    have c2b0 : decide (0 < x3_1) = false := decide_eq_false c2
    clear c2
    obtain ⟨y423, hy423⟩ : ∃ y_ : List Int, y_ = (([] : List Int)) := ⟨_, rfl⟩
    replace H : (if 0 ≤ x3_1 then (if x3_1 ≤ (l0.length : Int) then (if y423.length + (l0.take (x3_1 : Int).toNat).length < 17592186044416 then (some (y423 ++ (l0.take (x3_1 : Int).toNat))) else (none)) else (none)) else (none)) = some r := by first | (rw [hy423]; with_reducible exact H) | (have H2_ := (Option.bind_some _ _).symm.trans H; rw [hy423]; with_reducible exact H2_) | (have H2_ := (Option.bind_some _ _).symm.trans H; with_reducible exact H2_) | with_reducible exact H | (rw [hy423]; exact H) | exact H
    have Ny423 := am hy423
    clear hy423
    by_cases c14 : 0 ≤ x3_1
    ·rw [if_pos c14] at H
     have c14b0 := eq_true c14
     have c14b1 : decide (0 ≤ x3_1) = true := decide_eq_true c14
     clear c14
     by_cases c15 : x3_1 ≤ (l0.length : Int)
     ·rw [if_pos c15] at H
      have c15b0 := eq_true c15
      have c15b1 : decide (x3_1 ≤ (l0.length : Int)) = true := decide_eq_true c15
      clear c15
      by_cases c16 : y423.length + (l0.take (x3_1 : Int).toNat).length < 17592186044416
      ·rw [if_pos c16] at H
       have LMc16 := am c16
       clear c16
       obtain ⟨y427, hy427⟩ : ∃ y_ : List Int, y_ = (y423 ++ (l0.take (x3_1 : Int).toNat)) := ⟨_, rfl⟩
       replace H : (some y427) = some r := by first | (rw [hy427]; with_reducible exact H) | (have H2_ := (Option.bind_some _ _).symm.trans H; rw [hy427]; with_reducible exact H2_) | (have H2_ := (Option.bind_some _ _).symm.trans H; with_reducible exact H2_) | with_reducible exact H | (rw [hy427]; exact H) | exact H
       have Ny427 := am hy427
       clear hy427
       obtain rfl := Option.some.inj H
       go_wp2_with (first | ((with_reducible refine gate_dst (N := 18) rfl ?_); refine Kd.R_lit (Kd.int .u64) _ 22 ?hg (N := 18) ?hd (xs := ([] : List Int)) (inner := []) (ok := fun _ => True) (okp := fun _ => True) ?hr ?hp (fun _ hk => hk) trivial (Below.refl _ _) (Nat.le_refl _) (by simp) ?_; (case hd => rfl); (case hg => rfl); (case hr => first | (go_simp; done) | (go_simp; rfl)); (case hp => exact (Reps.none _ _)); intro v424 w17 ho18 hb hg_ hnew_; clear hg_ hnew_; (first | rw [← Ny423.out] at ho18 | (simp only [Int.reduceToNat] at ho18; rw [← Ny423.out] at ho18)); have HO425 := am (Kd.R_lower ho18 (below_size pB)); replace HB := am (below_step pB hb); clear hb ho18; obtain ⟨i019, hi019, _, hsz19, _⟩ := info_parts info22; obtain ⟨hcut19, hA19, hC19⟩ := print_take_of (P := Tryd.prog) (Value.int .u64) 0 52 22 .i64 Tryd.underlying52 hi019 hsz19 A0 c0 l0 x3_1 pD pD HC0.out; have HR426 := am (Kd.C_of_reads (h1 := fun _ => rfl) (hA19 _ (Kd.reads_of_C HR0.out))); have HC426 := am hC19; clear hA19 hC19 hi019 hsz19) | ((with_reducible refine gate_builtin (b := .append) (xs := #[.tmp 18, .tmp 21]) rfl ?_); at_builtin; refine Kd.R_append_rows (Kd.int .u64) (w0 := w) w.heap.size rfl (.tmp 18) (.tmp 21) 52 22 (.int .u64 0) 8 rfl Tryd.underlying52 info22 rfl (by decide) (by omega) v424 y423 (l0.take (x3_1 : Int).toNat) _ _ _ (fun _ => True) (fun _ => False) rfl rfl ?aO ?aR (fun _ _ h => h) (fun _ h => h.elim) ?aF ?aB ?aS ?aL ?_; (case aR => first | (have h9_ := (Kd.C_below HR426.out HB.out); rw [show (l0.take (x3_1 : Int).toNat).length = x3_1.toNat from (by rw [List.length_take]; have h_ : (x3_1 : Int) ≤ (l0.length : Int) := pD; omega)] at h9_; exact h9_) | (rw [← show (l0.take (x3_1 : Int).toNat).length = x3_1.toNat from (by rw [List.length_take]; have h_ : (x3_1 : Int) ≤ (l0.length : Int) := pD; omega)]; exact pC (Kd.C_below HR426.out HB.out)) | (exact pC (Kd.C_below HR426.out HB.out))); (case aB => exact pB); (case aF => exact (fun _ _ => trivial)); (case aO => exact (pR HO425.out)); (case aS => exact (below_size pB)); (case aL => have := LMc16.out; have hlx_ := (show (l0.take (x3_1 : Int).toNat).length = x3_1.toNat from (by rw [List.length_take]; have h_ : (x3_1 : Int) ≤ (l0.length : Int) := pD; omega)); omega); intro v428 w20 ho hb hg hat; rw [← Ny427.out] at ho; replace HB := am (hb); have HO429 := am (ho); clear HO425; clear ho hb hg hat))
       go_ret
       exact ⟨_, pE, by (with_reducible repeat (first | apply Kd.R_alloc | apply Kd.R_drewN | apply Kd.R_drew)); exact HO429.out, pB⟩
      ·rw [if_neg c16] at H
       exact absurd H (by simp)
     ·rw [if_neg c15] at H
      exact absurd H (by simp)
    ·rw [if_neg c14] at H
     exact absurd H (by simp)
mutual
def r1_Product.l0 : Nat → List Int → List Int → List Int → Int → Option (List Int)
 | 0, _, _, _, _ => none
 | k + 1, x0, x1, x5, x6 => if x6 < (x0.length : Int) then (r1_Product.l1 k x0 x1 x5 x6 0 0) else ((r1_Trim.f k x5).bind fun t433 => (some t433))
def r1_Product.l1 : Nat → List Int → List Int → List Int → Int → Int → Int → Option (List Int)
 | 0, _, _, _, _, _, _ => none
 | k + 1, x0, x1, x5, x6, x7, x8 => if x8 < (x1.length : Int) then (if 0 ≤ (wrap64 (x6 + x8)) then (if (wrap64 (x6 + x8)) < (x5.length : Int) then (if 0 ≤ x6 then (if x6 < (x0.length : Int) then (if 0 ≤ x8 then (r1_Product.l1 k x0 x1 (x5.set ((wrap64 (x6 + x8)) : Int).toNat (Go.bits .and .u64 (IntKind.u64.wrap ((IntKind.u64.wrap ((rd x5 (wrap64 (x6 + x8))) + (IntKind.u64.wrap ((rd x0 x6) * (rd x1 x8))))) + x7)) 65535)) x6 ((IntKind.u64.wrap ((IntKind.u64.wrap ((rd x5 (wrap64 (x6 + x8))) + (IntKind.u64.wrap ((rd x0 x6) * (rd x1 x8))))) + x7)) / 65536) (wrap64 (x8 + 1))) else (none)) else (none)) else (none)) else (none)) else (none)) else (if 0 ≤ (wrap64 (x6 + (x1.length : Int))) then (if (wrap64 (x6 + (x1.length : Int))) < (x5.length : Int) then (r1_Product.l0 k x0 x1 (x5.set ((wrap64 (x6 + (x1.length : Int))) : Int).toNat x7) (wrap64 (x6 + 1))) else (none)) else (none))
end
def r1_Product.f (k : Nat) (l0 : List Int) (l1 : List Int) : Option (List Int) := if 0 ≤ (wrap64 ((l0.length : Int) + (l1.length : Int))) then (if (wrap64 ((l0.length : Int) + (l1.length : Int)) : Int).toNat ≤ 35184372088832 then (r1_Product.l0 k l0 l1 (List.replicate (wrap64 ((l0.length : Int) + (l1.length : Int)) : Int).toNat 0) 0) else (none)) else (none)
set_option maxHeartbeats 8000000 in
set_option maxRecDepth 100000 in
theorem r1_Product.calls (k : Nat) (A0 : Option Addr) (c0 : Nat) (l0 : List Int) (A1 : Option Addr) (c1 : Nat) (l1 : List Int) (r : List Int) (w : World) (hr0 : Kd.C (Kd.int .u64) w A0 l0.length l0) (hc0 : l0.length ≤ c0) (hr1 : Kd.C (Kd.int .u64) w A1 l1.length l1) (hc1 : l1.length ≤ c1) (h : r1_Product.f k l0 l1 = some r) :
  Calls Tryd.prog 23 #[.slice A0 l0.length c0, .slice A1 l1.length c1] w fun e w' => ∃ v0_ : Value, e = .returned (v0_) ∧ Kd.R (Kd.int .u64) 22 w' w.heap.size (fun _ => True) v0_ r ∧ Below w.heap.size w w' := by
 have HR0 := am hr0
 have HC0 := am hc0
 clear hr0 hc0
 have HR1 := am hr1
 have HC1 := am hc1
 clear hr1 hc1
 have HB := am (Below.refl w.heap.size w)
 have H : (if 0 ≤ (wrap64 ((l0.length : Int) + (l1.length : Int))) then (if (wrap64 ((l0.length : Int) + (l1.length : Int)) : Int).toNat ≤ 35184372088832 then (r1_Product.l0 k l0 l1 (List.replicate (wrap64 ((l0.length : Int) + (l1.length : Int)) : Int).toNat 0) 0) else (none)) else (none)) = some r := h
 clear h
 obtain ⟨ji3, hji3⟩ : ∃ j_ : Int, (wrap64 ((l0.length : Int) + (l1.length : Int))) = j_ := ⟨_, rfl⟩
 replace H : (if 0 ≤ (ji3) then (if (ji3 : Int).toNat ≤ 35184372088832 then (r1_Product.l0 k l0 l1 (List.replicate (ji3 : Int).toNat 0) 0) else (none)) else (none)) = some r := by first | (rw [hji3] at H; exact H) | (simp only [hji3] at H ⊢; exact H)
 have hji3w : (IntKind.i64.wrap ((l0.length : Int) + (l1.length : Int))) = ji3 := (i64_w _).trans hji3
 by_cases c4 : 0 ≤ (ji3)
 ·rw [if_pos c4] at H
  have c4b0 := eq_true c4
  have c4b1 : decide (0 ≤ (ji3)) = true := decide_eq_true c4
  clear c4
  by_cases c5 : (ji3 : Int).toNat ≤ 35184372088832
  ·rw [if_pos c5] at H
   have c5b0 := eq_true c5
   have c5b1 : decide ((ji3 : Int).toNat ≤ 35184372088832) = true := decide_eq_true c5
   clear c5
   obtain ⟨y430, hy430⟩ : ∃ y_ : List Int, y_ = (List.replicate (ji3 : Int).toNat 0) := ⟨_, rfl⟩
   replace H : (r1_Product.l0 k l0 l1 y430 0) = some r := by first | (rw [hy430]; with_reducible exact H) | (have H2_ := (Option.bind_some _ _).symm.trans H; rw [hy430]; with_reducible exact H2_) | (have H2_ := (Option.bind_some _ _).symm.trans H; with_reducible exact H2_) | with_reducible exact H | (rw [hy430]; exact H) | exact H
   have Ny430 := am hy430
   clear hy430
   have H' := am H
   clear H
   go_enter Tryd.func23, Tryd.ntmps23
   go_wp2_with (first | ((with_reducible refine gate_dst (N := 15) rfl ?_); refine Kd.R_make (Kd.int .u64) _ 22 rfl (N := 15) rfl 52 _ _ rfl ji3 rfl rfl Tryd.underlying52 (.int .u64 0) 8 info22 rfl (by decide) (by omega) 0 (ok := fun _ => True) (okp := fun _ => True) rfl (fun _ hk => hk) trivial pD (Nat.le_trans (Nat.mul_le_mul_right _ (pD : ji3.toNat ≤ 35184372088832)) (by omega)) (Below.refl _ _) (Nat.le_refl _) ?_; intro v431 w6 ho7 hb hg_ hnew_; clear hg_ hnew_; (first | rw [← Ny430.out] at ho7 | (simp only [Int.reduceToNat] at ho7; rw [← Ny430.out] at ho7)); have HO432 := am (Kd.R_lower ho7 (below_size pB)); replace HB := am (below_step pB hb); clear hb ho7))
   repeat (go_quiet (first | ((with_reducible refine gate_dst (N := 15) rfl ?_); refine Kd.R_make (Kd.int .u64) _ 22 rfl (N := 15) rfl 52 _ _ rfl ji3 rfl rfl Tryd.underlying52 (.int .u64 0) 8 info22 rfl (by decide) (by omega) 0 (ok := fun _ => True) (okp := fun _ => True) rfl (fun _ hk => hk) trivial pD (Nat.le_trans (Nat.mul_le_mul_right _ (pD : ji3.toNat ≤ 35184372088832)) (by omega)) (Below.refl _ _) (Nat.le_refl _) ?_; intro v431 w6 ho7 hb hg_ hnew_; clear hg_ hnew_; (first | rw [← Ny430.out] at ho7 | (simp only [Int.reduceToNat] at ho7; rw [← Ny430.out] at ho7)); have HO432 := am (Kd.R_lower ho7 (below_size pB)); replace HB := am (below_step pB hb); clear hb ho7)); try go_wp2_with (first | ((with_reducible refine gate_dst (N := 15) rfl ?_); refine Kd.R_make (Kd.int .u64) _ 22 rfl (N := 15) rfl 52 _ _ rfl ji3 rfl rfl Tryd.underlying52 (.int .u64 0) 8 info22 rfl (by decide) (by omega) 0 (ok := fun _ => True) (okp := fun _ => True) rfl (fun _ hk => hk) trivial pD (Nat.le_trans (Nat.mul_le_mul_right _ (pD : ji3.toNat ≤ 35184372088832)) (by omega)) (Below.refl _ _) (Nat.le_refl _) ?_; intro v431 w6 ho7 hb hg_ hnew_; clear hg_ hnew_; (first | rw [← Ny430.out] at ho7 | (simp only [Int.reduceToNat] at ho7; rw [← Ny430.out] at ho7)); have HO432 := am (Kd.R_lower ho7 (below_size pB)); replace HB := am (below_step pB hb); clear hb ho7)))
   go_loopg [6] k (fun kq v6 w' => ∃ (x5_1 : List Int) (x6_1 : Int), v6 = .int .i64 x6_1 ∧ Aside0 (r1_Product.l0 kq l0 l1 x5_1 x6_1 = some r) ∧ Aside0 (kq ≤ k) ∧ Aside0 (Kd.R (Kd.int .u64) 22 w' w.heap.size (fun _ => True) v431 x5_1) ∧ Aside0 (Below w.heap.size w w'))
   case atStart => exact ⟨(y430), (0), (by first | rfl | (simp; done) | (simp [*]; done)), H', ⟨Nat.le_refl _⟩, ⟨by (with_reducible repeat (first | apply Kd.R_alloc | apply Kd.R_drewN | apply Kd.R_drew)); exact HO432.out⟩, ⟨pB⟩⟩
   case round =>
    clear H'
    try clear c1
    try clear c2
    try clear p2
    try clear c4
    try clear c4b0
    try clear c4b1
    try clear c5
    try clear c5b0
    try clear c5b1
    try clear p6
    obtain ⟨x5_1, x6_1, rfl, HA, HK1, HO_5, HB⟩ := hrel
    cases gk with
    | zero => exact absurd HA.out (by simp [r1_Product.l0])
    | succ k1 =>
     have H := HA.out
     clear HA
     simp only [r1_Product.l0] at H
     by_cases c8 : x6_1 < (l0.length : Int)
     ·rw [if_pos c8] at H
      have c8b0 : decide (x6_1 < (l0.length : Int)) = true := decide_eq_true c8
      clear c8
      have H' := am H
      clear H
      go_wp2
      repeat (go_quiet (fail); try go_wp2)
      go_loopg [7, 8] k1 (fun kq v7 v8 w' => ∃ (x5_2 : List Int) (x7_2 : Int) (x8_2 : Int), v7 = .int .u64 x7_2 ∧ v8 = .int .i64 x8_2 ∧ Aside0 (r1_Product.l1 kq l0 l1 x5_2 x6_1 x7_2 x8_2 = some r) ∧ Aside0 (kq ≤ k1) ∧ Aside0 (Kd.R (Kd.int .u64) 22 w' w.heap.size (fun _ => True) v431 x5_2) ∧ Aside0 (Below w.heap.size w w'))
      case atStart => exact ⟨(x5_1), (0), (0), (by first | rfl | (simp; done) | (simp [*]; done)), (by first | rfl | (simp; done) | (simp [*]; done)), H', ⟨Nat.le_refl _⟩, ⟨by (with_reducible repeat (first | apply Kd.R_alloc | apply Kd.R_drewN | apply Kd.R_drew)); exact HO_5.out⟩, ⟨pB⟩⟩
      case round =>
       clear H'
       try clear c1
       try clear c2
       try clear p2
       try clear c4
       try clear c4b0
       try clear c4b1
       try clear c5
       try clear c5b0
       try clear c5b1
       try clear p6
       try clear c8
       try clear c8b0
       try clear p2
       try clear p6
       obtain ⟨x5_2, x7_2, x8_2, rfl, rfl, HA, HK2, HO_5, HB⟩ := hrel
       cases gk with
       | zero => exact absurd HA.out (by simp [r1_Product.l1])
       | succ k2 =>
        have H := HA.out
        clear HA
        simp only [r1_Product.l1] at H
        by_cases c9 : x8_2 < (l1.length : Int)
        ·rw [if_pos c9] at H
         have c9b0 : decide (x8_2 < (l1.length : Int)) = true := decide_eq_true c9
         clear c9
         obtain ⟨ji10, hji10⟩ : ∃ j_ : Int, (wrap64 (x6_1 + x8_2)) = j_ := ⟨_, rfl⟩
         replace H : (if 0 ≤ (ji10) then (if (ji10) < (x5_2.length : Int) then (if 0 ≤ x6_1 then (if x6_1 < (l0.length : Int) then (if 0 ≤ x8_2 then (r1_Product.l1 k2 l0 l1 (x5_2.set ((ji10) : Int).toNat (Go.bits .and .u64 (IntKind.u64.wrap ((IntKind.u64.wrap ((rd x5_2 (ji10)) + (IntKind.u64.wrap ((rd l0 x6_1) * (rd l1 x8_2))))) + x7_2)) 65535)) x6_1 ((IntKind.u64.wrap ((IntKind.u64.wrap ((rd x5_2 (ji10)) + (IntKind.u64.wrap ((rd l0 x6_1) * (rd l1 x8_2))))) + x7_2)) / 65536) (wrap64 (x8_2 + 1))) else (none)) else (none)) else (none)) else (none)) else (none)) = some r := by first | (rw [hji10] at H; exact H) | (simp only [hji10] at H ⊢; exact H)
         have hji10w : (IntKind.i64.wrap (x6_1 + x8_2)) = ji10 := (i64_w _).trans hji10
         by_cases c11 : 0 ≤ (ji10)
         ·rw [if_pos c11] at H
          have c11b0 : decide (0 ≤ (ji10)) = true := decide_eq_true c11
          clear c11
          by_cases c12 : (ji10) < (x5_2.length : Int)
          ·rw [if_pos c12] at H
           have c12b0 : decide ((ji10) < (x5_2.length : Int)) = true := decide_eq_true c12
           clear c12
           by_cases c13 : 0 ≤ x6_1
           ·rw [if_pos c13] at H
            have c13b0 : decide (0 ≤ x6_1) = true := decide_eq_true c13
            clear c13
            by_cases c14 : x6_1 < (l0.length : Int)
            ·rw [if_pos c14] at H
             have c14b0 : decide (x6_1 < (l0.length : Int)) = true := decide_eq_true c14
             clear c14
             by_cases c15 : 0 ≤ x8_2
             ·rw [if_pos c15] at H
              have c15b0 : decide (0 ≤ x8_2) = true := decide_eq_true c15
              clear c15
              obtain ⟨y439, hy439⟩ : ∃ y_ : List Int, y_ = (x5_2.set ((ji10) : Int).toNat (Go.bits .and .u64 (IntKind.u64.wrap ((IntKind.u64.wrap ((rd x5_2 (ji10)) + (IntKind.u64.wrap ((rd l0 x6_1) * (rd l1 x8_2))))) + x7_2)) 65535)) := ⟨_, rfl⟩
              replace H : (r1_Product.l1 k2 l0 l1 y439 x6_1 ((IntKind.u64.wrap ((IntKind.u64.wrap ((rd x5_2 (ji10)) + (IntKind.u64.wrap ((rd l0 x6_1) * (rd l1 x8_2))))) + x7_2)) / 65536) (wrap64 (x8_2 + 1))) = some r := by first | (rw [hy439]; with_reducible exact H) | (have H2_ := (Option.bind_some _ _).symm.trans H; rw [hy439]; with_reducible exact H2_) | (have H2_ := (Option.bind_some _ _).symm.trans H; with_reducible exact H2_) | with_reducible exact H | (rw [hy439]; exact H) | exact H
              have Ny439 := am hy439
              clear hy439
              have H' := am H
              clear H
              obtain ⟨Ao17, co17, eo17⟩ := Kd.R_slice HO_5.out
              subst eo17
              have p436 : 0 ≤ ((ji10) : Int) := pD
              have q436 : (ji10) < (x5_2.length : Int) := pD
              obtain ⟨ad436, e436, hx436_0⟩ := Kd.at_int (Kd.R_reads' HO_5.out).2.2 (ji10) p436 q436
              cases e436
              replace p436 := eq_true p436
              replace q436 := eq_true q436
              have p437 : 0 ≤ (x6_1 : Int) := pD
              have q437 : x6_1 < (l0.length : Int) := pD
              obtain ⟨ad437, e437, hx437_0⟩ := Kd.at_int HR0.out x6_1 p437 q437
              cases e437
              replace hx437_0 := (HB.out.cell (World.block_lt_of_cell? w _ hx437_0)).trans hx437_0
              replace p437 := eq_true p437
              replace q437 := eq_true q437
              have p438 : 0 ≤ (x8_2 : Int) := pD
              have q438 : x8_2 < (l1.length : Int) := pD
              obtain ⟨ad438, e438, hx438_0⟩ := Kd.at_int HR1.out x8_2 p438 q438
              cases e438
              replace hx438_0 := (HB.out.cell (World.block_lt_of_cell? w _ hx438_0)).trans hx438_0
              replace p438 := eq_true p438
              replace q438 := eq_true q438
              have p16 : 0 ≤ ((ji10) : Int) := pD
              have q16 : ((ji10) : Int) < ((x5_2.length : Int) : Int) := pD
              obtain ⟨go16, co16, eo16, gb16, gl16, cl16, HG16⟩ := Kd.R_form HO_5.out (by omega)
              (first | cases eo16 | (injection eo16 with ea_ en_ ec_; (first | subst ea_ | (injection ea_ with ea_; subst ea_)); subst ec_; clear en_))
              have GB16 := am gb16
              have GG16 := am HG16
              clear gb16 gl16 HG16
              (first | simp only [add_plain] at hx436_0 | skip)
              obtain ⟨hx16_0, hf16_0⟩ := Kd.R_celln 0 HO_5.out ((ji10) : Int) p16 q16
              replace p16 := eq_true p16
              replace q16 := eq_true q16
              have HP18 := Kd.R_putg HO_5.out ((ji10) : Int) (Go.bits .and .u64 (IntKind.u64.wrap ((IntKind.u64.wrap ((rd x5_2 (ji10)) + (IntKind.u64.wrap ((rd l0 x6_1) * (rd l1 x8_2))))) + x7_2)) 65535)
              go_wp2_with (first | ((with_reducible refine gate_store (t := 22) (p := 54) rfl ?_); (try (rw [drewN_self wr]; generalize hq_ : World.drewN wr _ = wr; replace HO_5 := am (Kd.R_at hq_ HO_5.out); replace HB := am (below_at hq_ HB.out); clear hq_; (try have hcf_ := Kd.R_celln 0 HO_5.out ((ji10) : Int) (of_eq_true p16) (of_eq_true q16)); (try (have HP18 := Kd.R_putg HO_5.out ((ji10) : Int) (Go.bits .and .u64 (IntKind.u64.wrap ((IntKind.u64.wrap ((rd x5_2 (ji10)) + (IntKind.u64.wrap ((rd l0 x6_1) * (rd l1 x8_2))))) + x7_2)) 65535))))); refine store_event (t := 22) (p := 54) (v := ?vo_w19) (w1 := (wr.setCell ⟨go16, ((ji10) : Int).toNat, none⟩ (.int .u64 (Go.bits .and .u64 (IntKind.u64.wrap ((IntKind.u64.wrap ((rd x5_2 (ji10)) + (IntKind.u64.wrap ((rd l0 x6_1) * (rd l1 x8_2))))) + x7_2)) 65535)))) ?hg ?ho ?hn ?hr ?_; (case ho => rfl); (case hg => rfl); (case hn => rfl); (case hr => first | (go_simp; done) | (go_simp; rfl)); intro w19 hw; have hg : wr.grownBy w19 (some go16) := (by rw [hw]; exact HP18.2); have hp_ : Kd.R (Kd.int .u64) 22 w19 w.heap.size (fun _ => True) (.slice (some ⟨go16, 0, none⟩) x5_2.length co17) y439 := (by rw [hw, Ny439.out]; exact HP18.1); clear HP18; replace HO_5 := am (hp_); replace HB := am ((by rw [hw]; exact below_set (HB.out) GB16.out : Below w.heap.size w w19)); clear hg hw hp_))
              repeat (go_quiet (first | ((with_reducible refine gate_store (t := 22) (p := 54) rfl ?_); (try (rw [drewN_self wr]; generalize hq_ : World.drewN wr _ = wr; replace HO_5 := am (Kd.R_at hq_ HO_5.out); replace HB := am (below_at hq_ HB.out); clear hq_; (try have hcf_ := Kd.R_celln 0 HO_5.out ((ji10) : Int) (of_eq_true p16) (of_eq_true q16)); (try (have HP18 := Kd.R_putg HO_5.out ((ji10) : Int) (Go.bits .and .u64 (IntKind.u64.wrap ((IntKind.u64.wrap ((rd x5_2 (ji10)) + (IntKind.u64.wrap ((rd l0 x6_1) * (rd l1 x8_2))))) + x7_2)) 65535))))); refine store_event (t := 22) (p := 54) (v := ?vo_w19) (w1 := (wr.setCell ⟨go16, ((ji10) : Int).toNat, none⟩ (.int .u64 (Go.bits .and .u64 (IntKind.u64.wrap ((IntKind.u64.wrap ((rd x5_2 (ji10)) + (IntKind.u64.wrap ((rd l0 x6_1) * (rd l1 x8_2))))) + x7_2)) 65535)))) ?hg ?ho ?hn ?hr ?_; (case ho => rfl); (case hg => rfl); (case hn => rfl); (case hr => first | (go_simp; done) | (go_simp; rfl)); intro w19 hw; have hg : wr.grownBy w19 (some go16) := (by rw [hw]; exact HP18.2); have hp_ : Kd.R (Kd.int .u64) 22 w19 w.heap.size (fun _ => True) (.slice (some ⟨go16, 0, none⟩) x5_2.length co17) y439 := (by rw [hw, Ny439.out]; exact HP18.1); clear HP18; replace HO_5 := am (hp_); replace HB := am ((by rw [hw]; exact below_set (HB.out) GB16.out : Below w.heap.size w w19)); clear hg hw hp_)); try go_wp2_with (first | ((with_reducible refine gate_store (t := 22) (p := 54) rfl ?_); (try (rw [drewN_self wr]; generalize hq_ : World.drewN wr _ = wr; replace HO_5 := am (Kd.R_at hq_ HO_5.out); replace HB := am (below_at hq_ HB.out); clear hq_; (try have hcf_ := Kd.R_celln 0 HO_5.out ((ji10) : Int) (of_eq_true p16) (of_eq_true q16)); (try (have HP18 := Kd.R_putg HO_5.out ((ji10) : Int) (Go.bits .and .u64 (IntKind.u64.wrap ((IntKind.u64.wrap ((rd x5_2 (ji10)) + (IntKind.u64.wrap ((rd l0 x6_1) * (rd l1 x8_2))))) + x7_2)) 65535))))); refine store_event (t := 22) (p := 54) (v := ?vo_w19) (w1 := (wr.setCell ⟨go16, ((ji10) : Int).toNat, none⟩ (.int .u64 (Go.bits .and .u64 (IntKind.u64.wrap ((IntKind.u64.wrap ((rd x5_2 (ji10)) + (IntKind.u64.wrap ((rd l0 x6_1) * (rd l1 x8_2))))) + x7_2)) 65535)))) ?hg ?ho ?hn ?hr ?_; (case ho => rfl); (case hg => rfl); (case hn => rfl); (case hr => first | (go_simp; done) | (go_simp; rfl)); intro w19 hw; have hg : wr.grownBy w19 (some go16) := (by rw [hw]; exact HP18.2); have hp_ : Kd.R (Kd.int .u64) 22 w19 w.heap.size (fun _ => True) (.slice (some ⟨go16, 0, none⟩) x5_2.length co17) y439 := (by rw [hw, Ny439.out]; exact HP18.1); clear HP18; replace HO_5 := am (hp_); replace HB := am ((by rw [hw]; exact below_set (HB.out) GB16.out : Below w.heap.size w w19)); clear hg hw hp_)))
              go_roundg k2
              case measure => have := HK1.out; have := HK2.out; omega
              case rel => exact ⟨(y439), ((IntKind.u64.wrap ((IntKind.u64.wrap ((rd x5_2 (ji10)) + (IntKind.u64.wrap ((rd l0 x6_1) * (rd l1 x8_2))))) + x7_2)) / 65536), (wrap64 (x8_2 + 1)), (by first | rfl | (simp; done) | (simp only [← hji10] <;> (first | rfl | simp)) | (simp [*]; done)), (by first | rfl | (simp; done) | (simp [*]; done)), H', ⟨by have := HK1.out; have := HK2.out; omega⟩, ⟨by (with_reducible repeat (first | apply Kd.R_alloc | apply Kd.R_drewN | apply Kd.R_drew)); exact HO_5.out⟩, ⟨pB⟩⟩
             ·rw [if_neg c15] at H
              exact absurd H (by simp)
            ·rw [if_neg c14] at H
             exact absurd H (by simp)
           ·rw [if_neg c13] at H
            exact absurd H (by simp)
          ·rw [if_neg c12] at H
           exact absurd H (by simp)
         ·rw [if_neg c11] at H
          exact absurd H (by simp)
        ·rw [if_neg c9] at H
         have c9b0 : decide (x8_2 < (l1.length : Int)) = false := decide_eq_false c9
         clear c9
         obtain ⟨ji20, hji20⟩ : ∃ j_ : Int, (wrap64 (x6_1 + (l1.length : Int))) = j_ := ⟨_, rfl⟩
         replace H : (if 0 ≤ (ji20) then (if (ji20) < (x5_2.length : Int) then (r1_Product.l0 k2 l0 l1 (x5_2.set ((ji20) : Int).toNat x7_2) (wrap64 (x6_1 + 1))) else (none)) else (none)) = some r := by first | (rw [hji20] at H; exact H) | (simp only [hji20] at H ⊢; exact H)
         have hji20w : (IntKind.i64.wrap (x6_1 + (l1.length : Int))) = ji20 := (i64_w _).trans hji20
         by_cases c21 : 0 ≤ (ji20)
         ·rw [if_pos c21] at H
          have c21b0 : decide (0 ≤ (ji20)) = true := decide_eq_true c21
          clear c21
          by_cases c22 : (ji20) < (x5_2.length : Int)
          ·rw [if_pos c22] at H
           have c22b0 : decide ((ji20) < (x5_2.length : Int)) = true := decide_eq_true c22
           clear c22
           obtain ⟨y440, hy440⟩ : ∃ y_ : List Int, y_ = (x5_2.set ((ji20) : Int).toNat x7_2) := ⟨_, rfl⟩
           replace H : (r1_Product.l0 k2 l0 l1 y440 (wrap64 (x6_1 + 1))) = some r := by first | (rw [hy440]; with_reducible exact H) | (have H2_ := (Option.bind_some _ _).symm.trans H; rw [hy440]; with_reducible exact H2_) | (have H2_ := (Option.bind_some _ _).symm.trans H; with_reducible exact H2_) | with_reducible exact H | (rw [hy440]; exact H) | exact H
           have Ny440 := am hy440
           clear hy440
           have H' := am H
           clear H
           have p23 : 0 ≤ ((ji20) : Int) := pD
           have q23 : ((ji20) : Int) < ((x5_2.length : Int) : Int) := pD
           obtain ⟨go23, co23, eo23, gb23, gl23, cl23, HG23⟩ := Kd.R_form HO_5.out (by omega)
           (first | cases eo23 | (injection eo23 with ea_ en_ ec_; (first | subst ea_ | (injection ea_ with ea_; subst ea_)); subst ec_; clear en_))
           have GB23 := am gb23
           have GG23 := am HG23
           clear gb23 gl23 HG23
           obtain ⟨hx23_0, hf23_0⟩ := Kd.R_celln 0 HO_5.out ((ji20) : Int) p23 q23
           replace p23 := eq_true p23
           replace q23 := eq_true q23
           have HP24 := Kd.R_putg HO_5.out ((ji20) : Int) x7_2
           go_wp2_with (first | ((with_reducible refine gate_store (t := 22) (p := 61) rfl ?_); (try (rw [drewN_self wr]; generalize hq_ : World.drewN wr _ = wr; replace HO_5 := am (Kd.R_at hq_ HO_5.out); replace HB := am (below_at hq_ HB.out); clear hq_; (try have hcf_ := Kd.R_celln 0 HO_5.out ((ji20) : Int) (of_eq_true p23) (of_eq_true q23)); (try (have HP24 := Kd.R_putg HO_5.out ((ji20) : Int) x7_2)))); refine store_event (t := 22) (p := 61) (v := ?vo_w25) (w1 := (wr.setCell ⟨go23, ((ji20) : Int).toNat, none⟩ (.int .u64 x7_2))) ?hg ?ho ?hn ?hr ?_; (case ho => rfl); (case hg => rfl); (case hn => rfl); (case hr => first | (go_simp; done) | (go_simp; rfl)); intro w25 hw; have hg : wr.grownBy w25 (some go23) := (by rw [hw]; exact HP24.2); have hp_ : Kd.R (Kd.int .u64) 22 w25 w.heap.size (fun _ => True) (.slice (some ⟨go23, 0, none⟩) x5_2.length co23) y440 := (by rw [hw, Ny440.out]; exact HP24.1); clear HP24; replace HO_5 := am (hp_); replace HB := am ((by rw [hw]; exact below_set (HB.out) GB23.out : Below w.heap.size w w25)); clear hg hw hp_))
           repeat (go_quiet (first | ((with_reducible refine gate_store (t := 22) (p := 61) rfl ?_); (try (rw [drewN_self wr]; generalize hq_ : World.drewN wr _ = wr; replace HO_5 := am (Kd.R_at hq_ HO_5.out); replace HB := am (below_at hq_ HB.out); clear hq_; (try have hcf_ := Kd.R_celln 0 HO_5.out ((ji20) : Int) (of_eq_true p23) (of_eq_true q23)); (try (have HP24 := Kd.R_putg HO_5.out ((ji20) : Int) x7_2)))); refine store_event (t := 22) (p := 61) (v := ?vo_w25) (w1 := (wr.setCell ⟨go23, ((ji20) : Int).toNat, none⟩ (.int .u64 x7_2))) ?hg ?ho ?hn ?hr ?_; (case ho => rfl); (case hg => rfl); (case hn => rfl); (case hr => first | (go_simp; done) | (go_simp; rfl)); intro w25 hw; have hg : wr.grownBy w25 (some go23) := (by rw [hw]; exact HP24.2); have hp_ : Kd.R (Kd.int .u64) 22 w25 w.heap.size (fun _ => True) (.slice (some ⟨go23, 0, none⟩) x5_2.length co23) y440 := (by rw [hw, Ny440.out]; exact HP24.1); clear HP24; replace HO_5 := am (hp_); replace HB := am ((by rw [hw]; exact below_set (HB.out) GB23.out : Below w.heap.size w w25)); clear hg hw hp_)); try go_wp2_with (first | ((with_reducible refine gate_store (t := 22) (p := 61) rfl ?_); (try (rw [drewN_self wr]; generalize hq_ : World.drewN wr _ = wr; replace HO_5 := am (Kd.R_at hq_ HO_5.out); replace HB := am (below_at hq_ HB.out); clear hq_; (try have hcf_ := Kd.R_celln 0 HO_5.out ((ji20) : Int) (of_eq_true p23) (of_eq_true q23)); (try (have HP24 := Kd.R_putg HO_5.out ((ji20) : Int) x7_2)))); refine store_event (t := 22) (p := 61) (v := ?vo_w25) (w1 := (wr.setCell ⟨go23, ((ji20) : Int).toNat, none⟩ (.int .u64 x7_2))) ?hg ?ho ?hn ?hr ?_; (case ho => rfl); (case hg => rfl); (case hn => rfl); (case hr => first | (go_simp; done) | (go_simp; rfl)); intro w25 hw; have hg : wr.grownBy w25 (some go23) := (by rw [hw]; exact HP24.2); have hp_ : Kd.R (Kd.int .u64) 22 w25 w.heap.size (fun _ => True) (.slice (some ⟨go23, 0, none⟩) x5_2.length co23) y440 := (by rw [hw, Ny440.out]; exact HP24.1); clear HP24; replace HO_5 := am (hp_); replace HB := am ((by rw [hw]; exact below_set (HB.out) GB23.out : Below w.heap.size w w25)); clear hg hw hp_)))
           go_roundg k2
           case measure => have := HK1.out; have := HK2.out; omega
           case rel => exact ⟨(y440), (wrap64 (x6_1 + 1)), (by first | rfl | (simp; done) | (simp [*]; done)), H', ⟨by have := HK1.out; have := HK2.out; omega⟩, ⟨by (with_reducible repeat (first | apply Kd.R_alloc | apply Kd.R_drewN | apply Kd.R_drew)); exact HO_5.out⟩, ⟨pB⟩⟩
          ·rw [if_neg c22] at H
           exact absurd H (by simp)
         ·rw [if_neg c21] at H
          exact absurd H (by simp)
     ·rw [if_neg c8] at H
      have c8b0 : decide (x6_1 < (l0.length : Int)) = false := decide_eq_false c8
      clear c8
      replace H := Option.bind_eq_some_iff.mp H
      obtain ⟨t433, A260, H⟩ := H
      try dsimp only at H
      have A26 := am A260
      clear A260
      obtain rfl := Option.some.inj H
      obtain ⟨Ao27, co27, eo27⟩ := Kd.R_slice HO_5.out
      subst eo27
      go_wp2_with (first | (go_at_call 50; (with_reducible refine (r1_Trim.calls k1 _ _ x5_1 t433 _ ?side1 ?side2 A26.out).mono ?_); (case side1 => repeat (first | exact (Kd.R_reads' HO_5.out).2.2 | (with_reducible refine Kd.C_alloc ?_ _) | (with_reducible refine Kd.C_drewN ?_ _) | (with_reducible refine Kd.C_drew ?_))); (case side2 => exact (Kd.R_reads' HO_5.out).2.1); rintro e w28 ⟨v434, rfl, ho0, hb⟩; have HO435 := am (Kd.R_lower (Kd.R_new' ho0 (Kd.R_lt (pR HO_5.out))) (below_size pB)); replace HO_5 := am (Kd.R_elder' (pR HO_5.out) (Kd.R_base ho0) hb); replace HB := am (below_step pB hb); (try clear hb); (try clear ho0)))
      repeat (go_quiet (first | (go_at_call 50; (with_reducible refine (r1_Trim.calls k1 _ _ x5_1 t433 _ ?side1 ?side2 A26.out).mono ?_); (case side1 => repeat (first | exact (Kd.R_reads' HO_5.out).2.2 | (with_reducible refine Kd.C_alloc ?_ _) | (with_reducible refine Kd.C_drewN ?_ _) | (with_reducible refine Kd.C_drew ?_))); (case side2 => exact (Kd.R_reads' HO_5.out).2.1); rintro e w28 ⟨v434, rfl, ho0, hb⟩; have HO435 := am (Kd.R_lower (Kd.R_new' ho0 (Kd.R_lt (pR HO_5.out))) (below_size pB)); replace HO_5 := am (Kd.R_elder' (pR HO_5.out) (Kd.R_base ho0) hb); replace HB := am (below_step pB hb); (try clear hb); (try clear ho0))); try go_wp2_with (first | (go_at_call 50; (with_reducible refine (r1_Trim.calls k1 _ _ x5_1 t433 _ ?side1 ?side2 A26.out).mono ?_); (case side1 => repeat (first | exact (Kd.R_reads' HO_5.out).2.2 | (with_reducible refine Kd.C_alloc ?_ _) | (with_reducible refine Kd.C_drewN ?_ _) | (with_reducible refine Kd.C_drew ?_))); (case side2 => exact (Kd.R_reads' HO_5.out).2.1); rintro e w28 ⟨v434, rfl, ho0, hb⟩; have HO435 := am (Kd.R_lower (Kd.R_new' ho0 (Kd.R_lt (pR HO_5.out))) (below_size pB)); replace HO_5 := am (Kd.R_elder' (pR HO_5.out) (Kd.R_base ho0) hb); replace HB := am (below_step pB hb); (try clear hb); (try clear ho0))))
      go_ret
      exact ⟨_, by first | rfl | (simp [errW_none, errW_some] <;> rfl) | (simp only [← hji3]; first | rfl | (simp [errW_none, errW_some] <;> rfl)) | (simp [*, errW_none, errW_some] <;> rfl), by (with_reducible repeat (first | apply Kd.R_alloc | apply Kd.R_drewN | apply Kd.R_drew)); exact Kd.R_mono HO435.out (fun _ hk => trivial), pB⟩
  ·rw [if_neg c5] at H
   exact absurd H (by simp)
 ·rw [if_neg c4] at H
  exact absurd H (by simp)
def r1_most.f (l0 : List Int) (l1 : List Int) : Option (Int) := if (l0.length : Int) > (l1.length : Int) then (some (l0.length : Int)) else (some (l1.length : Int))
set_option maxHeartbeats 8000000 in
set_option maxRecDepth 100000 in
theorem r1_most.calls (A0 : Option Addr) (c0 : Nat) (l0 : List Int) (A1 : Option Addr) (c1 : Nat) (l1 : List Int) (r : Int) (w : World) (hr0 : Kd.C (Kd.int .u64) w A0 l0.length l0) (hc0 : l0.length ≤ c0) (hr1 : Kd.C (Kd.int .u64) w A1 l1.length l1) (hc1 : l1.length ≤ c1) (h : r1_most.f l0 l1 = some r) :
  Calls Tryd.prog 71 #[.slice A0 l0.length c0, .slice A1 l1.length c1] w fun e w' => e = .returned (.int .i64 r) ∧ Drawn0 w w' := by
 have HR0 := am hr0
 have HC0 := am hc0
 clear hr0 hc0
 have HR1 := am hr1
 have HC1 := am hc1
 clear hr1 hc1
 have H : (if (l0.length : Int) > (l1.length : Int) then (some (l0.length : Int)) else (some (l1.length : Int))) = some r := h
 clear h
 by_cases c3 : (l0.length : Int) > (l1.length : Int)
 ·rw [if_pos c3] at H
  have c3b0 : decide ((l1.length : Int) < (l0.length : Int)) = true := decide_eq_true c3
  have c3b1 : decide (l1.length < l0.length) = true := decide_eq_true (Int.ofNat_lt.mp c3)
  clear c3
  obtain rfl := Option.some.inj H
  go_enter Tryd.func71, Tryd.ntmps71
  go_wp2
  go_ret
  exact ⟨by first | rfl | (simp; done) | (simp [*]; done), by repeat (first | exact Drawn0.refl _ | apply Drawn0.step)⟩
 ·rw [if_neg c3] at H
  have c3b0 : decide ((l1.length : Int) < (l0.length : Int)) = false := decide_eq_false c3
  have c3b1 : decide (l1.length < l0.length) = false := decide_eq_false (fun h => c3 (Int.ofNat_lt.mpr h))
  clear c3
  obtain rfl := Option.some.inj H
  go_enter Tryd.func71, Tryd.ntmps71
  go_wp2
  go_ret
  exact ⟨by first | rfl | (simp; done) | (simp [*]; done), by repeat (first | exact Drawn0.refl _ | apply Drawn0.step)⟩
def r1_at.f (l0 : List Int) (a1 : Int) : Option (Int) := if a1 < (l0.length : Int) then (if 0 ≤ a1 then (some (rd l0 a1)) else (none)) else (some 0)
set_option maxHeartbeats 8000000 in
set_option maxRecDepth 100000 in
theorem r1_at.calls (A0 : Option Addr) (c0 : Nat) (l0 : List Int) (a1 : Int) (r : Int) (w : World) (hr0 : Kd.C (Kd.int .u64) w A0 l0.length l0) (hc0 : l0.length ≤ c0) (h : r1_at.f l0 a1 = some r) :
  Calls Tryd.prog 72 #[.slice A0 l0.length c0, .int .i64 a1] w fun e w' => e = .returned (.int .u64 r) ∧ Drawn0 w w' := by
 have HR0 := am hr0
 have HC0 := am hc0
 clear hr0 hc0
 have H : (if a1 < (l0.length : Int) then (if 0 ≤ a1 then (some (rd l0 a1)) else (none)) else (some 0)) = some r := h
 clear h
 by_cases c3 : a1 < (l0.length : Int)
 ·rw [if_pos c3] at H
  have c3b0 : decide (a1 < (l0.length : Int)) = true := decide_eq_true c3
  clear c3
  by_cases c4 : 0 ≤ a1
  ·rw [if_pos c4] at H
   have c4b0 : decide (0 ≤ a1) = true := decide_eq_true c4
   clear c4
   obtain rfl := Option.some.inj H
   have p441 : 0 ≤ (a1 : Int) := pD
   have q441 : a1 < (l0.length : Int) := pD
   obtain ⟨ad441, e441, hx441_0⟩ := Kd.at_int HR0.out a1 p441 q441
   cases e441
   replace p441 := eq_true p441
   replace q441 := eq_true q441
   go_enter Tryd.func72, Tryd.ntmps72
   go_wp2
   go_ret
   exact ⟨by first | rfl | (simp; done) | (simp [*]; done), by repeat (first | exact Drawn0.refl _ | apply Drawn0.step)⟩
  ·rw [if_neg c4] at H
   exact absurd H (by simp)
 ·rw [if_neg c3] at H
  have c3b0 : decide (a1 < (l0.length : Int)) = false := decide_eq_false c3
  clear c3
  obtain rfl := Option.some.inj H
  go_enter Tryd.func72, Tryd.ntmps72
  go_wp2
  go_ret
  exact ⟨by first | rfl | (simp; done) | (simp [*]; done), by repeat (first | exact Drawn0.refl _ | apply Drawn0.step)⟩
def r1_Sum.l0 : Nat → List Int → List Int → List Int → Int → Int → Option (List Int)
 | 0, _, _, _, _, _ => none
 | k + 1, x0, x1, x5, x6, x7 => (r1_most.f x0 x1).bind fun t445 => (if x7 < t445 then ((r1_at.f x0 x7).bind fun t446 => ((r1_at.f x1 x7).bind fun t447 => (if x5.length < 17592186044416 then (r1_Sum.l0 k x0 x1 (x5 ++ [Go.bits .and .u64 (IntKind.u64.wrap ((IntKind.u64.wrap (t446 + t447)) + x6)) 65535]) ((IntKind.u64.wrap ((IntKind.u64.wrap (t446 + t447)) + x6)) / 65536) (wrap64 (x7 + 1))) else (none)))) else (if x5.length < 17592186044416 then ((r1_Trim.f k (x5 ++ [x6])).bind fun t454 => (some t454)) else (none)))
def r1_Sum.f (k : Nat) (l0 : List Int) (l1 : List Int) : Option (List Int) := r1_Sum.l0 k l0 l1 (([] : List Int)) 0 0
set_option maxHeartbeats 8000000 in
set_option maxRecDepth 100000 in
theorem r1_Sum.calls (k : Nat) (A0 : Option Addr) (c0 : Nat) (l0 : List Int) (A1 : Option Addr) (c1 : Nat) (l1 : List Int) (r : List Int) (w : World) (hr0 : Kd.C (Kd.int .u64) w A0 l0.length l0) (hc0 : l0.length ≤ c0) (hr1 : Kd.C (Kd.int .u64) w A1 l1.length l1) (hc1 : l1.length ≤ c1) (h : r1_Sum.f k l0 l1 = some r) :
  Calls Tryd.prog 46 #[.slice A0 l0.length c0, .slice A1 l1.length c1] w fun e w' => ∃ v0_ : Value, e = .returned (v0_) ∧ Kd.R (Kd.int .u64) 22 w' w.heap.size (fun _ => True) v0_ r ∧ Below w.heap.size w w' := by
 have HR0 := am hr0
 have HC0 := am hc0
 clear hr0 hc0
 have HR1 := am hr1
 have HC1 := am hc1
 clear hr1 hc1
 have HB := am (Below.refl w.heap.size w)
 have H : (r1_Sum.l0 k l0 l1 (([] : List Int)) 0 0) = some r := h
 clear h
 obtain ⟨y442, hy442⟩ : ∃ y_ : List Int, y_ = (([] : List Int)) := ⟨_, rfl⟩
 replace H : (r1_Sum.l0 k l0 l1 y442 0 0) = some r := by first | (rw [hy442]; with_reducible exact H) | (have H2_ := (Option.bind_some _ _).symm.trans H; rw [hy442]; with_reducible exact H2_) | (have H2_ := (Option.bind_some _ _).symm.trans H; with_reducible exact H2_) | with_reducible exact H | (rw [hy442]; exact H) | exact H
 have Ny442 := am hy442
 clear hy442
 have H' := am H
 clear H
 go_enter Tryd.func46, Tryd.ntmps46
 go_wp2_with (first | ((with_reducible refine gate_dst (N := 9) rfl ?_); refine Kd.R_lit (Kd.int .u64) _ 22 ?hg (N := 9) ?hd (xs := ([] : List Int)) (inner := []) (ok := fun _ => True) (okp := fun _ => True) ?hr ?hp (fun _ hk => hk) trivial (Below.refl _ _) (Nat.le_refl _) (by simp) ?_; (case hd => rfl); (case hg => rfl); (case hr => first | (go_simp; done) | (go_simp; rfl)); (case hp => exact (Reps.none _ _)); intro v443 w3 ho4 hb hg_ hnew_; clear hg_ hnew_; (first | rw [← Ny442.out] at ho4 | (simp only [Int.reduceToNat] at ho4; rw [← Ny442.out] at ho4)); have HO444 := am (Kd.R_lower ho4 (below_size pB)); replace HB := am (below_step pB hb); clear hb ho4))
 go_loopg [5, 6, 7] k (fun kq v5 v6 v7 w' => ∃ (x5_1 : List Int) (x6_1 : Int) (x7_1 : Int), v6 = .int .u64 x6_1 ∧ v7 = .int .i64 x7_1 ∧ Aside0 (r1_Sum.l0 kq l0 l1 x5_1 x6_1 x7_1 = some r) ∧ Aside0 (kq ≤ k) ∧ Aside0 (Kd.R (Kd.int .u64) 22 w' w.heap.size (fun _ => True) v5 x5_1) ∧ Aside0 (Below w.heap.size w w'))
 case atStart => exact ⟨(y442), (0), (0), (by first | rfl | (simp; done) | (simp [*]; done)), (by first | rfl | (simp; done) | (simp [*]; done)), H', ⟨Nat.le_refl _⟩, ⟨by (with_reducible repeat (first | apply Kd.R_alloc | apply Kd.R_drewN | apply Kd.R_drew)); exact HO444.out⟩, ⟨pB⟩⟩
 case round =>
  clear H'
  try clear c1
  try clear p2
  try clear c4
  obtain ⟨x5_1, x6_1, x7_1, rfl, rfl, HA, HK1, HO_5, HB⟩ := hrel
  cases gk with
  | zero => exact absurd HA.out (by simp [r1_Sum.l0])
  | succ k1 =>
   have H := HA.out
   clear HA
   simp only [r1_Sum.l0] at H
   replace H := Option.bind_eq_some_iff.mp H
   obtain ⟨t445, A50, H⟩ := H
   try dsimp only at H
   have A5 := am A50
   clear A50
   by_cases c6 : x7_1 < t445
   ·rw [if_pos c6] at H
    have c6b0 : decide (x7_1 < t445) = true := decide_eq_true c6
    clear c6
    replace H := Option.bind_eq_some_iff.mp H
    obtain ⟨t446, A70, H⟩ := H
    try dsimp only at H
    have A7 := am A70
    clear A70
    replace H := Option.bind_eq_some_iff.mp H
    obtain ⟨t447, A80, H⟩ := H
    try dsimp only at H
    have A8 := am A80
    clear A80
    by_cases c9 : x5_1.length < 17592186044416
    ·rw [if_pos c9] at H
     have LMc9 := am c9
     clear c9
     obtain ⟨y448, hy448⟩ : ∃ y_ : List Int, y_ = (x5_1 ++ [Go.bits .and .u64 (IntKind.u64.wrap ((IntKind.u64.wrap (t446 + t447)) + x6_1)) 65535]) := ⟨_, rfl⟩
     replace H : (r1_Sum.l0 k1 l0 l1 y448 ((IntKind.u64.wrap ((IntKind.u64.wrap (t446 + t447)) + x6_1)) / 65536) (wrap64 (x7_1 + 1))) = some r := by first | (rw [hy448]; with_reducible exact H) | (have H2_ := (Option.bind_some _ _).symm.trans H; rw [hy448]; with_reducible exact H2_) | (have H2_ := (Option.bind_some _ _).symm.trans H; with_reducible exact H2_) | with_reducible exact H | (rw [hy448]; exact H) | exact H
     have Ny448 := am hy448
     clear hy448
     have H' := am H
     clear H
     go_wp2_with (first | ((with_reducible refine gate_callee (f := 71) rfl ?_); refine goesL_ (some 13) rfl rfl Tryd.func71 (by kernel_rfl) rfl #[.slice A0 l0.length c0, .slice A1 l1.length c1] rfl pM ?_; (with_reducible refine (r1_most.calls _ _ l0 _ _ l1 t445 _ ?side1 ?side2 ?side3 ?side4 A5.out).mono ?_); (case side1 => exact pC (Kd.C_below HR0.out HB.out)); (case side2 => exact HC0.out); (case side3 => exact pC (Kd.C_below HR1.out HB.out)); (case side4 => exact HC1.out); rintro e w' ⟨rfl, ⟨nd, rfl⟩⟩; refine ⟨_, rfl, ?_⟩) | ((with_reducible refine gate_callee (f := 72) rfl ?_); refine goesL_ (some 19) rfl rfl Tryd.func72 (by kernel_rfl) rfl #[.slice A0 l0.length c0, .int .i64 x7_1] rfl pM ?_; (with_reducible refine (r1_at.calls _ _ l0 x7_1 t446 _ ?side1 ?side2 A7.out).mono ?_); (case side1 => repeat (first | exact (Kd.C_below HR0.out pB) | (with_reducible refine Kd.C_alloc ?_ _) | (with_reducible refine Kd.C_drewN ?_ _) | (with_reducible refine Kd.C_drew ?_))); (case side2 => exact HC0.out); rintro e w' ⟨rfl, ⟨nd, rfl⟩⟩; refine ⟨_, rfl, ?_⟩) | ((with_reducible refine gate_callee (f := 72) rfl ?_); refine goesL_ (some 22) rfl rfl Tryd.func72 (by kernel_rfl) rfl #[.slice A1 l1.length c1, .int .i64 x7_1] rfl pM ?_; (with_reducible refine (r1_at.calls _ _ l1 x7_1 t447 _ ?side1 ?side2 A8.out).mono ?_); (case side1 => repeat (first | exact (Kd.C_below HR1.out pB) | (with_reducible refine Kd.C_alloc ?_ _) | (with_reducible refine Kd.C_drewN ?_ _) | (with_reducible refine Kd.C_drew ?_))); (case side2 => exact HC1.out); rintro e w' ⟨rfl, ⟨nd, rfl⟩⟩; refine ⟨_, rfl, ?_⟩) | ((with_reducible refine gate_builtin (b := .append) (xs := #[.tmp 26, .tmp 29]) rfl ?_); at_builtin; refine Kd.R_append (Kd.int .u64) (w0 := w) w.heap.size rfl (.tmp 26) (.tmp 29) 52 22 (.int .u64 0) 8 rfl Tryd.underlying52 info22 rfl (by decide) (by omega) u5 x5_1 (Go.bits .and .u64 (IntKind.u64.wrap ((IntKind.u64.wrap (t446 + t447)) + x6_1)) 65535) [.int .u64 (Go.bits .and .u64 (IntKind.u64.wrap ((IntKind.u64.wrap (t446 + t447)) + x6_1)) 65535)] (fun _ => True) (fun _ => False) rfl rfl ?aP (fun _ hk => hk.elim) ?aF ?aO ?aB ?aS ?aL ?_; (case aP => exact rfl); (case aB => exact pB); (case aF => exact (fun _ _ => trivial)); (case aO => exact (pR HO_5.out)); (case aS => exact (below_size pB)); (case aL => have := LMc9.out; omega); intro v449 w10 ho hb hg hat; rw [← Ny448.out] at ho; replace HB := am (hb); have HO450 := am (ho); clear HO_5; clear ho hb hg hat))
     go_roundg k1
     case measure => have := HK1.out; omega
     case rel => exact ⟨(y448), ((IntKind.u64.wrap ((IntKind.u64.wrap (t446 + t447)) + x6_1)) / 65536), (wrap64 (x7_1 + 1)), (by first | rfl | (simp; done) | (simp [*]; done)), (by first | rfl | (simp; done) | (simp [*]; done)), H', ⟨by have := HK1.out; omega⟩, ⟨by (with_reducible repeat (first | apply Kd.R_alloc | apply Kd.R_drewN | apply Kd.R_drew)); exact HO450.out⟩, ⟨pB⟩⟩
    ·rw [if_neg c9] at H
     exact absurd H (by simp)
   ·rw [if_neg c6] at H
    have c6b0 : decide (x7_1 < t445) = false := decide_eq_false c6
    clear c6
    by_cases c11 : x5_1.length < 17592186044416
    ·rw [if_pos c11] at H
     have LMc11 := am c11
     clear c11
     obtain ⟨y451, hy451⟩ : ∃ y_ : List Int, y_ = (x5_1 ++ [x6_1]) := ⟨_, rfl⟩
     replace H : ((r1_Trim.f k1 y451).bind fun t454 => (some t454)) = some r := by first | (rw [hy451]; with_reducible exact H) | (have H2_ := (Option.bind_some _ _).symm.trans H; rw [hy451]; with_reducible exact H2_) | (have H2_ := (Option.bind_some _ _).symm.trans H; with_reducible exact H2_) | with_reducible exact H | (rw [hy451]; exact H) | exact H
     have Ny451 := am hy451
     clear hy451
     replace H := Option.bind_eq_some_iff.mp H
     obtain ⟨t454, A120, H⟩ := H
     try dsimp only at H
     have A12 := am A120
     clear A120
     obtain rfl := Option.some.inj H
     go_wp2_with (first | ((with_reducible refine gate_callee (f := 71) rfl ?_); refine goesL_ (some 13) rfl rfl Tryd.func71 (by kernel_rfl) rfl #[.slice A0 l0.length c0, .slice A1 l1.length c1] rfl pM ?_; (with_reducible refine (r1_most.calls _ _ l0 _ _ l1 t445 _ ?side1 ?side2 ?side3 ?side4 A5.out).mono ?_); (case side1 => exact pC (Kd.C_below HR0.out HB.out)); (case side2 => exact HC0.out); (case side3 => exact pC (Kd.C_below HR1.out HB.out)); (case side4 => exact HC1.out); rintro e w' ⟨rfl, ⟨nd, rfl⟩⟩; refine ⟨_, rfl, ?_⟩) | ((with_reducible refine gate_builtin (b := .append) (xs := #[.tmp 33, .tmp 35]) rfl ?_); at_builtin; refine Kd.R_append (Kd.int .u64) (w0 := w) w.heap.size rfl (.tmp 33) (.tmp 35) 52 22 (.int .u64 0) 8 rfl Tryd.underlying52 info22 rfl (by decide) (by omega) u5 x5_1 x6_1 [.int .u64 x6_1] (fun _ => True) (fun _ => False) rfl rfl ?aP (fun _ hk => hk.elim) ?aF ?aO ?aB ?aS ?aL ?_; (case aP => exact rfl); (case aB => exact pB); (case aF => exact (fun _ _ => trivial)); (case aO => exact (pR HO_5.out)); (case aS => exact (below_size pB)); (case aL => have := LMc11.out; omega); intro v452 w13 ho hb hg hat; rw [← Ny451.out] at ho; replace HB := am (hb); have HO453 := am (ho); clear HO_5; clear ho hb hg hat; obtain ⟨Ao14, co14, eo14⟩ := Kd.R_slice HO453.out; subst eo14) | ((with_reducible refine gate_callee (f := 50) rfl ?_); refine goesL_ (some 37) rfl rfl Tryd.func50 (by kernel_rfl) rfl #[.slice Ao14 y451.length co14] rfl pM ?_; (with_reducible refine (r1_Trim.calls k1 _ _ y451 t454 _ ?side1 ?side2 A12.out).mono ?_); (case side1 => repeat (first | exact (Kd.R_reads' HO453.out).2.2 | (with_reducible refine Kd.C_alloc ?_ _) | (with_reducible refine Kd.C_drewN ?_ _) | (with_reducible refine Kd.C_drew ?_))); (case side2 => exact (Kd.R_reads' HO453.out).2.1); rintro e w15 ⟨v455, rfl, ho0, hb⟩; refine ⟨_, rfl, ?_⟩; have HO456 := am (Kd.R_lower (Kd.R_new' ho0 (Kd.R_lt (pR HO453.out))) (below_size pB)); replace HO453 := am (Kd.R_elder' (pR HO453.out) (Kd.R_base ho0) hb); replace HB := am (below_step pB hb); (try clear hb); (try clear ho0)))
     go_ret
     exact ⟨_, pE, by (with_reducible repeat (first | apply Kd.R_alloc | apply Kd.R_drewN | apply Kd.R_drew)); exact Kd.R_mono HO456.out (fun _ hk => trivial), pB⟩
    ·rw [if_neg c11] at H
     exact absurd H (by simp)
end Go.Proofs.YtflcanpajgpghaaDoor.Pr
end
