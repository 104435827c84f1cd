/- A part of the proof of the law that RowDecBack shows: lemmas, and contracts of the calls that it reaches. -/
import Derived.Test.YtflcanpajgpghaaDoorProg
import Derived.Below
import Derived.Deep.Draws
import Derived.Deep.AppendLies
import Derived.Maps.AppendAt
import Derived.OwnWalk
import Derived.Laws.BytesArg
import Derived.Laws.MakeOwn
import Derived.Laws.OwnMore
import Derived.Deep.OwnRows
import Derived.Tactics
import Derived.Lib.ConvBytes
import Derived.Laws.Slices
import Derived.WalkKit
import Derived.KernelRfl
import Derived.RowKit3
import Derived.Deep.LoopGhost
import Derived.Deep.QuietTactic
import Derived.BigQuiet
import Derived.WideLaws
import Derived.Deep.DeepCutAuto
import Derived.Deep.CutBlock
import Derived.Deep.RegionHeld3
import Derived.Laws.Rows
import Derived.Lib.AppendStr
import Derived.ArgAppend
import Derived.Laws.IdiomCopy
import Derived.OrdersHeld
import Derived.Laws.BitsLemmas
import Derived.RowKit
import Derived.Test.YtflcanpajgpghaaDoorZDB0
import Derived.Test.YtflcanpajgpghaaDoorZDB1
import Derived.Test.YtflcanpajgpghaaDoorZDB2
set_option linter.unusedVariables false
set_option linter.unusedSimpArgs false
section
namespace Go.Proofs.YtflcanpajgpghaaDoor.Pr
open Go.RowKit Go.Proofs.YtflcanpajgpghaaDoorW.PrintWords Go.Proofs.YtflcanpajgpghaaDoorW.PrintLast Go.Proofs.YtflcanpajgpghaaDoorW.PrintMore
attribute [local go_sem] max2_int min2_int max_two min_two max_three min_three max_four min_four
mutual
def dec_cut.j0 : Nat → ByteArray → ByteArray → Int → Option (ByteArray × Int × Bool)
 | 0, _, _, _ => none
 | k + 1, x6, x367000, x367001 => if x6.toList = ([] : List UInt8) then (some (x367000, x367001, true)) else (if 0 < (x6.size : Int) then (if (bt x6 0) = 101 then (dec_cut.j1 k x6 false x367000 x367001) else (dec_cut.j1 k x6 ((bt x6 0) != 69) x367000 x367001)) else (none))
def dec_cut.j1 : Nat → ByteArray → Bool → ByteArray → Int → Option (ByteArray × Int × Bool)
 | 0, _, _, _, _ => none
 | k + 1, x6, x56, x367000, x367001 => if x56 = true then (some (x367000, x367001, false)) else (if 1 ≤ (x6.size : Int) then (if (x6.extract 1 x6.size).toList = ([] : List UInt8) then (dec_cut.j2 k (x6.extract 1 x6.size) 1 false x367000 x367001) else (if 0 < ((x6.extract 1 x6.size).size : Int) then (if (bt (x6.extract 1 x6.size) 0) = 43 then (dec_cut.j2 k (x6.extract 1 x6.size) 1 true x367000 x367001) else (dec_cut.j2 k (x6.extract 1 x6.size) 1 ((bt (x6.extract 1 x6.size) 0) == 45) x367000 x367001)) else (none))) else (none))
def dec_cut.j2 : Nat → ByteArray → Int → Bool → ByteArray → Int → Option (ByteArray × Int × Bool)
 | 0, _, _, _, _, _ => none
 | k + 1, x6, x8, x71, x367000, x367001 => if x71 = true then (if 0 < (x6.size : Int) then (if (bt x6 0) = 45 then (if 1 ≤ (x6.size : Int) then (dec_cut.j3 k (x6.extract 1 x6.size) (-1) x367000 x367001) else (none)) else (if 1 ≤ (x6.size : Int) then (dec_cut.j3 k (x6.extract 1 x6.size) x8 x367000 x367001) else (none))) else (none)) else (dec_cut.j3 k x6 x8 x367000 x367001)
def dec_cut.j3 : Nat → ByteArray → Int → ByteArray → Int → Option (ByteArray × Int × Bool)
 | 0, _, _, _, _ => none
 | k + 1, x6, x8, x367000, x367001 => if x6.toList = ([] : List UInt8) then (dec_cut.j4 k x6 x8 true x367000 x367001) else ((dec_digits.f k x6).bind fun t369 => (dec_cut.j4 k x6 x8 (t369 != (x6.size : Int)) x367000 x367001))
def dec_cut.j4 : Nat → ByteArray → Int → Bool → ByteArray → Int → Option (ByteArray × Int × Bool)
 | 0, _, _, _, _, _ => none
 | k + 1, x6, x8, x85, x367000, x367001 => if x85 = true then (some (x367000, x367001, false)) else (dec_cut.l0 k x6 x8 0 (x6.size : Int) 0 x367000 x367001)
def dec_cut.l0 : Nat → ByteArray → Int → Int → Int → Int → ByteArray → Int → Option (ByteArray × Int × Bool)
 | 0, _, _, _, _, _, _, _ => none
 | k + 1, x6, x8, x9, x88, x89, x367000, x367001 => if x89 < x88 then (if 0 ≤ x89 then (if x89 < (x6.size : Int) then (dec_cut.l0 k x6 x8 (mn (wrap64 ((wrap64 (10 * x9)) + (((bt x6 x89) - 48) % 256))) 9999) x88 (wrap64 (x89 + 1)) x367000 x367001) else (none)) else (none)) else (some (x367000, wrap64 (x367001 + (wrap64 (x8 * x9))), true))
end
def dec_cut.f (k : Nat) (a0 : ByteArray) : Option (ByteArray × Int × Bool) := (dec_digits.f k a0).bind fun t365 => (if 0 ≤ t365 then (if t365 ≤ (a0.size : Int) then (if t365 = 0 then (some (a0.extract 0 (t365 : Int).toNat, 0, false)) else ((strings_HasPrefix.f (a0.extract (t365 : Int).toNat a0.size) (⟨#[46]⟩ : ByteArray)).bind fun t367 => (if t367 = true then (if 1 ≤ ((a0.extract (t365 : Int).toNat a0.size).size : Int) then ((dec_digits.f k ((a0.extract (t365 : Int).toNat a0.size).extract 1 (a0.extract (t365 : Int).toNat a0.size).size)).bind fun t368 => (if t368 = 0 then (some (a0.extract 0 (t365 : Int).toNat, 0, false)) else (if 1 ≤ (wrap64 (1 + t368)) then (if (wrap64 (1 + t368)) ≤ ((a0.extract (t365 : Int).toNat a0.size).size : Int) then (if (a0.extract 0 (t365 : Int).toNat).size + ((a0.extract (t365 : Int).toNat a0.size).extract 1 ((wrap64 (1 + t368)) : Int).toNat).size ≤ 9223372036854775807 then (if 0 ≤ (wrap64 (1 + t368)) then (dec_cut.j0 k ((a0.extract (t365 : Int).toNat a0.size).extract ((wrap64 (1 + t368)) : Int).toNat (a0.extract (t365 : Int).toNat a0.size).size) ((a0.extract 0 (t365 : Int).toNat) ++ ((a0.extract (t365 : Int).toNat a0.size).extract 1 ((wrap64 (1 + t368)) : Int).toNat)) (wrap64 (-t368))) else (none)) else (none)) else (none)) else (none)))) else (none)) else (dec_cut.j0 k (a0.extract (t365 : Int).toNat a0.size) (a0.extract 0 (t365 : Int).toNat) 0)))) else (none)) else (none))
theorem dec_cut.mono_l : ∀ k, (∀ y0 y1 y2, LeO (dec_cut.j0 k y0 y1 y2) (dec_cut.j0 (k + 1) y0 y1 y2)) ∧ (∀ y0 y1 y2 y3, LeO (dec_cut.j1 k y0 y1 y2 y3) (dec_cut.j1 (k + 1) y0 y1 y2 y3)) ∧ (∀ y0 y1 y2 y3 y4, LeO (dec_cut.j2 k y0 y1 y2 y3 y4) (dec_cut.j2 (k + 1) y0 y1 y2 y3 y4)) ∧ (∀ y0 y1 y2 y3, LeO (dec_cut.j3 k y0 y1 y2 y3) (dec_cut.j3 (k + 1) y0 y1 y2 y3)) ∧ (∀ y0 y1 y2 y3 y4, LeO (dec_cut.j4 k y0 y1 y2 y3 y4) (dec_cut.j4 (k + 1) y0 y1 y2 y3 y4)) ∧ (∀ y0 y1 y2 y3 y4 y5 y6, LeO (dec_cut.l0 k y0 y1 y2 y3 y4 y5 y6) (dec_cut.l0 (k + 1) y0 y1 y2 y3 y4 y5 y6))
 | 0 => ⟨fun _ _ _ r h => by simp [dec_cut.j0] at h, fun _ _ _ _ r h => by simp [dec_cut.j1] at h, fun _ _ _ _ _ r h => by simp [dec_cut.j2] at h, fun _ _ _ _ r h => by simp [dec_cut.j3] at h, fun _ _ _ _ _ r h => by simp [dec_cut.j4] at h, fun _ _ _ _ _ _ _ r h => by simp [dec_cut.l0] at h⟩
 | k + 1 => by
  obtain ⟨ih0, ih1, ih2, ih3, ih4, ih5⟩ := dec_cut.mono_l k
  refine ⟨?_, ?_, ?_, ?_, ?_, ?_⟩
  all_goals intros
  all_goals first | unfold dec_cut.j0 | unfold dec_cut.j1 | unfold dec_cut.j2 | unfold dec_cut.j3 | unfold dec_cut.j4 | unfold dec_cut.l0
  all_goals repeat' first
   | (with_reducible exact ih0 _ _ _)
   | (with_reducible exact ih1 _ _ _ _)
   | (with_reducible exact ih2 _ _ _ _ _)
   | (with_reducible exact ih3 _ _ _ _)
   | (with_reducible exact ih4 _ _ _ _ _)
   | (with_reducible exact ih5 _ _ _ _ _ _ _)
   | (with_reducible exact dec_digits.mono _ _)
   | (with_reducible exact LeO.refl _)
   | (with_reducible exact LeO.none _)
   | (with_reducible refine LeO.ite ?_ ?_)
   | (with_reducible refine LeO.bind ?_ (fun _ => ?_))
   | exact ih0 _ _ _
   | exact ih1 _ _ _ _
   | exact ih2 _ _ _ _ _
   | exact ih3 _ _ _ _
   | exact ih4 _ _ _ _ _
   | exact ih5 _ _ _ _ _ _ _
   | exact dec_digits.mono _ _
   | exact LeO.none _
   | refine LeO.ite ?_ ?_
   | refine LeO.bind ?_ (fun _ => ?_)
theorem dec_cut.mono : ∀ a0 k, LeO (dec_cut.f k a0) (dec_cut.f (k + 1) a0) := by
 intro a0 k
 obtain ⟨ih0, ih1, ih2, ih3, ih4, ih5⟩ := dec_cut.mono_l k
 unfold dec_cut.f
 repeat' first
   | (with_reducible exact ih0 _ _ _)
   | (with_reducible exact ih1 _ _ _ _)
   | (with_reducible exact ih2 _ _ _ _ _)
   | (with_reducible exact ih3 _ _ _ _)
   | (with_reducible exact ih4 _ _ _ _ _)
   | (with_reducible exact ih5 _ _ _ _ _ _ _)
   | (with_reducible exact dec_digits.mono _ _)
   | (with_reducible exact LeO.refl _)
   | (with_reducible exact LeO.none _)
   | (with_reducible refine LeO.ite ?_ ?_)
   | (with_reducible refine LeO.bind ?_ (fun _ => ?_))
   | exact ih0 _ _ _
   | exact ih1 _ _ _ _
   | exact ih2 _ _ _ _ _
   | exact ih3 _ _ _ _
   | exact ih4 _ _ _ _ _
   | exact ih5 _ _ _ _ _ _ _
   | exact dec_digits.mono _ _
   | exact LeO.none _
   | refine LeO.ite ?_ ?_
   | refine LeO.bind ?_ (fun _ => ?_)
def dec_cut.T2 : Bool × List (List Nat × List Nat) := (true, [([], []), ([], []), ([0, 1], [0, 1]), ([2], [2]), ([], []), ([], []), ([4, 5], [4, 5]), ([], []), ([7, 3, 0, 1, 2, 3, 7], [3, 7]), ([6, 8, 0, 1, 2, 3, 4, 5, 6, 7, 8], [6])])
def dec_cut.B2 : List Nat := [0, 0, 3, 7, 0, 0, 48, 0, 143, 511]
theorem dec_cut.tab2 : rtab .any (opsOf Tryd.f17 2) = dec_cut.T2 := by kernel_rfl
theorem dec_cut.bits2 : waitsOk dec_cut.T2.2 dec_cut.B2 = true := by kernel_rfl
def dec_cut.T9 : Bool × List (List Nat × List Nat) := (true, [([], []), ([0], [0]), ([], []), ([], []), ([3], [3]), ([2, 4], [2, 4]), ([1, 5], [1, 5]), ([], []), ([7], [7]), ([], []), ([], []), ([10], [10]), ([9, 11], [9, 11]), ([0, 1, 2, 3, 4, 5, 6], []), ([13, 6, 0, 1, 2, 3, 4, 5, 6], [6, 13]), ([0, 1, 2, 3, 4, 5, 6, 7, 8, 13, 14], []), ([15, 8, 14, 0, 1, 2, 3, 4, 5, 6, 7, 8, 13, 14], [8, 15]), ([12, 16, 0, 1, 2, 3, 4, 5, 6, 7, 8, 9, 10, 11, 12, 13, 14, 15, 16], [2, 9, 12])])
def dec_cut.B9 : List Nat := [0, 1, 0, 0, 8, 28, 63, 0, 128, 0, 0, 1024, 3584, 127, 8319, 25087, 57855, 131071]
theorem dec_cut.tab9 : rtab .any (opsOf Tryd.f17 9) = dec_cut.T9 := by kernel_rfl
theorem dec_cut.bits9 : waitsOk dec_cut.T9.2 dec_cut.B9 = true := by kernel_rfl
set_option maxHeartbeats 8000000 in
set_option maxRecDepth 100000 in
theorem dec_cut.calls (k : Nat) (a0 : ByteArray) (r1 : ByteArray) (r2 : Int) (r3 : Bool) (w : World) (h : dec_cut.f k a0 = some (r1, r2, r3)) :
  Calls Tryd.prog 17 #[.string a0] w fun e w' => e = .returned (.tuple #[.agg #[.string r1, .int .i64 r2], .bool r3]) ∧ Below w.heap.size w w' := by
 have hu47 := Tryd.underlying47
 have HB := am (Below.refl w.heap.size w)
 have H : ((dec_digits.f k a0).bind fun t365 => (if 0 ≤ t365 then (if t365 ≤ (a0.size : Int) then (if t365 = 0 then (some (a0.extract 0 (t365 : Int).toNat, 0, false)) else ((strings_HasPrefix.f (a0.extract (t365 : Int).toNat a0.size) (⟨#[46]⟩ : ByteArray)).bind fun t367 => (if t367 = true then (if 1 ≤ ((a0.extract (t365 : Int).toNat a0.size).size : Int) then ((dec_digits.f k ((a0.extract (t365 : Int).toNat a0.size).extract 1 (a0.extract (t365 : Int).toNat a0.size).size)).bind fun t368 => (if t368 = 0 then (some (a0.extract 0 (t365 : Int).toNat, 0, false)) else (if 1 ≤ (wrap64 (1 + t368)) then (if (wrap64 (1 + t368)) ≤ ((a0.extract (t365 : Int).toNat a0.size).size : Int) then (if (a0.extract 0 (t365 : Int).toNat).size + ((a0.extract (t365 : Int).toNat a0.size).extract 1 ((wrap64 (1 + t368)) : Int).toNat).size ≤ 9223372036854775807 then (if 0 ≤ (wrap64 (1 + t368)) then (dec_cut.j0 k ((a0.extract (t365 : Int).toNat a0.size).extract ((wrap64 (1 + t368)) : Int).toNat (a0.extract (t365 : Int).toNat a0.size).size) ((a0.extract 0 (t365 : Int).toNat) ++ ((a0.extract (t365 : Int).toNat a0.size).extract 1 ((wrap64 (1 + t368)) : Int).toNat)) (wrap64 (-t368))) else (none)) else (none)) else (none)) else (none)))) else (none)) else (dec_cut.j0 k (a0.extract (t365 : Int).toNat a0.size) (a0.extract 0 (t365 : Int).toNat) 0)))) else (none)) else (none))) = some (r1, r2, r3) := h
 clear h
 replace H := Option.bind_eq_some_iff.mp H
 obtain ⟨t365, A20, H⟩ := H
 try dsimp only at H
 have A2 := am A20
 clear A20
 by_cases c3 : 0 ≤ t365
 ·rw [if_pos c3] at H
  have c3b0 := eq_true c3
  have c3b1 : decide (0 ≤ t365) = true := decide_eq_true c3
  clear c3
  by_cases c4 : t365 ≤ (a0.size : Int)
  ·rw [if_pos c4] at H
   have c4b0 := eq_true c4
   have c4b1 : decide (t365 ≤ (a0.size : Int)) = true := decide_eq_true c4
   clear c4
   obtain ⟨ji5, hji5⟩ : ∃ j_ : ByteArray, (a0.extract 0 (t365 : Int).toNat) = j_ := ⟨_, rfl⟩
   replace H : (if t365 = 0 then (some (ji5, 0, false)) else ((strings_HasPrefix.f (a0.extract (t365 : Int).toNat a0.size) (⟨#[46]⟩ : ByteArray)).bind fun t367 => (if t367 = true then (if 1 ≤ ((a0.extract (t365 : Int).toNat a0.size).size : Int) then ((dec_digits.f k ((a0.extract (t365 : Int).toNat a0.size).extract 1 (a0.extract (t365 : Int).toNat a0.size).size)).bind fun t368 => (if t368 = 0 then (some (ji5, 0, false)) else (if 1 ≤ (wrap64 (1 + t368)) then (if (wrap64 (1 + t368)) ≤ ((a0.extract (t365 : Int).toNat a0.size).size : Int) then (if (ji5).size + ((a0.extract (t365 : Int).toNat a0.size).extract 1 ((wrap64 (1 + t368)) : Int).toNat).size ≤ 9223372036854775807 then (if 0 ≤ (wrap64 (1 + t368)) then (dec_cut.j0 k ((a0.extract (t365 : Int).toNat a0.size).extract ((wrap64 (1 + t368)) : Int).toNat (a0.extract (t365 : Int).toNat a0.size).size) ((ji5) ++ ((a0.extract (t365 : Int).toNat a0.size).extract 1 ((wrap64 (1 + t368)) : Int).toNat)) (wrap64 (-t368))) else (none)) else (none)) else (none)) else (none)))) else (none)) else (dec_cut.j0 k (a0.extract (t365 : Int).toNat a0.size) ji5 0)))) = some (r1, r2, r3) := by first | (rw [hji5] at H; exact H) | (simp only [hji5] at H ⊢; exact H) | exact H
   (try rw [hji5] at A2)
   have c6b0 := eq_true (pD : 0 ≤ t365)
   have c7b0 := eq_true (pD : t365 ≤ (a0.size : Int))
   obtain ⟨ji8, hji8⟩ : ∃ j_ : ByteArray, (a0.extract (t365 : Int).toNat a0.size) = j_ := ⟨_, rfl⟩
   replace H : (if t365 = 0 then (some (ji5, 0, false)) else ((strings_HasPrefix.f (ji8) (⟨#[46]⟩ : ByteArray)).bind fun t367 => (if t367 = true then (if 1 ≤ ((ji8).size : Int) then ((dec_digits.f k ((ji8).extract 1 (ji8).size)).bind fun t368 => (if t368 = 0 then (some (ji5, 0, false)) else (if 1 ≤ (wrap64 (1 + t368)) then (if (wrap64 (1 + t368)) ≤ ((ji8).size : Int) then (if (ji5).size + ((ji8).extract 1 ((wrap64 (1 + t368)) : Int).toNat).size ≤ 9223372036854775807 then (if 0 ≤ (wrap64 (1 + t368)) then (dec_cut.j0 k ((ji8).extract ((wrap64 (1 + t368)) : Int).toNat (ji8).size) ((ji5) ++ ((ji8).extract 1 ((wrap64 (1 + t368)) : Int).toNat)) (wrap64 (-t368))) else (none)) else (none)) else (none)) else (none)))) else (none)) else (dec_cut.j0 k ji8 ji5 0)))) = some (r1, r2, r3) := by first | (rw [hji8] at H; exact H) | (simp only [hji8] at H ⊢; exact H) | exact H
   (try rw [hji8] at A2)
   by_cases c9 : t365 = 0
   ·rw [if_pos c9] at H
    have c9b0 : (t365 == 0) = true := beq_iff_eq.mpr c9
    have c9b1 : (t365 != 0) = false := bne_eq_false_iff_eq.mpr c9
    clear c9
    simp only [Option.some.injEq, Prod.mk.injEq] at H
    obtain ⟨rfl, rfl, rfl⟩ := H
    go_enter Tryd.func17, Tryd.ntmps17
    try go_wp2_with (first | ((with_reducible refine gate_dst (N := 2) rfl ?_); (try (refine gate_guard (by rfl) ?_; dsimp only)); refine box_event ?hg (N := 2) ?hd (cs := #[.string (⟨#[]⟩ : ByteArray), .int .i64 0]) (t := 47) ?hr ?_; (case hd => rfl); (case hg => rfl); (case hr => first | (go_simp; done) | (go_simp; rfl)); intro gb364 hg w10 hbox hb; have BK364 := am (hbox); have GW364 := am ((by rw [hg]; exact (below_size pB) : w.heap.size ≤ gb364)); have GE364 := am ((by rw [hg]; exact (below_size pB) : w.heap.size ≤ gb364)); replace HB := am (below_step pB hb); clear hb hbox hg) | ((with_reducible refine gate_callee (f := 42) rfl ?_); refine goesL_ (some 12) rfl rfl Tryd.func42 (by kernel_rfl) rfl #[.string a0] rfl pM ?_; (with_reducible refine (dec_digits.calls k a0 t365 _ A2.out).mono ?_); rintro e w' ⟨rfl, ⟨nd, rfl⟩⟩; refine ⟨_, rfl, ?_⟩; (try (rw [drewN_self w10]; generalize hq_ : World.drewN w10 _ = w10; have n0_ : Aside0 (w10.heap[gb364]? = some (.cells #[.string (⟨#[]⟩ : ByteArray), .int .i64 0] 47 (0, 0))) := ⟨by rw [← hq_]; exact (pK BK364.out)⟩; have n1_ : Aside0 (Below w.heap.size w w10) := ⟨by rw [← hq_]; exact pB⟩; clear BK364 HB hq_; have BK364 := n0_; have HB := n1_; clear n0_ n1_))))
    replace BK364 := am (blk_drew BK364.out)
    replace HB := am (below_drew1 HB.out)
    refine start_ (n := 10) (S := fun w' => True) (ds := []) (bm 10 0) (by kernel_rfl) rfl rfl trivial (fun hHeld => ?_); refine with_tabW dec_cut.tab2 dec_cut.bits2 (fun HT_ HW_ => ?_)
    generalize w10.drew = w11 at BK364 HB hHeld ⊢
    refine pure_ (i := 0) (N := some 13) (v := ?_) (a' := ?_) (bm 10 1) rfl rfl (any_of HT_.out (by kernel_rfl)) (fun _ _ _ h => h) (Or.inl ⟨by kernel_rfl, ?_⟩) ?_ ?_
    rotate_left
    ·intro w'
     go_simp
     with_reducible rfl
    rotate_left
    ·exact pA
    refine pure_ (i := 1) (N := some 14) (v := ?_) (a' := ?_) (bm 10 3) rfl rfl (any_of HT_.out (by kernel_rfl)) (fun _ _ _ h => h) (Or.inl ⟨by kernel_rfl, ?_⟩) ?_ ?_
    rotate_left
    ·intro w'
     go_simp
     with_reducible rfl
    rotate_left
    ·exact pA
    refine pure_ (i := 2) (N := some 15) (v := ?_) (a' := ?_) (bm 10 7) rfl rfl (any_of HT_.out (by kernel_rfl)) (fun _ _ _ h => h) (Or.inl ⟨by kernel_rfl, ?_⟩) ?_ ?_
    rotate_left
    ·intro w'
     go_simp
     with_reducible rfl
    rotate_left
    ·exact pA
    refine pure_ (i := 3) (N := some 16) (v := ?_) (a' := ?_) (bm 10 15) rfl rfl (any_of HT_.out (by kernel_rfl)) (fun _ _ _ h => h) (Or.inl ⟨by kernel_rfl, ?_⟩) ?_ ?_
    rotate_left
    ·intro w'
     go_simp
     with_reducible rfl
    rotate_left
    ·exact pA
    refine pure_ (i := 4) (N := some 17) (v := ?_) (a' := ?_) (bm 10 31) rfl rfl (any_of HT_.out (by kernel_rfl)) (fun _ _ _ h => h) (Or.inl ⟨by kernel_rfl, ?_⟩) ?_ ?_
    rotate_left
    ·intro w'
     go_simp
     with_reducible rfl
    rotate_left
    ·exact pA
    refine pure_ (i := 5) (N := some 18) (v := ?_) (a' := ?_) (bm 10 63) rfl rfl (any_of HT_.out (by kernel_rfl)) (fun _ _ _ h => h) (Or.inl ⟨by kernel_rfl, ?_⟩) ?_ ?_
    rotate_left
    ·intro w'
     go_simp
     with_reducible rfl
    rotate_left
    ·exact pA
    refine pure_ (i := 6) (N := some 19) (v := ?_) (a' := ?_) (bm 10 127) rfl rfl (any_of HT_.out (by kernel_rfl)) (fun _ _ _ h => h) (Or.inl ⟨by kernel_rfl, ?_⟩) ?_ ?_
    rotate_left
    ·intro w'
     go_simp
     with_reducible rfl
    rotate_left
    ·exact pA
    refine one_ (i := 7) (N := some 5) (bm 10 255) rfl rfl (one_of HT_.out (by kernel_rfl)) (by decide) (fun K hK => ?_)
    refine box_step ?hg (N := 5) ?hd (cs := #[.string (⟨#[]⟩ : ByteArray), .int .i64 0]) (t := 47) ?hr ?_; (case hd => rfl); (case hg => rfl); (case hr => first | (go_simp; done) | (go_simp; rfl))
    intro gb366 hg w12 hbox hb
    have n0_ := am (pkb BK364.out hb)
    have n1_ := am (below_step pB hb)
    have n2_ := am (hbox)
    have n3_ := am ((by rw [hg]; exact (below_size pB) : w.heap.size ≤ gb366))
    have n4_ := am ((by rw [hg]; exact (below_size pB) : w.heap.size ≤ gb366))
    have n5_ := am ((by rw [hg]; exact Nat.ne_of_lt (pkl BK364.out) : gb364 ≠ gb366))
    have n6_ := am ((by rw [hg]; exact Nat.ne_of_gt (pkl BK364.out) : gb366 ≠ gb364))
    clear BK364 HB; have BK364 := n0_; have HB := n1_; have BK366 := n2_; have GW366 := n3_; have GE366 := n4_; have NB364_366 := n5_; have NB366_364 := n6_; clear n0_ n1_ n2_ n3_ n4_ n5_ n6_ hb hbox hg
    refine hK.out _ _ trivial (fun hHeld => ?_)
    clear hK K
    refine norm_ (a' := ?_) ?_ ?_
    rotate_left
    ·show Act.put _ (some 5) _ = _
     exact pA
    refine one_ (i := 8) (N := none) (bm 10 511) rfl rfl (one_of HT_.out (by kernel_rfl)) (by decide) (fun K hK => ?_)
    have hs13 : w12.cell? ⟨gb366, 0, none⟩ = some (.string (⟨#[]⟩ : ByteArray)) := cz0 BK366.out
    have hfs13 := blk_frozen BK366.out 0
    have hns13_0 := NB364_366.out
    have hms13_0 := NB366_364.out
    have hs14 : w12.cell? ⟨gb366, 1, none⟩ = some (.int .i64 0) := cz1 BK366.out
    have hfs14 := blk_frozen BK366.out 1
    have hns14_0 := NB364_366.out
    have hms14_0 := NB366_364.out
    refine skip_ (w1 := ?_) ?hw rfl ?_ ?_; (case hw => kernel_rfl)
    rotate_left
    ·go_simp
     rfl
    refine hK.out _ _ trivial (fun hHeld => ?_)
    clear hK K
    refine pure_ (i := 9) (N := some 6) (v := ?_) (a' := ?_) (bm 10 1023) rfl rfl (any_of HT_.out (by kernel_rfl)) (fun _ _ _ h => h) (Or.inl ⟨by kernel_rfl, ?_⟩) ?_ ?_
    rotate_left
    ·intro w'
     go_simp
     with_reducible rfl
    rotate_left
    ·exact pA
    refine done_ (done_of HT_.out (by kernel_rfl)) ?_
    have hnb15 := NB366_364.out
    have hnc15 := NB364_366.out
    have q16 := cf2 BK366.out
    have q17 := cf2 BK364.out
    try go_wp2
    refine bodyPost_ret (results_ct rfl _ _ gb364 47 #[.string ji5, .int .i64 0] (0, 0) _ rfl (by (with_reducible repeat (first | refine blk_drewN ?_ _ | refine blk_drew ?_ | refine blk_alloc ?_ _)); refine blk_put (cs := #[.string ji5, .int .i64 0]) ?_ 1 _ rfl; (with_reducible repeat (first | refine blk_drewN ?_ _ | refine blk_drew ?_ | refine blk_alloc ?_ _)); refine blk_put (cs := #[.string (⟨#[]⟩ : ByteArray), .int .i64 0]) ?_ 0 _ rfl; (with_reducible repeat (first | refine blk_drewN ?_ _ | refine blk_drew ?_ | refine blk_alloc ?_ _)); refine blk_far ?_ NB364_366.out _; (with_reducible repeat (first | refine blk_drewN ?_ _ | refine blk_drew ?_ | refine blk_alloc ?_ _)); refine blk_far ?_ NB364_366.out _; (with_reducible repeat (first | refine blk_drewN ?_ _ | refine blk_drew ?_ | refine blk_alloc ?_ _)); exact BK364.out) Tryd.underlying47 rfl (by kernel_rfl)) rfl ?_
    exact ⟨by first | rfl | (simp [errW_none, errW_some] <;> rfl) | (simp only [← hji5, ← hji8]; first | rfl | (simp [errW_none, errW_some] <;> rfl)) | (simp [*, errW_none, errW_some] <;> rfl), pB⟩
   ·rw [if_neg c9] at H
    have c9b0 : (t365 == 0) = false := beq_eq_false_iff_ne.mpr c9
    have c9b1 : (t365 != 0) = true := bne_iff_ne.mpr c9
    replace H := Option.bind_eq_some_iff.mp H
    obtain ⟨t367, A180, H⟩ := H
    try dsimp only at H
    have A18 := am A180
    clear A180
    have HC19 := am H
    clear H
    go_enter Tryd.func17, Tryd.ntmps17
    try go_wp2_with (first | ((with_reducible refine gate_dst (N := 2) rfl ?_); (try (refine gate_guard (by rfl) ?_; dsimp only)); refine box_event ?hg (N := 2) ?hd (cs := #[.string (⟨#[]⟩ : ByteArray), .int .i64 0]) (t := 47) ?hr ?_; (case hd => rfl); (case hg => rfl); (case hr => first | (go_simp; done) | (go_simp; rfl)); intro gb364 hg w20 hbox hb; have BK364 := am (hbox); have GW364 := am ((by rw [hg]; exact (below_size pB) : w.heap.size ≤ gb364)); have GE364 := am ((by rw [hg]; exact (below_size pB) : w.heap.size ≤ gb364)); replace HB := am (below_step pB hb); clear hb hbox hg) | ((with_reducible refine gate_callee (f := 42) rfl ?_); refine goesL_ (some 12) rfl rfl Tryd.func42 (by kernel_rfl) rfl #[.string a0] rfl pM ?_; (with_reducible refine (dec_digits.calls k a0 t365 _ A2.out).mono ?_); rintro e w' ⟨rfl, ⟨nd, rfl⟩⟩; refine ⟨_, rfl, ?_⟩; (try (rw [drewN_self w20]; generalize hq_ : World.drewN w20 _ = w20; have n0_ : Aside0 (w20.heap[gb364]? = some (.cells #[.string (⟨#[]⟩ : ByteArray), .int .i64 0] 47 (0, 0))) := ⟨by rw [← hq_]; exact (pK BK364.out)⟩; have n1_ : Aside0 (Below w.heap.size w w20) := ⟨by rw [← hq_]; exact pB⟩; clear BK364 HB hq_; have BK364 := n0_; have HB := n1_; clear n0_ n1_))))
    replace BK364 := am (blk_drew BK364.out)
    replace HB := am (below_drew1 HB.out)
    refine start_ (n := 10) (S := fun w' => True) (ds := []) (bm 10 0) (by kernel_rfl) rfl rfl trivial (fun hHeld => ?_); refine with_tabW dec_cut.tab2 dec_cut.bits2 (fun HT_ HW_ => ?_)
    generalize w20.drew = w21 at BK364 HB hHeld ⊢
    refine pure_ (i := 0) (N := some 13) (v := ?_) (a' := ?_) (bm 10 1) rfl rfl (any_of HT_.out (by kernel_rfl)) (fun _ _ _ h => h) (Or.inl ⟨by kernel_rfl, ?_⟩) ?_ ?_
    rotate_left
    ·intro w'
     go_simp
     with_reducible rfl
    rotate_left
    ·exact pA
    refine pure_ (i := 1) (N := some 14) (v := ?_) (a' := ?_) (bm 10 3) rfl rfl (any_of HT_.out (by kernel_rfl)) (fun _ _ _ h => h) (Or.inl ⟨by kernel_rfl, ?_⟩) ?_ ?_
    rotate_left
    ·intro w'
     go_simp
     with_reducible rfl
    rotate_left
    ·exact pA
    refine pure_ (i := 2) (N := some 15) (v := ?_) (a' := ?_) (bm 10 7) rfl rfl (any_of HT_.out (by kernel_rfl)) (fun _ _ _ h => h) (Or.inl ⟨by kernel_rfl, ?_⟩) ?_ ?_
    rotate_left
    ·intro w'
     go_simp
     with_reducible rfl
    rotate_left
    ·exact pA
    refine pure_ (i := 3) (N := some 16) (v := ?_) (a' := ?_) (bm 10 15) rfl rfl (any_of HT_.out (by kernel_rfl)) (fun _ _ _ h => h) (Or.inl ⟨by kernel_rfl, ?_⟩) ?_ ?_
    rotate_left
    ·intro w'
     go_simp
     with_reducible rfl
    rotate_left
    ·exact pA
    refine pure_ (i := 4) (N := some 17) (v := ?_) (a' := ?_) (bm 10 31) rfl rfl (any_of HT_.out (by kernel_rfl)) (fun _ _ _ h => h) (Or.inl ⟨by kernel_rfl, ?_⟩) ?_ ?_
    rotate_left
    ·intro w'
     go_simp
     with_reducible rfl
    rotate_left
    ·exact pA
    refine pure_ (i := 5) (N := some 18) (v := ?_) (a' := ?_) (bm 10 63) rfl rfl (any_of HT_.out (by kernel_rfl)) (fun _ _ _ h => h) (Or.inl ⟨by kernel_rfl, ?_⟩) ?_ ?_
    rotate_left
    ·intro w'
     go_simp
     with_reducible rfl
    rotate_left
    ·exact pA
    refine pure_ (i := 6) (N := some 19) (v := ?_) (a' := ?_) (bm 10 127) rfl rfl (any_of HT_.out (by kernel_rfl)) (fun _ _ _ h => h) (Or.inl ⟨by kernel_rfl, ?_⟩) ?_ ?_
    rotate_left
    ·intro w'
     go_simp
     with_reducible rfl
    rotate_left
    ·exact pA
    refine one_ (i := 7) (N := some 5) (bm 10 255) rfl rfl (one_of HT_.out (by kernel_rfl)) (by decide) (fun K hK => ?_)
    refine box_step ?hg (N := 5) ?hd (cs := #[.string (⟨#[]⟩ : ByteArray), .int .i64 0]) (t := 47) ?hr ?_; (case hd => rfl); (case hg => rfl); (case hr => first | (go_simp; done) | (go_simp; rfl))
    intro gb366 hg w22 hbox hb
    have n0_ := am (pkb BK364.out hb)
    have n1_ := am (below_step pB hb)
    have n2_ := am (hbox)
    have n3_ := am ((by rw [hg]; exact (below_size pB) : w.heap.size ≤ gb366))
    have n4_ := am ((by rw [hg]; exact (below_size pB) : w.heap.size ≤ gb366))
    have n5_ := am ((by rw [hg]; exact Nat.ne_of_lt (pkl BK364.out) : gb364 ≠ gb366))
    have n6_ := am ((by rw [hg]; exact Nat.ne_of_gt (pkl BK364.out) : gb366 ≠ gb364))
    clear BK364 HB; have BK364 := n0_; have HB := n1_; have BK366 := n2_; have GW366 := n3_; have GE366 := n4_; have NB364_366 := n5_; have NB366_364 := n6_; clear n0_ n1_ n2_ n3_ n4_ n5_ n6_ hb hbox hg
    refine hK.out _ _ trivial (fun hHeld => ?_)
    clear hK K
    refine norm_ (a' := ?_) ?_ ?_
    rotate_left
    ·show Act.put _ (some 5) _ = _
     exact pA
    refine one_ (i := 8) (N := none) (bm 10 511) rfl rfl (one_of HT_.out (by kernel_rfl)) (by decide) (fun K hK => ?_)
    have hs23 : w22.cell? ⟨gb366, 0, none⟩ = some (.string (⟨#[]⟩ : ByteArray)) := cz0 BK366.out
    have hfs23 := blk_frozen BK366.out 0
    have hns23_0 := NB364_366.out
    have hms23_0 := NB366_364.out
    have hs24 : w22.cell? ⟨gb366, 1, none⟩ = some (.int .i64 0) := cz1 BK366.out
    have hfs24 := blk_frozen BK366.out 1
    have hns24_0 := NB364_366.out
    have hms24_0 := NB366_364.out
    refine skip_ (w1 := ?_) ?hw rfl ?_ ?_; (case hw => kernel_rfl)
    rotate_left
    ·go_simp
     rfl
    refine hK.out _ _ trivial (fun hHeld => ?_)
    clear hK K
    refine pure_ (i := 9) (N := some 6) (v := ?_) (a' := ?_) (bm 10 1023) rfl rfl (any_of HT_.out (by kernel_rfl)) (fun _ _ _ h => h) (Or.inl ⟨by kernel_rfl, ?_⟩) ?_ ?_
    rotate_left
    ·intro w'
     go_simp
     with_reducible rfl
    rotate_left
    ·exact pA
    refine done_ (done_of HT_.out (by kernel_rfl)) ?_
    go_upto_if 24 with (first | ((with_reducible refine gate_callee (f := 43) rfl ?_); refine goesL_ (some 24) rfl rfl Tryd.func43 (by kernel_rfl) rfl #[.string ji8, .string (⟨#[46]⟩ : ByteArray)] rfl (by (try simp only [List.map_toArray, List.map_cons, List.map_nil]); first | done | (simp only [hji8]; rfl) | rfl | (simp only [List.length_drop, List.length_take]; rfl)) ?_; (with_reducible refine (strings_HasPrefix.calls ji8 (⟨#[46]⟩ : ByteArray) t367 _ A18.out).mono ?_); rintro e w' ⟨rfl, ⟨nd, rfl⟩⟩; refine ⟨_, rfl, ?_⟩))
    (try simp only [Act.put, List.setIfInBounds_toArray, List.set_cons_zero, List.set_cons_succ])
    go_cut [6] (fun v6 wc => ∃ (kq : Nat) (x6_18 : ByteArray) (x365000_18 : ByteArray) (x365001_18 : Int) (x367000_18 : ByteArray) (x367001_18 : Int), v6 = .string x6_18 ∧ Aside0 (dec_cut.j0 kq x6_18 x367000_18 x367001_18 = some (r1, r2, r3)) ∧ Aside0 (kq ≤ k) ∧ Aside0 (wc.heap[gb364]? = some (.cells #[.string x365000_18, .int .i64 x365001_18] 47 (0, 0))) ∧ Aside0 (wc.heap[gb366]? = some (.cells #[.string x367000_18, .int .i64 x367001_18] 47 (0, 0))) ∧ Aside0 (Below w.heap.size w wc))
    case first =>
     have H := HC19.out
     clear HC19
     by_cases c25 : t367 = true
     ·subst c25
      rw [if_pos rfl] at H
      by_cases c26 : 1 ≤ ((ji8).size : Int)
      ·rw [if_pos c26] at H
       have c26b0 := eq_true c26
       have c26b1 : decide (1 ≤ ((ji8).size : Int)) = true := decide_eq_true c26
       clear c26
       obtain ⟨ji27, hji27⟩ : ∃ j_ : ByteArray, ((ji8).extract 1 (ji8).size) = j_ := ⟨_, rfl⟩
       replace H : ((dec_digits.f k (ji27)).bind fun t368 => (if t368 = 0 then (some (ji5, 0, false)) else (if 1 ≤ (wrap64 (1 + t368)) then (if (wrap64 (1 + t368)) ≤ ((ji8).size : Int) then (if (ji5).size + ((ji8).extract 1 ((wrap64 (1 + t368)) : Int).toNat).size ≤ 9223372036854775807 then (if 0 ≤ (wrap64 (1 + t368)) then (dec_cut.j0 k ((ji8).extract ((wrap64 (1 + t368)) : Int).toNat (ji8).size) ((ji5) ++ ((ji8).extract 1 ((wrap64 (1 + t368)) : Int).toNat)) (wrap64 (-t368))) else (none)) else (none)) else (none)) else (none)))) = some (r1, r2, r3) := by first | (rw [hji27] at H; exact H) | (simp only [hji27] at H ⊢; exact H) | exact H
       replace H := Option.bind_eq_some_iff.mp H
       obtain ⟨t368, A280, H⟩ := H
       try dsimp only at H
       have A28 := am A280
       clear A280
       by_cases c29 : t368 = 0
       ·rw [if_pos c29] at H
        have c29b0 : (t368 == 0) = true := beq_iff_eq.mpr c29
        have c29b1 : (t368 != 0) = false := bne_eq_false_iff_eq.mpr c29
        clear c29
        (first | rw [c29b0] | (simp only [i64_w, i32_w]; rw [c29b0]) | rw [c29b1] | (simp only [i64_w, i32_w]; rw [c29b1]) | skip)
        simp only [Option.some.injEq, Prod.mk.injEq] at H
        obtain ⟨rfl, rfl, rfl⟩ := H
        go_wp2_with (first | ((with_reducible refine gate_callee (f := 42) rfl ?_); refine goesL_ (some 27) rfl rfl Tryd.func42 (by kernel_rfl) rfl #[.string ji27] rfl (by (try simp only [List.map_toArray, List.map_cons, List.map_nil]); first | done | (simp only [hji27]; rfl) | rfl | (simp only [List.length_drop, List.length_take]; rfl)) ?_; (with_reducible refine (dec_digits.calls k ji27 t368 _ A28.out).mono ?_); rintro e w' ⟨rfl, ⟨nd, rfl⟩⟩; refine ⟨_, rfl, ?_⟩; have hnb30 := NB366_364.out; have hnc30 := NB364_366.out; have q31 := cf2 BK366.out; have q32 := cf2 BK364.out))
        refine bodyPost_ret (results_ct rfl _ _ gb364 47 #[.string ji5, .int .i64 0] (0, 0) _ rfl (by (with_reducible repeat (first | refine blk_drewN ?_ _ | refine blk_drew ?_ | refine blk_alloc ?_ _)); refine blk_put (cs := #[.string ji5, .int .i64 0]) ?_ 1 _ rfl; (with_reducible repeat (first | refine blk_drewN ?_ _ | refine blk_drew ?_ | refine blk_alloc ?_ _)); refine blk_put (cs := #[.string (⟨#[]⟩ : ByteArray), .int .i64 0]) ?_ 0 _ rfl; (with_reducible repeat (first | refine blk_drewN ?_ _ | refine blk_drew ?_ | refine blk_alloc ?_ _)); refine blk_far ?_ NB364_366.out _; (with_reducible repeat (first | refine blk_drewN ?_ _ | refine blk_drew ?_ | refine blk_alloc ?_ _)); refine blk_far ?_ NB364_366.out _; (with_reducible repeat (first | refine blk_drewN ?_ _ | refine blk_drew ?_ | refine blk_alloc ?_ _)); exact BK364.out) Tryd.underlying47 rfl (by kernel_rfl)) rfl ?_
        exact ⟨by first | rfl | (simp [errW_none, errW_some] <;> rfl) | (simp only [← hji5, ← hji8, ← hji27]; first | rfl | (simp [errW_none, errW_some] <;> rfl)) | (simp [*, errW_none, errW_some] <;> rfl), pB⟩
       ·rw [if_neg c29] at H
        have c29b0 : (t368 == 0) = false := beq_eq_false_iff_ne.mpr c29
        have c29b1 : (t368 != 0) = true := bne_iff_ne.mpr c29
        (first | rw [c29b0] | (simp only [i64_w, i32_w]; rw [c29b0]) | rw [c29b1] | (simp only [i64_w, i32_w]; rw [c29b1]) | skip)
        by_cases c33 : 1 ≤ (wrap64 (1 + t368))
        ·rw [if_pos c33] at H
         have c33b0 := eq_true c33
         have c33b1 : decide (1 ≤ (wrap64 (1 + t368))) = true := decide_eq_true c33
         by_cases c34 : (wrap64 (1 + t368)) ≤ ((ji8).size : Int)
         ·rw [if_pos c34] at H
          have c34b0 := eq_true c34
          have c34b1 : decide ((wrap64 (1 + t368)) ≤ ((ji8).size : Int)) = true := decide_eq_true c34
          obtain ⟨ji35, hji35⟩ : ∃ j_ : ByteArray, ((ji8).extract 1 ((wrap64 (1 + t368)) : Int).toNat) = j_ := ⟨_, rfl⟩
          replace H : (if (ji5).size + (ji35).size ≤ 9223372036854775807 then (if 0 ≤ (wrap64 (1 + t368)) then (dec_cut.j0 k ((ji8).extract ((wrap64 (1 + t368)) : Int).toNat (ji8).size) ((ji5) ++ (ji35)) (wrap64 (-t368))) else (none)) else (none)) = some (r1, r2, r3) := by first | (rw [hji35] at H; exact H) | (simp only [hji35] at H ⊢; exact H) | exact H
          (try rw [hji35] at A28)
          by_cases c36 : (ji5).size + (ji35).size ≤ 9223372036854775807
          ·rw [if_pos c36] at H
           have c36b0 := eq_true c36
           have c36b1 : decide ((ji5).size + (ji35).size ≤ 9223372036854775807) = true := decide_eq_true c36
           try have c36b2 : (9223372036854775807 < (ji5).size + (ji35).size) = False := eq_false (Nat.not_lt.2 c36)
           obtain ⟨ji37, hji37⟩ : ∃ j_ : Int, (wrap64 (1 + t368)) = j_ := ⟨_, rfl⟩
           replace H : (if 0 ≤ (ji37) then (dec_cut.j0 k ((ji8).extract ((ji37) : Int).toNat (ji8).size) ((ji5) ++ (ji35)) (wrap64 (-t368))) else (none)) = some (r1, r2, r3) := by first | (rw [hji37] at H; exact H) | (simp only [hji37] at H ⊢; exact H)
           (try rw [hji37] at hji35)
           (try rw [hji37] at c33b0)
           (try rw [hji37] at c33b1)
           (try rw [hji37] at c33)
           (try rw [hji37] at c34b0)
           (try rw [hji37] at c34b1)
           (try rw [hji37] at c34)
           (try rw [hji37] at A28)
           have hji37w : (IntKind.i64.wrap (1 + t368)) = ji37 := (i64_w _).trans hji37
           by_cases c38 : 0 ≤ (ji37)
           ·rw [if_pos c38] at H
            have c38b0 := eq_true c38
            have c38b1 : decide (0 ≤ (ji37)) = true := decide_eq_true c38
            clear c38
            have c39b0 := eq_true (pD : (ji37) ≤ ((ji8).size : Int))
            obtain ⟨ji40, hji40⟩ : ∃ j_ : ByteArray, ((ji8).extract ((ji37) : Int).toNat (ji8).size) = j_ := ⟨_, rfl⟩
            replace H : (dec_cut.j0 k ji40 ((ji5) ++ (ji35)) (wrap64 (-t368))) = some (r1, r2, r3) := by first | (rw [hji40] at H; exact H) | (simp only [hji40] at H ⊢; exact H) | exact H
            (try rw [hji40] at A28)
            have H' := am H
            clear H
            try go_wp2_with (first | ((with_reducible refine gate_callee (f := 42) rfl ?_); refine goesL_ (some 27) rfl rfl Tryd.func42 (by kernel_rfl) rfl #[.string ji27] rfl (by (try simp only [List.map_toArray, List.map_cons, List.map_nil]); first | done | (simp only [hji27]; rfl) | rfl | (simp only [List.length_drop, List.length_take]; rfl)) ?_; (with_reducible refine (dec_digits.calls k ji27 t368 _ A28.out).mono ?_); rintro e w' ⟨rfl, ⟨nd, rfl⟩⟩; refine ⟨_, rfl, ?_⟩))
            have n0_ : Aside0 (((w22.setCell ⟨gb366, 0, none⟩ (.string ji5)).setCell ⟨gb366, 1, none⟩ (.int .i64 0)).heap[gb364]? = some (.cells #[.string (⟨#[]⟩ : ByteArray), .int .i64 0] 47 (0, 0))) := ⟨by (with_reducible repeat (first | refine blk_drewN ?_ _ | refine blk_drew ?_ | refine blk_alloc ?_ _)); refine blk_far ?_ NB364_366.out _; (with_reducible repeat (first | refine blk_drewN ?_ _ | refine blk_drew ?_ | refine blk_alloc ?_ _)); refine blk_far ?_ NB364_366.out _; (with_reducible repeat (first | refine blk_drewN ?_ _ | refine blk_drew ?_ | refine blk_alloc ?_ _)); exact BK364.out⟩
            have n1_ : Aside0 (((w22.setCell ⟨gb366, 0, none⟩ (.string ji5)).setCell ⟨gb366, 1, none⟩ (.int .i64 0)).heap[gb366]? = some (.cells #[.string ji5, .int .i64 0] 47 (0, 0))) := ⟨by (with_reducible repeat (first | refine blk_drewN ?_ _ | refine blk_drew ?_ | refine blk_alloc ?_ _)); refine blk_put (cs := #[.string ji5, .int .i64 0]) ?_ 1 _ rfl; (with_reducible repeat (first | refine blk_drewN ?_ _ | refine blk_drew ?_ | refine blk_alloc ?_ _)); refine blk_put (cs := #[.string (⟨#[]⟩ : ByteArray), .int .i64 0]) ?_ 0 _ rfl; (with_reducible repeat (first | refine blk_drewN ?_ _ | refine blk_drew ?_ | refine blk_alloc ?_ _)); exact BK366.out⟩
            have n2_ : Aside0 (Below w.heap.size w ((w22.setCell ⟨gb366, 0, none⟩ (.string ji5)).setCell ⟨gb366, 1, none⟩ (.int .i64 0))) := ⟨pB⟩
            (try clear BK364); (try clear BK366); (try clear HB)
            generalize ((w22.setCell ⟨gb366, 0, none⟩ (.string ji5)).setCell ⟨gb366, 1, none⟩ (.int .i64 0)) = w41 at n0_ n1_ n2_ ⊢
            have BK364 := n0_; have BK366 := n1_; have HB := n2_; clear n0_ n1_ n2_
            (try (rw [drewN_self w41]; generalize hq_ : World.drewN w41 _ = w41; have n0_ : Aside0 (w41.heap[gb364]? = some (.cells #[.string (⟨#[]⟩ : ByteArray), .int .i64 0] 47 (0, 0))) := ⟨by rw [← hq_]; exact (pK BK364.out)⟩; have n1_ : Aside0 (w41.heap[gb366]? = some (.cells #[.string ji5, .int .i64 0] 47 (0, 0))) := ⟨by rw [← hq_]; exact (pK BK366.out)⟩; have n2_ : Aside0 (Below w.heap.size w w41) := ⟨by rw [← hq_]; exact pB⟩; clear BK364 BK366 HB hq_; have BK364 := n0_; have BK366 := n1_; have HB := n2_; clear n0_ n1_ n2_))
            replace BK364 := am (blk_drew BK364.out)
            replace BK366 := am (blk_drew BK366.out)
            replace HB := am (below_drew1 HB.out)
            refine start_ (n := 18) (S := fun w' => w'.cell? ⟨gb366, 0, none⟩ = some (.string ji5) ∧ w'.cell? ⟨gb366, 1, none⟩ = some (.int .i64 0)) (ds := [14, 16]) (bm 18 0) (by kernel_rfl) rfl rfl ⟨cz0 BK366.out, cz1 BK366.out⟩ (fun hHeld => ?_); refine with_tabW dec_cut.tab9 dec_cut.bits9 (fun HT_ HW_ => ?_)
            generalize w41.drew = w42 at BK364 BK366 HB hHeld ⊢
            refine pure_ (i := 0) (N := some 31) (v := ?_) (a' := ?_) (bm 18 1) rfl rfl (any_of HT_.out (by kernel_rfl)) (fun _ _ _ h => h) (Or.inl ⟨by kernel_rfl, ?_⟩) ?_ ?_
            rotate_left
            ·intro w'
             go_simp
             with_reducible rfl
            rotate_left
            ·exact pA
            refine pure_ (i := 2) (N := some 33) (v := ?_) (a' := ?_) (bm 18 5) rfl rfl (any_of HT_.out (by kernel_rfl)) (fun _ _ _ h => h) (Or.inl ⟨by kernel_rfl, ?_⟩) ?_ ?_
            rotate_left
            ·intro w'
             go_simp
             with_reducible rfl
            rotate_left
            ·exact pA
            refine pure_ (i := 3) (N := some 34) (v := ?_) (a' := ?_) (bm 18 13) rfl rfl (any_of HT_.out (by kernel_rfl)) (fun _ _ _ h => h) (Or.inl ⟨by kernel_rfl, ?_⟩) ?_ ?_
            rotate_left
            ·intro w'
             go_simp
             with_reducible rfl
            rotate_left
            ·exact pA
            refine pure_ (i := 4) (N := some 35) (v := ?_) (a' := ?_) (bm 18 29) rfl rfl (any_of HT_.out (by kernel_rfl)) (fun _ _ _ h => h) (Or.inl ⟨by kernel_rfl, ?_⟩) ?_ ?_
            rotate_left
            ·intro w'
             go_simp
             with_reducible rfl
            rotate_left
            ·exact pA
            refine pure_ (i := 5) (N := some 36) (v := ?_) (a' := ?_) (bm 18 61) rfl rfl (any_of HT_.out (by kernel_rfl)) (fun _ _ _ h => h) (Or.inl ⟨by kernel_rfl, ?_⟩) ?_ ?_
            rotate_left
            ·intro w'
             go_simp
             with_reducible rfl
            rotate_left
            ·exact pA
            refine pure_ (i := 7) (N := some 38) (v := ?_) (a' := ?_) (bm 18 189) rfl rfl (any_of HT_.out (by kernel_rfl)) (fun _ _ _ h => h) (Or.inl ⟨by kernel_rfl, ?_⟩) ?_ ?_
            rotate_left
            ·intro w'
             go_simp
             with_reducible rfl
            rotate_left
            ·exact pA
            refine pure_ (i := 8) (N := some 39) (v := ?_) (a' := ?_) (bm 18 445) rfl rfl (any_of HT_.out (by kernel_rfl)) (fun _ _ _ h => h) (Or.inl ⟨by kernel_rfl, ?_⟩) ?_ ?_
            rotate_left
            ·intro w'
             go_simp
             with_reducible rfl
            rotate_left
            ·exact pA
            refine pure_ (i := 9) (N := some 40) (v := ?_) (a' := ?_) (bm 18 957) rfl rfl (any_of HT_.out (by kernel_rfl)) (fun _ _ _ h => h) (Or.inl ⟨by kernel_rfl, ?_⟩) ?_ ?_
            rotate_left
            ·intro w'
             go_simp
             with_reducible rfl
            rotate_left
            ·exact pA
            refine pure_ (i := 10) (N := some 41) (v := ?_) (a' := ?_) (bm 18 1981) rfl rfl (any_of HT_.out (by kernel_rfl)) (fun _ _ _ h => h) (Or.inl ⟨by kernel_rfl, ?_⟩) ?_ ?_
            rotate_left
            ·intro w'
             go_simp
             with_reducible rfl
            rotate_left
            ·exact pA
            refine pure_ (i := 11) (N := some 42) (v := ?_) (a' := ?_) (bm 18 4029) rfl rfl (any_of HT_.out (by kernel_rfl)) (fun _ _ _ h => h) (Or.inl ⟨by kernel_rfl, ?_⟩) ?_ ?_
            rotate_left
            ·intro w'
             go_simp
             with_reducible rfl
            rotate_left
            ·exact pA
            refine pure_ (i := 12) (N := some 43) (v := ?_) (a' := ?_) (bm 18 8125) rfl rfl (any_of HT_.out (by kernel_rfl)) (fun _ _ _ h => h) (Or.inl ⟨by kernel_rfl, ?_⟩) ?_ ?_
            rotate_left
            ·intro w'
             go_simp
             with_reducible rfl
            rotate_left
            ·exact pA
            refine take_ (i := 1) (N := some 32) (v := ?_) (a' := ?_) (bm 18 8127) rfl rfl (take_ofW HT_.out HW_.out (by kernel_rfl)) (fun _ _ _ h => h) (Or.inl ⟨by kernel_rfl, ?_⟩) hHeld ?_ ?_
            rotate_left
            ·rintro w' ⟨s0, s1⟩
             go_simp
             with_reducible rfl
            rotate_left
            ·exact pA
            refine pure_ (i := 6) (N := some 37) (v := ?_) (a' := ?_) (bm 18 8191) rfl rfl (any_of HT_.out (by kernel_rfl)) (fun _ _ _ h => h) (Or.inl ⟨by kernel_rfl, ?_⟩) ?_ ?_
            rotate_left
            ·intro w'
             go_simp
             with_reducible rfl
            rotate_left
            ·exact pA
            refine pure_ (i := 13) (N := some 44) (v := ?_) (a' := ?_) (bm 18 16383) rfl rfl (any_of HT_.out (by kernel_rfl)) (fun _ _ _ h => h) (Or.inl ⟨by kernel_rfl, ?_⟩) ?_ ?_
            rotate_left
            ·intro w'
             go_simp
             with_reducible rfl
            rotate_left
            ·exact pA
            refine last_ (i := 14) (N := none) (bm 18 32767) rfl rfl (one_of HT_.out (by kernel_rfl)) (by decide) (fun K hK => ?_)
            have hs43 : w42.cell? ⟨gb366, 0, none⟩ = some (.string ji5) := cz0 BK366.out
            have hfs43 := blk_frozen BK366.out 0
            have hns43_0 := NB364_366.out
            have hms43_0 := NB366_364.out
            refine skip_ (w1 := ?_) ?hw rfl ?_ ?_; (case hw => kernel_rfl)
            rotate_left
            ·go_simp
             rfl
            refine hK.out _ _ ?_
            clear hK K
            refine pure_ (i := 15) (N := some 45) (v := ?_) (a' := ?_) (bm 18 65535) rfl rfl (any_of HT_.out (by kernel_rfl)) (fun _ _ _ h => h) (Or.inl ⟨by kernel_rfl, ?_⟩) ?_ ?_
            rotate_left
            ·intro w'
             go_simp
             with_reducible rfl
            rotate_left
            ·exact pA
            refine last_ (i := 16) (N := none) (bm 18 131071) rfl rfl (one_of HT_.out (by kernel_rfl)) (by decide) (fun K hK => ?_)
            have hs44 : w42.cell? ⟨gb366, 1, none⟩ = some (.int .i64 0) := cz1 BK366.out
            have hfs44 := blk_frozen BK366.out 1
            have hns44_0 := NB364_366.out
            have hms44_0 := NB366_364.out
            refine skip_ (w1 := ?_) ?hw rfl ?_ ?_; (case hw => kernel_rfl)
            rotate_left
            ·go_simp
             rfl
            refine hK.out _ _ ?_
            clear hK K
            refine pure_ (i := 17) (N := some 6) (v := ?_) (a' := ?_) (bm 18 262143) rfl rfl (any_of HT_.out (by kernel_rfl)) (fun _ _ _ h => h) (Or.inl ⟨by kernel_rfl, ?_⟩) ?_ ?_
            rotate_left
            ·intro w'
             go_simp
             with_reducible rfl
            rotate_left
            ·exact pA
            refine done_ (done_of HT_.out (by kernel_rfl)) ?_
            try go_wp2
            go_meet
            case rel => exact ⟨_, (ji40), ((⟨#[]⟩ : ByteArray)), (0), ((ji5) ++ (ji35)), (wrap64 (-t368)), (by first | rfl | (simp; done) | (simp only [← hji40] <;> (first | rfl | simp)) | (simp [*]; done)), H', ⟨by first | omega | exact Nat.le_refl _⟩, ⟨by (with_reducible repeat (first | refine blk_drewN ?_ _ | refine blk_drew ?_ | refine blk_alloc ?_ _)); refine blk_far ?_ NB364_366.out _; (with_reducible repeat (first | refine blk_drewN ?_ _ | refine blk_drew ?_ | refine blk_alloc ?_ _)); refine blk_far ?_ NB364_366.out _; (with_reducible repeat (first | refine blk_drewN ?_ _ | refine blk_drew ?_ | refine blk_alloc ?_ _)); exact BK364.out⟩, ⟨by (with_reducible repeat (first | refine blk_drewN ?_ _ | refine blk_drew ?_ | refine blk_alloc ?_ _)); refine blk_put (cs := #[.string ((ji5) ++ (ji35)), .int .i64 0]) ?_ 1 _ rfl; (with_reducible repeat (first | refine blk_drewN ?_ _ | refine blk_drew ?_ | refine blk_alloc ?_ _)); refine blk_put (cs := #[.string ji5, .int .i64 0]) ?_ 0 _ rfl; (with_reducible repeat (first | refine blk_drewN ?_ _ | refine blk_drew ?_ | refine blk_alloc ?_ _)); exact BK366.out⟩, ⟨pB⟩⟩
           ·rw [if_neg c38] at H
            exact absurd H (by simp)
          ·rw [if_neg c36] at H
           exact absurd H (by simp)
         ·rw [if_neg c34] at H
          exact absurd H (by simp)
        ·rw [if_neg c33] at H
         exact absurd H (by simp)
      ·rw [if_neg c26] at H
       exact absurd H (by simp)
     ·replace c25 := Bool.eq_false_iff.mpr c25
      subst c25
      rw [if_neg (show ¬ (false = true) by decide)] at H
      have H' := am H
      clear H
      go_wp2
      go_meet
      case rel => exact ⟨_, (ji8), ((⟨#[]⟩ : ByteArray)), (0), (ji5), (0), (by first | rfl | (simp; done) | (simp only [← hji8] <;> (first | rfl | simp)) | (simp [*]; done)), H', ⟨by first | omega | exact Nat.le_refl _⟩, ⟨by (with_reducible repeat (first | refine blk_drewN ?_ _ | refine blk_drew ?_ | refine blk_alloc ?_ _)); refine blk_far ?_ NB364_366.out _; (with_reducible repeat (first | refine blk_drewN ?_ _ | refine blk_drew ?_ | refine blk_alloc ?_ _)); refine blk_far ?_ NB364_366.out _; (with_reducible repeat (first | refine blk_drewN ?_ _ | refine blk_drew ?_ | refine blk_alloc ?_ _)); exact BK364.out⟩, ⟨by (with_reducible repeat (first | refine blk_drewN ?_ _ | refine blk_drew ?_ | refine blk_alloc ?_ _)); refine blk_put (cs := #[.string ji5, .int .i64 0]) ?_ 1 _ rfl; (with_reducible repeat (first | refine blk_drewN ?_ _ | refine blk_drew ?_ | refine blk_alloc ?_ _)); refine blk_put (cs := #[.string (⟨#[]⟩ : ByteArray), .int .i64 0]) ?_ 0 _ rfl; (with_reducible repeat (first | refine blk_drewN ?_ _ | refine blk_drew ?_ | refine blk_alloc ?_ _)); exact BK366.out⟩, ⟨pB⟩⟩
    case rest =>
     clear HC19
     try clear c1
     try clear c2
     try clear p2
     try clear c3
     try clear c3b0
     try clear c3b1
     try clear c4
     try clear c4b0
     try clear c4b1
     try clear c6
     try clear c6b0
     try clear p6
     try clear c7
     try clear c7b0
     try clear c9
     try clear c9b0
     try clear c9b1
     try clear c15
     try clear c17
     try clear c25
     try clear c26
     try clear c26b0
     try clear c26b1
     try clear c29
     try clear c29b0
     try clear c29b1
     try clear c30
     try clear c33
     try clear c33b0
     try clear c33b1
     try clear c34
     try clear c34b0
     try clear c34b1
     try clear c36
     try clear c36b0
     try clear c36b1
     try clear c36b2
     try clear c38
     try clear c38b0
     try clear c38b1
     try clear c39
     try clear c39b0
     try clear c42
     try clear c43
     try clear q16 q17 q31 q32
     obtain ⟨kq, x6_18, x365000_18, x365001_18, x367000_18, x367001_18, rfl, HA, HJ18, BK364, BK366, HB⟩ := hcut
     cases kq with
     | zero => exact absurd HA.out (by simp [dec_cut.j0])
     | succ kj18 =>
      have H := HA.out
      clear HA
      simp only [dec_cut.j0] at H
      by_cases c45 : x6_18.toList = ([] : List UInt8)
      ·rw [if_pos c45] at H
       have c45b0 : (x6_18.toList == ([] : List UInt8)) = true := beq_iff_eq.mpr c45
       have c45b1 : (x6_18.toList != ([] : List UInt8)) = false := bne_eq_false_iff_eq.mpr c45
       clear c45
       simp only [Option.some.injEq, Prod.mk.injEq] at H
       obtain ⟨rfl, rfl, rfl⟩ := H
       have hnb46 := NB366_364.out
       have hnc46 := NB364_366.out
       have q47 := cf2 BK366.out
       have q48 := cf2 BK364.out
       go_wp2
       refine bodyPost_ret (results_ct rfl _ _ gb364 47 #[.string x367000_18, .int .i64 x367001_18] (0, 0) _ rfl (by (with_reducible repeat (first | refine blk_drewN ?_ _ | refine blk_drew ?_ | refine blk_alloc ?_ _)); refine blk_put (cs := #[.string x367000_18, .int .i64 x365001_18]) ?_ 1 _ rfl; (with_reducible repeat (first | refine blk_drewN ?_ _ | refine blk_drew ?_ | refine blk_alloc ?_ _)); refine blk_put (cs := #[.string x365000_18, .int .i64 x365001_18]) ?_ 0 _ rfl; (with_reducible repeat (first | refine blk_drewN ?_ _ | refine blk_drew ?_ | refine blk_alloc ?_ _)); exact BK364.out) Tryd.underlying47 rfl (by kernel_rfl)) rfl ?_
       exact ⟨by first | rfl | (simp [errW_none, errW_some] <;> rfl) | (simp only [← hji5, ← hji8]; first | rfl | (simp [errW_none, errW_some] <;> rfl)) | (simp [*, errW_none, errW_some] <;> rfl), pB⟩
      ·rw [if_neg c45] at H
       have c45b0 : (x6_18.toList == ([] : List UInt8)) = false := beq_eq_false_iff_ne.mpr c45
       have c45b1 : (x6_18.toList != ([] : List UInt8)) = true := bne_iff_ne.mpr c45
       have HC49 := am H
       clear H
       go_upto_region 12 with (fail)
       go_cut [56] (fun v56 wc => ∃ (kq : Nat) (x56_48 : Bool), v56 = .bool x56_48 ∧ Aside0 (dec_cut.j1 kq x6_18 x56_48 x367000_18 x367001_18 = some (r1, r2, r3)) ∧ Aside0 (kq ≤ kj18) ∧ Aside0 (wc.heap[gb364]? = some (.cells #[.string x365000_18, .int .i64 x365001_18] 47 (0, 0))) ∧ Aside0 (wc.heap[gb366]? = some (.cells #[.string x367000_18, .int .i64 x367001_18] 47 (0, 0))) ∧ Aside0 (Below w.heap.size w wc))
       case first =>
        have H := HC49.out
        clear HC49
        by_cases c50 : 0 < (x6_18.size : Int)
        ·rw [if_pos c50] at H
         have c50b0 : decide (0 < (x6_18.size : Int)) = true := decide_eq_true c50
         have c50b1 : decide (0 < x6_18.size) = true := decide_eq_true (by omega)
         clear c50
         (first | rw [c50b0] | (simp only [i64_w, i32_w]; rw [c50b0]) | rw [c50b1] | (simp only [i64_w, i32_w]; rw [c50b1]) | skip)
         by_cases c52 : (bt x6_18 0) = 101
         ·rw [if_pos c52] at H
          have c52b0 : ((bt x6_18 0) == 101) = true := beq_iff_eq.mpr c52
          have c52b1 : ((bt x6_18 0) != 101) = false := bne_eq_false_iff_eq.mpr c52
          clear c52
          have H' := am H
          clear H
          have p51 : 0 ≤ (0 : Int) := (by omega)
          have q51 : 0 < x6_18.size := (by have : (0 : Int) < (x6_18.size : Int) := pD; omega)
          have hx51 : ∀ h : 0 < x6_18.size, ((x6_18[0]'h).toNat : Int) = bt x6_18 0 := bt_at x6_18 0
          clear p51
          have qi51 : (0 < (x6_18.size : Int)) = True := eq_true pD
          replace q51 := eq_true q51
          go_wp2
          go_meet
          case rel => exact ⟨_, (false), (by first | rfl | (simp; done) | (simp [*]; done)), H', ⟨by have := HJ18.out; first | omega | exact Nat.le_refl _⟩, ⟨by (with_reducible repeat (first | refine blk_drewN ?_ _ | refine blk_drew ?_ | refine blk_alloc ?_ _)); exact BK364.out⟩, ⟨by (with_reducible repeat (first | refine blk_drewN ?_ _ | refine blk_drew ?_ | refine blk_alloc ?_ _)); exact BK366.out⟩, ⟨pB⟩⟩
         ·rw [if_neg c52] at H
          have c52b0 : ((bt x6_18 0) == 101) = false := beq_eq_false_iff_ne.mpr c52
          have c52b1 : ((bt x6_18 0) != 101) = true := bne_iff_ne.mpr c52
          have H' := am H
          clear H
          have p51 : 0 ≤ (0 : Int) := (by omega)
          have q51 : 0 < x6_18.size := (by have : (0 : Int) < (x6_18.size : Int) := pD; omega)
          have hx51 : ∀ h : 0 < x6_18.size, ((x6_18[0]'h).toNat : Int) = bt x6_18 0 := bt_at x6_18 0
          clear p51
          have qi51 : (0 < (x6_18.size : Int)) = True := eq_true pD
          replace q51 := eq_true q51
          have p53 : 0 ≤ (0 : Int) := (by omega)
          have q53 : 0 < x6_18.size := (by have : (0 : Int) < (x6_18.size : Int) := pD; omega)
          have hx53 : ∀ h : 0 < x6_18.size, ((x6_18[0]'h).toNat : Int) = bt x6_18 0 := bt_at x6_18 0
          clear p53
          have qi53 : (0 < (x6_18.size : Int)) = True := eq_true pD
          replace q53 := eq_true q53
          go_wp2
          go_meet
          case rel => exact ⟨_, (((bt x6_18 0) != 69)), (by first | rfl | (simp; done) | (simp [*]; done)), H', ⟨by have := HJ18.out; first | omega | exact Nat.le_refl _⟩, ⟨by (with_reducible repeat (first | refine blk_drewN ?_ _ | refine blk_drew ?_ | refine blk_alloc ?_ _)); exact BK364.out⟩, ⟨by (with_reducible repeat (first | refine blk_drewN ?_ _ | refine blk_drew ?_ | refine blk_alloc ?_ _)); exact BK366.out⟩, ⟨pB⟩⟩
        ·rw [if_neg c50] at H
         exact absurd H (by simp)
       case rest =>
        clear HC49
        try clear c1
        try clear c2
        try clear p2
        try clear c3
        try clear c3b0
        try clear c3b1
        try clear c4
        try clear c4b0
        try clear c4b1
        try clear c5
        try clear p5
        try clear q5
        try clear hx5
        try clear qi5
        try clear c6
        try clear c6b0
        try clear p6
        try clear c7
        try clear c7b0
        try clear c9
        try clear c9b0
        try clear c9b1
        try clear c15
        try clear c17
        try clear c25
        try clear c26
        try clear c26b0
        try clear c26b1
        try clear c29
        try clear c29b0
        try clear c29b1
        try clear c30
        try clear c33
        try clear c33b0
        try clear c33b1
        try clear c34
        try clear c34b0
        try clear c34b1
        try clear c36
        try clear c36b0
        try clear c36b1
        try clear c36b2
        try clear c38
        try clear c38b0
        try clear c38b1
        try clear c39
        try clear c39b0
        try clear c42
        try clear c43
        try clear c45
        try clear c45b0
        try clear c45b1
        try clear c46
        try clear c50
        try clear c50b0
        try clear c50b1
        try clear p51
        try clear q51
        try clear hx51
        try clear qi51
        try clear c52
        try clear c52b0
        try clear c52b1
        try clear p53
        try clear q53
        try clear hx53
        try clear qi53
        try clear q16 q17 q31 q32 q47 q48
        try clear p2
        try clear p51
        try clear p53
        try clear p6
        try clear q51
        try clear q53
        obtain ⟨kq, x56_48, rfl, HA, HJ48, BK364, BK366, HB⟩ := hcut
        cases kq with
        | zero => exact absurd HA.out (by simp [dec_cut.j1])
        | succ kj48 =>
         have H := HA.out
         clear HA
         simp only [dec_cut.j1] at H
         by_cases c54 : x56_48 = true
         ·subst c54
          rw [if_pos rfl] at H
          simp only [Option.some.injEq, Prod.mk.injEq] at H
          obtain ⟨rfl, rfl, rfl⟩ := H
          have hnb55 := NB366_364.out
          have hnc55 := NB364_366.out
          have q56 := cf2 BK366.out
          have q57 := cf2 BK364.out
          go_wp2
          refine bodyPost_ret (results_ct rfl _ _ gb364 47 #[.string x367000_18, .int .i64 x367001_18] (0, 0) _ rfl (by (with_reducible repeat (first | refine blk_drewN ?_ _ | refine blk_drew ?_ | refine blk_alloc ?_ _)); refine blk_put (cs := #[.string x367000_18, .int .i64 x365001_18]) ?_ 1 _ rfl; (with_reducible repeat (first | refine blk_drewN ?_ _ | refine blk_drew ?_ | refine blk_alloc ?_ _)); refine blk_put (cs := #[.string x365000_18, .int .i64 x365001_18]) ?_ 0 _ rfl; (with_reducible repeat (first | refine blk_drewN ?_ _ | refine blk_drew ?_ | refine blk_alloc ?_ _)); exact BK364.out) Tryd.underlying47 rfl (by kernel_rfl)) rfl ?_
          exact ⟨by first | rfl | (simp [errW_none, errW_some] <;> rfl) | (simp only [← hji5, ← hji8]; first | rfl | (simp [errW_none, errW_some] <;> rfl)) | (simp [*, errW_none, errW_some] <;> rfl), pB⟩
         ·replace c54 := Bool.eq_false_iff.mpr c54
          subst c54
          rw [if_neg (show ¬ (false = true) by decide)] at H
          by_cases c58 : 1 ≤ (x6_18.size : Int)
          ·rw [if_pos c58] at H
           have c58b0 := eq_true c58
           have c58b1 : decide (1 ≤ (x6_18.size : Int)) = true := decide_eq_true c58
           clear c58
           obtain ⟨ji59, hji59⟩ : ∃ j_ : ByteArray, (x6_18.extract 1 x6_18.size) = j_ := ⟨_, rfl⟩
           replace H : (if (ji59).toList = ([] : List UInt8) then (dec_cut.j2 kj48 ji59 1 false x367000_18 x367001_18) else (if 0 < ((ji59).size : Int) then (if (bt (ji59) 0) = 43 then (dec_cut.j2 kj48 ji59 1 true x367000_18 x367001_18) else (dec_cut.j2 kj48 ji59 1 ((bt (ji59) 0) == 45) x367000_18 x367001_18)) else (none))) = some (r1, r2, r3) := by first | (rw [hji59] at H; exact H) | (simp only [hji59] at H ⊢; exact H) | exact H
           have HC60 := am H
           clear H
           go_upto_region 16 with (fail)
           go_cut [71] (fun v71 wc => ∃ (kq : Nat) (x71_59 : Bool), v71 = .bool x71_59 ∧ Aside0 (dec_cut.j2 kq ji59 1 x71_59 x367000_18 x367001_18 = some (r1, r2, r3)) ∧ Aside0 (kq ≤ kj48) ∧ Aside0 (wc.heap[gb364]? = some (.cells #[.string x365000_18, .int .i64 x365001_18] 47 (0, 0))) ∧ Aside0 (wc.heap[gb366]? = some (.cells #[.string x367000_18, .int .i64 x367001_18] 47 (0, 0))) ∧ Aside0 (Below w.heap.size w wc))
           case first =>
            have H := HC60.out
            clear HC60
            by_cases c61 : (ji59).toList = ([] : List UInt8)
            ·rw [if_pos c61] at H
             have c61b0 : ((ji59).toList == ([] : List UInt8)) = true := beq_iff_eq.mpr c61
             have c61b1 : ((ji59).toList != ([] : List UInt8)) = false := bne_eq_false_iff_eq.mpr c61
             clear c61
             (first | rw [c61b0] | (simp only [i64_w, i32_w]; rw [c61b0]) | rw [c61b1] | (simp only [i64_w, i32_w]; rw [c61b1]) | skip)
             have H' := am H
             clear H
             go_wp2
             go_meet
             case rel => exact ⟨_, (false), (by first | rfl | (simp; done) | (simp [*]; done)), H', ⟨by have := HJ18.out; have := HJ48.out; first | omega | exact Nat.le_refl _⟩, ⟨by (with_reducible repeat (first | refine blk_drewN ?_ _ | refine blk_drew ?_ | refine blk_alloc ?_ _)); exact BK364.out⟩, ⟨by (with_reducible repeat (first | refine blk_drewN ?_ _ | refine blk_drew ?_ | refine blk_alloc ?_ _)); exact BK366.out⟩, ⟨pB⟩⟩
            ·rw [if_neg c61] at H
             have c61b0 : ((ji59).toList == ([] : List UInt8)) = false := beq_eq_false_iff_ne.mpr c61
             have c61b1 : ((ji59).toList != ([] : List UInt8)) = true := bne_iff_ne.mpr c61
             (first | rw [c61b0] | (simp only [i64_w, i32_w]; rw [c61b0]) | rw [c61b1] | (simp only [i64_w, i32_w]; rw [c61b1]) | skip)
             by_cases c62 : 0 < ((ji59).size : Int)
             ·rw [if_pos c62] at H
              have c62b0 : decide (0 < ((ji59).size : Int)) = true := decide_eq_true c62
              have c62b1 : decide (0 < (ji59).size) = true := decide_eq_true (by omega)
              clear c62
              by_cases c64 : (bt (ji59) 0) = 43
              ·rw [if_pos c64] at H
               have c64b0 : ((bt (ji59) 0) == 43) = true := beq_iff_eq.mpr c64
               have c64b1 : ((bt (ji59) 0) != 43) = false := bne_eq_false_iff_eq.mpr c64
               clear c64
               have H' := am H
               clear H
               have p63 : 0 ≤ (0 : Int) := (by omega)
               have q63 : 0 < ji59.size := (by have : (0 : Int) < (ji59.size : Int) := pD; omega)
               have hx63 : ∀ h : 0 < ji59.size, ((ji59[0]'h).toNat : Int) = bt ji59 0 := bt_at ji59 0
               clear p63
               have qi63 : (0 < (ji59.size : Int)) = True := eq_true pD
               replace q63 := eq_true q63
               go_wp2
               go_meet
               case rel => exact ⟨_, (true), (by first | rfl | (simp; done) | (simp [*]; done)), H', ⟨by have := HJ18.out; have := HJ48.out; first | omega | exact Nat.le_refl _⟩, ⟨by (with_reducible repeat (first | refine blk_drewN ?_ _ | refine blk_drew ?_ | refine blk_alloc ?_ _)); exact BK364.out⟩, ⟨by (with_reducible repeat (first | refine blk_drewN ?_ _ | refine blk_drew ?_ | refine blk_alloc ?_ _)); exact BK366.out⟩, ⟨pB⟩⟩
              ·rw [if_neg c64] at H
               have c64b0 : ((bt (ji59) 0) == 43) = false := beq_eq_false_iff_ne.mpr c64
               have c64b1 : ((bt (ji59) 0) != 43) = true := bne_iff_ne.mpr c64
               have H' := am H
               clear H
               have p63 : 0 ≤ (0 : Int) := (by omega)
               have q63 : 0 < ji59.size := (by have : (0 : Int) < (ji59.size : Int) := pD; omega)
               have hx63 : ∀ h : 0 < ji59.size, ((ji59[0]'h).toNat : Int) = bt ji59 0 := bt_at ji59 0
               clear p63
               have qi63 : (0 < (ji59.size : Int)) = True := eq_true pD
               replace q63 := eq_true q63
               have p65 : 0 ≤ (0 : Int) := (by omega)
               have q65 : 0 < ji59.size := (by have : (0 : Int) < (ji59.size : Int) := pD; omega)
               have hx65 : ∀ h : 0 < ji59.size, ((ji59[0]'h).toNat : Int) = bt ji59 0 := bt_at ji59 0
               clear p65
               have qi65 : (0 < (ji59.size : Int)) = True := eq_true pD
               replace q65 := eq_true q65
               go_wp2
               go_meet
               case rel => exact ⟨_, (((bt (ji59) 0) == 45)), (by first | rfl | (simp; done) | (simp only [← hji59] <;> (first | rfl | simp)) | (simp [*]; done)), H', ⟨by have := HJ18.out; have := HJ48.out; first | omega | exact Nat.le_refl _⟩, ⟨by (with_reducible repeat (first | refine blk_drewN ?_ _ | refine blk_drew ?_ | refine blk_alloc ?_ _)); exact BK364.out⟩, ⟨by (with_reducible repeat (first | refine blk_drewN ?_ _ | refine blk_drew ?_ | refine blk_alloc ?_ _)); exact BK366.out⟩, ⟨pB⟩⟩
             ·rw [if_neg c62] at H
              exact absurd H (by simp)
           case rest =>
            clear HC60
            try clear c1
            try clear c2
            try clear p2
            try clear c3
            try clear c3b0
            try clear c3b1
            try clear c4
            try clear c4b0
            try clear c4b1
            try clear c5
            try clear p5
            try clear q5
            try clear hx5
            try clear qi5
            try clear c6
            try clear c6b0
            try clear p6
            try clear q6
            try clear hx6
            try clear qi6
            try clear c7
            try clear c7b0
            try clear c9
            try clear c9b0
            try clear c9b1
            try clear c15
            try clear c17
            try clear c25
            try clear c26
            try clear c26b0
            try clear c26b1
            try clear c29
            try clear c29b0
            try clear c29b1
            try clear c30
            try clear c33
            try clear c33b0
            try clear c33b1
            try clear c34
            try clear c34b0
            try clear c34b1
            try clear c36
            try clear c36b0
            try clear c36b1
            try clear c36b2
            try clear c38
            try clear c38b0
            try clear c38b1
            try clear c39
            try clear c39b0
            try clear c42
            try clear c43
            try clear c45
            try clear c45b0
            try clear c45b1
            try clear c46
            try clear c50
            try clear c50b0
            try clear c50b1
            try clear p51
            try clear q51
            try clear hx51
            try clear qi51
            try clear c52
            try clear c52b0
            try clear c52b1
            try clear p53
            try clear q53
            try clear hx53
            try clear qi53
            try clear c54
            try clear c55
            try clear c58
            try clear c58b0
            try clear c58b1
            try clear c61
            try clear c61b0
            try clear c61b1
            try clear c62
            try clear c62b0
            try clear c62b1
            try clear p63
            try clear q63
            try clear hx63
            try clear qi63
            try clear c64
            try clear c64b0
            try clear c64b1
            try clear p64
            try clear p65
            try clear q65
            try clear hx65
            try clear qi65
            try clear q16 q17 q31 q32 q47 q48 q56 q57
            try clear p2
            try clear p5
            try clear p51
            try clear p53
            try clear p6
            try clear p63
            try clear p65
            try clear q5
            try clear q51
            try clear q53
            try clear q63
            try clear q65
            obtain ⟨kq, x71_59, rfl, HA, HJ59, BK364, BK366, HB⟩ := hcut
            cases kq with
            | zero => exact absurd HA.out (by simp [dec_cut.j2])
            | succ kj59 =>
             have H := HA.out
             clear HA
             simp only [dec_cut.j2] at H
             have HC66 := am H
             clear H
             go_upto_if 71 with (fail)
             go_cut [6, 8] (fun v6 v8 wc => ∃ (kq : Nat) (x6_65 : ByteArray) (x8_65 : Int), v6 = .string x6_65 ∧ v8 = .int .i64 x8_65 ∧ Aside0 (dec_cut.j3 kq x6_65 x8_65 x367000_18 x367001_18 = some (r1, r2, r3)) ∧ Aside0 (kq ≤ kj59) ∧ Aside0 (wc.heap[gb364]? = some (.cells #[.string x365000_18, .int .i64 x365001_18] 47 (0, 0))) ∧ Aside0 (wc.heap[gb366]? = some (.cells #[.string x367000_18, .int .i64 x367001_18] 47 (0, 0))) ∧ Aside0 (Below w.heap.size w wc))
             case first =>
              have H := HC66.out
              clear HC66
              by_cases c67 : x71_59 = true
              ·subst c67
               rw [if_pos rfl] at H
               by_cases c68 : 0 < (ji59.size : Int)
               ·rw [if_pos c68] at H
                have c68b0 : decide (0 < (ji59.size : Int)) = true := decide_eq_true c68
                have c68b1 : decide (0 < ji59.size) = true := decide_eq_true (by omega)
                clear c68
                (first | rw [c68b0] | (simp only [i64_w, i32_w]; rw [c68b0]) | rw [c68b1] | (simp only [i64_w, i32_w]; rw [c68b1]) | skip)
                by_cases c70 : (bt ji59 0) = 45
                ·rw [if_pos c70] at H
                 have c70b0 : ((bt ji59 0) == 45) = true := beq_iff_eq.mpr c70
                 have c70b1 : ((bt ji59 0) != 45) = false := bne_eq_false_iff_eq.mpr c70
                 clear c70
                 by_cases c71 : 1 ≤ (ji59.size : Int)
                 ·rw [if_pos c71] at H
                  have c71b0 := eq_true c71
                  have c71b1 : decide (1 ≤ (ji59.size : Int)) = true := decide_eq_true c71
                  clear c71
                  obtain ⟨ji72, hji72⟩ : ∃ j_ : ByteArray, (ji59.extract 1 ji59.size) = j_ := ⟨_, rfl⟩
                  replace H : (dec_cut.j3 kj59 ji72 (-1) x367000_18 x367001_18) = some (r1, r2, r3) := by first | (rw [hji72] at H; exact H) | (simp only [hji72] at H ⊢; exact H) | exact H
                  have H' := am H
                  clear H
                  have p69 : 0 ≤ (0 : Int) := (by omega)
                  have q69 : 0 < ji59.size := (by have : (0 : Int) < (ji59.size : Int) := pD; omega)
                  have hx69 : ∀ h : 0 < ji59.size, ((ji59[0]'h).toNat : Int) = bt ji59 0 := bt_at ji59 0
                  clear p69
                  have qi69 : (0 < (ji59.size : Int)) = True := eq_true pD
                  replace q69 := eq_true q69
                  go_wp2
                  go_meet
                  case rel => exact ⟨_, (ji72), ((-1)), (by first | rfl | (simp; done) | (simp only [← hji72] <;> (first | rfl | simp)) | (simp [*]; done)), (by first | rfl | (simp; done) | (simp [*]; done)), H', ⟨by have := HJ18.out; have := HJ48.out; have := HJ59.out; first | omega | exact Nat.le_refl _⟩, ⟨by (with_reducible repeat (first | refine blk_drewN ?_ _ | refine blk_drew ?_ | refine blk_alloc ?_ _)); exact BK364.out⟩, ⟨by (with_reducible repeat (first | refine blk_drewN ?_ _ | refine blk_drew ?_ | refine blk_alloc ?_ _)); exact BK366.out⟩, ⟨pB⟩⟩
                 ·rw [if_neg c71] at H
                  exact absurd H (by simp)
                ·rw [if_neg c70] at H
                 have c70b0 : ((bt ji59 0) == 45) = false := beq_eq_false_iff_ne.mpr c70
                 have c70b1 : ((bt ji59 0) != 45) = true := bne_iff_ne.mpr c70
                 by_cases c73 : 1 ≤ (ji59.size : Int)
                 ·rw [if_pos c73] at H
                  have c73b0 := eq_true c73
                  have c73b1 : decide (1 ≤ (ji59.size : Int)) = true := decide_eq_true c73
                  clear c73
                  obtain ⟨ji74, hji74⟩ : ∃ j_ : ByteArray, (ji59.extract 1 ji59.size) = j_ := ⟨_, rfl⟩
                  replace H : (dec_cut.j3 kj59 ji74 1 x367000_18 x367001_18) = some (r1, r2, r3) := by first | (rw [hji74] at H; exact H) | (simp only [hji74] at H ⊢; exact H) | exact H
                  have H' := am H
                  clear H
                  have p69 : 0 ≤ (0 : Int) := (by omega)
                  have q69 : 0 < ji59.size := (by have : (0 : Int) < (ji59.size : Int) := pD; omega)
                  have hx69 : ∀ h : 0 < ji59.size, ((ji59[0]'h).toNat : Int) = bt ji59 0 := bt_at ji59 0
                  clear p69
                  have qi69 : (0 < (ji59.size : Int)) = True := eq_true pD
                  replace q69 := eq_true q69
                  go_wp2
                  go_meet
                  case rel => exact ⟨_, (ji74), (1), (by first | rfl | (simp; done) | (simp only [← hji74] <;> (first | rfl | simp)) | (simp [*]; done)), (by first | rfl | (simp; done) | (simp [*]; done)), H', ⟨by have := HJ18.out; have := HJ48.out; have := HJ59.out; first | omega | exact Nat.le_refl _⟩, ⟨by (with_reducible repeat (first | refine blk_drewN ?_ _ | refine blk_drew ?_ | refine blk_alloc ?_ _)); exact BK364.out⟩, ⟨by (with_reducible repeat (first | refine blk_drewN ?_ _ | refine blk_drew ?_ | refine blk_alloc ?_ _)); exact BK366.out⟩, ⟨pB⟩⟩
                 ·rw [if_neg c73] at H
                  exact absurd H (by simp)
               ·rw [if_neg c68] at H
                exact absurd H (by simp)
              ·replace c67 := Bool.eq_false_iff.mpr c67
               subst c67
               rw [if_neg (show ¬ (false = true) by decide)] at H
               have H' := am H
               clear H
               go_wp2
               go_meet
               case rel => exact ⟨_, (ji59), (1), (by first | rfl | (simp; done) | (simp only [← hji59] <;> (first | rfl | simp)) | (simp [*]; done)), (by first | rfl | (simp; done) | (simp [*]; done)), H', ⟨by have := HJ18.out; have := HJ48.out; have := HJ59.out; first | omega | exact Nat.le_refl _⟩, ⟨by (with_reducible repeat (first | refine blk_drewN ?_ _ | refine blk_drew ?_ | refine blk_alloc ?_ _)); exact BK364.out⟩, ⟨by (with_reducible repeat (first | refine blk_drewN ?_ _ | refine blk_drew ?_ | refine blk_alloc ?_ _)); exact BK366.out⟩, ⟨pB⟩⟩
             case rest =>
              clear HC66
              try clear c1
              try clear c2
              try clear p2
              try clear c3
              try clear c3b0
              try clear c3b1
              try clear c4
              try clear c4b0
              try clear c4b1
              try clear c5
              try clear p5
              try clear q5
              try clear hx5
              try clear qi5
              try clear c6
              try clear c6b0
              try clear p6
              try clear q6
              try clear hx6
              try clear qi6
              try clear c7
              try clear c7b0
              try clear c9
              try clear c9b0
              try clear c9b1
              try clear c15
              try clear c17
              try clear c25
              try clear c26
              try clear c26b0
              try clear c26b1
              try clear c29
              try clear c29b0
              try clear c29b1
              try clear c30
              try clear c33
              try clear c33b0
              try clear c33b1
              try clear c34
              try clear c34b0
              try clear c34b1
              try clear c36
              try clear c36b0
              try clear c36b1
              try clear c36b2
              try clear c38
              try clear c38b0
              try clear c38b1
              try clear c39
              try clear c39b0
              try clear c42
              try clear c43
              try clear c45
              try clear c45b0
              try clear c45b1
              try clear c46
              try clear c50
              try clear c50b0
              try clear c50b1
              try clear p51
              try clear q51
              try clear hx51
              try clear qi51
              try clear c52
              try clear c52b0
              try clear c52b1
              try clear p53
              try clear q53
              try clear hx53
              try clear qi53
              try clear c54
              try clear c55
              try clear c58
              try clear c58b0
              try clear c58b1
              try clear c61
              try clear c61b0
              try clear c61b1
              try clear c62
              try clear c62b0
              try clear c62b1
              try clear p63
              try clear q63
              try clear hx63
              try clear qi63
              try clear c64
              try clear c64b0
              try clear c64b1
              try clear p64
              try clear p65
              try clear q65
              try clear hx65
              try clear qi65
              try clear c67
              try clear c68
              try clear c68b0
              try clear c68b1
              try clear p69
              try clear q69
              try clear hx69
              try clear qi69
              try clear c70
              try clear c70b0
              try clear c70b1
              try clear c71
              try clear c71b0
              try clear c71b1
              try clear c73
              try clear c73b0
              try clear c73b1
              try clear q16 q17 q31 q32 q47 q48 q56 q57
              try clear p2
              try clear p5
              try clear p51
              try clear p53
              try clear p6
              try clear p63
              try clear p64
              try clear p65
              try clear p69
              try clear q5
              try clear q51
              try clear q53
              try clear q6
              try clear q63
              try clear q65
              try clear q69
              obtain ⟨kq, x6_65, x8_65, rfl, rfl, HA, HJ65, BK364, BK366, HB⟩ := hcut
              cases kq with
              | zero => exact absurd HA.out (by simp [dec_cut.j3])
              | succ kj65 =>
               have H := HA.out
               clear HA
               simp only [dec_cut.j3] at H
               have HC75 := am H
               clear H
               go_upto_region 20 with (fail)
               go_cut [85] (fun v85 wc => ∃ (kq : Nat) (x85_74 : Bool), v85 = .bool x85_74 ∧ Aside0 (dec_cut.j4 kq x6_65 x8_65 x85_74 x367000_18 x367001_18 = some (r1, r2, r3)) ∧ Aside0 (kq ≤ kj65) ∧ Aside0 (wc.heap[gb364]? = some (.cells #[.string x365000_18, .int .i64 x365001_18] 47 (0, 0))) ∧ Aside0 (wc.heap[gb366]? = some (.cells #[.string x367000_18, .int .i64 x367001_18] 47 (0, 0))) ∧ Aside0 (Below w.heap.size w wc))
               case first =>
                have H := HC75.out
                clear HC75
                by_cases c76 : x6_65.toList = ([] : List UInt8)
                ·rw [if_pos c76] at H
                 have c76b0 : (x6_65.toList == ([] : List UInt8)) = true := beq_iff_eq.mpr c76
                 have c76b1 : (x6_65.toList != ([] : List UInt8)) = false := bne_eq_false_iff_eq.mpr c76
                 clear c76
                 (first | rw [c76b0] | (simp only [i64_w, i32_w]; rw [c76b0]) | rw [c76b1] | (simp only [i64_w, i32_w]; rw [c76b1]) | skip)
                 have H' := am H
                 clear H
                 go_wp2
                 go_meet
                 case rel => exact ⟨_, (true), (by first | rfl | (simp; done) | (simp [*]; done)), H', ⟨by have := HJ18.out; have := HJ48.out; have := HJ59.out; have := HJ65.out; first | omega | exact Nat.le_refl _⟩, ⟨by (with_reducible repeat (first | refine blk_drewN ?_ _ | refine blk_drew ?_ | refine blk_alloc ?_ _)); exact BK364.out⟩, ⟨by (with_reducible repeat (first | refine blk_drewN ?_ _ | refine blk_drew ?_ | refine blk_alloc ?_ _)); exact BK366.out⟩, ⟨pB⟩⟩
                ·rw [if_neg c76] at H
                 have c76b0 : (x6_65.toList == ([] : List UInt8)) = false := beq_eq_false_iff_ne.mpr c76
                 have c76b1 : (x6_65.toList != ([] : List UInt8)) = true := bne_iff_ne.mpr c76
                 (first | rw [c76b0] | (simp only [i64_w, i32_w]; rw [c76b0]) | rw [c76b1] | (simp only [i64_w, i32_w]; rw [c76b1]) | skip)
                 replace H := Option.bind_eq_some_iff.mp H
                 obtain ⟨t369, A770, H⟩ := H
                 try dsimp only at H
                 have A77 := am A770
                 clear A770
                 have H' := am H
                 clear H
                 go_wp2_with (first | (go_at_call 42; (with_reducible refine (dec_digits.calls kj65 x6_65 t369 _ A77.out).mono ?_); rintro e w' ⟨rfl, ⟨nd, rfl⟩⟩))
                 go_meet
                 case rel => exact ⟨_, ((t369 != (x6_65.size : Int))), (by first | rfl | (simp; done) | (simp [*]; done)), H', ⟨by have := HJ18.out; have := HJ48.out; have := HJ59.out; have := HJ65.out; first | omega | exact Nat.le_refl _⟩, ⟨by (with_reducible repeat (first | refine blk_drewN ?_ _ | refine blk_drew ?_ | refine blk_alloc ?_ _)); exact BK364.out⟩, ⟨by (with_reducible repeat (first | refine blk_drewN ?_ _ | refine blk_drew ?_ | refine blk_alloc ?_ _)); exact BK366.out⟩, ⟨pB⟩⟩
               case rest =>
                clear HC75
                try clear c1
                try clear c2
                try clear p2
                try clear c3
                try clear c3b0
                try clear c3b1
                try clear c4
                try clear c4b0
                try clear c4b1
                try clear c5
                try clear p5
                try clear q5
                try clear hx5
                try clear qi5
                try clear c6
                try clear c6b0
                try clear p6
                try clear q6
                try clear hx6
                try clear qi6
                try clear c7
                try clear c7b0
                try clear c9
                try clear c9b0
                try clear c9b1
                try clear c15
                try clear c17
                try clear c25
                try clear c26
                try clear c26b0
                try clear c26b1
                try clear c29
                try clear c29b0
                try clear c29b1
                try clear c30
                try clear c33
                try clear c33b0
                try clear c33b1
                try clear c34
                try clear c34b0
                try clear c34b1
                try clear c36
                try clear c36b0
                try clear c36b1
                try clear c36b2
                try clear c38
                try clear c38b0
                try clear c38b1
                try clear c39
                try clear c39b0
                try clear c42
                try clear c43
                try clear c45
                try clear c45b0
                try clear c45b1
                try clear c46
                try clear c50
                try clear c50b0
                try clear c50b1
                try clear p51
                try clear q51
                try clear hx51
                try clear qi51
                try clear c52
                try clear c52b0
                try clear c52b1
                try clear p53
                try clear q53
                try clear hx53
                try clear qi53
                try clear c54
                try clear c55
                try clear c58
                try clear c58b0
                try clear c58b1
                try clear c61
                try clear c61b0
                try clear c61b1
                try clear c62
                try clear c62b0
                try clear c62b1
                try clear p63
                try clear q63
                try clear hx63
                try clear qi63
                try clear c64
                try clear c64b0
                try clear c64b1
                try clear p64
                try clear p65
                try clear q65
                try clear hx65
                try clear qi65
                try clear c67
                try clear c68
                try clear c68b0
                try clear c68b1
                try clear p69
                try clear q69
                try clear hx69
                try clear qi69
                try clear c70
                try clear c70b0
                try clear c70b1
                try clear c71
                try clear c71b0
                try clear c71b1
                try clear c73
                try clear c73b0
                try clear c73b1
                try clear c76
                try clear c76b0
                try clear c76b1
                try clear q16 q17 q31 q32 q47 q48 q56 q57
                try clear p2
                try clear p5
                try clear p51
                try clear p53
                try clear p6
                try clear p63
                try clear p64
                try clear p65
                try clear p69
                try clear q5
                try clear q51
                try clear q53
                try clear q6
                try clear q63
                try clear q65
                try clear q69
                obtain ⟨kq, x85_74, rfl, HA, HJ74, BK364, BK366, HB⟩ := hcut
                cases kq with
                | zero => exact absurd HA.out (by simp [dec_cut.j4])
                | succ kj74 =>
                 have H := HA.out
                 clear HA
                 simp only [dec_cut.j4] at H
                 by_cases c78 : x85_74 = true
                 ·subst c78
                  rw [if_pos rfl] at H
                  simp only [Option.some.injEq, Prod.mk.injEq] at H
                  obtain ⟨rfl, rfl, rfl⟩ := H
                  have hnb79 := NB366_364.out
                  have hnc79 := NB364_366.out
                  have q80 := cf2 BK366.out
                  have q81 := cf2 BK364.out
                  go_wp2
                  refine bodyPost_ret (results_ct rfl _ _ gb364 47 #[.string x367000_18, .int .i64 x367001_18] (0, 0) _ rfl (by (with_reducible repeat (first | refine blk_drewN ?_ _ | refine blk_drew ?_ | refine blk_alloc ?_ _)); refine blk_put (cs := #[.string x367000_18, .int .i64 x365001_18]) ?_ 1 _ rfl; (with_reducible repeat (first | refine blk_drewN ?_ _ | refine blk_drew ?_ | refine blk_alloc ?_ _)); refine blk_put (cs := #[.string x365000_18, .int .i64 x365001_18]) ?_ 0 _ rfl; (with_reducible repeat (first | refine blk_drewN ?_ _ | refine blk_drew ?_ | refine blk_alloc ?_ _)); exact BK364.out) Tryd.underlying47 rfl (by kernel_rfl)) rfl ?_
                  exact ⟨by first | rfl | (simp [errW_none, errW_some] <;> rfl) | (simp only [← hji5, ← hji8, ← hji59]; first | rfl | (simp [errW_none, errW_some] <;> rfl)) | (simp [*, errW_none, errW_some] <;> rfl), pB⟩
                 ·replace c78 := Bool.eq_false_iff.mpr c78
                  subst c78
                  rw [if_neg (show ¬ (false = true) by decide)] at H
                  have H' := am H
                  clear H
                  go_wp2
                  go_loopg [9, 89] kj74 (fun kq v9 v89 w' => ∃ (x9_6 : Int) (x89_6 : Int), v9 = .int .i64 x9_6 ∧ v89 = .int .i64 x89_6 ∧ Aside0 (dec_cut.l0 kq x6_65 x8_65 x9_6 (x6_65.size : Int) x89_6 x367000_18 x367001_18 = some (r1, r2, r3)) ∧ Aside0 (kq ≤ kj74) ∧ Aside0 (w'.heap[gb364]? = some (.cells #[.string x365000_18, .int .i64 x365001_18] 47 (0, 0))) ∧ Aside0 (w'.heap[gb366]? = some (.cells #[.string x367000_18, .int .i64 x367001_18] 47 (0, 0))) ∧ Aside0 (Below w.heap.size w w'))
                  case atStart => exact ⟨(0), (0), (by first | rfl | (simp; done) | (simp [*]; done)), (by first | rfl | (simp; done) | (simp [*]; done)), H', ⟨Nat.le_refl _⟩, ⟨by (with_reducible repeat (first | refine blk_drewN ?_ _ | refine blk_drew ?_ | refine blk_alloc ?_ _)); exact BK364.out⟩, ⟨by (with_reducible repeat (first | refine blk_drewN ?_ _ | refine blk_drew ?_ | refine blk_alloc ?_ _)); exact BK366.out⟩, ⟨pB⟩⟩
                  case round =>
                   clear H'
                   try clear c1
                   try clear c2
                   try clear p2
                   try clear c3
                   try clear c3b0
                   try clear c3b1
                   try clear c4
                   try clear c4b0
                   try clear c4b1
                   try clear c5
                   try clear p5
                   try clear q5
                   try clear hx5
                   try clear qi5
                   try clear c6
                   try clear c6b0
                   try clear p6
                   try clear q6
                   try clear hx6
                   try clear qi6
                   try clear c7
                   try clear c7b0
                   try clear c9
                   try clear c9b0
                   try clear c9b1
                   try clear c15
                   try clear c17
                   try clear c25
                   try clear c26
                   try clear c26b0
                   try clear c26b1
                   try clear c29
                   try clear c29b0
                   try clear c29b1
                   try clear c30
                   try clear c33
                   try clear c33b0
                   try clear c33b1
                   try clear c34
                   try clear c34b0
                   try clear c34b1
                   try clear c36
                   try clear c36b0
                   try clear c36b1
                   try clear c36b2
                   try clear c38
                   try clear c38b0
                   try clear c38b1
                   try clear c39
                   try clear c39b0
                   try clear c42
                   try clear c43
                   try clear c45
                   try clear c45b0
                   try clear c45b1
                   try clear c46
                   try clear c50
                   try clear c50b0
                   try clear c50b1
                   try clear p51
                   try clear q51
                   try clear hx51
                   try clear qi51
                   try clear c52
                   try clear c52b0
                   try clear c52b1
                   try clear p53
                   try clear q53
                   try clear hx53
                   try clear qi53
                   try clear c54
                   try clear c55
                   try clear c58
                   try clear c58b0
                   try clear c58b1
                   try clear c61
                   try clear c61b0
                   try clear c61b1
                   try clear c62
                   try clear c62b0
                   try clear c62b1
                   try clear p63
                   try clear q63
                   try clear hx63
                   try clear qi63
                   try clear c64
                   try clear c64b0
                   try clear c64b1
                   try clear p64
                   try clear p65
                   try clear q65
                   try clear hx65
                   try clear qi65
                   try clear c67
                   try clear c68
                   try clear c68b0
                   try clear c68b1
                   try clear p69
                   try clear q69
                   try clear hx69
                   try clear qi69
                   try clear c70
                   try clear c70b0
                   try clear c70b1
                   try clear c71
                   try clear c71b0
                   try clear c71b1
                   try clear c73
                   try clear c73b0
                   try clear c73b1
                   try clear c76
                   try clear c76b0
                   try clear c76b1
                   try clear c78
                   try clear c79
                   try clear q16 q17 q31 q32 q47 q48 q56 q57 q80 q81
                   try clear p2
                   try clear p5
                   try clear p51
                   try clear p53
                   try clear p6
                   try clear p63
                   try clear p64
                   try clear p65
                   try clear p69
                   try clear q5
                   try clear q51
                   try clear q53
                   try clear q6
                   try clear q63
                   try clear q65
                   try clear q69
                   obtain ⟨x9_6, x89_6, rfl, rfl, HA, HK6, BK364, BK366, HB⟩ := hrel
                   cases gk with
                   | zero => exact absurd HA.out (by simp [dec_cut.l0])
                   | succ k6 =>
                    have H := HA.out
                    clear HA
                    simp only [dec_cut.l0] at H
                    by_cases c82 : x89_6 < (x6_65.size : Int)
                    ·rw [if_pos c82] at H
                     have c82b0 : decide (x89_6 < (x6_65.size : Int)) = true := decide_eq_true c82
                     clear c82
                     by_cases c83 : 0 ≤ x89_6
                     ·rw [if_pos c83] at H
                      have c83b0 : decide (0 ≤ x89_6) = true := decide_eq_true c83
                      clear c83
                      by_cases c84 : x89_6 < (x6_65.size : Int)
                      ·rw [if_pos c84] at H
                       have c84b0 : decide (x89_6 < (x6_65.size : Int)) = true := decide_eq_true c84
                       clear c84
                       obtain ⟨ji86, hji86⟩ : ∃ j_ : Int, (mn (wrap64 ((wrap64 (10 * x9_6)) + (((bt x6_65 x89_6) - 48) % 256))) 9999) = j_ := ⟨_, rfl⟩
                       replace H : (dec_cut.l0 k6 x6_65 x8_65 ji86 (x6_65.size : Int) (wrap64 (x89_6 + 1)) x367000_18 x367001_18) = some (r1, r2, r3) := by first | (rw [hji86] at H; exact H) | (simp only [hji86] at H ⊢; exact H)
                       have hji86_ : (if 9999 < (wrap64 ((wrap64 (10 * x9_6)) + (((bt x6_65 x89_6) - 48) % 256))) then 9999 else (wrap64 ((wrap64 (10 * x9_6)) + (((bt x6_65 x89_6) - 48) % 256)))) = ji86 := hji86
                       have H' := am H
                       clear H
                       have p85 : 0 ≤ (x89_6 : Int) := pD
                       have q85 : x89_6 < (x6_65.size : Int) := pD
                       have hx85 := bt_at x6_65 x89_6
                       replace p85 := eq_true p85
                       replace q85 := eq_true q85
                       go_wp2
                       go_roundg k6
                       case measure => have := HJ18.out; have := HJ48.out; have := HJ59.out; have := HJ65.out; have := HJ74.out; have := HK6.out; omega
                       case rel => exact ⟨(ji86), (wrap64 (x89_6 + 1)), (by first | rfl | (simp; done) | (simp only [← hji86] <;> (first | rfl | simp)) | (simp [*]; done)), (by first | rfl | (simp; done) | (simp [*]; done)), H', ⟨by have := HJ18.out; have := HJ48.out; have := HJ59.out; have := HJ65.out; have := HJ74.out; have := HK6.out; omega⟩, ⟨by (with_reducible repeat (first | refine blk_drewN ?_ _ | refine blk_drew ?_ | refine blk_alloc ?_ _)); exact BK364.out⟩, ⟨by (with_reducible repeat (first | refine blk_drewN ?_ _ | refine blk_drew ?_ | refine blk_alloc ?_ _)); exact BK366.out⟩, ⟨pB⟩⟩
                      ·rw [if_neg c84] at H
                       exact absurd H (by simp)
                     ·rw [if_neg c83] at H
                      exact absurd H (by simp)
                    ·rw [if_neg c82] at H
                     have c82b0 : decide (x89_6 < (x6_65.size : Int)) = false := decide_eq_false c82
                     clear c82
                     simp only [Option.some.injEq, Prod.mk.injEq] at H
                     obtain ⟨rfl, rfl, rfl⟩ := H
                     have hnb87 := NB366_364.out
                     have hnc87 := NB364_366.out
                     have q88 := cf2 BK366.out
                     have q89 := cf2 BK364.out
                     go_wp2
                     refine bodyPost_ret (results_ct rfl _ _ gb364 47 #[.string x367000_18, .int .i64 (wrap64 (x367001_18 + (wrap64 (x8_65 * x9_6))))] (0, 0) _ rfl (by (with_reducible repeat (first | refine blk_drewN ?_ _ | refine blk_drew ?_ | refine blk_alloc ?_ _)); refine blk_put (cs := #[.string x367000_18, .int .i64 x365001_18]) ?_ 1 _ rfl; (with_reducible repeat (first | refine blk_drewN ?_ _ | refine blk_drew ?_ | refine blk_alloc ?_ _)); refine blk_put (cs := #[.string x365000_18, .int .i64 x365001_18]) ?_ 0 _ rfl; (with_reducible repeat (first | refine blk_drewN ?_ _ | refine blk_drew ?_ | refine blk_alloc ?_ _)); refine blk_far ?_ NB364_366.out _; (with_reducible repeat (first | refine blk_drewN ?_ _ | refine blk_drew ?_ | refine blk_alloc ?_ _)); exact BK364.out) Tryd.underlying47 rfl (by kernel_rfl)) rfl ?_
                     exact ⟨by first | rfl | (simp [errW_none, errW_some] <;> rfl) | (simp only [← hji5, ← hji8, ← hji59]; first | rfl | (simp [errW_none, errW_some] <;> rfl)) | (simp [*, errW_none, errW_some] <;> rfl), pB⟩
          ·rw [if_neg c58] at H
           exact absurd H (by simp)
  ·rw [if_neg c4] at H
   exact absurd H (by simp)
 ·rw [if_neg c3] at H
  exact absurd H (by simp)
end Go.Proofs.YtflcanpajgpghaaDoor.Pr
end
section
namespace Go.Proofs.YtflcanpajgpghaaDoor.Pr
open Go.RowKit Go.Proofs.YtflcanpajgpghaaDoorW.PrintWords Go.Proofs.YtflcanpajgpghaaDoorW.PrintLast Go.Proofs.YtflcanpajgpghaaDoorW.PrintMore
attribute [local go_sem] max2_int min2_int max_two min_two max_three min_three max_four min_four
def flo_shifted.f (a0 : Int) (a1 : Bool) (a2 : Int) : Option (Int) := if 0 ≤ a2 then (if a2 > 64 then (some 0) else (if 0 ≤ (wrap64 (a2 - 1)) then (if (Go.bits .and .u64 a0 (IntKind.u64.wrap ((shl .u64 1 a2) - 1))) > (shl .u64 1 (wrap64 (a2 - 1))) then (some (IntKind.u64.wrap ((shr .u64 a0 a2) + 1))) else (if (Go.bits .and .u64 a0 (IntKind.u64.wrap ((shl .u64 1 a2) - 1))) = (shl .u64 1 (wrap64 (a2 - 1))) then (if a1 = true then (some (IntKind.u64.wrap ((shr .u64 a0 a2) + 1))) else (if (Go.bits .and .u64 (shr .u64 a0 a2) 1) = 1 then (some (IntKind.u64.wrap ((shr .u64 a0 a2) + 1))) else (some (shr .u64 a0 a2)))) else (some (shr .u64 a0 a2)))) else (none))) else (none)
set_option maxHeartbeats 8000000 in
set_option maxRecDepth 100000 in
theorem flo_shifted.calls (a0 : Int) (a1 : Bool) (a2 : Int) (r : Int) (w : World) (h : flo_shifted.f a0 a1 a2 = some r) :
  Calls Tryd.prog 70 #[.int .u64 a0, .bool a1, .int .i64 a2] w fun e w' => e = .returned (.int .u64 r) ∧ Drawn0 w w' := by
 have H : (if 0 ≤ a2 then (if a2 > 64 then (some 0) else (if 0 ≤ (wrap64 (a2 - 1)) then (if (Go.bits .and .u64 a0 (IntKind.u64.wrap ((shl .u64 1 a2) - 1))) > (shl .u64 1 (wrap64 (a2 - 1))) then (some (IntKind.u64.wrap ((shr .u64 a0 a2) + 1))) else (if (Go.bits .and .u64 a0 (IntKind.u64.wrap ((shl .u64 1 a2) - 1))) = (shl .u64 1 (wrap64 (a2 - 1))) then (if a1 = true then (some (IntKind.u64.wrap ((shr .u64 a0 a2) + 1))) else (if (Go.bits .and .u64 (shr .u64 a0 a2) 1) = 1 then (some (IntKind.u64.wrap ((shr .u64 a0 a2) + 1))) else (some (shr .u64 a0 a2)))) else (some (shr .u64 a0 a2)))) else (none))) else (none)) = some r := h
 clear h
 by_cases c4 : 0 ≤ a2
 ·rw [if_pos c4] at H
  have c4b0 := eq_true c4
  have c4b1 : decide (0 ≤ a2) = true := decide_eq_true c4
  clear c4
  obtain ⟨ji5, hji5⟩ : ∃ j_ : Int, (shr .u64 a0 a2) = j_ := ⟨_, rfl⟩
  replace H : (if a2 > 64 then (some 0) else (if 0 ≤ (wrap64 (a2 - 1)) then (if (Go.bits .and .u64 a0 (IntKind.u64.wrap ((shl .u64 1 a2) - 1))) > (shl .u64 1 (wrap64 (a2 - 1))) then (some (IntKind.u64.wrap ((ji5) + 1))) else (if (Go.bits .and .u64 a0 (IntKind.u64.wrap ((shl .u64 1 a2) - 1))) = (shl .u64 1 (wrap64 (a2 - 1))) then (if a1 = true then (some (IntKind.u64.wrap ((ji5) + 1))) else (if (Go.bits .and .u64 (ji5) 1) = 1 then (some (IntKind.u64.wrap ((ji5) + 1))) else (some ji5))) else (some ji5))) else (none))) = some r := by first | (rw [hji5] at H; exact H) | (simp only [hji5] at H ⊢; exact H)
  have hji5_ : (a0 / 2 ^ min a2.toNat 64) = ji5 := hji5
  have hji5z : a2 ≤ 64 → (a0 / 2 ^ a2.toNat) = ji5 := shr_small hji5
  by_cases c6 : a2 > 64
  ·rw [if_pos c6] at H
   have c6b0 : decide (64 < a2) = true := decide_eq_true c6
   clear c6
   obtain rfl := Option.some.inj H
   go_enter Tryd.func70, Tryd.ntmps70
   go_wp2
   repeat (go_quiet (fail); try go_wp2)
   go_ret
   exact ⟨by first | rfl | (simp; done) | (simp only [← hji5] <;> (first | rfl | simp)) | (simp [*]; done), by repeat (first | exact Drawn0.refl _ | apply Drawn0.step)⟩
  ·rw [if_neg c6] at H
   have c6b0 : decide (64 < a2) = false := decide_eq_false c6
   clear c6
   have c7b0 := eq_true (pD : 0 ≤ a2)
   obtain ⟨ji8, hji8⟩ : ∃ j_ : Int, (shl .u64 1 a2) = j_ := ⟨_, rfl⟩
   replace H : (if 0 ≤ (wrap64 (a2 - 1)) then (if (Go.bits .and .u64 a0 (IntKind.u64.wrap ((ji8) - 1))) > (shl .u64 1 (wrap64 (a2 - 1))) then (some (IntKind.u64.wrap ((ji5) + 1))) else (if (Go.bits .and .u64 a0 (IntKind.u64.wrap ((ji8) - 1))) = (shl .u64 1 (wrap64 (a2 - 1))) then (if a1 = true then (some (IntKind.u64.wrap ((ji5) + 1))) else (if (Go.bits .and .u64 (ji5) 1) = 1 then (some (IntKind.u64.wrap ((ji5) + 1))) else (some ji5))) else (some ji5))) else (none)) = some r := by first | (rw [hji8] at H; exact H) | (simp only [hji8] at H ⊢; exact H)
   have hji8_ : (IntKind.u64.wrap (1 * 2 ^ min a2.toNat 64)) = ji8 := hji8
   have hji8z : a2 ≤ 64 → (IntKind.u64.wrap (1 * 2 ^ a2.toNat)) = ji8 := shl_small hji8
   have hji8u : (IntKind.u64.wrap (2 ^ min a2.toNat 64)) = ji8 := by have h_ := hji8_; rw [Int.one_mul] at h_; exact h_
   have hji8v : a2 ≤ 64 → (IntKind.u64.wrap (2 ^ a2.toNat)) = ji8 := fun hle_ => by have h_ := hji8z hle_; rw [Int.one_mul] at h_; exact h_
   obtain ⟨ji9, hji9⟩ : ∃ j_ : Int, (wrap64 (a2 - 1)) = j_ := ⟨_, rfl⟩
   replace H : (if 0 ≤ (ji9) then (if (Go.bits .and .u64 a0 (IntKind.u64.wrap ((ji8) - 1))) > (shl .u64 1 (ji9)) then (some (IntKind.u64.wrap ((ji5) + 1))) else (if (Go.bits .and .u64 a0 (IntKind.u64.wrap ((ji8) - 1))) = (shl .u64 1 (ji9)) then (if a1 = true then (some (IntKind.u64.wrap ((ji5) + 1))) else (if (Go.bits .and .u64 (ji5) 1) = 1 then (some (IntKind.u64.wrap ((ji5) + 1))) else (some ji5))) else (some ji5))) else (none)) = some r := by first | (rw [hji9] at H; exact H) | (simp only [hji9] at H ⊢; exact H)
   have hji9w : (IntKind.i64.wrap (a2 - 1)) = ji9 := (i64_w _).trans hji9
   by_cases c10 : 0 ≤ (ji9)
   ·rw [if_pos c10] at H
    have c10b0 := eq_true c10
    have c10b1 : decide (0 ≤ (ji9)) = true := decide_eq_true c10
    clear c10
    obtain ⟨ji11, hji11⟩ : ∃ j_ : Int, (shl .u64 1 (ji9)) = j_ := ⟨_, rfl⟩
    replace H : (if (Go.bits .and .u64 a0 (IntKind.u64.wrap ((ji8) - 1))) > (ji11) then (some (IntKind.u64.wrap ((ji5) + 1))) else (if (Go.bits .and .u64 a0 (IntKind.u64.wrap ((ji8) - 1))) = (ji11) then (if a1 = true then (some (IntKind.u64.wrap ((ji5) + 1))) else (if (Go.bits .and .u64 (ji5) 1) = 1 then (some (IntKind.u64.wrap ((ji5) + 1))) else (some ji5))) else (some ji5))) = some r := by first | (rw [hji11] at H; exact H) | (simp only [hji11] at H ⊢; exact H)
    have hji11_ : (IntKind.u64.wrap (1 * 2 ^ min (ji9).toNat 64)) = ji11 := hji11
    have hji11z : (ji9) ≤ 64 → (IntKind.u64.wrap (1 * 2 ^ (ji9).toNat)) = ji11 := shl_small hji11
    have hji11u : (IntKind.u64.wrap (2 ^ min (ji9).toNat 64)) = ji11 := by have h_ := hji11_; rw [Int.one_mul] at h_; exact h_
    have hji11v : (ji9) ≤ 64 → (IntKind.u64.wrap (2 ^ (ji9).toNat)) = ji11 := fun hle_ => by have h_ := hji11z hle_; rw [Int.one_mul] at h_; exact h_
    by_cases c12 : (Go.bits .and .u64 a0 (IntKind.u64.wrap ((ji8) - 1))) > (ji11)
    ·rw [if_pos c12] at H
     have c12b0 : decide ((ji11) < (Go.bits .and .u64 a0 (IntKind.u64.wrap ((ji8) - 1)))) = true := decide_eq_true c12
     clear c12
     obtain rfl := Option.some.inj H
     go_enter Tryd.func70, Tryd.ntmps70
     go_wp2
     repeat (go_quiet (fail); try go_wp2)
     go_ret
     exact ⟨by first | rfl | (simp; done) | (simp only [← hji5, ← hji8, ← hji9, ← hji11] <;> (first | rfl | simp)) | (simp [*]; done), by repeat (first | exact Drawn0.refl _ | apply Drawn0.step)⟩
    ·rw [if_neg c12] at H
     have c12b0 : decide ((ji11) < (Go.bits .and .u64 a0 (IntKind.u64.wrap ((ji8) - 1)))) = false := decide_eq_false c12
     clear c12
     by_cases c13 : (Go.bits .and .u64 a0 (IntKind.u64.wrap ((ji8) - 1))) = (ji11)
     ·rw [if_pos c13] at H
      have c13b0 : ((Go.bits .and .u64 a0 (IntKind.u64.wrap ((ji8) - 1))) == (ji11)) = true := beq_iff_eq.mpr c13
      have c13b1 : ((Go.bits .and .u64 a0 (IntKind.u64.wrap ((ji8) - 1))) != (ji11)) = false := bne_eq_false_iff_eq.mpr c13
      clear c13
      by_cases c14 : a1 = true
      ·subst c14
       rw [if_pos rfl] at H
       obtain rfl := Option.some.inj H
       go_enter Tryd.func70, Tryd.ntmps70
       go_wp2
       repeat (go_quiet (fail); try go_wp2)
       go_ret
       exact ⟨by first | rfl | (simp; done) | (simp only [← hji5, ← hji8, ← hji9, ← hji11] <;> (first | rfl | simp)) | (simp [*]; done), by repeat (first | exact Drawn0.refl _ | apply Drawn0.step)⟩
      ·replace c14 := Bool.eq_false_iff.mpr c14
       subst c14
       rw [if_neg (show ¬ (false = true) by decide)] at H
       by_cases c15 : (Go.bits .and .u64 (ji5) 1) = 1
       ·rw [if_pos c15] at H
        have c15b0 : ((Go.bits .and .u64 (ji5) 1) == 1) = true := beq_iff_eq.mpr c15
        have c15b1 : ((Go.bits .and .u64 (ji5) 1) != 1) = false := bne_eq_false_iff_eq.mpr c15
        clear c15
        obtain rfl := Option.some.inj H
        go_enter Tryd.func70, Tryd.ntmps70
        go_wp2
        repeat (go_quiet (fail); try go_wp2)
        go_ret
        exact ⟨by first | rfl | (simp; done) | (simp only [← hji5, ← hji8, ← hji9, ← hji11] <;> (first | rfl | simp)) | (simp [*]; done), by repeat (first | exact Drawn0.refl _ | apply Drawn0.step)⟩
       ·rw [if_neg c15] at H
        have c15b0 : ((Go.bits .and .u64 (ji5) 1) == 1) = false := beq_eq_false_iff_ne.mpr c15
        have c15b1 : ((Go.bits .and .u64 (ji5) 1) != 1) = true := bne_iff_ne.mpr c15
        obtain rfl := Option.some.inj H
        go_enter Tryd.func70, Tryd.ntmps70
        go_wp2
        repeat (go_quiet (fail); try go_wp2)
        go_ret
        exact ⟨by first | rfl | (simp; done) | (simp only [← hji5, ← hji8, ← hji9, ← hji11] <;> (first | rfl | simp)) | (simp [*]; done), by repeat (first | exact Drawn0.refl _ | apply Drawn0.step)⟩
     ·rw [if_neg c13] at H
      have c13b0 : ((Go.bits .and .u64 a0 (IntKind.u64.wrap ((ji8) - 1))) == (ji11)) = false := beq_eq_false_iff_ne.mpr c13
      have c13b1 : ((Go.bits .and .u64 a0 (IntKind.u64.wrap ((ji8) - 1))) != (ji11)) = true := bne_iff_ne.mpr c13
      obtain rfl := Option.some.inj H
      go_enter Tryd.func70, Tryd.ntmps70
      go_wp2
      repeat (go_quiet (fail); try go_wp2)
      go_ret
      exact ⟨by first | rfl | (simp; done) | (simp only [← hji5, ← hji8, ← hji9, ← hji11] <;> (first | rfl | simp)) | (simp [*]; done), by repeat (first | exact Drawn0.refl _ | apply Drawn0.step)⟩
   ·rw [if_neg c10] at H
    exact absurd H (by simp)
 ·rw [if_neg c4] at H
  exact absurd H (by simp)
mutual
def flo_Make.j0 : Nat → Int → Int → Bool → Int → Option (Int)
 | 0, _, _, _, _ => none
 | k + 1, x1, x2, x3, x9 => if x2 = 0 then (if x3 = true then (flo_Make.j1 k ((mn (mx x1 (-1048576)) 1048576) - 1) 1 false x9) else (some x9)) else (flo_Make.j1 k (mn (mx x1 (-1048576)) 1048576) x2 x3 x9)
def flo_Make.j1 : Nat → Int → Int → Bool → Int → Option (Int)
 | 0, _, _, _, _ => none
 | k + 1, x1, x2, x3, x9 => (bits_Len64.f x2).bind fun t370 => (if (mx (wrap64 ((wrap64 (t370 - 52)) - 1)) (wrap64 ((-1074) - x1))) > 0 then ((flo_shifted.f x2 x3 (mx (wrap64 ((wrap64 (t370 - 52)) - 1)) (wrap64 ((-1074) - x1)))).bind fun t371 => (flo_Make.j2 k x1 t371 x9 (mx (wrap64 ((wrap64 (t370 - 52)) - 1)) (wrap64 ((-1074) - x1))))) else (if (mx (wrap64 ((wrap64 (t370 - 52)) - 1)) (wrap64 ((-1074) - x1))) = 0 then (if x3 = true then (flo_Make.j2 k x1 (IntKind.u64.wrap (x2 + (Go.bits .and .u64 x2 1))) x9 (mx (wrap64 ((wrap64 (t370 - 52)) - 1)) (wrap64 ((-1074) - x1)))) else (flo_Make.j2 k x1 x2 x9 (mx (wrap64 ((wrap64 (t370 - 52)) - 1)) (wrap64 ((-1074) - x1))))) else (if 0 ≤ (wrap64 (-(mx (wrap64 ((wrap64 (t370 - 52)) - 1)) (wrap64 ((-1074) - x1))))) then (if x3 = true then (if 0 ≤ (wrap64 ((wrap64 (-(mx (wrap64 ((wrap64 (t370 - 52)) - 1)) (wrap64 ((-1074) - x1))))) - 1)) then (flo_Make.j2 k x1 (Go.bits .or .u64 (shl .u64 x2 (wrap64 (-(mx (wrap64 ((wrap64 (t370 - 52)) - 1)) (wrap64 ((-1074) - x1)))))) (shl .u64 1 (wrap64 ((wrap64 (-(mx (wrap64 ((wrap64 (t370 - 52)) - 1)) (wrap64 ((-1074) - x1))))) - 1)))) x9 (mx (wrap64 ((wrap64 (t370 - 52)) - 1)) (wrap64 ((-1074) - x1)))) else (none)) else (flo_Make.j2 k x1 (shl .u64 x2 (wrap64 (-(mx (wrap64 ((wrap64 (t370 - 52)) - 1)) (wrap64 ((-1074) - x1)))))) x9 (mx (wrap64 ((wrap64 (t370 - 52)) - 1)) (wrap64 ((-1074) - x1))))) else (none))))
def flo_Make.j2 : Nat → Int → Int → Int → Int → Option (Int)
 | 0, _, _, _, _ => none
 | k + 1, x1, x2, x9, x10 => if x2 = 9007199254740992 then (flo_Make.j3 k (wrap64 ((wrap64 (x1 + x10)) + 1)) 4503599627370496 x9) else (flo_Make.j3 k (wrap64 (x1 + x10)) x2 x9)
def flo_Make.j3 : Nat → Int → Int → Int → Option (Int)
 | 0, _, _, _ => none
 | k + 1, x1, x2, x9 => if x2 = 0 then (some x9) else (if x1 > 971 then (some (Go.bits .or .u64 x9 9218868437227405312)) else (if x2 < 4503599627370496 then (some (Go.bits .or .u64 x9 x2)) else (some (Go.bits .or .u64 (Go.bits .or .u64 x9 (IntKind.u64.wrap ((IntKind.u64.wrap (wrap64 (x1 + 1075))) * 4503599627370496))) (Go.bits .and .u64 x2 4503599627370495)))))
end
def flo_Make.f (k : Nat) (a0 : Bool) (a1 : Int) (a2 : Int) (a3 : Bool) : Option (Int) := if a0 = true then (flo_Make.j0 k a1 a2 a3 9223372036854775808) else (flo_Make.j0 k a1 a2 a3 0)
theorem flo_Make.mono_l : ∀ k, (∀ y0 y1 y2 y3, LeO (flo_Make.j0 k y0 y1 y2 y3) (flo_Make.j0 (k + 1) y0 y1 y2 y3)) ∧ (∀ y0 y1 y2 y3, LeO (flo_Make.j1 k y0 y1 y2 y3) (flo_Make.j1 (k + 1) y0 y1 y2 y3)) ∧ (∀ y0 y1 y2 y3, LeO (flo_Make.j2 k y0 y1 y2 y3) (flo_Make.j2 (k + 1) y0 y1 y2 y3)) ∧ (∀ y0 y1 y2, LeO (flo_Make.j3 k y0 y1 y2) (flo_Make.j3 (k + 1) y0 y1 y2))
 | 0 => ⟨fun _ _ _ _ r h => by simp [flo_Make.j0] at h, fun _ _ _ _ r h => by simp [flo_Make.j1] at h, fun _ _ _ _ r h => by simp [flo_Make.j2] at h, fun _ _ _ r h => by simp [flo_Make.j3] at h⟩
 | k + 1 => by
  obtain ⟨ih0, ih1, ih2, ih3⟩ := flo_Make.mono_l k
  refine ⟨?_, ?_, ?_, ?_⟩
  all_goals intros
  all_goals first | unfold flo_Make.j0 | unfold flo_Make.j1 | unfold flo_Make.j2 | unfold flo_Make.j3
  all_goals repeat' first
   | (with_reducible exact ih0 _ _ _ _)
   | (with_reducible exact ih1 _ _ _ _)
   | (with_reducible exact ih2 _ _ _ _)
   | (with_reducible exact ih3 _ _ _)
   | (with_reducible exact LeO.refl _)
   | (with_reducible exact LeO.none _)
   | (with_reducible refine LeO.ite ?_ ?_)
   | (with_reducible refine LeO.bind ?_ (fun _ => ?_))
   | exact ih0 _ _ _ _
   | exact ih1 _ _ _ _
   | exact ih2 _ _ _ _
   | exact ih3 _ _ _
   | exact LeO.none _
   | refine LeO.ite ?_ ?_
   | refine LeO.bind ?_ (fun _ => ?_)
theorem flo_Make.mono : ∀ a0 a1 a2 a3 k, LeO (flo_Make.f k a0 a1 a2 a3) (flo_Make.f (k + 1) a0 a1 a2 a3) := by
 intro a0 a1 a2 a3 k
 obtain ⟨ih0, ih1, ih2, ih3⟩ := flo_Make.mono_l k
 unfold flo_Make.f
 repeat' first
   | (with_reducible exact ih0 _ _ _ _)
   | (with_reducible exact ih1 _ _ _ _)
   | (with_reducible exact ih2 _ _ _ _)
   | (with_reducible exact ih3 _ _ _)
   | (with_reducible exact LeO.refl _)
   | (with_reducible exact LeO.none _)
   | (with_reducible refine LeO.ite ?_ ?_)
   | (with_reducible refine LeO.bind ?_ (fun _ => ?_))
   | exact ih0 _ _ _ _
   | exact ih1 _ _ _ _
   | exact ih2 _ _ _ _
   | exact ih3 _ _ _
   | exact LeO.none _
   | refine LeO.ite ?_ ?_
   | refine LeO.bind ?_ (fun _ => ?_)
set_option maxHeartbeats 8000000 in
set_option maxRecDepth 100000 in
theorem flo_Make.calls (k : Nat) (a0 : Bool) (a1 : Int) (a2 : Int) (a3 : Bool) (r : Int) (w : World) (h : flo_Make.f k a0 a1 a2 a3 = some r) :
  Calls Tryd.prog 44 #[.bool a0, .int .i64 a1, .int .u64 a2, .bool a3] w fun e w' => e = .returned (.int .u64 r) ∧ Below w.heap.size w w' := by
 have HB := am (Below.refl w.heap.size w)
 have H : (if a0 = true then (flo_Make.j0 k a1 a2 a3 9223372036854775808) else (flo_Make.j0 k a1 a2 a3 0)) = some r := h
 clear h
 have HC5 := am H
 clear H
 go_enter Tryd.func44, Tryd.ntmps44
 go_upto_if 11 with (fail)
 go_cut [9] (fun v9 wc => ∃ (kq : Nat) (x9_4 : Int), v9 = .int .u64 x9_4 ∧ Aside0 (flo_Make.j0 kq a1 a2 a3 x9_4 = some r) ∧ Aside0 (kq ≤ k) ∧ Aside0 (Below w.heap.size w wc))
 case first =>
  have H := HC5.out
  clear HC5
  by_cases c6 : a0 = true
  ·subst c6
   rw [if_pos rfl] at H
   have H' := am H
   clear H
   go_wp2
   go_meet
   case rel => exact ⟨_, (9223372036854775808), (by first | rfl | (simp; done) | (simp [*]; done)), H', ⟨by first | omega | exact Nat.le_refl _⟩, ⟨pB⟩⟩
  ·replace c6 := Bool.eq_false_iff.mpr c6
   subst c6
   rw [if_neg (show ¬ (false = true) by decide)] at H
   have H' := am H
   clear H
   go_wp2
   go_meet
   case rel => exact ⟨_, (0), (by first | rfl | (simp; done) | (simp [*]; done)), H', ⟨by first | omega | exact Nat.le_refl _⟩, ⟨pB⟩⟩
 case rest =>
  clear HC5
  try clear p2
  try clear c4
  try clear c6
  obtain ⟨kq, x9_4, rfl, HA, HJ4, HB⟩ := hcut
  cases kq with
  | zero => exact absurd HA.out (by simp [flo_Make.j0])
  | succ kj4 =>
   have H := HA.out
   clear HA
   simp only [flo_Make.j0] at H
   obtain ⟨ji7, hji7⟩ : ∃ j_ : Int, (mx a1 (-1048576)) = j_ := ⟨_, rfl⟩
   replace H : (if a2 = 0 then (if a3 = true then (flo_Make.j1 kj4 ((mn (ji7) 1048576) - 1) 1 false x9_4) else (some x9_4)) else (flo_Make.j1 kj4 (mn (ji7) 1048576) a2 a3 x9_4)) = some r := by first | (rw [hji7] at H; exact H) | (simp only [hji7] at H ⊢; exact H)
   have hji7_ : (if a1 < (-1048576) then (-1048576) else a1) = ji7 := hji7
   obtain ⟨ji8, hji8⟩ : ∃ j_ : Int, (mn (ji7) 1048576) = j_ := ⟨_, rfl⟩
   replace H : (if a2 = 0 then (if a3 = true then (flo_Make.j1 kj4 ((ji8) - 1) 1 false x9_4) else (some x9_4)) else (flo_Make.j1 kj4 ji8 a2 a3 x9_4)) = some r := by first | (rw [hji8] at H; exact H) | (simp only [hji8] at H ⊢; exact H)
   have hji8_ : (if 1048576 < (ji7) then 1048576 else (ji7)) = ji8 := hji8
   have HC9 := am H
   clear H
   go_upto_if 16 with (fail)
   go_cut [1, 2, 3] (fun v1 v2 v3 wc => ∃ (kq : Nat) (x1_8 : Int) (x2_8 : Int) (x3_8 : Bool), v1 = .int .i64 x1_8 ∧ v2 = .int .u64 x2_8 ∧ v3 = .bool x3_8 ∧ Aside0 (flo_Make.j1 kq x1_8 x2_8 x3_8 x9_4 = some r) ∧ Aside0 (kq ≤ kj4) ∧ Aside0 (Below w.heap.size w wc))
   case first =>
    have H := HC9.out
    clear HC9
    by_cases c10 : a2 = 0
    ·rw [if_pos c10] at H
     have c10b0 : (a2 == 0) = true := beq_iff_eq.mpr c10
     have c10b1 : (a2 != 0) = false := bne_eq_false_iff_eq.mpr c10
     clear c10
     (first | rw [c10b0] | (simp only [i64_w, i32_w]; rw [c10b0]) | rw [c10b1] | (simp only [i64_w, i32_w]; rw [c10b1]) | skip)
     by_cases c11 : a3 = true
     ·subst c11
      rw [if_pos rfl] at H
      have H' := am H
      clear H
      go_wp2
      go_meet
      case rel => exact ⟨_, ((ji8) - 1), (1), (false), (by first | rfl | (simp; done) | (simp only [← hji8] <;> (first | rfl | simp)) | (simp [*]; done)), (by first | rfl | (simp; done) | (simp [*]; done)), (by first | rfl | (simp; done) | (simp [*]; done)), H', ⟨by have := HJ4.out; first | omega | exact Nat.le_refl _⟩, ⟨pB⟩⟩
     ·replace c11 := Bool.eq_false_iff.mpr c11
      subst c11
      rw [if_neg (show ¬ (false = true) by decide)] at H
      obtain rfl := Option.some.inj H
      go_wp2
      go_ret
      exact ⟨by first | rfl | (simp [errW_none, errW_some] <;> rfl) | (simp only [← hji7, ← hji8]; first | rfl | (simp [errW_none, errW_some] <;> rfl)) | (simp [*, errW_none, errW_some] <;> rfl), pB⟩
    ·rw [if_neg c10] at H
     have c10b0 : (a2 == 0) = false := beq_eq_false_iff_ne.mpr c10
     have c10b1 : (a2 != 0) = true := bne_iff_ne.mpr c10
     (first | rw [c10b0] | (simp only [i64_w, i32_w]; rw [c10b0]) | rw [c10b1] | (simp only [i64_w, i32_w]; rw [c10b1]) | skip)
     have H' := am H
     clear H
     go_wp2
     go_meet
     case rel => exact ⟨_, (ji8), (a2), (a3), (by first | rfl | (simp; done) | (simp only [← hji8] <;> (first | rfl | simp)) | (simp [*]; done)), (by first | rfl | (simp; done) | (simp [*]; done)), (by first | rfl | (simp; done) | (simp [*]; done)), H', ⟨by have := HJ4.out; first | omega | exact Nat.le_refl _⟩, ⟨pB⟩⟩
   case rest =>
    clear HC9
    try clear c1
    try clear p2
    try clear c4
    try clear c6
    try clear c10
    try clear c10b0
    try clear c10b1
    try clear c11
    try clear p2
    obtain ⟨kq, x1_8, x2_8, x3_8, rfl, rfl, rfl, HA, HJ8, HB⟩ := hcut
    cases kq with
    | zero => exact absurd HA.out (by simp [flo_Make.j1])
    | succ kj8 =>
     have H := HA.out
     clear HA
     simp only [flo_Make.j1] at H
     replace H := Option.bind_eq_some_iff.mp H
     obtain ⟨t370, A120, H⟩ := H
     try dsimp only at H
     have A12 := am A120
     clear A120
     obtain ⟨ji13, hji13⟩ : ∃ j_ : Int, (mx (wrap64 ((wrap64 (t370 - 52)) - 1)) (wrap64 ((-1074) - x1_8))) = j_ := ⟨_, rfl⟩
     replace H : (if (ji13) > 0 then ((flo_shifted.f x2_8 x3_8 (ji13)).bind fun t371 => (flo_Make.j2 kj8 x1_8 t371 x9_4 ji13)) else (if (ji13) = 0 then (if x3_8 = true then (flo_Make.j2 kj8 x1_8 (IntKind.u64.wrap (x2_8 + (Go.bits .and .u64 x2_8 1))) x9_4 ji13) else (flo_Make.j2 kj8 x1_8 x2_8 x9_4 ji13)) else (if 0 ≤ (wrap64 (-(ji13))) then (if x3_8 = true then (if 0 ≤ (wrap64 ((wrap64 (-(ji13))) - 1)) then (flo_Make.j2 kj8 x1_8 (Go.bits .or .u64 (shl .u64 x2_8 (wrap64 (-(ji13)))) (shl .u64 1 (wrap64 ((wrap64 (-(ji13))) - 1)))) x9_4 ji13) else (none)) else (flo_Make.j2 kj8 x1_8 (shl .u64 x2_8 (wrap64 (-(ji13)))) x9_4 ji13)) else (none)))) = some r := by first | (rw [hji13] at H; exact H) | (simp only [hji13] at H ⊢; exact H)
     (try rw [hji13] at A12)
     have hji13_ : (if (wrap64 ((wrap64 (t370 - 52)) - 1)) < (wrap64 ((-1074) - x1_8)) then (wrap64 ((-1074) - x1_8)) else (wrap64 ((wrap64 (t370 - 52)) - 1))) = ji13 := hji13
     have HC14 := am H
     clear H
     go_upto_block 0 with (first | ((with_reducible refine gate_callee (f := 69) rfl ?_); refine goesL_ (some 23) rfl rfl Tryd.func69 (by kernel_rfl) rfl #[.int .u64 x2_8] rfl pM ?_; (with_reducible refine (bits_Len64.calls x2_8 t370 _ A12.out).mono ?_); rintro e w' ⟨rfl, ⟨nd, rfl⟩⟩; refine ⟨_, rfl, ?_⟩))
     (try simp only [Act.put, List.setIfInBounds_toArray, List.set_cons_zero, List.set_cons_succ])
     go_cut [2] (fun v2 wc => ∃ (kq : Nat) (x2_13 : Int), v2 = .int .u64 x2_13 ∧ Aside0 (flo_Make.j2 kq x1_8 x2_13 x9_4 ji13 = some r) ∧ Aside0 (kq ≤ kj8) ∧ Aside0 (Below w.heap.size w wc))
     case first =>
      have H := HC14.out
      clear HC14
      by_cases c15 : (ji13) > 0
      ·rw [if_pos c15] at H
       have c15b0 : decide (0 < (ji13)) = true := decide_eq_true c15
       clear c15
       (first | rw [c15b0] | (simp only [i64_w, i32_w]; rw [c15b0]) | rw [c15b1] | (simp only [i64_w, i32_w]; rw [c15b1]) | skip)
       replace H := Option.bind_eq_some_iff.mp H
       obtain ⟨t371, A160, H⟩ := H
       try dsimp only at H
       have A16 := am A160
       clear A160
       have H' := am H
       clear H
       go_wp2_with (first | ((with_reducible refine gate_callee (f := 70) rfl ?_); refine goesL_ (some 46) rfl rfl Tryd.func70 (by kernel_rfl) rfl #[.int .u64 x2_8, .bool x3_8, .int .i64 ji13] rfl (by (try simp only [List.map_toArray, List.map_cons, List.map_nil]); first | done | (simp only [hji13]; rfl) | rfl | (simp only [List.length_drop, List.length_take]; rfl)) ?_; (with_reducible refine (flo_shifted.calls x2_8 x3_8 ji13 t371 _ A16.out).mono ?_); rintro e w' ⟨rfl, ⟨nd, rfl⟩⟩; refine ⟨_, rfl, ?_⟩))
       go_meet
       case rel => exact ⟨_, (t371), (by first | rfl | (simp; done) | (simp [*]; done)), H', ⟨by have := HJ4.out; have := HJ8.out; first | omega | exact Nat.le_refl _⟩, ⟨pB⟩⟩
      ·rw [if_neg c15] at H
       have c15b0 : decide (0 < (ji13)) = false := decide_eq_false c15
       clear c15
       (first | rw [c15b0] | (simp only [i64_w, i32_w]; rw [c15b0]) | rw [c15b1] | (simp only [i64_w, i32_w]; rw [c15b1]) | skip)
       by_cases c17 : (ji13) = 0
       ·rw [if_pos c17] at H
        have c17b0 : ((ji13) == 0) = true := beq_iff_eq.mpr c17
        have c17b1 : ((ji13) != 0) = false := bne_eq_false_iff_eq.mpr c17
        clear c17
        by_cases c18 : x3_8 = true
        ·subst c18
         rw [if_pos rfl] at H
         have H' := am H
         clear H
         go_wp2
         go_meet
         case rel => exact ⟨_, (IntKind.u64.wrap (x2_8 + (Go.bits .and .u64 x2_8 1))), (by first | rfl | (simp; done) | (simp [*]; done)), H', ⟨by have := HJ4.out; have := HJ8.out; first | omega | exact Nat.le_refl _⟩, ⟨pB⟩⟩
        ·replace c18 := Bool.eq_false_iff.mpr c18
         subst c18
         rw [if_neg (show ¬ (false = true) by decide)] at H
         have H' := am H
         clear H
         go_wp2
         go_meet
         case rel => exact ⟨_, (x2_8), (by first | rfl | (simp; done) | (simp [*]; done)), H', ⟨by have := HJ4.out; have := HJ8.out; first | omega | exact Nat.le_refl _⟩, ⟨pB⟩⟩
       ·rw [if_neg c17] at H
        have c17b0 : ((ji13) == 0) = false := beq_eq_false_iff_ne.mpr c17
        have c17b1 : ((ji13) != 0) = true := bne_iff_ne.mpr c17
        obtain ⟨ji19, hji19⟩ : ∃ j_ : Int, (wrap64 (-(ji13))) = j_ := ⟨_, rfl⟩
        replace H : (if 0 ≤ (ji19) then (if x3_8 = true then (if 0 ≤ (wrap64 ((ji19) - 1)) then (flo_Make.j2 kj8 x1_8 (Go.bits .or .u64 (shl .u64 x2_8 (ji19)) (shl .u64 1 (wrap64 ((ji19) - 1)))) x9_4 ji13) else (none)) else (flo_Make.j2 kj8 x1_8 (shl .u64 x2_8 (ji19)) x9_4 ji13)) else (none)) = some r := by first | (rw [hji19] at H; exact H) | (simp only [hji19] at H ⊢; exact H)
        have hji19w : (IntKind.i64.wrap (-(ji13))) = ji19 := (i64_w _).trans hji19
        by_cases c20 : 0 ≤ (ji19)
        ·rw [if_pos c20] at H
         have c20b0 := eq_true c20
         have c20b1 : decide (0 ≤ (ji19)) = true := decide_eq_true c20
         clear c20
         obtain ⟨ji21, hji21⟩ : ∃ j_ : Int, (shl .u64 x2_8 (ji19)) = j_ := ⟨_, rfl⟩
         replace H : (if x3_8 = true then (if 0 ≤ (wrap64 ((ji19) - 1)) then (flo_Make.j2 kj8 x1_8 (Go.bits .or .u64 (ji21) (shl .u64 1 (wrap64 ((ji19) - 1)))) x9_4 ji13) else (none)) else (flo_Make.j2 kj8 x1_8 ji21 x9_4 ji13)) = some r := by first | (rw [hji21] at H; exact H) | (simp only [hji21] at H ⊢; exact H)
         have hji21_ : (IntKind.u64.wrap (x2_8 * 2 ^ min (ji19).toNat 64)) = ji21 := hji21
         have hji21z : (ji19) ≤ 64 → (IntKind.u64.wrap (x2_8 * 2 ^ (ji19).toNat)) = ji21 := shl_small hji21
         by_cases c22 : x3_8 = true
         ·subst c22
          rw [if_pos rfl] at H
          obtain ⟨ji23, hji23⟩ : ∃ j_ : Int, (wrap64 ((ji19) - 1)) = j_ := ⟨_, rfl⟩
          replace H : (if 0 ≤ (ji23) then (flo_Make.j2 kj8 x1_8 (Go.bits .or .u64 (ji21) (shl .u64 1 (ji23))) x9_4 ji13) else (none)) = some r := by first | (rw [hji23] at H; exact H) | (simp only [hji23] at H ⊢; exact H)
          have hji23w : (IntKind.i64.wrap ((ji19) - 1)) = ji23 := (i64_w _).trans hji23
          by_cases c24 : 0 ≤ (ji23)
          ·rw [if_pos c24] at H
           have c24b0 := eq_true c24
           have c24b1 : decide (0 ≤ (ji23)) = true := decide_eq_true c24
           clear c24
           obtain ⟨ji25, hji25⟩ : ∃ j_ : Int, (shl .u64 1 (ji23)) = j_ := ⟨_, rfl⟩
           replace H : (flo_Make.j2 kj8 x1_8 (Go.bits .or .u64 (ji21) (ji25)) x9_4 ji13) = some r := by first | (rw [hji25] at H; exact H) | (simp only [hji25] at H ⊢; exact H)
           have hji25_ : (IntKind.u64.wrap (1 * 2 ^ min (ji23).toNat 64)) = ji25 := hji25
           have hji25z : (ji23) ≤ 64 → (IntKind.u64.wrap (1 * 2 ^ (ji23).toNat)) = ji25 := shl_small hji25
           have hji25u : (IntKind.u64.wrap (2 ^ min (ji23).toNat 64)) = ji25 := by have h_ := hji25_; rw [Int.one_mul] at h_; exact h_
           have hji25v : (ji23) ≤ 64 → (IntKind.u64.wrap (2 ^ (ji23).toNat)) = ji25 := fun hle_ => by have h_ := hji25z hle_; rw [Int.one_mul] at h_; exact h_
           have H' := am H
           clear H
           go_wp2
           go_meet
           case rel => exact ⟨_, (Go.bits .or .u64 (ji21) (ji25)), (by first | rfl | (simp; done) | (simp only [← hji21, ← hji25] <;> (first | rfl | simp)) | (simp [*]; done)), H', ⟨by have := HJ4.out; have := HJ8.out; first | omega | exact Nat.le_refl _⟩, ⟨pB⟩⟩
          ·rw [if_neg c24] at H
           exact absurd H (by simp)
         ·replace c22 := Bool.eq_false_iff.mpr c22
          subst c22
          rw [if_neg (show ¬ (false = true) by decide)] at H
          have H' := am H
          clear H
          go_wp2
          go_meet
          case rel => exact ⟨_, (ji21), (by first | rfl | (simp; done) | (simp only [← hji21] <;> (first | rfl | simp)) | (simp [*]; done)), H', ⟨by have := HJ4.out; have := HJ8.out; first | omega | exact Nat.le_refl _⟩, ⟨pB⟩⟩
        ·rw [if_neg c20] at H
         exact absurd H (by simp)
     case rest =>
      clear HC14
      try clear c1
      try clear c2
      try clear p2
      try clear c4
      try clear c6
      try clear p6
      try clear c7
      try clear c10
      try clear c10b0
      try clear c10b1
      try clear c11
      try clear c15
      try clear c15b0
      try clear c15b1
      try clear c17
      try clear c17b0
      try clear c17b1
      try clear c18
      try clear c20
      try clear c20b0
      try clear c20b1
      try clear c22
      try clear c24
      try clear c24b0
      try clear c24b1
      try clear p2
      obtain ⟨kq, x2_13, rfl, HA, HJ13, HB⟩ := hcut
      cases kq with
      | zero => exact absurd HA.out (by simp [flo_Make.j2])
      | succ kj13 =>
       have H := HA.out
       clear HA
       simp only [flo_Make.j2] at H
       have HC26 := am H
       clear H
       go_upto_if 59 with (fail)
       go_cut [1, 2] (fun v1 v2 wc => ∃ (kq : Nat) (x1_25 : Int) (x2_25 : Int), v1 = .int .i64 x1_25 ∧ v2 = .int .u64 x2_25 ∧ Aside0 (flo_Make.j3 kq x1_25 x2_25 x9_4 = some r) ∧ Aside0 (kq ≤ kj13) ∧ Aside0 (Below w.heap.size w wc))
       case first =>
        have H := HC26.out
        clear HC26
        by_cases c27 : x2_13 = 9007199254740992
        ·rw [if_pos c27] at H
         have c27b0 : (x2_13 == 9007199254740992) = true := beq_iff_eq.mpr c27
         have c27b1 : (x2_13 != 9007199254740992) = false := bne_eq_false_iff_eq.mpr c27
         clear c27
         (first | rw [c27b0] | (simp only [i64_w, i32_w]; rw [c27b0]) | rw [c27b1] | (simp only [i64_w, i32_w]; rw [c27b1]) | skip)
         have H' := am H
         clear H
         go_wp2
         go_meet
         case rel => exact ⟨_, (wrap64 ((wrap64 (x1_8 + ji13)) + 1)), (4503599627370496), (by first | rfl | (simp; done) | (simp only [← hji13] <;> (first | rfl | simp)) | (simp [*]; done)), (by first | rfl | (simp; done) | (simp [*]; done)), H', ⟨by have := HJ4.out; have := HJ8.out; have := HJ13.out; first | omega | exact Nat.le_refl _⟩, ⟨pB⟩⟩
        ·rw [if_neg c27] at H
         have c27b0 : (x2_13 == 9007199254740992) = false := beq_eq_false_iff_ne.mpr c27
         have c27b1 : (x2_13 != 9007199254740992) = true := bne_iff_ne.mpr c27
         (first | rw [c27b0] | (simp only [i64_w, i32_w]; rw [c27b0]) | rw [c27b1] | (simp only [i64_w, i32_w]; rw [c27b1]) | skip)
         have H' := am H
         clear H
         go_wp2
         go_meet
         case rel => exact ⟨_, (wrap64 (x1_8 + ji13)), (x2_13), (by first | rfl | (simp; done) | (simp only [← hji13] <;> (first | rfl | simp)) | (simp [*]; done)), (by first | rfl | (simp; done) | (simp [*]; done)), H', ⟨by have := HJ4.out; have := HJ8.out; have := HJ13.out; first | omega | exact Nat.le_refl _⟩, ⟨pB⟩⟩
       case rest =>
        clear HC26
        try clear c1
        try clear c2
        try clear p2
        try clear c4
        try clear c6
        try clear p6
        try clear c7
        try clear c10
        try clear c10b0
        try clear c10b1
        try clear c11
        try clear c15
        try clear c15b0
        try clear c15b1
        try clear c17
        try clear c17b0
        try clear c17b1
        try clear c18
        try clear c20
        try clear c20b0
        try clear c20b1
        try clear c22
        try clear c24
        try clear c24b0
        try clear c24b1
        try clear c27
        try clear c27b0
        try clear c27b1
        try clear p2
        try clear p6
        obtain ⟨kq, x1_25, x2_25, rfl, rfl, HA, HJ25, HB⟩ := hcut
        cases kq with
        | zero => exact absurd HA.out (by simp [flo_Make.j3])
        | succ kj25 =>
         have H := HA.out
         clear HA
         simp only [flo_Make.j3] at H
         by_cases c28 : x2_25 = 0
         ·rw [if_pos c28] at H
          have c28b0 : (x2_25 == 0) = true := beq_iff_eq.mpr c28
          have c28b1 : (x2_25 != 0) = false := bne_eq_false_iff_eq.mpr c28
          clear c28
          obtain rfl := Option.some.inj H
          go_wp2
          go_ret
          exact ⟨by first | rfl | (simp [errW_none, errW_some] <;> rfl) | (simp only [← hji7, ← hji8, ← hji13]; first | rfl | (simp [errW_none, errW_some] <;> rfl)) | (simp [*, errW_none, errW_some] <;> rfl), pB⟩
         ·rw [if_neg c28] at H
          have c28b0 : (x2_25 == 0) = false := beq_eq_false_iff_ne.mpr c28
          have c28b1 : (x2_25 != 0) = true := bne_iff_ne.mpr c28
          by_cases c29 : x1_25 > 971
          ·rw [if_pos c29] at H
           have c29b0 : decide (971 < x1_25) = true := decide_eq_true c29
           clear c29
           obtain rfl := Option.some.inj H
           go_wp2
           go_ret
           exact ⟨by first | rfl | (simp [errW_none, errW_some] <;> rfl) | (simp only [← hji7, ← hji8, ← hji13]; first | rfl | (simp [errW_none, errW_some] <;> rfl)) | (simp [*, errW_none, errW_some] <;> rfl), pB⟩
          ·rw [if_neg c29] at H
           have c29b0 : decide (971 < x1_25) = false := decide_eq_false c29
           clear c29
           by_cases c30 : x2_25 < 4503599627370496
           ·rw [if_pos c30] at H
            have c30b0 : decide (x2_25 < 4503599627370496) = true := decide_eq_true c30
            clear c30
            obtain rfl := Option.some.inj H
            go_wp2
            go_ret
            exact ⟨by first | rfl | (simp [errW_none, errW_some] <;> rfl) | (simp only [← hji7, ← hji8, ← hji13]; first | rfl | (simp [errW_none, errW_some] <;> rfl)) | (simp [*, errW_none, errW_some] <;> rfl), pB⟩
           ·rw [if_neg c30] at H
            have c30b0 : decide (x2_25 < 4503599627370496) = false := decide_eq_false c30
            clear c30
            obtain rfl := Option.some.inj H
            go_wp2
            go_ret
            exact ⟨by first | rfl | (simp [errW_none, errW_some] <;> rfl) | (simp only [← hji7, ← hji8, ← hji13]; first | rfl | (simp [errW_none, errW_some] <;> rfl)) | (simp [*, errW_none, errW_some] <;> rfl), pB⟩
def dec_big_by.l0 : Nat → List Int → List Int → Int → Int → Option (Int × Bool)
 | 0, _, _, _, _ => none
 | k + 1, x0, x1, x6, x7 => if x7 ≥ 0 then ((dec_big_len.f x0).bind fun t372 => ((dec_big_len.f x1).bind fun t373 => (if t372 < (wrap64 (t373 + x7)) then (dec_big_by.l0 k x0 x1 x6 (wrap64 (x7 - 1))) else ((dec_big_up.f k x1 x7).bind fun t374 => ((dec_big_cmp.f k x0 t374).bind fun t377 => (if t377 ≥ 0 then ((dec_big_minus.f k x0 t374).bind fun t378 => (if 0 ≤ x7 then (dec_big_by.l0 k t378 x1 (Go.bits .or .u64 x6 (shl .u64 1 x7)) (wrap64 (x7 - 1))) else (none))) else (dec_big_by.l0 k x0 x1 x6 (wrap64 (x7 - 1))))))))) else (some (x6, decide ((x0.length : Int) > 0)))
def dec_big_by.f (k : Nat) (l0 : List Int) (l1 : List Int) : Option (Int × Bool) := dec_big_by.l0 k l0 l1 0 63
theorem dec_big_by.mono_l : ∀ k, (∀ y0 y1 y2 y3, LeO (dec_big_by.l0 k y0 y1 y2 y3) (dec_big_by.l0 (k + 1) y0 y1 y2 y3))
 | 0 => fun _ _ _ _ r h => by simp [dec_big_by.l0] at h
 | k + 1 => by
  have ih0 := dec_big_by.mono_l k
  ·intro y0 y1 y2 y3
   unfold dec_big_by.l0
   repeat' first
   | (with_reducible exact ih0 _ _ _ _)
   | (with_reducible exact dec_big_cmp.mono _ _ _)
   | (with_reducible exact dec_big_minus.mono _ _ _)
   | (with_reducible exact dec_big_up.mono _ _ _)
   | (with_reducible exact LeO.refl _)
   | (with_reducible exact LeO.none _)
   | (with_reducible refine LeO.ite ?_ ?_)
   | (with_reducible refine LeO.bind ?_ (fun _ => ?_))
   | exact ih0 _ _ _ _
   | exact dec_big_cmp.mono _ _ _
   | exact dec_big_minus.mono _ _ _
   | exact dec_big_up.mono _ _ _
   | exact LeO.none _
   | refine LeO.ite ?_ ?_
   | refine LeO.bind ?_ (fun _ => ?_)
theorem dec_big_by.mono : ∀ a0 a1 k, LeO (dec_big_by.f k a0 a1) (dec_big_by.f (k + 1) a0 a1) := by
 intro a0 a1 k
 have ih0 := dec_big_by.mono_l k
 unfold dec_big_by.f
 repeat' first
   | (with_reducible exact ih0 _ _ _ _)
   | (with_reducible exact dec_big_cmp.mono _ _ _)
   | (with_reducible exact dec_big_minus.mono _ _ _)
   | (with_reducible exact dec_big_up.mono _ _ _)
   | (with_reducible exact LeO.refl _)
   | (with_reducible exact LeO.none _)
   | (with_reducible refine LeO.ite ?_ ?_)
   | (with_reducible refine LeO.bind ?_ (fun _ => ?_))
   | exact ih0 _ _ _ _
   | exact dec_big_cmp.mono _ _ _
   | exact dec_big_minus.mono _ _ _
   | exact dec_big_up.mono _ _ _
   | exact LeO.none _
   | refine LeO.ite ?_ ?_
   | refine LeO.bind ?_ (fun _ => ?_)
set_option maxHeartbeats 8000000 in
set_option maxRecDepth 100000 in
theorem dec_big_by.calls (k : Nat) (P0_ : Nat → Prop) (A0 : Option Addr) (c0 : Nat) (l0 : List Int) (A1 : Option Addr) (c1 : Nat) (l1 : List Int) (r1 : Int) (r2 : Bool) (w : World) (hs0 : Kd.V (Kd.int .u32) 74 w w.heap.size (fun k_ => P0_ k_) (.slice A0 l0.length c0) l0) (hr1 : Kd.C (Kd.int .u32) w A1 l1.length l1) (hc1 : l1.length ≤ c1) (h : dec_big_by.f k l0 l1 = some (r1, r2)) :
  Calls Tryd.prog 45 #[.slice A0 l0.length c0, .slice A1 l1.length c1] w fun e w' => e = .returned (.tuple #[.int .u64 r1, .bool r2]) ∧ Below w.heap.size w w' := by
 have HO0 := am (show Kd.V (Kd.int .u32) 74 w w.heap.size (fun k_ => (P0_ k_ ∨ w.heap.size ≤ k_)) (.slice A0 l0.length c0) l0 from Kd.V_mono hs0 (fun k_ hk => .inl hk))
 have HR1 := am hr1
 have HC1 := am hc1
 clear hr1 hc1
 have HB := am (Below.refl w.heap.size w)
 have H : (dec_big_by.l0 k l0 l1 0 63) = some (r1, r2) := h
 clear h
 have H' := am H
 clear H
 go_enter Tryd.func45, Tryd.ntmps45
 go_wp2
 go_loopg [0, 6, 7] k (fun kq v0 v6 v7 w' => ∃ (x0_1 : List Int) (x6_1 : Int) (x7_1 : Int), v6 = .int .u64 x6_1 ∧ v7 = .int .i64 x7_1 ∧ Aside0 (dec_big_by.l0 kq x0_1 l1 x6_1 x7_1 = some (r1, r2)) ∧ Aside0 (kq ≤ k) ∧ Aside0 (Kd.V (Kd.int .u32) 74 w' w.heap.size (fun k_ => (P0_ k_ ∨ w.heap.size ≤ k_)) v0 x0_1) ∧ Aside0 (Below w.heap.size w w'))
 case atStart => exact ⟨(l0), (0), (63), (by first | rfl | (simp; done) | (simp [*]; done)), (by first | rfl | (simp; done) | (simp [*]; done)), H', ⟨Nat.le_refl _⟩, ⟨by (with_reducible repeat (first | apply Kd.V_alloc | apply Kd.V_drewN | apply Kd.V_drew)); exact HO0.out⟩, ⟨pB⟩⟩
 case round =>
  clear H'
  try clear c1
  try clear p2
  obtain ⟨x0_1, x6_1, x7_1, rfl, rfl, HA, HK1, HO_0, HB⟩ := hrel
  cases gk with
  | zero => exact absurd HA.out (by simp [dec_big_by.l0])
  | succ k1 =>
   have H := HA.out
   clear HA
   simp only [dec_big_by.l0] at H
   by_cases c3 : x7_1 ≥ 0
   ·rw [if_pos c3] at H
    have c3b0 : decide (0 ≤ x7_1) = true := decide_eq_true c3
    clear c3
    replace H := Option.bind_eq_some_iff.mp H
    obtain ⟨t372, A40, H⟩ := H
    try dsimp only at H
    have A4 := am A40
    clear A40
    replace H := Option.bind_eq_some_iff.mp H
    obtain ⟨t373, A50, H⟩ := H
    try dsimp only at H
    have A5 := am A50
    clear A50
    by_cases c6 : t372 < (wrap64 (t373 + x7_1))
    ·rw [if_pos c6] at H
     have c6b0 : decide (t372 < (wrap64 (t373 + x7_1))) = true := decide_eq_true c6
     clear c6
     have H' := am H
     clear H
     obtain ⟨Ao7, co7, eo7⟩ := Kd.V_slice HO_0.out
     subst eo7
     go_wp2_with (first | ((with_reducible refine gate_callee (f := 36) rfl ?_); refine goesL_ (some 14) rfl rfl Tryd.func36 (by kernel_rfl) rfl #[.slice Ao7 x0_1.length co7] rfl pM ?_; (with_reducible refine (dec_big_len.calls _ _ x0_1 t372 _ ?side1 ?side2 A4.out).mono ?_); (case side1 => repeat (first | exact (Kd.V_reads' HO_0.out).2.2 | (with_reducible refine Kd.C_alloc ?_ _) | (with_reducible refine Kd.C_drewN ?_ _) | (with_reducible refine Kd.C_drew ?_))); (case side2 => exact (Kd.V_reads' HO_0.out).2.1); rintro e w' ⟨rfl, ⟨nd, rfl⟩⟩; refine ⟨_, rfl, ?_⟩) | ((with_reducible refine gate_callee (f := 36) rfl ?_); refine goesL_ (some 16) rfl rfl Tryd.func36 (by kernel_rfl) rfl #[.slice A1 l1.length c1] rfl pM ?_; (with_reducible refine (dec_big_len.calls _ _ l1 t373 _ ?side1 ?side2 A5.out).mono ?_); (case side1 => repeat (first | exact (Kd.C_below HR1.out pB) | (with_reducible refine Kd.C_alloc ?_ _) | (with_reducible refine Kd.C_drewN ?_ _) | (with_reducible refine Kd.C_drew ?_))); (case side2 => exact HC1.out); rintro e w' ⟨rfl, ⟨nd, rfl⟩⟩; refine ⟨_, rfl, ?_⟩))
     go_roundg k1
     case measure => have := HK1.out; omega
     case rel => exact ⟨(x0_1), (x6_1), (wrap64 (x7_1 - 1)), (by first | rfl | (simp; done) | (simp [*]; done)), (by first | rfl | (simp; done) | (simp [*]; done)), H', ⟨by have := HK1.out; omega⟩, ⟨by (with_reducible repeat (first | apply Kd.V_alloc | apply Kd.V_drewN | apply Kd.V_drew)); exact HO_0.out⟩, ⟨pB⟩⟩
    ·rw [if_neg c6] at H
     have c6b0 : decide (t372 < (wrap64 (t373 + x7_1))) = false := decide_eq_false c6
     clear c6
     replace H := Option.bind_eq_some_iff.mp H
     obtain ⟨t374, A80, H⟩ := H
     try dsimp only at H
     have A8 := am A80
     clear A80
     replace H := Option.bind_eq_some_iff.mp H
     obtain ⟨t377, A90, H⟩ := H
     try dsimp only at H
     have A9 := am A90
     clear A90
     by_cases c10 : t377 ≥ 0
     ·rw [if_pos c10] at H
      have c10b0 : decide (0 ≤ t377) = true := decide_eq_true c10
      clear c10
      replace H := Option.bind_eq_some_iff.mp H
      obtain ⟨t378, A110, H⟩ := H
      try dsimp only at H
      have A11 := am A110
      clear A110
      by_cases c12 : 0 ≤ x7_1
      ·rw [if_pos c12] at H
       have c12b0 := eq_true c12
       have c12b1 : decide (0 ≤ x7_1) = true := decide_eq_true c12
       clear c12
       obtain ⟨ji13, hji13⟩ : ∃ j_ : Int, (shl .u64 1 x7_1) = j_ := ⟨_, rfl⟩
       replace H : (dec_big_by.l0 k1 t378 l1 (Go.bits .or .u64 x6_1 (ji13)) (wrap64 (x7_1 - 1))) = some (r1, r2) := by first | (rw [hji13] at H; exact H) | (simp only [hji13] at H ⊢; exact H)
       (try rw [hji13] at A4)
       (try rw [hji13] at A5)
       (try rw [hji13] at A8)
       (try rw [hji13] at A9)
       (try rw [hji13] at A11)
       have hji13_ : (IntKind.u64.wrap (1 * 2 ^ min x7_1.toNat 64)) = ji13 := hji13
       have hji13z : x7_1 ≤ 64 → (IntKind.u64.wrap (1 * 2 ^ x7_1.toNat)) = ji13 := shl_small hji13
       have hji13u : (IntKind.u64.wrap (2 ^ min x7_1.toNat 64)) = ji13 := by have h_ := hji13_; rw [Int.one_mul] at h_; exact h_
       have hji13v : x7_1 ≤ 64 → (IntKind.u64.wrap (2 ^ x7_1.toNat)) = ji13 := fun hle_ => by have h_ := hji13z hle_; rw [Int.one_mul] at h_; exact h_
       have H' := am H
       clear H
       obtain ⟨Ao14, co14, eo14⟩ := Kd.V_slice HO_0.out
       subst eo14
       go_wp2_with (first | ((with_reducible refine gate_callee (f := 36) rfl ?_); refine goesL_ (some 14) rfl rfl Tryd.func36 (by kernel_rfl) rfl #[.slice Ao14 x0_1.length co14] rfl pM ?_; (with_reducible refine (dec_big_len.calls _ _ x0_1 t372 _ ?side1 ?side2 A4.out).mono ?_); (case side1 => repeat (first | exact (Kd.V_reads' HO_0.out).2.2 | (with_reducible refine Kd.C_alloc ?_ _) | (with_reducible refine Kd.C_drewN ?_ _) | (with_reducible refine Kd.C_drew ?_))); (case side2 => exact (Kd.V_reads' HO_0.out).2.1); rintro e w' ⟨rfl, ⟨nd, rfl⟩⟩; refine ⟨_, rfl, ?_⟩) | ((with_reducible refine gate_callee (f := 36) rfl ?_); refine goesL_ (some 16) rfl rfl Tryd.func36 (by kernel_rfl) rfl #[.slice A1 l1.length c1] rfl pM ?_; (with_reducible refine (dec_big_len.calls _ _ l1 t373 _ ?side1 ?side2 A5.out).mono ?_); (case side1 => repeat (first | exact (Kd.C_below HR1.out pB) | (with_reducible refine Kd.C_alloc ?_ _) | (with_reducible refine Kd.C_drewN ?_ _) | (with_reducible refine Kd.C_drew ?_))); (case side2 => exact HC1.out); rintro e w' ⟨rfl, ⟨nd, rfl⟩⟩; refine ⟨_, rfl, ?_⟩) | ((with_reducible refine gate_callee (f := 40) rfl ?_); refine goesL_ (some 22) rfl rfl Tryd.func40 (by kernel_rfl) rfl #[.slice A1 l1.length c1, .int .i64 x7_1] rfl pM ?_; (with_reducible refine (dec_big_up.calls k1 _ _ l1 x7_1 t374 _ ?side1 ?side2 A8.out).mono ?_); (case side1 => repeat (first | exact (Kd.C_below HR1.out pB) | (with_reducible refine Kd.C_alloc ?_ _) | (with_reducible refine Kd.C_drewN ?_ _) | (with_reducible refine Kd.C_drew ?_))); (case side2 => exact HC1.out); rintro e w15 ⟨v375, rfl, ho0, hb⟩; refine ⟨_, rfl, ?_⟩; replace HO_0 := am (Kd.V_elder' (pV HO_0.out) (Kd.R_base ho0) hb); have HO376 := am (Kd.R_lower (Kd.R_newM (M := fun k_ => (w.heap.size ≤ k_)) ho0 (below_size pB) (fun k_ h_ => h_)) (below_size pB)); replace HB := am (below_step pB hb); (try clear hb); (try clear ho0); obtain ⟨Ao16, co16, eo16⟩ := Kd.R_slice HO376.out; subst eo16) | ((with_reducible refine gate_callee (f := 35) rfl ?_); refine goesL_ (some 25) rfl rfl Tryd.func35 (by kernel_rfl) rfl #[.slice Ao14 x0_1.length co14, .slice Ao16 t374.length co16] rfl pM ?_; (with_reducible refine (dec_big_cmp.calls k1 _ _ x0_1 _ _ t374 t377 _ ?side1 ?side2 ?side3 ?side4 A9.out).mono ?_); (case side1 => repeat (first | exact (Kd.V_reads' HO_0.out).2.2 | (with_reducible refine Kd.C_alloc ?_ _) | (with_reducible refine Kd.C_drewN ?_ _) | (with_reducible refine Kd.C_drew ?_))); (case side2 => exact (Kd.V_reads' HO_0.out).2.1); (case side3 => repeat (first | exact (Kd.R_reads' HO376.out).2.2 | (with_reducible refine Kd.C_alloc ?_ _) | (with_reducible refine Kd.C_drewN ?_ _) | (with_reducible refine Kd.C_drew ?_))); (case side4 => exact (Kd.R_reads' HO376.out).2.1); rintro e w' ⟨rfl, ⟨nd, rfl⟩⟩; refine ⟨_, rfl, ?_⟩) | ((with_reducible refine gate_callee (f := 39) rfl ?_); refine goesL_ (some 29) rfl rfl Tryd.func39 (by kernel_rfl) rfl #[.slice Ao14 x0_1.length co14, .slice Ao16 t374.length co16] rfl pM ?_; (with_reducible refine (dec_big_minus.calls k1 _ _ x0_1 _ _ t374 t378 _ ?side1 ?side2 ?side3 ?side4 A11.out).mono ?_); (case side1 => repeat (first | exact (Kd.V_reads' HO_0.out).2.2 | (with_reducible refine Kd.C_alloc ?_ _) | (with_reducible refine Kd.C_drewN ?_ _) | (with_reducible refine Kd.C_drew ?_))); (case side2 => exact (Kd.V_reads' HO_0.out).2.1); (case side3 => repeat (first | exact (Kd.R_reads' HO376.out).2.2 | (with_reducible refine Kd.C_alloc ?_ _) | (with_reducible refine Kd.C_drewN ?_ _) | (with_reducible refine Kd.C_drew ?_))); (case side4 => exact (Kd.R_reads' HO376.out).2.1); rintro e w17 ⟨v379, rfl, ho0, hb⟩; refine ⟨_, rfl, ?_⟩; replace HO_0 := am (Kd.V_below (pV HO_0.out) hb); have HO380 := am (Kd.V_lower (Kd.V_mono (ok' := fun k_ => (P0_ k_ ∨ w.heap.size ≤ k_) ∧ some k_ ≠ (.slice Ao16 t374.length co16 : Value).ownBlock) ho0 (fun k_ hk_ => ⟨(.inr (Nat.le_trans (below_size pB) hk_)), (Kd.fresh' (Kd.R_lt (pR HO376.out)) k_ hk_)⟩)) (below_size pB)); replace HO376 := am (Kd.R_below (pR HO376.out) hb); replace HB := am (below_step pB hb); (try clear hb); (try clear ho0)))
       go_roundg k1
       case measure => have := HK1.out; omega
       case rel => exact ⟨(t378), (Go.bits .or .u64 x6_1 (ji13)), (wrap64 (x7_1 - 1)), (by first | rfl | (simp; done) | (simp only [← hji13] <;> (first | rfl | simp)) | (simp [*]; done)), (by first | rfl | (simp; done) | (simp [*]; done)), H', ⟨by have := HK1.out; omega⟩, ⟨by (with_reducible repeat (first | apply Kd.V_alloc | apply Kd.V_drewN | apply Kd.V_drew)); exact Kd.V_mono HO380.out (fun _ hk => hk.1)⟩, ⟨pB⟩⟩
      ·rw [if_neg c12] at H
       exact absurd H (by simp)
     ·rw [if_neg c10] at H
      have c10b0 : decide (0 ≤ t377) = false := decide_eq_false c10
      clear c10
      have H' := am H
      clear H
      obtain ⟨Ao18, co18, eo18⟩ := Kd.V_slice HO_0.out
      subst eo18
      go_wp2_with (first | ((with_reducible refine gate_callee (f := 36) rfl ?_); refine goesL_ (some 14) rfl rfl Tryd.func36 (by kernel_rfl) rfl #[.slice Ao18 x0_1.length co18] rfl pM ?_; (with_reducible refine (dec_big_len.calls _ _ x0_1 t372 _ ?side1 ?side2 A4.out).mono ?_); (case side1 => repeat (first | exact (Kd.V_reads' HO_0.out).2.2 | (with_reducible refine Kd.C_alloc ?_ _) | (with_reducible refine Kd.C_drewN ?_ _) | (with_reducible refine Kd.C_drew ?_))); (case side2 => exact (Kd.V_reads' HO_0.out).2.1); rintro e w' ⟨rfl, ⟨nd, rfl⟩⟩; refine ⟨_, rfl, ?_⟩) | ((with_reducible refine gate_callee (f := 36) rfl ?_); refine goesL_ (some 16) rfl rfl Tryd.func36 (by kernel_rfl) rfl #[.slice A1 l1.length c1] rfl pM ?_; (with_reducible refine (dec_big_len.calls _ _ l1 t373 _ ?side1 ?side2 A5.out).mono ?_); (case side1 => repeat (first | exact (Kd.C_below HR1.out pB) | (with_reducible refine Kd.C_alloc ?_ _) | (with_reducible refine Kd.C_drewN ?_ _) | (with_reducible refine Kd.C_drew ?_))); (case side2 => exact HC1.out); rintro e w' ⟨rfl, ⟨nd, rfl⟩⟩; refine ⟨_, rfl, ?_⟩) | ((with_reducible refine gate_callee (f := 40) rfl ?_); refine goesL_ (some 22) rfl rfl Tryd.func40 (by kernel_rfl) rfl #[.slice A1 l1.length c1, .int .i64 x7_1] rfl pM ?_; (with_reducible refine (dec_big_up.calls k1 _ _ l1 x7_1 t374 _ ?side1 ?side2 A8.out).mono ?_); (case side1 => repeat (first | exact (Kd.C_below HR1.out pB) | (with_reducible refine Kd.C_alloc ?_ _) | (with_reducible refine Kd.C_drewN ?_ _) | (with_reducible refine Kd.C_drew ?_))); (case side2 => exact HC1.out); rintro e w19 ⟨v375, rfl, ho0, hb⟩; refine ⟨_, rfl, ?_⟩; replace HO_0 := am (Kd.V_elder' (pV HO_0.out) (Kd.R_base ho0) hb); have HO376 := am (Kd.R_lower (Kd.R_newM (M := fun k_ => (w.heap.size ≤ k_)) ho0 (below_size pB) (fun k_ h_ => h_)) (below_size pB)); replace HB := am (below_step pB hb); (try clear hb); (try clear ho0); obtain ⟨Ao20, co20, eo20⟩ := Kd.R_slice HO376.out; subst eo20) | ((with_reducible refine gate_callee (f := 35) rfl ?_); refine goesL_ (some 25) rfl rfl Tryd.func35 (by kernel_rfl) rfl #[.slice Ao18 x0_1.length co18, .slice Ao20 t374.length co20] rfl pM ?_; (with_reducible refine (dec_big_cmp.calls k1 _ _ x0_1 _ _ t374 t377 _ ?side1 ?side2 ?side3 ?side4 A9.out).mono ?_); (case side1 => repeat (first | exact (Kd.V_reads' HO_0.out).2.2 | (with_reducible refine Kd.C_alloc ?_ _) | (with_reducible refine Kd.C_drewN ?_ _) | (with_reducible refine Kd.C_drew ?_))); (case side2 => exact (Kd.V_reads' HO_0.out).2.1); (case side3 => repeat (first | exact (Kd.R_reads' HO376.out).2.2 | (with_reducible refine Kd.C_alloc ?_ _) | (with_reducible refine Kd.C_drewN ?_ _) | (with_reducible refine Kd.C_drew ?_))); (case side4 => exact (Kd.R_reads' HO376.out).2.1); rintro e w' ⟨rfl, ⟨nd, rfl⟩⟩; refine ⟨_, rfl, ?_⟩))
      go_roundg k1
      case measure => have := HK1.out; omega
      case rel => exact ⟨(x0_1), (x6_1), (wrap64 (x7_1 - 1)), (by first | rfl | (simp; done) | (simp [*]; done)), (by first | rfl | (simp; done) | (simp [*]; done)), H', ⟨by have := HK1.out; omega⟩, ⟨by (with_reducible repeat (first | apply Kd.V_alloc | apply Kd.V_drewN | apply Kd.V_drew)); exact Kd.V_mono HO_0.out (fun _ hk => hk.1)⟩, ⟨pB⟩⟩
   ·rw [if_neg c3] at H
    have c3b0 : decide (0 ≤ x7_1) = false := decide_eq_false c3
    clear c3
    simp only [Option.some.injEq, Prod.mk.injEq] at H
    obtain ⟨rfl, rfl⟩ := H
    obtain ⟨Ao21, co21, eo21⟩ := Kd.V_slice HO_0.out
    subst eo21
    go_wp2
    go_ret2
    exact ⟨pE, pB⟩
end Go.Proofs.YtflcanpajgpghaaDoor.Pr
end
section
namespace Go.Proofs.YtflcanpajgpghaaDoor.Pr
open Go.RowKit Go.Proofs.YtflcanpajgpghaaDoorW.PrintWords Go.Proofs.YtflcanpajgpghaaDoorW.PrintLast Go.Proofs.YtflcanpajgpghaaDoorW.PrintMore
attribute [local go_sem] max2_int min2_int max_two min_two max_three min_three max_four min_four
mutual
def dec_nearest.l0 : Nat → List Int → Int → Int → ByteArray → Int → Option (Int)
 | 0, _, _, _, _, _ => none
 | k + 1, x3, x11, x12, x382000, x382001 => if x12 < x11 then (if 0 ≤ x12 then (if x12 < (x382000.size : Int) then ((dec_big_times.f k x3 10 (((bt x382000 x12) - 48) % 256)).bind fun t382 => (dec_nearest.l0 k t382 x11 (wrap64 (x12 + 1)) x382000 x382001)) else (none)) else (none)) else (if (x3.length : Int) = 0 then (dec_nearest.j1 k x3 true x382000 x382001) else (dec_nearest.j1 k x3 (decide (x382001 < (-1000))) x382000 x382001))
def dec_nearest.j1 : Nat → List Int → Bool → ByteArray → Int → Option (Int)
 | 0, _, _, _, _ => none
 | k + 1, x3, x24, x382000, x382001 => if x24 = true then (some 0) else (if x382001 > 400 then ((flo_Make.f k false 9999 1 false).bind fun t385 => (some t385)) else ((some (([1] : List Int) : List Int)).bind fun y386 => (if x382001 ≥ 0 then ((dec_big_tens.f k x3 x382001).bind fun t389 => (dec_nearest.j2 k t389 y386)) else ((dec_big_tens.f k y386 (wrap64 (-x382001))).bind fun t392 => (dec_nearest.j2 k x3 t392)))))
def dec_nearest.j2 : Nat → List Int → List Int → Option (Int)
 | 0, _, _ => none
 | k + 1, x3, x5 => (dec_big_len.f x3).bind fun t395 => ((dec_big_len.f x5).bind fun t396 => (if (wrap64 (63 - (wrap64 (t395 - t396)))) ≥ 0 then ((dec_big_up.f k x3 (wrap64 (63 - (wrap64 (t395 - t396))))).bind fun t397 => (dec_nearest.j3 k t397 x5 (wrap64 (63 - (wrap64 (t395 - t396)))))) else ((dec_big_up.f k x5 (wrap64 (-(wrap64 (63 - (wrap64 (t395 - t396))))))).bind fun t400 => (dec_nearest.j3 k x3 t400 (wrap64 (63 - (wrap64 (t395 - t396))))))))
def dec_nearest.j3 : Nat → List Int → List Int → Int → Option (Int)
 | 0, _, _, _ => none
 | k + 1, x3, x5, x6 => (dec_big_by.f k x3 x5).bind fun bt403 => (if bt403.2 = true then ((flo_Make.f k false (wrap64 (-x6)) (Go.bits .or .u64 bt403.1 1) false).bind fun t405 => (some t405)) else ((flo_Make.f k false (wrap64 (-x6)) bt403.1 false).bind fun t406 => (some t406)))
end
def dec_nearest.f (k : Nat) (a0_0 : ByteArray) (a0_1 : Int) : Option (Int) := dec_nearest.l0 k ([] : List Int) (a0_0.size : Int) 0 a0_0 a0_1
theorem dec_nearest.mono_l : ∀ k, (∀ y0 y1 y2 y3 y4, LeO (dec_nearest.l0 k y0 y1 y2 y3 y4) (dec_nearest.l0 (k + 1) y0 y1 y2 y3 y4)) ∧ (∀ y0 y1 y2 y3, LeO (dec_nearest.j1 k y0 y1 y2 y3) (dec_nearest.j1 (k + 1) y0 y1 y2 y3)) ∧ (∀ y0 y1, LeO (dec_nearest.j2 k y0 y1) (dec_nearest.j2 (k + 1) y0 y1)) ∧ (∀ y0 y1 y2, LeO (dec_nearest.j3 k y0 y1 y2) (dec_nearest.j3 (k + 1) y0 y1 y2))
 | 0 => ⟨fun _ _ _ _ _ r h => by simp [dec_nearest.l0] at h, fun _ _ _ _ r h => by simp [dec_nearest.j1] at h, fun _ _ r h => by simp [dec_nearest.j2] at h, fun _ _ _ r h => by simp [dec_nearest.j3] at h⟩
 | k + 1 => by
  obtain ⟨ih0, ih1, ih2, ih3⟩ := dec_nearest.mono_l k
  refine ⟨?_, ?_, ?_, ?_⟩
  all_goals intros
  all_goals first | unfold dec_nearest.l0 | unfold dec_nearest.j1 | unfold dec_nearest.j2 | unfold dec_nearest.j3
  all_goals repeat' first
   | (with_reducible exact ih0 _ _ _ _ _)
   | (with_reducible exact ih1 _ _ _ _)
   | (with_reducible exact ih2 _ _)
   | (with_reducible exact ih3 _ _ _)
   | (with_reducible exact dec_big_by.mono _ _ _)
   | (with_reducible exact dec_big_tens.mono _ _ _)
   | (with_reducible exact dec_big_times.mono _ _ _ _)
   | (with_reducible exact dec_big_up.mono _ _ _)
   | (with_reducible exact flo_Make.mono _ _ _ _ _)
   | (with_reducible exact LeO.refl _)
   | (with_reducible exact LeO.none _)
   | (with_reducible refine LeO.ite ?_ ?_)
   | (with_reducible refine LeO.bind ?_ (fun _ => ?_))
   | exact ih0 _ _ _ _ _
   | exact ih1 _ _ _ _
   | exact ih2 _ _
   | exact ih3 _ _ _
   | exact dec_big_by.mono _ _ _
   | exact dec_big_tens.mono _ _ _
   | exact dec_big_times.mono _ _ _ _
   | exact dec_big_up.mono _ _ _
   | exact flo_Make.mono _ _ _ _ _
   | exact LeO.none _
   | refine LeO.ite ?_ ?_
   | refine LeO.bind ?_ (fun _ => ?_)
theorem dec_nearest.mono : ∀ a0 a1 k, LeO (dec_nearest.f k a0 a1) (dec_nearest.f (k + 1) a0 a1) := by
 intro a0 a1 k
 obtain ⟨ih0, ih1, ih2, ih3⟩ := dec_nearest.mono_l k
 unfold dec_nearest.f
 repeat' first
   | (with_reducible exact ih0 _ _ _ _ _)
   | (with_reducible exact ih1 _ _ _ _)
   | (with_reducible exact ih2 _ _)
   | (with_reducible exact ih3 _ _ _)
   | (with_reducible exact dec_big_by.mono _ _ _)
   | (with_reducible exact dec_big_tens.mono _ _ _)
   | (with_reducible exact dec_big_times.mono _ _ _ _)
   | (with_reducible exact dec_big_up.mono _ _ _)
   | (with_reducible exact flo_Make.mono _ _ _ _ _)
   | (with_reducible exact LeO.refl _)
   | (with_reducible exact LeO.none _)
   | (with_reducible refine LeO.ite ?_ ?_)
   | (with_reducible refine LeO.bind ?_ (fun _ => ?_))
   | exact ih0 _ _ _ _ _
   | exact ih1 _ _ _ _
   | exact ih2 _ _
   | exact ih3 _ _ _
   | exact dec_big_by.mono _ _ _
   | exact dec_big_tens.mono _ _ _
   | exact dec_big_times.mono _ _ _ _
   | exact dec_big_up.mono _ _ _
   | exact flo_Make.mono _ _ _ _ _
   | exact LeO.none _
   | refine LeO.ite ?_ ?_
   | refine LeO.bind ?_ (fun _ => ?_)
set_option maxHeartbeats 8000000 in
set_option maxRecDepth 100000 in
theorem dec_nearest.calls (k : Nat) (a0_0 : ByteArray) (a0_1 : Int) (r : Int) (w : World) (h : dec_nearest.f k a0_0 a0_1 = some r) :
  Calls Tryd.prog 18 #[.agg #[.string a0_0, .int .i64 a0_1]] w fun e w' => e = .returned (.int .u64 r) ∧ Below w.heap.size w w' := by
 have hu47 := Tryd.underlying47
 have HB := am (Below.refl w.heap.size w)
 have H : (dec_nearest.l0 k ([] : List Int) (a0_0.size : Int) 0 a0_0 a0_1) = some r := h
 clear h
 have H' := am H
 clear H
 go_enter Tryd.func18, Tryd.ntmps18
 go_wp2_with (first | ((with_reducible refine gate_dst (N := 1) rfl ?_); refine box_event ?hg (N := 1) ?hd (cs := #[.string a0_0, .int .i64 a0_1]) (t := 47) ?hr ?_; (case hd => rfl); (case hg => rfl); (case hr => first | (go_simp; done) | (go_simp; rfl)); intro gb381 hg w2 hbox hb; have BK381 := am (hbox); have GW381 := am ((by rw [hg]; exact (below_size pB) : w.heap.size ≤ gb381)); have GE381 := am ((by rw [hg]; exact (below_size pB) : w.heap.size ≤ gb381)); replace HB := am (below_step pB hb); clear hb hbox hg; have q3 := cf2 BK381.out))
 go_loopg [3, 12] k (fun kq v3 v12 w' => ∃ (x3_1 : List Int) (x12_1 : Int), v12 = .int .i64 x12_1 ∧ Aside0 (dec_nearest.l0 kq x3_1 (a0_0.size : Int) x12_1 a0_0 a0_1 = some r) ∧ Aside0 (kq ≤ k) ∧ Aside0 (Kd.V (Kd.int .u32) 74 w' w.heap.size (fun k_ => k_ ≠ gb381) v3 x3_1) ∧ Aside0 (w'.heap[gb381]? = some (.cells #[.string a0_0, .int .i64 a0_1] 47 (0, 0))) ∧ Aside0 (Below w.heap.size w w'))
 case atStart => exact ⟨(([] : List Int)), (0), (by first | rfl | (simp; done) | (simp [*]; done)), H', ⟨Nat.le_refl _⟩, ⟨pZ⟩, ⟨by (with_reducible repeat (first | refine blk_drewN ?_ _ | refine blk_drew ?_ | refine blk_alloc ?_ _)); exact BK381.out⟩, ⟨pB⟩⟩
 case round =>
  clear H'
  try clear c1
  try clear p2
  try clear q3
  obtain ⟨x3_1, x12_1, rfl, HA, HK1, HO_3, BK381, HB⟩ := hrel
  cases gk with
  | zero => exact absurd HA.out (by simp [dec_nearest.l0])
  | succ k1 =>
   have H := HA.out
   clear HA
   simp only [dec_nearest.l0] at H
   by_cases c4 : x12_1 < (a0_0.size : Int)
   ·rw [if_pos c4] at H
    have c4b0 : decide (x12_1 < (a0_0.size : Int)) = true := decide_eq_true c4
    clear c4
    by_cases c5 : 0 ≤ x12_1
    ·rw [if_pos c5] at H
     have c5b0 : decide (0 ≤ x12_1) = true := decide_eq_true c5
     clear c5
     by_cases c6 : x12_1 < (a0_0.size : Int)
     ·rw [if_pos c6] at H
      have c6b0 : decide (x12_1 < (a0_0.size : Int)) = true := decide_eq_true c6
      clear c6
      replace H := Option.bind_eq_some_iff.mp H
      obtain ⟨t382, A80, H⟩ := H
      try dsimp only at H
      have A8 := am A80
      clear A80
      have H' := am H
      clear H
      have q9 := cf2 BK381.out
      have p7 : 0 ≤ (x12_1 : Int) := pD
      have q7 : x12_1 < (a0_0.size : Int) := pD
      have hx7 := bt_at a0_0 x12_1
      replace p7 := eq_true p7
      replace q7 := eq_true q7
      obtain ⟨Ao10, co10, eo10⟩ := Kd.V_slice HO_3.out
      subst eo10
      go_wp2_with (first | ((with_reducible refine gate_callee (f := 38) rfl ?_); refine goesL_ (some 22) rfl rfl Tryd.func38 (by kernel_rfl) rfl #[.slice Ao10 x3_1.length co10, .int .u32 10, .int .u32 (((bt a0_0 x12_1) - 48) % 256)] rfl pM ?_; (with_reducible refine (dec_big_times.calls k1 _ _ x3_1 10 (((bt a0_0 x12_1) - 48) % 256) t382 _ ?side1 ?side2 A8.out).mono ?_); (case side1 => repeat (first | exact (Kd.V_reads' HO_3.out).2.2 | (with_reducible refine Kd.C_alloc ?_ _) | (with_reducible refine Kd.C_drewN ?_ _) | (with_reducible refine Kd.C_drew ?_))); (case side2 => exact (Kd.V_reads' HO_3.out).2.1); rintro e w11 ⟨v383, rfl, ho0, hb⟩; refine ⟨_, rfl, ?_⟩; replace HO_3 := am (Kd.V_below (pV HO_3.out) hb); have HO384 := am (Kd.V_lower (Kd.V_mono (ok' := fun k_ => k_ ≠ gb381) ho0 (fun k_ hk_ => (Kd.freshB (g := gb381) (o := .cells #[.string a0_0, .int .i64 a0_1] 47 (0, 0)) (pK BK381.out) k_ hk_))) (below_size pB)); replace BK381 := am (pkb BK381.out hb); replace HB := am (below_step pB hb); (try clear hb); (try clear ho0)))
      go_roundg k1
      case measure => have := HK1.out; omega
      case rel => exact ⟨(t382), (wrap64 (x12_1 + 1)), (by first | rfl | (simp; done) | (simp [*]; done)), H', ⟨by have := HK1.out; omega⟩, ⟨by (with_reducible repeat (first | apply Kd.V_alloc | apply Kd.V_drewN | apply Kd.V_drew)); exact HO384.out⟩, ⟨by (with_reducible repeat (first | refine blk_drewN ?_ _ | refine blk_drew ?_ | refine blk_alloc ?_ _)); exact BK381.out⟩, ⟨pB⟩⟩
     ·rw [if_neg c6] at H
      exact absurd H (by simp)
    ·rw [if_neg c5] at H
     exact absurd H (by simp)
   ·rw [if_neg c4] at H
    have c4b0 : decide (x12_1 < (a0_0.size : Int)) = false := decide_eq_false c4
    clear c4
    have HC12 := am H
    clear H
    go_upto_region 7 with (fail)
    go_cut [24] (fun v24 wc => ∃ (kq : Nat) (x24_11 : Bool), v24 = .bool x24_11 ∧ Aside0 (dec_nearest.j1 kq x3_1 x24_11 a0_0 a0_1 = some r) ∧ Aside0 (kq ≤ k1) ∧ Aside0 (Kd.V (Kd.int .u32) 74 wc w.heap.size (fun k_ => k_ ≠ gb381) u3 x3_1) ∧ Aside0 (wc.heap[gb381]? = some (.cells #[.string a0_0, .int .i64 a0_1] 47 (0, 0))) ∧ Aside0 (Below w.heap.size w wc))
    case first =>
     have H := HC12.out
     clear HC12
     by_cases c13 : (x3_1.length : Int) = 0
     ·rw [if_pos c13] at H
      have c13b0 : ((x3_1.length : Int) == 0) = true := beq_iff_eq.mpr c13
      have c13b1 : ((x3_1.length : Int) != 0) = false := bne_eq_false_iff_eq.mpr c13
      clear c13
      (first | rw [c13b0] | (simp only [i64_w, i32_w]; rw [c13b0]) | rw [c13b1] | (simp only [i64_w, i32_w]; rw [c13b1]) | skip)
      have H' := am H
      clear H
      obtain ⟨Ao14, co14, eo14⟩ := Kd.V_slice HO_3.out
      subst eo14
      go_wp2
      go_meet
      case rel => exact ⟨_, (true), (by first | rfl | (simp; done) | (simp [*]; done)), H', ⟨by have := HK1.out; first | omega | exact Nat.le_refl _⟩, ⟨by (with_reducible repeat (first | apply Kd.V_alloc | apply Kd.V_drewN | apply Kd.V_drew)); exact HO_3.out⟩, ⟨by (with_reducible repeat (first | refine blk_drewN ?_ _ | refine blk_drew ?_ | refine blk_alloc ?_ _)); exact BK381.out⟩, ⟨pB⟩⟩
     ·rw [if_neg c13] at H
      have c13b0 : ((x3_1.length : Int) == 0) = false := beq_eq_false_iff_ne.mpr c13
      have c13b1 : ((x3_1.length : Int) != 0) = true := bne_iff_ne.mpr c13
      have c13b2 : ¬ (x3_1 = []) := fun h_ => c13 (by rw [h_]; rfl)
      (first | rw [c13b0] | (simp only [i64_w, i32_w]; rw [c13b0]) | rw [c13b1] | (simp only [i64_w, i32_w]; rw [c13b1]) | skip)
      have H' := am H
      clear H
      obtain ⟨Ao15, co15, eo15⟩ := Kd.V_slice HO_3.out
      subst eo15
      have q16 := cf2 BK381.out
      go_wp2
      go_meet
      case rel => exact ⟨_, (decide (a0_1 < (-1000))), (by first | rfl | (simp; done) | (simp [*]; done)), H', ⟨by have := HK1.out; first | omega | exact Nat.le_refl _⟩, ⟨by (with_reducible repeat (first | apply Kd.V_alloc | apply Kd.V_drewN | apply Kd.V_drew)); exact HO_3.out⟩, ⟨by (with_reducible repeat (first | refine blk_drewN ?_ _ | refine blk_drew ?_ | refine blk_alloc ?_ _)); exact BK381.out⟩, ⟨pB⟩⟩
    case rest =>
     clear HC12
     try clear c1
     try clear p2
     try clear c3
     try clear c4
     try clear c4b0
     try clear c5
     try clear c5b0
     try clear c6
     try clear c6b0
     try clear p6
     try clear p7
     try clear q7
     try clear hx7
     try clear c13
     try clear c13b0
     try clear c13b1
     try clear c13b2
     try clear q16 q3 q9
     try clear p2
     try clear p7
     try clear q7
     obtain ⟨kq, x24_11, rfl, HA, HJ11, HO_3, BK381, HB⟩ := hcut
     cases kq with
     | zero => exact absurd HA.out (by simp [dec_nearest.j1])
     | succ kj11 =>
      have H := HA.out
      clear HA
      simp only [dec_nearest.j1] at H
      by_cases c17 : x24_11 = true
      ·subst c17
       rw [if_pos rfl] at H
       obtain rfl := Option.some.inj H
       go_wp2
       go_ret
       exact ⟨pE, pB⟩
      ·replace c17 := Bool.eq_false_iff.mpr c17
       subst c17
       rw [if_neg (show ¬ (false = true) by decide)] at H
       by_cases c18 : a0_1 > 400
       ·rw [if_pos c18] at H
        have c18b0 : decide (400 < a0_1) = true := decide_eq_true c18
        clear c18
        replace H := Option.bind_eq_some_iff.mp H
        obtain ⟨t385, A190, H⟩ := H
        try dsimp only at H
        have A19 := am A190
        clear A190
        obtain rfl := Option.some.inj H
        have q20 := cf2 BK381.out
        go_wp2_with (first | ((with_reducible refine gate_callee (f := 44) rfl ?_); refine goesL_ (some 37) rfl rfl Tryd.func44 (by kernel_rfl) rfl #[.bool false, .int .i64 9999, .int .u64 1, .bool false] rfl pM ?_; (with_reducible refine (flo_Make.calls kj11 false 9999 1 false t385 _ A19.out).mono ?_); rintro e w21 ⟨rfl, hb⟩; refine ⟨_, rfl, ?_⟩; replace HO_3 := am (Kd.V_below (pV HO_3.out) hb); replace BK381 := am (pkb BK381.out hb); replace HB := am (below_step pB hb); (try clear hb)))
        go_ret
        exact ⟨pE, pB⟩
       ·rw [if_neg c18] at H
        have c18b0 : decide (400 < a0_1) = false := decide_eq_false c18
        clear c18
        obtain ⟨y386, hy386⟩ : ∃ y_ : List Int, y_ = (([1] : List Int)) := ⟨_, rfl⟩
        replace H : (if a0_1 ≥ 0 then ((dec_big_tens.f kj11 x3_1 a0_1).bind fun t389 => (dec_nearest.j2 kj11 t389 y386)) else ((dec_big_tens.f kj11 y386 (wrap64 (-a0_1))).bind fun t392 => (dec_nearest.j2 kj11 x3_1 t392))) = some r := by first | (rw [hy386]; with_reducible exact H) | (have H2_ := (Option.bind_some _ _).symm.trans H; rw [hy386]; with_reducible exact H2_) | (have H2_ := (Option.bind_some _ _).symm.trans H; with_reducible exact H2_) | with_reducible exact H | (rw [hy386]; exact H) | exact H
        have Ny386 := am hy386
        clear hy386
        have HC22 := am H
        clear H
        have q23 := cf2 BK381.out
        go_upto_if 41 with (first | ((with_reducible refine gate_dst (N := 38) rfl ?_); refine Kd.R_lit (Kd.int .u32) _ 74 ?hg (N := 38) ?hd (xs := ([1] : List Int)) (inner := [.int .u32 1]) (ok := fun _ => True) (okp := fun _ => True) ?hr ?hp (fun _ hk => hk) trivial (Below.refl _ _) (Nat.le_refl _) (by simp) ?_; (case hd => rfl); (case hg => rfl); (case hr => first | (go_simp; done) | (go_simp; rfl)); (case hp => exact (Reps.one (show Kd.M (Kd.int .u32) _ _ _ 1 [.int .u32 1] from rfl) (Reps.none _ _))); intro v387 w24 ho25 hb hg_ hnew_; clear hg_ hnew_; (first | rw [← Ny386.out] at ho25 | (simp only [Int.reduceToNat] at ho25; rw [← Ny386.out] at ho25)); replace HO_3 := am (Kd.V_elder' (pV HO_3.out) (Kd.R_base ho25) hb); have HO388 := am (Kd.R_lower ho25 (below_size pB)); replace BK381 := am (pkb BK381.out hb); replace HB := am (below_step pB hb); clear hb ho25; have q26 := cf2 BK381.out))
        (try simp only [Act.put, List.setIfInBounds_toArray, List.set_cons_zero, List.set_cons_succ])
        go_cut [3, 5] (fun v3 v5 wc => ∃ (kq : Nat) (x3_21 : List Int) (x5_21 : List Int), Aside0 (dec_nearest.j2 kq x3_21 x5_21 = some r) ∧ Aside0 (kq ≤ kj11) ∧ Aside0 (Kd.V (Kd.int .u32) 74 wc w.heap.size (fun k_ => k_ ≠ gb381) v3 x3_21) ∧ Aside0 (Kd.V (Kd.int .u32) 74 wc w.heap.size (fun k_ => k_ ≠ gb381) v5 x5_21) ∧ Aside0 (wc.heap[gb381]? = some (.cells #[.string a0_0, .int .i64 a0_1] 47 (0, 0))) ∧ Aside0 (Below w.heap.size w wc))
        case first =>
         have H := HC22.out
         clear HC22
         by_cases c27 : a0_1 ≥ 0
         ·rw [if_pos c27] at H
          have c27b0 : decide (0 ≤ a0_1) = true := decide_eq_true c27
          clear c27
          (first | rw [c27b0] | (simp only [i64_w, i32_w]; rw [c27b0]) | rw [c27b1] | (simp only [i64_w, i32_w]; rw [c27b1]) | skip)
          replace H := Option.bind_eq_some_iff.mp H
          obtain ⟨t389, A280, H⟩ := H
          try dsimp only at H
          have A28 := am A280
          clear A280
          have H' := am H
          clear H
          have q29 := cf2 BK381.out
          obtain ⟨Ao30, co30, eo30⟩ := Kd.V_slice HO_3.out
          subst eo30
          go_wp2_with (first | ((with_reducible refine gate_callee (f := 37) rfl ?_); refine goesL_ (some 45) rfl rfl Tryd.func37 (by kernel_rfl) rfl #[.slice Ao30 x3_1.length co30, .int .i64 a0_1] rfl pM ?_; (with_reducible refine (dec_big_tens.calls kj11 (fun k_ => (k_ ≠ gb381 ∧ some k_ ≠ (v387 : Value).ownBlock)) _ _ x3_1 a0_1 t389 _ ?side1 A28.out).mono ?_); (case side1 => exact HO_3.out); rintro e w31 ⟨v390, rfl, ho0, hb⟩; refine ⟨_, rfl, ?_⟩; replace HO_3 := am (Kd.V_below (pV HO_3.out) hb); have HO391 := am (Kd.V_lower (Kd.V_mono (ok' := fun k_ => some k_ ≠ (v387 : Value).ownBlock ∧ k_ ≠ gb381) ho0 (fun k_ hk_ => ⟨Or.elim hk_ (fun hs_ => hs_.2) (fun hn_ => (Kd.fresh' (Kd.R_lt (pR HO388.out)) k_ hn_)), Or.elim hk_ (fun hs_ => hs_.1) (fun hn_ => (Kd.freshB (g := gb381) (o := .cells #[.string a0_0, .int .i64 a0_1] 47 (0, 0)) (pK BK381.out) k_ hn_))⟩)) (below_size pB)); replace HO388 := am (Kd.R_below (pR HO388.out) hb); replace BK381 := am (pkb BK381.out hb); replace HB := am (below_step pB hb); (try clear hb); (try clear ho0)))
          go_meet
          case rel => exact ⟨_, (t389), (y386), H', ⟨by have := HK1.out; have := HJ11.out; first | omega | exact Nat.le_refl _⟩, ⟨by (with_reducible repeat (first | apply Kd.V_alloc | apply Kd.V_drewN | apply Kd.V_drew)); exact Kd.V_mono HO391.out (fun _ hk => hk.2)⟩, ⟨Kd.R_V (by (with_reducible repeat (first | apply Kd.R_alloc | apply Kd.R_drewN | apply Kd.R_drew)); exact Kd.R_mono (Kd.R_types HO388.out BK381.out (by decide)) (fun _ hk => hk.2))⟩, ⟨by (with_reducible repeat (first | refine blk_drewN ?_ _ | refine blk_drew ?_ | refine blk_alloc ?_ _)); exact BK381.out⟩, ⟨pB⟩⟩
         ·rw [if_neg c27] at H
          have c27b0 : decide (0 ≤ a0_1) = false := decide_eq_false c27
          clear c27
          (first | rw [c27b0] | (simp only [i64_w, i32_w]; rw [c27b0]) | rw [c27b1] | (simp only [i64_w, i32_w]; rw [c27b1]) | skip)
          replace H := Option.bind_eq_some_iff.mp H
          obtain ⟨t392, A320, H⟩ := H
          try dsimp only at H
          have A32 := am A320
          clear A320
          have H' := am H
          clear H
          have q33 := cf2 BK381.out
          obtain ⟨Ao34, co34, eo34⟩ := Kd.R_slice HO388.out
          subst eo34
          go_wp2_with (first | ((with_reducible refine gate_callee (f := 37) rfl ?_); refine goesL_ (some 50) rfl rfl Tryd.func37 (by kernel_rfl) rfl #[.slice Ao34 y386.length co34, .int .i64 (wrap64 (-a0_1))] rfl pM ?_; (with_reducible refine (dec_big_tens.calls kj11 (fun k_ => some k_ = (.slice Ao34 y386.length co34 : Value).ownBlock) _ _ y386 (wrap64 (-a0_1)) t392 _ ?side1 A32.out).mono ?_); (case side1 => exact Kd.R_V (Kd.R_tight rfl (Kd.R_types (HO388.out) BK381.out (by decide)))); rintro e w35 ⟨v393, rfl, ho0, hb⟩; refine ⟨_, rfl, ?_⟩; replace HO_3 := am (Kd.V_below (pV HO_3.out) hb); have HO394 := am (Kd.V_lower (Kd.V_mono (ok' := fun k_ => k_ ≠ gb381) ho0 (fun k_ hk_ => Or.elim hk_ (fun hs_ => ((Kd.R_types (HO388.out) BK381.out (by decide)).1 k_ hs_.symm).2) (fun hn_ => (Kd.freshB (g := gb381) (o := .cells #[.string a0_0, .int .i64 a0_1] 47 (0, 0)) (pK BK381.out) k_ hn_)))) (below_size pB)); replace HO388 := am (Kd.R_below (pR HO388.out) hb); replace BK381 := am (pkb BK381.out hb); replace HB := am (below_step pB hb); (try clear hb); (try clear ho0)))
          go_meet
          case rel => exact ⟨_, (x3_1), (t392), H', ⟨by have := HK1.out; have := HJ11.out; first | omega | exact Nat.le_refl _⟩, ⟨by (with_reducible repeat (first | apply Kd.V_alloc | apply Kd.V_drewN | apply Kd.V_drew)); exact Kd.V_mono HO_3.out (fun _ hk => hk.1)⟩, ⟨by (with_reducible repeat (first | apply Kd.V_alloc | apply Kd.V_drewN | apply Kd.V_drew)); exact HO394.out⟩, ⟨by (with_reducible repeat (first | refine blk_drewN ?_ _ | refine blk_drew ?_ | refine blk_alloc ?_ _)); exact BK381.out⟩, ⟨pB⟩⟩
        case rest =>
         clear HC22
         try clear c1
         try clear c2
         try clear p2
         try clear c3
         try clear c4
         try clear c4b0
         try clear c5
         try clear c5b0
         try clear c6
         try clear c6b0
         try clear p6
         try clear p7
         try clear q7
         try clear hx7
         try clear c13
         try clear c13b0
         try clear c13b1
         try clear c13b2
         try clear c17
         try clear c18
         try clear c18b0
         try clear c27
         try clear c27b0
         try clear c27b1
         try clear q16 q20 q23 q26 q29 q33 q3 q9
         try clear p2
         try clear p6
         try clear p7
         try clear q7
         obtain ⟨kq, x3_21, x5_21, HA, HJ21, HO_3, HO_5, BK381, HB⟩ := hcut
         cases kq with
         | zero => exact absurd HA.out (by simp [dec_nearest.j2])
         | succ kj21 =>
          have H := HA.out
          clear HA
          simp only [dec_nearest.j2] at H
          replace H := Option.bind_eq_some_iff.mp H
          obtain ⟨t395, A360, H⟩ := H
          try dsimp only at H
          have A36 := am A360
          clear A360
          replace H := Option.bind_eq_some_iff.mp H
          obtain ⟨t396, A370, H⟩ := H
          try dsimp only at H
          have A37 := am A370
          clear A370
          have HC38 := am H
          clear H
          obtain ⟨Ao39, co39, eo39⟩ := Kd.V_slice HO_3.out
          subst eo39
          go_upto_if 58 with (first | ((with_reducible refine gate_callee (f := 36) rfl ?_); refine goesL_ (some 52) rfl rfl Tryd.func36 (by kernel_rfl) rfl #[.slice Ao39 x3_21.length co39] rfl pM ?_; (with_reducible refine (dec_big_len.calls _ _ x3_21 t395 _ ?side1 ?side2 A36.out).mono ?_); (case side1 => repeat (first | exact (Kd.V_reads' HO_3.out).2.2 | (with_reducible refine Kd.C_alloc ?_ _) | (with_reducible refine Kd.C_drewN ?_ _) | (with_reducible refine Kd.C_drew ?_))); (case side2 => exact (Kd.V_reads' HO_3.out).2.1); rintro e w' ⟨rfl, ⟨nd, rfl⟩⟩; refine ⟨_, rfl, ?_⟩; obtain ⟨Ao40, co40, eo40⟩ := Kd.V_slice HO_5.out; subst eo40) | ((with_reducible refine gate_callee (f := 36) rfl ?_); refine goesL_ (some 54) rfl rfl Tryd.func36 (by kernel_rfl) rfl #[.slice Ao40 x5_21.length co40] rfl pM ?_; (with_reducible refine (dec_big_len.calls _ _ x5_21 t396 _ ?side1 ?side2 A37.out).mono ?_); (case side1 => repeat (first | exact (Kd.V_reads' HO_5.out).2.2 | (with_reducible refine Kd.C_alloc ?_ _) | (with_reducible refine Kd.C_drewN ?_ _) | (with_reducible refine Kd.C_drew ?_))); (case side2 => exact (Kd.V_reads' HO_5.out).2.1); rintro e w' ⟨rfl, ⟨nd, rfl⟩⟩; refine ⟨_, rfl, ?_⟩))
          (try simp only [Act.put, List.setIfInBounds_toArray, List.set_cons_zero, List.set_cons_succ])
          go_cut [3, 5] (fun v3 v5 wc => ∃ (kq : Nat) (x3_37 : List Int) (x5_37 : List Int), Aside0 (dec_nearest.j3 kq x3_37 x5_37 (wrap64 (63 - (wrap64 (t395 - t396)))) = some r) ∧ Aside0 (kq ≤ kj21) ∧ Aside0 (Kd.V (Kd.int .u32) 74 wc w.heap.size (fun k_ => k_ ≠ gb381) v3 x3_37) ∧ Aside0 (Kd.V (Kd.int .u32) 74 wc w.heap.size (fun k_ => k_ ≠ gb381) v5 x5_37) ∧ Aside0 (wc.heap[gb381]? = some (.cells #[.string a0_0, .int .i64 a0_1] 47 (0, 0))) ∧ Aside0 (Below w.heap.size w wc))
          case first =>
           have H := HC38.out
           clear HC38
           by_cases c41 : (wrap64 (63 - (wrap64 (t395 - t396)))) ≥ 0
           ·rw [if_pos c41] at H
            have c41b0 : decide (0 ≤ (wrap64 (63 - (wrap64 (t395 - t396))))) = true := decide_eq_true c41
            clear c41
            (first | rw [c41b0] | (simp only [i64_w, i32_w]; rw [c41b0]) | rw [c41b1] | (simp only [i64_w, i32_w]; rw [c41b1]) | skip)
            replace H := Option.bind_eq_some_iff.mp H
            obtain ⟨t397, A420, H⟩ := H
            try dsimp only at H
            have A42 := am A420
            clear A420
            have H' := am H
            clear H
            go_wp2_with (first | ((with_reducible refine gate_callee (f := 40) rfl ?_); refine goesL_ (some 61) rfl rfl Tryd.func40 (by kernel_rfl) rfl #[.slice Ao39 x3_21.length co39, .int .i64 (wrap64 (63 - (wrap64 (t395 - t396))))] rfl pM ?_; (with_reducible refine (dec_big_up.calls kj21 _ _ x3_21 (wrap64 (63 - (wrap64 (t395 - t396)))) t397 _ ?side1 ?side2 A42.out).mono ?_); (case side1 => repeat (first | exact (Kd.V_reads' HO_3.out).2.2 | (with_reducible refine Kd.C_alloc ?_ _) | (with_reducible refine Kd.C_drewN ?_ _) | (with_reducible refine Kd.C_drew ?_))); (case side2 => exact (Kd.V_reads' HO_3.out).2.1); rintro e w43 ⟨v398, rfl, ho0, hb⟩; refine ⟨_, rfl, ?_⟩; replace HO_3 := am (Kd.V_elder' (pV HO_3.out) (Kd.R_base ho0) hb); replace HO_5 := am (Kd.V_elder' (pV HO_5.out) (Kd.R_base ho0) hb); have HO399 := am (Kd.R_lower ho0 (below_size pB)); replace BK381 := am (pkb BK381.out hb); replace HB := am (below_step pB hb); (try clear hb); (try clear ho0)))
            go_meet
            case rel => exact ⟨_, (t397), (x5_21), H', ⟨by have := HK1.out; have := HJ11.out; have := HJ21.out; first | omega | exact Nat.le_refl _⟩, ⟨Kd.R_V (by (with_reducible repeat (first | apply Kd.R_alloc | apply Kd.R_drewN | apply Kd.R_drew)); exact Kd.R_mono (Kd.R_types HO399.out BK381.out (by decide)) (fun _ hk => hk.2))⟩, ⟨by (with_reducible repeat (first | apply Kd.V_alloc | apply Kd.V_drewN | apply Kd.V_drew)); exact Kd.V_mono HO_5.out (fun _ hk => hk.1)⟩, ⟨by (with_reducible repeat (first | refine blk_drewN ?_ _ | refine blk_drew ?_ | refine blk_alloc ?_ _)); exact BK381.out⟩, ⟨pB⟩⟩
           ·rw [if_neg c41] at H
            have c41b0 : decide (0 ≤ (wrap64 (63 - (wrap64 (t395 - t396))))) = false := decide_eq_false c41
            clear c41
            (first | rw [c41b0] | (simp only [i64_w, i32_w]; rw [c41b0]) | rw [c41b1] | (simp only [i64_w, i32_w]; rw [c41b1]) | skip)
            replace H := Option.bind_eq_some_iff.mp H
            obtain ⟨t400, A440, H⟩ := H
            try dsimp only at H
            have A44 := am A440
            clear A440
            have H' := am H
            clear H
            go_wp2_with (first | ((with_reducible refine gate_callee (f := 40) rfl ?_); refine goesL_ (some 65) rfl rfl Tryd.func40 (by kernel_rfl) rfl #[.slice Ao40 x5_21.length co40, .int .i64 (wrap64 (-(wrap64 (63 - (wrap64 (t395 - t396))))))] rfl pM ?_; (with_reducible refine (dec_big_up.calls kj21 _ _ x5_21 (wrap64 (-(wrap64 (63 - (wrap64 (t395 - t396)))))) t400 _ ?side1 ?side2 A44.out).mono ?_); (case side1 => repeat (first | exact (Kd.V_reads' HO_5.out).2.2 | (with_reducible refine Kd.C_alloc ?_ _) | (with_reducible refine Kd.C_drewN ?_ _) | (with_reducible refine Kd.C_drew ?_))); (case side2 => exact (Kd.V_reads' HO_5.out).2.1); rintro e w45 ⟨v401, rfl, ho0, hb⟩; refine ⟨_, rfl, ?_⟩; replace HO_3 := am (Kd.V_elder' (pV HO_3.out) (Kd.R_base ho0) hb); replace HO_5 := am (Kd.V_elder' (pV HO_5.out) (Kd.R_base ho0) hb); have HO402 := am (Kd.R_lower ho0 (below_size pB)); replace BK381 := am (pkb BK381.out hb); replace HB := am (below_step pB hb); (try clear hb); (try clear ho0)))
            go_meet
            case rel => exact ⟨_, (x3_21), (t400), H', ⟨by have := HK1.out; have := HJ11.out; have := HJ21.out; first | omega | exact Nat.le_refl _⟩, ⟨by (with_reducible repeat (first | apply Kd.V_alloc | apply Kd.V_drewN | apply Kd.V_drew)); exact Kd.V_mono HO_3.out (fun _ hk => hk.1)⟩, ⟨Kd.R_V (by (with_reducible repeat (first | apply Kd.R_alloc | apply Kd.R_drewN | apply Kd.R_drew)); exact Kd.R_mono (Kd.R_types HO402.out BK381.out (by decide)) (fun _ hk => hk.2))⟩, ⟨by (with_reducible repeat (first | refine blk_drewN ?_ _ | refine blk_drew ?_ | refine blk_alloc ?_ _)); exact BK381.out⟩, ⟨pB⟩⟩
          case rest =>
           clear HC38
           try clear c1
           try clear c2
           try clear p2
           try clear c3
           try clear c4
           try clear c4b0
           try clear c5
           try clear c5b0
           try clear c6
           try clear c6b0
           try clear p6
           try clear p7
           try clear q7
           try clear hx7
           try clear c13
           try clear c13b0
           try clear c13b1
           try clear c13b2
           try clear c17
           try clear c18
           try clear c18b0
           try clear c27
           try clear c27b0
           try clear c27b1
           try clear c36
           try clear c37
           try clear c38
           try clear c40
           try clear c41
           try clear c41b0
           try clear c41b1
           try clear c44
           try clear q16 q20 q23 q26 q29 q33 q3 q9
           try clear p2
           try clear p6
           try clear p7
           try clear q7
           obtain ⟨kq, x3_37, x5_37, HA, HJ37, HO_3, HO_5, BK381, HB⟩ := hcut
           cases kq with
           | zero => exact absurd HA.out (by simp [dec_nearest.j3])
           | succ kj37 =>
            have H := HA.out
            clear HA
            simp only [dec_nearest.j3] at H
            replace H := Option.bind_eq_some_iff.mp H
            obtain ⟨⟨t403, t404⟩, A460, H⟩ := H
            try dsimp only at H
            have A46 := am A460
            clear A460
            by_cases c47 : t404 = true
            ·subst c47
             rw [if_pos rfl] at H
             replace H := Option.bind_eq_some_iff.mp H
             obtain ⟨t405, A480, H⟩ := H
             try dsimp only at H
             have A48 := am A480
             clear A480
             obtain rfl := Option.some.inj H
             obtain ⟨Ao49, co49, eo49⟩ := Kd.V_slice HO_3.out
             subst eo49
             obtain ⟨Ao50, co50, eo50⟩ := Kd.V_slice HO_5.out
             subst eo50
             go_wp2_with (first | ((with_reducible refine gate_callee (f := 45) rfl ?_); refine goesL_ (some 69) rfl rfl Tryd.func45 (by kernel_rfl) rfl #[.slice Ao49 x3_37.length co49, .slice Ao50 x5_37.length co50] rfl pM ?_; (with_reducible refine (dec_big_by.calls kj37 (fun k_ => k_ ≠ gb381) _ _ x3_37 _ _ x5_37 t403 true _ ?side1 ?side2 ?side3 A46.out).mono ?_); (case side1 => exact HO_3.out); (case side2 => repeat (first | exact (Kd.V_reads' HO_5.out).2.2 | (with_reducible refine Kd.C_alloc ?_ _) | (with_reducible refine Kd.C_drewN ?_ _) | (with_reducible refine Kd.C_drew ?_))); (case side3 => exact (Kd.V_reads' HO_5.out).2.1); rintro e w51 ⟨rfl, hb⟩; refine ⟨_, rfl, ?_⟩; replace HO_3 := am (Kd.V_below (pV HO_3.out) hb); replace HO_5 := am (Kd.V_below (pV HO_5.out) hb); replace BK381 := am (pkb BK381.out hb); replace HB := am (below_step pB hb); (try clear hb)) | ((with_reducible refine gate_callee (f := 44) rfl ?_); refine goesL_ (some 78) rfl rfl Tryd.func44 (by kernel_rfl) rfl #[.bool false, .int .i64 (wrap64 (-(wrap64 (63 - (wrap64 (t395 - t396)))))), .int .u64 (Go.bits .or .u64 t403 1), .bool false] rfl pM ?_; (with_reducible refine (flo_Make.calls kj37 false (wrap64 (-(wrap64 (63 - (wrap64 (t395 - t396)))))) (Go.bits .or .u64 t403 1) false t405 _ A48.out).mono ?_); rintro e w52 ⟨rfl, hb⟩; refine ⟨_, rfl, ?_⟩; replace HO_3 := am (Kd.V_below (pV HO_3.out) hb); replace HO_5 := am (Kd.V_below (pV HO_5.out) hb); replace BK381 := am (pkb BK381.out hb); replace HB := am (below_step pB hb); (try clear hb)))
             go_ret
             exact ⟨pE, pB⟩
            ·replace c47 := Bool.eq_false_iff.mpr c47
             subst c47
             rw [if_neg (show ¬ (false = true) by decide)] at H
             replace H := Option.bind_eq_some_iff.mp H
             obtain ⟨t406, A530, H⟩ := H
             try dsimp only at H
             have A53 := am A530
             clear A530
             obtain rfl := Option.some.inj H
             obtain ⟨Ao54, co54, eo54⟩ := Kd.V_slice HO_3.out
             subst eo54
             obtain ⟨Ao55, co55, eo55⟩ := Kd.V_slice HO_5.out
             subst eo55
             go_wp2_with (first | ((with_reducible refine gate_callee (f := 45) rfl ?_); refine goesL_ (some 69) rfl rfl Tryd.func45 (by kernel_rfl) rfl #[.slice Ao54 x3_37.length co54, .slice Ao55 x5_37.length co55] rfl pM ?_; (with_reducible refine (dec_big_by.calls kj37 (fun k_ => k_ ≠ gb381) _ _ x3_37 _ _ x5_37 t403 false _ ?side1 ?side2 ?side3 A46.out).mono ?_); (case side1 => exact HO_3.out); (case side2 => repeat (first | exact (Kd.V_reads' HO_5.out).2.2 | (with_reducible refine Kd.C_alloc ?_ _) | (with_reducible refine Kd.C_drewN ?_ _) | (with_reducible refine Kd.C_drew ?_))); (case side3 => exact (Kd.V_reads' HO_5.out).2.1); rintro e w56 ⟨rfl, hb⟩; refine ⟨_, rfl, ?_⟩; replace HO_3 := am (Kd.V_below (pV HO_3.out) hb); replace HO_5 := am (Kd.V_below (pV HO_5.out) hb); replace BK381 := am (pkb BK381.out hb); replace HB := am (below_step pB hb); (try clear hb)) | ((with_reducible refine gate_callee (f := 44) rfl ?_); refine goesL_ (some 78) rfl rfl Tryd.func44 (by kernel_rfl) rfl #[.bool false, .int .i64 (wrap64 (-(wrap64 (63 - (wrap64 (t395 - t396)))))), .int .u64 t403, .bool false] rfl pM ?_; (with_reducible refine (flo_Make.calls kj37 false (wrap64 (-(wrap64 (63 - (wrap64 (t395 - t396)))))) t403 false t406 _ A53.out).mono ?_); rintro e w57 ⟨rfl, hb⟩; refine ⟨_, rfl, ?_⟩; replace HO_3 := am (Kd.V_below (pV HO_3.out) hb); replace HO_5 := am (Kd.V_below (pV HO_5.out) hb); replace BK381 := am (pkb BK381.out hb); replace HB := am (below_step pB hb); (try clear hb)))
             go_ret
             exact ⟨pE, pB⟩
def dec_Parse.f (k : Nat) (a0 : ByteArray) : Option (Int × Int) := if (a0.size : Int) > 400 then (some (0, 2)) else ((dec_cut.f k a0).bind fun bt407 => (if bt407.2.2 = true then ((dec_nearest.f k bt407.1 bt407.2.1).bind fun t411 => (some (t411, 0))) else (some (0, 4))))
theorem dec_Parse.mono : ∀ a0 k, LeO (dec_Parse.f k a0) (dec_Parse.f (k + 1) a0) := by
 intro a0 k
 unfold dec_Parse.f
 repeat' first
   | (with_reducible exact dec_cut.mono _ _)
   | (with_reducible exact dec_nearest.mono _ _ _)
   | (with_reducible exact LeO.refl _)
   | (with_reducible exact LeO.none _)
   | (with_reducible refine LeO.ite ?_ ?_)
   | (with_reducible refine LeO.bind ?_ (fun _ => ?_))
   | exact dec_cut.mono _ _
   | exact dec_nearest.mono _ _ _
   | exact LeO.none _
   | refine LeO.ite ?_ ?_
   | refine LeO.bind ?_ (fun _ => ?_)
set_option maxHeartbeats 8000000 in
set_option maxRecDepth 100000 in
theorem dec_Parse.calls (k : Nat) (a0 : ByteArray) (r1 : Int) (r2 : Int) (w : World) (h : dec_Parse.f k a0 = some (r1, r2)) :
  Calls Tryd.prog 9 #[.string a0] w fun e w' => e = .returned (.tuple #[.int .u64 r1, .int .i64 r2]) ∧ Below w.heap.size w w' := by
 have hu47 := Tryd.underlying47
 have HB := am (Below.refl w.heap.size w)
 have H : (if (a0.size : Int) > 400 then (some (0, 2)) else ((dec_cut.f k a0).bind fun bt407 => (if bt407.2.2 = true then ((dec_nearest.f k bt407.1 bt407.2.1).bind fun t411 => (some (t411, 0))) else (some (0, 4))))) = some (r1, r2) := h
 clear h
 by_cases c2 : (a0.size : Int) > 400
 ·rw [if_pos c2] at H
  have c2b0 : decide (400 < (a0.size : Int)) = true := decide_eq_true c2
  have c2b1 : decide (400 < a0.size) = true := decide_eq_true (by omega)
  clear c2
  simp only [Option.some.injEq, Prod.mk.injEq] at H
  obtain ⟨rfl, rfl⟩ := H
  go_enter Tryd.func9, Tryd.ntmps9
  go_wp2
  go_ret2
  exact ⟨pE, pB⟩
 ·rw [if_neg c2] at H
  have c2b0 : decide (400 < (a0.size : Int)) = false := decide_eq_false c2
  have c2b1 : decide (400 < a0.size) = false := decide_eq_false (by omega)
  clear c2
  replace H := Option.bind_eq_some_iff.mp H
  obtain ⟨⟨t407, t408, t409⟩, A30, H⟩ := H
  try dsimp only at H
  have A3 := am A30
  clear A30
  by_cases c4 : t409 = true
  ·subst c4
   rw [if_pos rfl] at H
   replace H := Option.bind_eq_some_iff.mp H
   obtain ⟨t411, A50, H⟩ := H
   try dsimp only at H
   have A5 := am A50
   clear A50
   simp only [Option.some.injEq, Prod.mk.injEq] at H
   obtain ⟨rfl, rfl⟩ := H
   go_enter Tryd.func9, Tryd.ntmps9
   go_wp2_with (first | ((with_reducible refine gate_callee (f := 17) rfl ?_); refine goesL_ (some 11) rfl rfl Tryd.func17 (by kernel_rfl) rfl #[.string a0] rfl pM ?_; (with_reducible refine (dec_cut.calls k a0 t407 t408 true _ A3.out).mono ?_); rintro e w6 ⟨rfl, hb⟩; refine ⟨_, rfl, ?_⟩; replace HB := am (below_step pB hb); (try clear hb)) | ((with_reducible refine gate_dst (N := 4) rfl ?_); refine box_event ?hg (N := 4) ?hd (cs := #[.string (⟨#[]⟩ : ByteArray), .int .i64 0]) (t := 47) ?hr ?_; (case hd => rfl); (case hg => rfl); (case hr => first | (go_simp; done) | (go_simp; rfl)); intro gb410 hg w7 hbox hb; have BK410 := am (hbox); have GW410 := am ((by rw [hg]; exact (below_size pB) : w.heap.size ≤ gb410)); have GE410 := am ((by rw [hg]; exact (below_size pB) : w.heap.size ≤ gb410)); replace HB := am (below_step pB hb); clear hb hbox hg; have q8 := cf2 BK410.out) | ((with_reducible refine gate_callee (f := 18) rfl ?_); refine goesL_ (some 17) rfl rfl Tryd.func18 (by kernel_rfl) rfl #[.agg #[.string t407, .int .i64 t408]] rfl pM ?_; (with_reducible refine (dec_nearest.calls k t407 t408 t411 _ A5.out).mono ?_); rintro e w9 ⟨rfl, hb⟩; refine ⟨_, rfl, ?_⟩; replace BK410 := am (blk_below (g := gb410) (o := .cells #[.string t407, .int .i64 t408] 47 (0, 0)) (by (with_reducible repeat (first | refine blk_drewN ?_ _ | refine blk_drew ?_ | refine blk_alloc ?_ _)); refine blk_put (cs := #[.string t407, .int .i64 0]) ?_ 1 _ rfl; (with_reducible repeat (first | refine blk_drewN ?_ _ | refine blk_drew ?_ | refine blk_alloc ?_ _)); refine blk_put (cs := #[.string (⟨#[]⟩ : ByteArray), .int .i64 0]) ?_ 0 _ rfl; (with_reducible repeat (first | refine blk_drewN ?_ _ | refine blk_drew ?_ | refine blk_alloc ?_ _)); exact BK410.out) hb); replace HB := am (below_step pB hb); (try clear hb)))
   go_ret2
   exact ⟨pE, pB⟩
  ·replace c4 := Bool.eq_false_iff.mpr c4
   subst c4
   rw [if_neg (show ¬ (false = true) by decide)] at H
   simp only [Option.some.injEq, Prod.mk.injEq] at H
   obtain ⟨rfl, rfl⟩ := H
   go_enter Tryd.func9, Tryd.ntmps9
   go_wp2_with (first | ((with_reducible refine gate_callee (f := 17) rfl ?_); refine goesL_ (some 11) rfl rfl Tryd.func17 (by kernel_rfl) rfl #[.string a0] rfl pM ?_; (with_reducible refine (dec_cut.calls k a0 t407 t408 false _ A3.out).mono ?_); rintro e w10 ⟨rfl, hb⟩; refine ⟨_, rfl, ?_⟩; replace HB := am (below_step pB hb); (try clear hb)) | ((with_reducible refine gate_dst (N := 4) rfl ?_); refine box_event ?hg (N := 4) ?hd (cs := #[.string (⟨#[]⟩ : ByteArray), .int .i64 0]) (t := 47) ?hr ?_; (case hd => rfl); (case hg => rfl); (case hr => first | (go_simp; done) | (go_simp; rfl)); intro gb410 hg w11 hbox hb; have BK410 := am (hbox); have GW410 := am ((by rw [hg]; exact (below_size pB) : w.heap.size ≤ gb410)); have GE410 := am ((by rw [hg]; exact (below_size pB) : w.heap.size ≤ gb410)); replace HB := am (below_step pB hb); clear hb hbox hg; have q12 := cf2 BK410.out))
   go_ret2
   exact ⟨pE, pB⟩
def minstrellaw05_lives.f (k : Nat)  : Option (Bool) := (dec_Parse.f k (⟨#[49, 46, 53, 48, 101, 49]⟩ : ByteArray)).bind fun bt412 => (if bt412.1 = 4624633867356078080 then (if bt412.2 = 0 then ((dec_Print.f k bt412.1).bind fun t414 => (some (t414.toList == ([49, 53] : List UInt8)))) else (none)) else (none))
theorem minstrellaw05_lives.mono : ∀ k, LeO (minstrellaw05_lives.f k ) (minstrellaw05_lives.f (k + 1) ) := by
 intro  k
 unfold minstrellaw05_lives.f
 repeat' first
   | (with_reducible exact dec_Parse.mono _ _)
   | (with_reducible exact dec_Print.mono _ _)
   | (with_reducible exact LeO.refl _)
   | (with_reducible exact LeO.none _)
   | (with_reducible refine LeO.ite ?_ ?_)
   | (with_reducible refine LeO.bind ?_ (fun _ => ?_))
   | exact dec_Parse.mono _ _
   | exact dec_Print.mono _ _
   | exact LeO.none _
   | refine LeO.ite ?_ ?_
   | refine LeO.bind ?_ (fun _ => ?_)
set_option maxHeartbeats 8000000 in
set_option maxRecDepth 100000 in
theorem minstrellaw05_lives.calls (k : Nat)  (r : Bool) (w : World) (hG : PowLaid w) (h : minstrellaw05_lives.f k  = some r) :
  Calls Tryd.prog 7 #[] w fun e w' => e = .returned (.bool r) ∧ Below w.heap.size w w' := by
 have HG := am hG
 clear hG
 have HB := am (Below.refl w.heap.size w)
 have H : ((dec_Parse.f k (⟨#[49, 46, 53, 48, 101, 49]⟩ : ByteArray)).bind fun bt412 => (if bt412.1 = 4624633867356078080 then (if bt412.2 = 0 then ((dec_Print.f k bt412.1).bind fun t414 => (some (t414.toList == ([49, 53] : List UInt8)))) else (none)) else (none))) = some r := h
 clear h
 replace H := Option.bind_eq_some_iff.mp H
 obtain ⟨⟨t412, t413⟩, A10, H⟩ := H
 try dsimp only at H
 have A1 := am A10
 clear A10
 by_cases c2 : t412 = 4624633867356078080
 ·rw [if_pos c2] at H
  have c2b0 : (t412 == 4624633867356078080) = true := beq_iff_eq.mpr c2
  have c2b1 : (t412 != 4624633867356078080) = false := bne_eq_false_iff_eq.mpr c2
  clear c2
  by_cases c3 : t413 = 0
  ·rw [if_pos c3] at H
   have c3b0 : (t413 == 0) = true := beq_iff_eq.mpr c3
   have c3b1 : (t413 != 0) = false := bne_eq_false_iff_eq.mpr c3
   clear c3
   replace H := Option.bind_eq_some_iff.mp H
   obtain ⟨t414, A40, H⟩ := H
   try dsimp only at H
   have A4 := am A40
   clear A40
   obtain rfl := Option.some.inj H
   go_enter Tryd.func7, Tryd.ntmps7
   go_wp2_with (first | ((with_reducible refine gate_callee (f := 9) rfl ?_); refine goesL_ (some 4) rfl rfl Tryd.func9 (by kernel_rfl) rfl #[.string (⟨#[49, 46, 53, 48, 101, 49]⟩ : ByteArray)] rfl pM ?_; (with_reducible refine (dec_Parse.calls k (⟨#[49, 46, 53, 48, 101, 49]⟩ : ByteArray) t412 t413 _ A1.out).mono ?_); rintro e w5 ⟨rfl, hb⟩; refine ⟨_, rfl, ?_⟩; replace HB := am (below_step pB hb); (try clear hb)) | (go_at_call 8; (with_reducible refine (dec_Print.calls k t412 t414 _ ?side1 A4.out).mono ?_); (case side1 => exact pG); rintro e w6 ⟨rfl, hb⟩; replace HB := am (below_step pB hb); (try clear hb)))
   go_ret
   exact ⟨pE, pB⟩
  ·rw [if_neg c3] at H
   exact absurd H (by simp)
 ·rw [if_neg c2] at H
  exact absurd H (by simp)
def minstrelref05_digits.l0 : Nat → ByteArray → Int → Option (Int)
 | 0, _, _ => none
 | k + 1, x0, x1 => if x1 < (x0.size : Int) then (if 0 ≤ x1 then (if (bt x0 x1) ≥ 48 then (if (bt x0 x1) ≤ 57 then (minstrelref05_digits.l0 k x0 (wrap64 (x1 + 1))) else (some x1)) else (some x1)) else (none)) else (some x1)
def minstrelref05_digits.f (k : Nat) (a0 : ByteArray) (a1 : Int) : Option (Int) := minstrelref05_digits.l0 k a0 a1
theorem minstrelref05_digits.mono_l : ∀ k, (∀ y0 y1, LeO (minstrelref05_digits.l0 k y0 y1) (minstrelref05_digits.l0 (k + 1) y0 y1))
 | 0 => fun _ _ r h => by simp [minstrelref05_digits.l0] at h
 | k + 1 => by
  have ih0 := minstrelref05_digits.mono_l k
  ·intro y0 y1
   unfold minstrelref05_digits.l0
   repeat' first
   | (with_reducible exact ih0 _ _)
   | (with_reducible exact LeO.refl _)
   | (with_reducible exact LeO.none _)
   | (with_reducible refine LeO.ite ?_ ?_)
   | (with_reducible refine LeO.bind ?_ (fun _ => ?_))
   | exact ih0 _ _
   | exact LeO.none _
   | refine LeO.ite ?_ ?_
   | refine LeO.bind ?_ (fun _ => ?_)
theorem minstrelref05_digits.mono : ∀ a0 a1 k, LeO (minstrelref05_digits.f k a0 a1) (minstrelref05_digits.f (k + 1) a0 a1) := by
 intro a0 a1 k
 have ih0 := minstrelref05_digits.mono_l k
 unfold minstrelref05_digits.f
 repeat' first
   | (with_reducible exact ih0 _ _)
   | (with_reducible exact LeO.refl _)
   | (with_reducible exact LeO.none _)
   | (with_reducible refine LeO.ite ?_ ?_)
   | (with_reducible refine LeO.bind ?_ (fun _ => ?_))
   | exact ih0 _ _
   | exact LeO.none _
   | refine LeO.ite ?_ ?_
   | refine LeO.bind ?_ (fun _ => ?_)
set_option maxHeartbeats 8000000 in
set_option maxRecDepth 100000 in
theorem minstrelref05_digits.calls (k : Nat) (a0 : ByteArray) (a1 : Int) (r : Int) (w : World) (h : minstrelref05_digits.f k a0 a1 = some r) :
  Calls Tryd.prog 19 #[.string a0, .int .i64 a1] w fun e w' => e = .returned (.int .i64 r) ∧ Drawn0 w w' := by
 have H : (minstrelref05_digits.l0 k a0 a1) = some r := h
 clear h
 have H' := am H
 clear H
 go_enter Tryd.func19, Tryd.ntmps19
 go_wp2
 go_loopg [1] k (fun kq v1 w' => ∃ (x1_1 : Int), v1 = .int .i64 x1_1 ∧ Aside0 (minstrelref05_digits.l0 kq a0 x1_1 = some r) ∧ Aside0 (kq ≤ k) ∧ Drawn0 w w')
 case atStart => exact ⟨(a1), (by first | rfl | (simp; done) | (simp [*]; done)), H', ⟨Nat.le_refl _⟩, by repeat (first | exact Drawn0.refl _ | apply Drawn0.step)⟩
 case round =>
  clear H'
  try clear c1
  try clear p2
  obtain ⟨x1_1, rfl, HA, HK1, ⟨m1, rfl⟩⟩ := hrel
  cases gk with
  | zero => exact absurd HA.out (by simp [minstrelref05_digits.l0])
  | succ k1 =>
   have H := HA.out
   clear HA
   simp only [minstrelref05_digits.l0] at H
   by_cases c3 : x1_1 < (a0.size : Int)
   ·rw [if_pos c3] at H
    have c3b0 : decide (x1_1 < (a0.size : Int)) = true := decide_eq_true c3
    clear c3
    by_cases c4 : 0 ≤ x1_1
    ·rw [if_pos c4] at H
     have c4b0 : decide (0 ≤ x1_1) = true := decide_eq_true c4
     clear c4
     by_cases c6 : (bt a0 x1_1) ≥ 48
     ·rw [if_pos c6] at H
      have c6b0 : decide (48 ≤ (bt a0 x1_1)) = true := decide_eq_true c6
      clear c6
      by_cases c8 : (bt a0 x1_1) ≤ 57
      ·rw [if_pos c8] at H
       have c8b0 : decide ((bt a0 x1_1) ≤ 57) = true := decide_eq_true c8
       clear c8
       have H' := am H
       clear H
       have p5 : 0 ≤ (x1_1 : Int) := pD
       have q5 : x1_1 < (a0.size : Int) := pD
       have hx5 := bt_at a0 x1_1
       replace p5 := eq_true p5
       replace q5 := eq_true q5
       have p7 : 0 ≤ (x1_1 : Int) := pD
       have q7 : x1_1 < (a0.size : Int) := pD
       have hx7 := bt_at a0 x1_1
       replace p7 := eq_true p7
       replace q7 := eq_true q7
       go_wp2
       go_roundg k1
       case measure => have := HK1.out; omega
       case rel => exact ⟨(wrap64 (x1_1 + 1)), (by first | rfl | (simp; done) | (simp [*]; done)), H', ⟨by have := HK1.out; omega⟩, by repeat (first | exact Drawn0.refl _ | apply Drawn0.step)⟩
      ·rw [if_neg c8] at H
       have c8b0 : decide ((bt a0 x1_1) ≤ 57) = false := decide_eq_false c8
       clear c8
       obtain rfl := Option.some.inj H
       have p5 : 0 ≤ (x1_1 : Int) := pD
       have q5 : x1_1 < (a0.size : Int) := pD
       have hx5 := bt_at a0 x1_1
       replace p5 := eq_true p5
       replace q5 := eq_true q5
       have p7 : 0 ≤ (x1_1 : Int) := pD
       have q7 : x1_1 < (a0.size : Int) := pD
       have hx7 := bt_at a0 x1_1
       replace p7 := eq_true p7
       replace q7 := eq_true q7
       go_wp2
       go_ret
       exact ⟨by first | rfl | (simp; done) | (simp [*]; done), by repeat (first | exact Drawn0.refl _ | apply Drawn0.step)⟩
     ·rw [if_neg c6] at H
      have c6b0 : decide (48 ≤ (bt a0 x1_1)) = false := decide_eq_false c6
      clear c6
      obtain rfl := Option.some.inj H
      have p5 : 0 ≤ (x1_1 : Int) := pD
      have q5 : x1_1 < (a0.size : Int) := pD
      have hx5 := bt_at a0 x1_1
      replace p5 := eq_true p5
      replace q5 := eq_true q5
      go_wp2
      go_ret
      exact ⟨by first | rfl | (simp; done) | (simp [*]; done), by repeat (first | exact Drawn0.refl _ | apply Drawn0.step)⟩
    ·rw [if_neg c4] at H
     exact absurd H (by simp)
   ·rw [if_neg c3] at H
    have c3b0 : decide (x1_1 < (a0.size : Int)) = false := decide_eq_false c3
    clear c3
    obtain rfl := Option.some.inj H
    go_wp2
    go_ret
    exact ⟨by first | rfl | (simp; done) | (simp [*]; done), by repeat (first | exact Drawn0.refl _ | apply Drawn0.step)⟩
end Go.Proofs.YtflcanpajgpghaaDoor.Pr
end
section
namespace Go.Proofs.YtflcanpajgpghaaDoor.Pr
open Go.RowKit Go.Proofs.YtflcanpajgpghaaDoorW.PrintWords Go.Proofs.YtflcanpajgpghaaDoorW.PrintLast Go.Proofs.YtflcanpajgpghaaDoorW.PrintMore
attribute [local go_sem] max2_int min2_int max_two min_two max_three min_three max_four min_four
mutual
def minstrelref05_Read.j0 : Nat → ByteArray → Int → Bool → ByteArray → Int → Option (ByteArray × Int × Bool)
 | 0, _, _, _, _, _ => none
 | k + 1, x0, x5, x29, x417000, x417001 => if x29 = true then ((minstrelref05_digits.f k x0 (wrap64 (x5 + 1))).bind fun t418 => (if t418 = (wrap64 (x5 + 1)) then (some (x417000, x417001, false)) else (if 0 ≤ (wrap64 (x5 + 1)) then (if (wrap64 (x5 + 1)) ≤ t418 then (if t418 ≤ (x0.size : Int) then (if x417000.size + (x0.extract ((wrap64 (x5 + 1)) : Int).toNat (t418 : Int).toNat).size ≤ 9223372036854775807 then (minstrelref05_Read.j1 k x0 t418 (x417000 ++ (x0.extract ((wrap64 (x5 + 1)) : Int).toNat (t418 : Int).toNat)) (wrap64 ((wrap64 (x5 + 1)) - t418))) else (none)) else (none)) else (none)) else (none)))) else (minstrelref05_Read.j1 k x0 x5 x417000 x417001)
def minstrelref05_Read.j1 : Nat → ByteArray → Int → ByteArray → Int → Option (ByteArray × Int × Bool)
 | 0, _, _, _, _ => none
 | k + 1, x0, x5, x417000, x417001 => if x5 = (x0.size : Int) then (some (x417000, x417001, true)) else (if 0 ≤ x5 then (if x5 < (x0.size : Int) then (if (bt x0 x5) = 101 then (minstrelref05_Read.j2 k x0 x5 false x417000 x417001) else (minstrelref05_Read.j2 k x0 x5 ((bt x0 x5) != 69) x417000 x417001)) else (none)) else (none))
def minstrelref05_Read.j2 : Nat → ByteArray → Int → Bool → ByteArray → Int → Option (ByteArray × Int × Bool)
 | 0, _, _, _, _, _ => none
 | k + 1, x0, x5, x68, x417000, x417001 => if x68 = true then (some (x417000, x417001, false)) else (if (wrap64 (x5 + 1)) < (x0.size : Int) then (if 0 ≤ (wrap64 (x5 + 1)) then (if (bt x0 (wrap64 (x5 + 1))) = 43 then (minstrelref05_Read.j3 k x0 (wrap64 (x5 + 1)) false true x417000 x417001) else (minstrelref05_Read.j3 k x0 (wrap64 (x5 + 1)) false ((bt x0 (wrap64 (x5 + 1))) == 45) x417000 x417001)) else (none)) else (minstrelref05_Read.j3 k x0 (wrap64 (x5 + 1)) false false x417000 x417001))
def minstrelref05_Read.j3 : Nat → ByteArray → Int → Bool → Bool → ByteArray → Int → Option (ByteArray × Int × Bool)
 | 0, _, _, _, _, _, _ => none
 | k + 1, x0, x5, x7, x87, x417000, x417001 => if x87 = true then (if 0 ≤ x5 then (if x5 < (x0.size : Int) then (minstrelref05_Read.j4 k x0 (wrap64 (x5 + 1)) ((bt x0 x5) == 45) x417000 x417001) else (none)) else (none)) else (minstrelref05_Read.j4 k x0 x5 x7 x417000 x417001)
def minstrelref05_Read.j4 : Nat → ByteArray → Int → Bool → ByteArray → Int → Option (ByteArray × Int × Bool)
 | 0, _, _, _, _, _ => none
 | k + 1, x0, x5, x7, x417000, x417001 => if x5 = (x0.size : Int) then (minstrelref05_Read.j5 k x0 x5 x7 true x417000 x417001) else ((minstrelref05_digits.f k x0 x5).bind fun t419 => (minstrelref05_Read.j5 k x0 x5 x7 (t419 != (x0.size : Int)) x417000 x417001))
def minstrelref05_Read.j5 : Nat → ByteArray → Int → Bool → Bool → ByteArray → Int → Option (ByteArray × Int × Bool)
 | 0, _, _, _, _, _, _ => none
 | k + 1, x0, x5, x7, x105, x417000, x417001 => if x105 = true then (some (x417000, x417001, false)) else (minstrelref05_Read.l0 k x0 x7 0 x5 x417000 x417001)
def minstrelref05_Read.l0 : Nat → ByteArray → Bool → Int → Int → ByteArray → Int → Option (ByteArray × Int × Bool)
 | 0, _, _, _, _, _, _ => none
 | k + 1, x0, x7, x8, x9, x417000, x417001 => if x9 < (x0.size : Int) then (if x8 < 9999 then (if 0 ≤ x9 then (minstrelref05_Read.l0 k x0 x7 (wrap64 ((wrap64 (10 * x8)) + (((bt x0 x9) - 48) % 256))) (wrap64 (x9 + 1)) x417000 x417001) else (none)) else (minstrelref05_Read.l0 k x0 x7 x8 (wrap64 (x9 + 1)) x417000 x417001)) else (if x8 > 9999 then (if x7 = true then (some (x417000, wrap64 (x417001 + (-9999)), true)) else (some (x417000, wrap64 (x417001 + 9999), true))) else (if x7 = true then (some (x417000, wrap64 (x417001 + (wrap64 (-x8))), true)) else (some (x417000, wrap64 (x417001 + x8), true))))
end
def minstrelref05_Read.f (k : Nat) (a0 : ByteArray) : Option (ByteArray × Int × Bool) := (minstrelref05_digits.f k a0 0).bind fun t417 => (if t417 = 0 then (some ((⟨#[]⟩ : ByteArray), 0, false)) else (if 0 ≤ t417 then (if t417 ≤ (a0.size : Int) then (if t417 < (a0.size : Int) then (minstrelref05_Read.j0 k a0 t417 ((bt a0 t417) == 46) (a0.extract 0 (t417 : Int).toNat) 0) else (minstrelref05_Read.j0 k a0 t417 false (a0.extract 0 (t417 : Int).toNat) 0)) else (none)) else (none)))
def minstrelref05_Read.T10 : Bool × List (List Nat × List Nat) := (true, [([], []), ([0], [0]), ([], []), ([], []), ([3], [3]), ([], []), ([2, 4, 5], [2, 4, 5]), ([1, 6], [1, 6]), ([], []), ([8], [8]), ([], []), ([9, 10], [9, 10]), ([0, 1, 2, 3, 4, 5, 6, 7], []), ([12, 7, 0, 1, 2, 3, 4, 5, 6, 7], [7, 12]), ([0, 1, 2, 3, 4, 5, 6, 7, 8, 9, 10, 11, 12, 13], []), ([14, 11, 13, 0, 1, 2, 3, 4, 5, 6, 7, 8, 9, 10, 11, 12, 13], [11, 14])])
def minstrelref05_Read.B10 : List Nat := [0, 1, 0, 0, 8, 0, 60, 127, 0, 256, 0, 1792, 255, 4351, 16383, 32767]
theorem minstrelref05_Read.tab10 : rtab .any (opsOf Tryd.f10 10) = minstrelref05_Read.T10 := by kernel_rfl
theorem minstrelref05_Read.bits10 : waitsOk minstrelref05_Read.T10.2 minstrelref05_Read.B10 = true := by kernel_rfl
set_option maxHeartbeats 8000000 in
set_option maxRecDepth 100000 in
theorem minstrelref05_Read.calls (k : Nat) (a0 : ByteArray) (r1 : ByteArray) (r2 : Int) (r3 : Bool) (w : World) (h : minstrelref05_Read.f k a0 = some (r1, r2, r3)) :
  Calls Tryd.prog 10 #[.string a0] w fun e w' => e = .returned (.tuple #[.agg #[.string r1, .int .i64 r2], .bool r3]) ∧ Below w.heap.size w w' := by
 have hu31 := Tryd.underlying31
 have HB := am (Below.refl w.heap.size w)
 have H : ((minstrelref05_digits.f k a0 0).bind fun t417 => (if t417 = 0 then (some ((⟨#[]⟩ : ByteArray), 0, false)) else (if 0 ≤ t417 then (if t417 ≤ (a0.size : Int) then (if t417 < (a0.size : Int) then (minstrelref05_Read.j0 k a0 t417 ((bt a0 t417) == 46) (a0.extract 0 (t417 : Int).toNat) 0) else (minstrelref05_Read.j0 k a0 t417 false (a0.extract 0 (t417 : Int).toNat) 0)) else (none)) else (none)))) = some (r1, r2, r3) := h
 clear h
 replace H := Option.bind_eq_some_iff.mp H
 obtain ⟨t417, A20, H⟩ := H
 try dsimp only at H
 have A2 := am A20
 clear A20
 by_cases c3 : t417 = 0
 ·rw [if_pos c3] at H
  have c3b0 : (t417 == 0) = true := beq_iff_eq.mpr c3
  have c3b1 : (t417 != 0) = false := bne_eq_false_iff_eq.mpr c3
  clear c3
  simp only [Option.some.injEq, Prod.mk.injEq] at H
  obtain ⟨rfl, rfl, rfl⟩ := H
  go_enter Tryd.func10, Tryd.ntmps10
  go_wp2_with (first | ((with_reducible refine gate_dst (N := 2) rfl ?_); (try (refine gate_guard (by rfl) ?_; dsimp only)); refine box_event ?hg (N := 2) ?hd (cs := #[.string (⟨#[]⟩ : ByteArray), .int .i64 0]) (t := 31) ?hr ?_; (case hd => rfl); (case hg => rfl); (case hr => first | (go_simp; done) | (go_simp; rfl)); intro gb415 hg w4 hbox hb; have BK415 := am (hbox); have GW415 := am ((by rw [hg]; exact (below_size pB) : w.heap.size ≤ gb415)); have GE415 := am ((by rw [hg]; exact (below_size pB) : w.heap.size ≤ gb415)); replace HB := am (below_step pB hb); clear hb hbox hg) | ((with_reducible refine gate_dst (N := 4) rfl ?_); (try (refine gate_guard (by rfl) ?_; dsimp only)); refine box_event ?hg (N := 4) ?hd (cs := #[.string (⟨#[]⟩ : ByteArray), .int .i64 0]) (t := 31) ?hr ?_; (case hd => rfl); (case hg => rfl); (case hr => first | (go_simp; done) | (go_simp; rfl)); intro gb416 hg w5 hbox hb; have BK416 := am (hbox); have GW416 := am ((by rw [hg]; exact (below_size pB) : w.heap.size ≤ gb416)); have GE416 := am ((by rw [hg]; exact (below_size pB) : w.heap.size ≤ gb416)); have NB415_416 := am ((by rw [hg]; exact Nat.ne_of_lt (pkl BK415.out) : gb415 ≠ gb416)); have NB416_415 := am ((by rw [hg]; exact Nat.ne_of_gt (pkl BK415.out) : gb416 ≠ gb415)); replace BK415 := am (pkb BK415.out hb); replace HB := am (below_step pB hb); clear hb hbox hg; have hnb6 := NB416_415.out; have hnc6 := NB415_416.out; have q7 := cf2 BK416.out) | ((with_reducible refine gate_callee (f := 19) rfl ?_); refine goesL_ (some 12) rfl rfl Tryd.func19 (by kernel_rfl) rfl #[.string a0, .int .i64 0] rfl pM ?_; (with_reducible refine (minstrelref05_digits.calls k a0 0 t417 _ A2.out).mono ?_); rintro e w' ⟨rfl, ⟨nd, rfl⟩⟩; refine ⟨_, rfl, ?_⟩; have q8 := cf2 BK415.out))
  refine bodyPost_ret (results_ct rfl _ _ gb415 31 #[.string (⟨#[]⟩ : ByteArray), .int .i64 0] (0, 0) _ rfl (by (iterate 2 ((with_reducible repeat (first | refine blk_drewN ?_ _ | refine blk_drew ?_ | refine blk_alloc ?_ _)); refine blk_put (cs := #[.string (⟨#[]⟩ : ByteArray), .int .i64 0]) ?_ _ _ rfl)); (with_reducible repeat (first | refine blk_drewN ?_ _ | refine blk_drew ?_ | refine blk_alloc ?_ _)); refine blk_far ?_ NB415_416.out _; (with_reducible repeat (first | refine blk_drewN ?_ _ | refine blk_drew ?_ | refine blk_alloc ?_ _)); refine blk_far ?_ NB415_416.out _; (with_reducible repeat (first | refine blk_drewN ?_ _ | refine blk_drew ?_ | refine blk_alloc ?_ _)); exact BK415.out) Tryd.underlying31 rfl (by kernel_rfl)) rfl ?_
  exact ⟨pE, pB⟩
 ·rw [if_neg c3] at H
  have c3b0 : (t417 == 0) = false := beq_eq_false_iff_ne.mpr c3
  have c3b1 : (t417 != 0) = true := bne_iff_ne.mpr c3
  by_cases c9 : 0 ≤ t417
  ·rw [if_pos c9] at H
   have c9b0 := eq_true c9
   have c9b1 : decide (0 ≤ t417) = true := decide_eq_true c9
   clear c9
   by_cases c10 : t417 ≤ (a0.size : Int)
   ·rw [if_pos c10] at H
    have c10b0 := eq_true c10
    have c10b1 : decide (t417 ≤ (a0.size : Int)) = true := decide_eq_true c10
    clear c10
    obtain ⟨ji11, hji11⟩ : ∃ j_ : ByteArray, (a0.extract 0 (t417 : Int).toNat) = j_ := ⟨_, rfl⟩
    replace H : (if t417 < (a0.size : Int) then (minstrelref05_Read.j0 k a0 t417 ((bt a0 t417) == 46) ji11 0) else (minstrelref05_Read.j0 k a0 t417 false ji11 0)) = some (r1, r2, r3) := by first | (rw [hji11] at H; exact H) | (simp only [hji11] at H ⊢; exact H) | exact H
    (try rw [hji11] at A2)
    have HC12 := am H
    clear H
    go_enter Tryd.func10, Tryd.ntmps10
    go_upto_region 6 with (first | ((with_reducible refine gate_dst (N := 2) rfl ?_); (try (refine gate_guard (by rfl) ?_; dsimp only)); refine box_event ?hg (N := 2) ?hd (cs := #[.string (⟨#[]⟩ : ByteArray), .int .i64 0]) (t := 31) ?hr ?_; (case hd => rfl); (case hg => rfl); (case hr => first | (go_simp; done) | (go_simp; rfl)); intro gb415 hg w13 hbox hb; have BK415 := am (hbox); have GW415 := am ((by rw [hg]; exact (below_size pB) : w.heap.size ≤ gb415)); have GE415 := am ((by rw [hg]; exact (below_size pB) : w.heap.size ≤ gb415)); replace HB := am (below_step pB hb); clear hb hbox hg) | ((with_reducible refine gate_dst (N := 4) rfl ?_); (try (refine gate_guard (by rfl) ?_; dsimp only)); refine box_event ?hg (N := 4) ?hd (cs := #[.string (⟨#[]⟩ : ByteArray), .int .i64 0]) (t := 31) ?hr ?_; (case hd => rfl); (case hg => rfl); (case hr => first | (go_simp; done) | (go_simp; rfl)); intro gb416 hg w14 hbox hb; have BK416 := am (hbox); have GW416 := am ((by rw [hg]; exact (below_size pB) : w.heap.size ≤ gb416)); have GE416 := am ((by rw [hg]; exact (below_size pB) : w.heap.size ≤ gb416)); have NB415_416 := am ((by rw [hg]; exact Nat.ne_of_lt (pkl BK415.out) : gb415 ≠ gb416)); have NB416_415 := am ((by rw [hg]; exact Nat.ne_of_gt (pkl BK415.out) : gb416 ≠ gb415)); replace BK415 := am (pkb BK415.out hb); replace HB := am (below_step pB hb); clear hb hbox hg; have hnb15 := NB416_415.out; have hnc15 := NB415_416.out; have q16 := cf2 BK416.out) | ((with_reducible refine gate_callee (f := 19) rfl ?_); refine goesL_ (some 12) rfl rfl Tryd.func19 (by kernel_rfl) rfl #[.string a0, .int .i64 0] rfl pM ?_; (with_reducible refine (minstrelref05_digits.calls k a0 0 t417 _ A2.out).mono ?_); rintro e w' ⟨rfl, ⟨nd, rfl⟩⟩; refine ⟨_, rfl, ?_⟩))
    (try simp only [Act.put, List.setIfInBounds_toArray, List.set_cons_zero, List.set_cons_succ])
    go_cut [29] (fun v29 wc => ∃ (kq : Nat) (x29_11 : Bool), v29 = .bool x29_11 ∧ Aside0 (minstrelref05_Read.j0 kq a0 t417 x29_11 ji11 0 = some (r1, r2, r3)) ∧ Aside0 (kq ≤ k) ∧ Aside0 (wc.heap[gb415]? = some (.cells #[.string (⟨#[]⟩ : ByteArray), .int .i64 0] 31 (0, 0))) ∧ Aside0 (wc.heap[gb416]? = some (.cells #[.string ji11, .int .i64 0] 31 (0, 0))) ∧ Aside0 (Below w.heap.size w wc))
    case first =>
     have H := HC12.out
     clear HC12
     by_cases c17 : t417 < (a0.size : Int)
     ·rw [if_pos c17] at H
      have c17b0 : decide (t417 < (a0.size : Int)) = true := decide_eq_true c17
      clear c17
      (first | rw [c17b0] | (simp only [i64_w, i32_w]; rw [c17b0]) | rw [c17b1] | (simp only [i64_w, i32_w]; rw [c17b1]) | skip)
      have H' := am H
      clear H
      have p18 : 0 ≤ (t417 : Int) := pD
      have q18 : t417 < (a0.size : Int) := pD
      have hx18 := bt_at a0 t417
      replace p18 := eq_true p18
      replace q18 := eq_true q18
      go_wp2
      go_meet
      case rel => exact ⟨_, (((bt a0 t417) == 46)), (by first | rfl | (simp; done) | (simp [*]; done)), H', ⟨by first | omega | exact Nat.le_refl _⟩, ⟨by (with_reducible repeat (first | refine blk_drewN ?_ _ | refine blk_drew ?_ | refine blk_alloc ?_ _)); refine blk_far ?_ NB415_416.out _; (with_reducible repeat (first | refine blk_drewN ?_ _ | refine blk_drew ?_ | refine blk_alloc ?_ _)); refine blk_far ?_ NB415_416.out _; (with_reducible repeat (first | refine blk_drewN ?_ _ | refine blk_drew ?_ | refine blk_alloc ?_ _)); refine blk_far ?_ NB415_416.out _; (with_reducible repeat (first | refine blk_drewN ?_ _ | refine blk_drew ?_ | refine blk_alloc ?_ _)); exact BK415.out⟩, ⟨by (iterate 3 ((with_reducible repeat (first | refine blk_drewN ?_ _ | refine blk_drew ?_ | refine blk_alloc ?_ _)); refine blk_put (cs := #[.string (⟨#[]⟩ : ByteArray), .int .i64 0]) ?_ _ _ rfl)); (with_reducible repeat (first | refine blk_drewN ?_ _ | refine blk_drew ?_ | refine blk_alloc ?_ _)); exact BK416.out⟩, ⟨pB⟩⟩
     ·rw [if_neg c17] at H
      have c17b0 : decide (t417 < (a0.size : Int)) = false := decide_eq_false c17
      clear c17
      (first | rw [c17b0] | (simp only [i64_w, i32_w]; rw [c17b0]) | rw [c17b1] | (simp only [i64_w, i32_w]; rw [c17b1]) | skip)
      have H' := am H
      clear H
      go_wp2
      go_meet
      case rel => exact ⟨_, (false), (by first | rfl | (simp; done) | (simp [*]; done)), H', ⟨by first | omega | exact Nat.le_refl _⟩, ⟨by (with_reducible repeat (first | refine blk_drewN ?_ _ | refine blk_drew ?_ | refine blk_alloc ?_ _)); refine blk_far ?_ NB415_416.out _; (with_reducible repeat (first | refine blk_drewN ?_ _ | refine blk_drew ?_ | refine blk_alloc ?_ _)); refine blk_far ?_ NB415_416.out _; (with_reducible repeat (first | refine blk_drewN ?_ _ | refine blk_drew ?_ | refine blk_alloc ?_ _)); refine blk_far ?_ NB415_416.out _; (with_reducible repeat (first | refine blk_drewN ?_ _ | refine blk_drew ?_ | refine blk_alloc ?_ _)); exact BK415.out⟩, ⟨by (iterate 3 ((with_reducible repeat (first | refine blk_drewN ?_ _ | refine blk_drew ?_ | refine blk_alloc ?_ _)); refine blk_put (cs := #[.string (⟨#[]⟩ : ByteArray), .int .i64 0]) ?_ _ _ rfl)); (with_reducible repeat (first | refine blk_drewN ?_ _ | refine blk_drew ?_ | refine blk_alloc ?_ _)); exact BK416.out⟩, ⟨pB⟩⟩
    case rest =>
     clear HC12
     try clear c1
     try clear p1
     try clear q1
     try clear hx1
     try clear p2
     try clear c3
     try clear c3b0
     try clear c3b1
     try clear c6
     try clear c9
     try clear c9b0
     try clear c9b1
     try clear c10
     try clear c10b0
     try clear c10b1
     try clear c15
     try clear c17
     try clear c17b0
     try clear c17b1
     try clear p18
     try clear q18
     try clear hx18
     try clear q16 q7 q8
     try clear p18
     try clear q18
     obtain ⟨kq, x29_11, rfl, HA, HJ11, BK415, BK416, HB⟩ := hcut
     cases kq with
     | zero => exact absurd HA.out (by simp [minstrelref05_Read.j0])
     | succ kj11 =>
      have H := HA.out
      clear HA
      simp only [minstrelref05_Read.j0] at H
      have HC19 := am H
      clear H
      go_upto_if 29 with (fail)
      go_cut [5] (fun v5 wc => ∃ (kq : Nat) (x5_18 : Int) (x416000_18 : ByteArray) (x416001_18 : Int) (x417000_18 : ByteArray) (x417001_18 : Int), v5 = .int .i64 x5_18 ∧ Aside0 (minstrelref05_Read.j1 kq a0 x5_18 x417000_18 x417001_18 = some (r1, r2, r3)) ∧ Aside0 (kq ≤ kj11) ∧ Aside0 (wc.heap[gb415]? = some (.cells #[.string x416000_18, .int .i64 x416001_18] 31 (0, 0))) ∧ Aside0 (wc.heap[gb416]? = some (.cells #[.string x417000_18, .int .i64 x417001_18] 31 (0, 0))) ∧ Aside0 (Below w.heap.size w wc))
      case first =>
       have H := HC19.out
       clear HC19
       by_cases c20 : x29_11 = true
       ·subst c20
        rw [if_pos rfl] at H
        replace H := Option.bind_eq_some_iff.mp H
        obtain ⟨t418, A210, H⟩ := H
        try dsimp only at H
        have A21 := am A210
        clear A210
        by_cases c22 : t418 = (wrap64 (t417 + 1))
        ·rw [if_pos c22] at H
         have c22b0 : (t418 == (wrap64 (t417 + 1))) = true := beq_iff_eq.mpr c22
         have c22b1 : (t418 != (wrap64 (t417 + 1))) = false := bne_eq_false_iff_eq.mpr c22
         clear c22
         (first | rw [c22b0] | (simp only [i64_w, i32_w]; rw [c22b0]) | rw [c22b1] | (simp only [i64_w, i32_w]; rw [c22b1]) | skip)
         simp only [Option.some.injEq, Prod.mk.injEq] at H
         obtain ⟨rfl, rfl, rfl⟩ := H
         go_wp2_with (first | ((with_reducible refine gate_callee (f := 19) rfl ?_); refine goesL_ (some 33) rfl rfl Tryd.func19 (by kernel_rfl) rfl #[.string a0, .int .i64 (wrap64 (t417 + 1))] rfl pM ?_; (with_reducible refine (minstrelref05_digits.calls kj11 a0 (wrap64 (t417 + 1)) t418 _ A21.out).mono ?_); rintro e w' ⟨rfl, ⟨nd, rfl⟩⟩; refine ⟨_, rfl, ?_⟩; (try (rw [drewN_self wc]; generalize hq_ : World.drewN wc _ = wc; have n0_ : Aside0 (wc.heap[gb415]? = some (.cells #[.string (⟨#[]⟩ : ByteArray), .int .i64 0] 31 (0, 0))) := ⟨by rw [← hq_]; exact (pK BK415.out)⟩; have n1_ : Aside0 (wc.heap[gb416]? = some (.cells #[.string ji11, .int .i64 0] 31 (0, 0))) := ⟨by rw [← hq_]; exact (pK BK416.out)⟩; have n2_ : Aside0 (Below w.heap.size w wc) := ⟨by rw [← hq_]; exact pB⟩; clear BK415 BK416 HB hq_; have BK415 := n0_; have BK416 := n1_; have HB := n2_; clear n0_ n1_ n2_)); have hnb23 := NB416_415.out; have hnc23 := NB415_416.out; have q24 := cf2 BK416.out; have q25 := cf2 BK415.out))
         refine bodyPost_ret (results_ct rfl _ _ gb415 31 #[.string ji11, .int .i64 0] (0, 0) _ rfl (by (with_reducible repeat (first | refine blk_drewN ?_ _ | refine blk_drew ?_ | refine blk_alloc ?_ _)); refine blk_put (cs := #[.string ji11, .int .i64 0]) ?_ 1 _ rfl; (with_reducible repeat (first | refine blk_drewN ?_ _ | refine blk_drew ?_ | refine blk_alloc ?_ _)); refine blk_put (cs := #[.string (⟨#[]⟩ : ByteArray), .int .i64 0]) ?_ 0 _ rfl; (with_reducible repeat (first | refine blk_drewN ?_ _ | refine blk_drew ?_ | refine blk_alloc ?_ _)); exact BK415.out) Tryd.underlying31 rfl (by kernel_rfl)) rfl ?_
         exact ⟨by first | rfl | (simp [errW_none, errW_some] <;> rfl) | (simp only [← hji11]; first | rfl | (simp [errW_none, errW_some] <;> rfl)) | (simp [*, errW_none, errW_some] <;> rfl), pB⟩
        ·rw [if_neg c22] at H
         have c22b0 : (t418 == (wrap64 (t417 + 1))) = false := beq_eq_false_iff_ne.mpr c22
         have c22b1 : (t418 != (wrap64 (t417 + 1))) = true := bne_iff_ne.mpr c22
         (first | rw [c22b0] | (simp only [i64_w, i32_w]; rw [c22b0]) | rw [c22b1] | (simp only [i64_w, i32_w]; rw [c22b1]) | skip)
         obtain ⟨ji26, hji26⟩ : ∃ j_ : Int, (wrap64 (t417 + 1)) = j_ := ⟨_, rfl⟩
         replace H : (if 0 ≤ (ji26) then (if (ji26) ≤ t418 then (if t418 ≤ (a0.size : Int) then (if ji11.size + (a0.extract ((ji26) : Int).toNat (t418 : Int).toNat).size ≤ 9223372036854775807 then (minstrelref05_Read.j1 kj11 a0 t418 (ji11 ++ (a0.extract ((ji26) : Int).toNat (t418 : Int).toNat)) (wrap64 ((ji26) - t418))) else (none)) else (none)) else (none)) else (none)) = some (r1, r2, r3) := by first | (rw [hji26] at H; exact H) | (simp only [hji26] at H ⊢; exact H)
         (try rw [hji26] at c22b0)
         (try rw [hji26] at c22b1)
         (try rw [hji26] at A21)
         have hji26w : (IntKind.i64.wrap (t417 + 1)) = ji26 := (i64_w _).trans hji26
         by_cases c27 : 0 ≤ (ji26)
         ·rw [if_pos c27] at H
          have c27b0 := eq_true c27
          have c27b1 : decide (0 ≤ (ji26)) = true := decide_eq_true c27
          clear c27
          by_cases c28 : (ji26) ≤ t418
          ·rw [if_pos c28] at H
           have c28b0 := eq_true c28
           have c28b1 : decide ((ji26) ≤ t418) = true := decide_eq_true c28
           clear c28
           by_cases c29 : t418 ≤ (a0.size : Int)
           ·rw [if_pos c29] at H
            have c29b0 := eq_true c29
            have c29b1 : decide (t418 ≤ (a0.size : Int)) = true := decide_eq_true c29
            clear c29
            obtain ⟨ji30, hji30⟩ : ∃ j_ : ByteArray, (a0.extract ((ji26) : Int).toNat (t418 : Int).toNat) = j_ := ⟨_, rfl⟩
            replace H : (if ji11.size + (ji30).size ≤ 9223372036854775807 then (minstrelref05_Read.j1 kj11 a0 t418 (ji11 ++ (ji30)) (wrap64 ((ji26) - t418))) else (none)) = some (r1, r2, r3) := by first | (rw [hji30] at H; exact H) | (simp only [hji30] at H ⊢; exact H) | exact H
            (try rw [hji30] at A21)
            by_cases c31 : ji11.size + (ji30).size ≤ 9223372036854775807
            ·rw [if_pos c31] at H
             have c31b0 := eq_true c31
             have c31b1 : decide (ji11.size + (ji30).size ≤ 9223372036854775807) = true := decide_eq_true c31
             try have c31b2 : (9223372036854775807 < ji11.size + (ji30).size) = False := eq_false (Nat.not_lt.2 c31)
             have H' := am H
             clear H
             try go_wp2_with (first | ((with_reducible refine gate_callee (f := 19) rfl ?_); refine goesL_ (some 33) rfl rfl Tryd.func19 (by kernel_rfl) rfl #[.string a0, .int .i64 ji26] rfl (by (try simp only [List.map_toArray, List.map_cons, List.map_nil]); first | done | (simp only [hji26]; rfl) | rfl | (simp only [List.length_drop, List.length_take]; rfl)) ?_; (with_reducible refine (minstrelref05_digits.calls kj11 a0 ji26 t418 _ A21.out).mono ?_); rintro e w' ⟨rfl, ⟨nd, rfl⟩⟩; refine ⟨_, rfl, ?_⟩; (try (rw [drewN_self wc]; generalize hq_ : World.drewN wc _ = wc; have n0_ : Aside0 (wc.heap[gb415]? = some (.cells #[.string (⟨#[]⟩ : ByteArray), .int .i64 0] 31 (0, 0))) := ⟨by rw [← hq_]; exact (pK BK415.out)⟩; have n1_ : Aside0 (wc.heap[gb416]? = some (.cells #[.string ji11, .int .i64 0] 31 (0, 0))) := ⟨by rw [← hq_]; exact (pK BK416.out)⟩; have n2_ : Aside0 (Below w.heap.size w wc) := ⟨by rw [← hq_]; exact pB⟩; clear BK415 BK416 HB hq_; have BK415 := n0_; have BK416 := n1_; have HB := n2_; clear n0_ n1_ n2_))))
             replace BK415 := am (blk_drew BK415.out)
             replace BK416 := am (blk_drew BK416.out)
             replace HB := am (below_drew1 HB.out)
             refine start_ (n := 16) (S := fun w' => w'.cell? ⟨gb416, 0, none⟩ = some (.string ji11) ∧ w'.cell? ⟨gb416, 1, none⟩ = some (.int .i64 0)) (ds := [13, 15]) (bm 16 0) (by kernel_rfl) rfl rfl ⟨cz0 BK416.out, cz1 BK416.out⟩ (fun hHeld => ?_); refine with_tabW minstrelref05_Read.tab10 minstrelref05_Read.bits10 (fun HT_ HW_ => ?_)
             generalize wc.drew = w32 at BK415 BK416 HB hHeld ⊢
             refine pure_ (i := 0) (N := some 39) (v := ?_) (a' := ?_) (bm 16 1) rfl rfl (any_of HT_.out (by kernel_rfl)) (fun _ _ _ h => h) (Or.inl ⟨by kernel_rfl, ?_⟩) ?_ ?_
             rotate_left
             ·intro w'
              go_simp
              with_reducible rfl
             rotate_left
             ·exact pA
             refine pure_ (i := 2) (N := some 41) (v := ?_) (a' := ?_) (bm 16 5) rfl rfl (any_of HT_.out (by kernel_rfl)) (fun _ _ _ h => h) (Or.inl ⟨by kernel_rfl, ?_⟩) ?_ ?_
             rotate_left
             ·intro w'
              go_simp
              with_reducible rfl
             rotate_left
             ·exact pA
             refine pure_ (i := 3) (N := some 42) (v := ?_) (a' := ?_) (bm 16 13) rfl rfl (any_of HT_.out (by kernel_rfl)) (fun _ _ _ h => h) (Or.inl ⟨by kernel_rfl, ?_⟩) ?_ ?_
             rotate_left
             ·intro w'
              go_simp
              with_reducible rfl
             rotate_left
             ·exact pA
             refine pure_ (i := 4) (N := some 43) (v := ?_) (a' := ?_) (bm 16 29) rfl rfl (any_of HT_.out (by kernel_rfl)) (fun _ _ _ h => h) (Or.inl ⟨by kernel_rfl, ?_⟩) ?_ ?_
             rotate_left
             ·intro w'
              go_simp
              with_reducible rfl
             rotate_left
             ·exact pA
             refine pure_ (i := 5) (N := some 44) (v := ?_) (a' := ?_) (bm 16 61) rfl rfl (any_of HT_.out (by kernel_rfl)) (fun _ _ _ h => h) (Or.inl ⟨by kernel_rfl, ?_⟩) ?_ ?_
             rotate_left
             ·intro w'
              go_simp
              with_reducible rfl
             rotate_left
             ·exact pA
             refine pure_ (i := 6) (N := some 45) (v := ?_) (a' := ?_) (bm 16 125) rfl rfl (any_of HT_.out (by kernel_rfl)) (fun _ _ _ h => h) (Or.inl ⟨by kernel_rfl, ?_⟩) ?_ ?_
             rotate_left
             ·intro w'
              go_simp
              with_reducible rfl
             rotate_left
             ·exact pA
             refine pure_ (i := 8) (N := some 47) (v := ?_) (a' := ?_) (bm 16 381) rfl rfl (any_of HT_.out (by kernel_rfl)) (fun _ _ _ h => h) (Or.inl ⟨by kernel_rfl, ?_⟩) ?_ ?_
             rotate_left
             ·intro w'
              go_simp
              with_reducible rfl
             rotate_left
             ·exact pA
             refine pure_ (i := 9) (N := some 48) (v := ?_) (a' := ?_) (bm 16 893) rfl rfl (any_of HT_.out (by kernel_rfl)) (fun _ _ _ h => h) (Or.inl ⟨by kernel_rfl, ?_⟩) ?_ ?_
             rotate_left
             ·intro w'
              go_simp
              with_reducible rfl
             rotate_left
             ·exact pA
             refine pure_ (i := 10) (N := some 49) (v := ?_) (a' := ?_) (bm 16 1917) rfl rfl (any_of HT_.out (by kernel_rfl)) (fun _ _ _ h => h) (Or.inl ⟨by kernel_rfl, ?_⟩) ?_ ?_
             rotate_left
             ·intro w'
              go_simp
              with_reducible rfl
             rotate_left
             ·exact pA
             refine pure_ (i := 11) (N := some 50) (v := ?_) (a' := ?_) (bm 16 3965) rfl rfl (any_of HT_.out (by kernel_rfl)) (fun _ _ _ h => h) (Or.inl ⟨by kernel_rfl, ?_⟩) ?_ ?_
             rotate_left
             ·intro w'
              go_simp
              with_reducible rfl
             rotate_left
             ·exact pA
             refine take_ (i := 1) (N := some 40) (v := ?_) (a' := ?_) (bm 16 3967) rfl rfl (take_ofW HT_.out HW_.out (by kernel_rfl)) (fun _ _ _ h => h) (Or.inl ⟨by kernel_rfl, ?_⟩) hHeld ?_ ?_
             rotate_left
             ·rintro w' ⟨s0, s1⟩
              go_simp
              with_reducible rfl
             rotate_left
             ·exact pA
             refine pure_ (i := 7) (N := some 46) (v := ?_) (a' := ?_) (bm 16 4095) rfl rfl (any_of HT_.out (by kernel_rfl)) (fun _ _ _ h => h) (Or.inl ⟨by kernel_rfl, ?_⟩) ?_ ?_
             rotate_left
             ·intro w'
              go_simp
              with_reducible rfl
             rotate_left
             ·exact pA
             refine pure_ (i := 12) (N := some 51) (v := ?_) (a' := ?_) (bm 16 8191) rfl rfl (any_of HT_.out (by kernel_rfl)) (fun _ _ _ h => h) (Or.inl ⟨by kernel_rfl, ?_⟩) ?_ ?_
             rotate_left
             ·intro w'
              go_simp
              with_reducible rfl
             rotate_left
             ·exact pA
             refine last_ (i := 13) (N := none) (bm 16 16383) rfl rfl (one_of HT_.out (by kernel_rfl)) (by decide) (fun K hK => ?_)
             have hs33 : w32.cell? ⟨gb416, 0, none⟩ = some (.string ji11) := cz0 BK416.out
             have hfs33 := blk_frozen BK416.out 0
             have hns33_0 := NB415_416.out
             have hms33_0 := NB416_415.out
             refine skip_ (w1 := ?_) ?hw rfl ?_ ?_; (case hw => kernel_rfl)
             rotate_left
             ·go_simp
              rfl
             refine hK.out _ _ ?_
             clear hK K
             refine pure_ (i := 14) (N := some 52) (v := ?_) (a' := ?_) (bm 16 32767) rfl rfl (any_of HT_.out (by kernel_rfl)) (fun _ _ _ h => h) (Or.inl ⟨by kernel_rfl, ?_⟩) ?_ ?_
             rotate_left
             ·intro w'
              go_simp
              with_reducible rfl
             rotate_left
             ·exact pA
             refine last_ (i := 15) (N := none) (bm 16 65535) rfl rfl (one_of HT_.out (by kernel_rfl)) (by decide) (fun K hK => ?_)
             have hs34 : w32.cell? ⟨gb416, 1, none⟩ = some (.int .i64 0) := cz1 BK416.out
             have hfs34 := blk_frozen BK416.out 1
             have hns34_0 := NB415_416.out
             have hms34_0 := NB416_415.out
             refine skip_ (w1 := ?_) ?hw rfl ?_ ?_; (case hw => kernel_rfl)
             rotate_left
             ·go_simp
              rfl
             refine hK.out _ _ ?_
             clear hK K
             refine done_ (done_of HT_.out (by kernel_rfl)) ?_
             try go_wp2
             go_meet
             case rel => exact ⟨_, (t418), ((⟨#[]⟩ : ByteArray)), (0), (ji11 ++ (ji30)), (wrap64 ((ji26) - t418)), (by first | rfl | (simp; done) | (simp [*]; done)), H', ⟨by have := HJ11.out; first | omega | exact Nat.le_refl _⟩, ⟨by (with_reducible repeat (first | refine blk_drewN ?_ _ | refine blk_drew ?_ | refine blk_alloc ?_ _)); refine blk_far ?_ NB415_416.out _; (with_reducible repeat (first | refine blk_drewN ?_ _ | refine blk_drew ?_ | refine blk_alloc ?_ _)); refine blk_far ?_ NB415_416.out _; (with_reducible repeat (first | refine blk_drewN ?_ _ | refine blk_drew ?_ | refine blk_alloc ?_ _)); exact BK415.out⟩, ⟨by (with_reducible repeat (first | refine blk_drewN ?_ _ | refine blk_drew ?_ | refine blk_alloc ?_ _)); refine blk_put (cs := #[.string (ji11 ++ (ji30)), .int .i64 0]) ?_ 1 _ rfl; (with_reducible repeat (first | refine blk_drewN ?_ _ | refine blk_drew ?_ | refine blk_alloc ?_ _)); refine blk_put (cs := #[.string ji11, .int .i64 0]) ?_ 0 _ rfl; (with_reducible repeat (first | refine blk_drewN ?_ _ | refine blk_drew ?_ | refine blk_alloc ?_ _)); exact BK416.out⟩, ⟨pB⟩⟩
            ·rw [if_neg c31] at H
             exact absurd H (by simp)
           ·rw [if_neg c29] at H
            exact absurd H (by simp)
          ·rw [if_neg c28] at H
           exact absurd H (by simp)
         ·rw [if_neg c27] at H
          exact absurd H (by simp)
       ·replace c20 := Bool.eq_false_iff.mpr c20
        subst c20
        rw [if_neg (show ¬ (false = true) by decide)] at H
        have H' := am H
        clear H
        go_wp2
        go_meet
        case rel => exact ⟨_, (t417), ((⟨#[]⟩ : ByteArray)), (0), (ji11), (0), (by first | rfl | (simp; done) | (simp [*]; done)), H', ⟨by have := HJ11.out; first | omega | exact Nat.le_refl _⟩, ⟨by (with_reducible repeat (first | refine blk_drewN ?_ _ | refine blk_drew ?_ | refine blk_alloc ?_ _)); exact BK415.out⟩, ⟨by (with_reducible repeat (first | refine blk_drewN ?_ _ | refine blk_drew ?_ | refine blk_alloc ?_ _)); exact BK416.out⟩, ⟨pB⟩⟩
      case rest =>
       clear HC19
       try clear c1
       try clear p1
       try clear q1
       try clear hx1
       try clear c2
       try clear p2
       try clear c3
       try clear c3b0
       try clear c3b1
       try clear c6
       try clear p6
       try clear c9
       try clear c9b0
       try clear c9b1
       try clear c10
       try clear c10b0
       try clear c10b1
       try clear c15
       try clear c17
       try clear c17b0
       try clear c17b1
       try clear p18
       try clear q18
       try clear hx18
       try clear c19
       try clear c20
       try clear c22
       try clear c22b0
       try clear c22b1
       try clear c23
       try clear c27
       try clear c27b0
       try clear c27b1
       try clear c28
       try clear c28b0
       try clear c28b1
       try clear c29
       try clear c29b0
       try clear c29b1
       try clear c31
       try clear c31b0
       try clear c31b1
       try clear c31b2
       try clear q16 q24 q25 q7 q8
       try clear p1
       try clear p18
       try clear p2
       try clear q1
       try clear q18
       obtain ⟨kq, x5_18, x416000_18, x416001_18, x417000_18, x417001_18, rfl, HA, HJ18, BK415, BK416, HB⟩ := hcut
       cases kq with
       | zero => exact absurd HA.out (by simp [minstrelref05_Read.j1])
       | succ kj18 =>
        have H := HA.out
        clear HA
        simp only [minstrelref05_Read.j1] at H
        by_cases c35 : x5_18 = (a0.size : Int)
        ·rw [if_pos c35] at H
         have c35b0 : (x5_18 == (a0.size : Int)) = true := beq_iff_eq.mpr c35
         have c35b1 : (x5_18 != (a0.size : Int)) = false := bne_eq_false_iff_eq.mpr c35
         clear c35
         simp only [Option.some.injEq, Prod.mk.injEq] at H
         obtain ⟨rfl, rfl, rfl⟩ := H
         have hnb36 := NB416_415.out
         have hnc36 := NB415_416.out
         have q37 := cf2 BK416.out
         have q38 := cf2 BK415.out
         go_wp2
         refine bodyPost_ret (results_ct rfl _ _ gb415 31 #[.string x417000_18, .int .i64 x417001_18] (0, 0) _ rfl (by (with_reducible repeat (first | refine blk_drewN ?_ _ | refine blk_drew ?_ | refine blk_alloc ?_ _)); refine blk_put (cs := #[.string x417000_18, .int .i64 x416001_18]) ?_ 1 _ rfl; (with_reducible repeat (first | refine blk_drewN ?_ _ | refine blk_drew ?_ | refine blk_alloc ?_ _)); refine blk_put (cs := #[.string x416000_18, .int .i64 x416001_18]) ?_ 0 _ rfl; (with_reducible repeat (first | refine blk_drewN ?_ _ | refine blk_drew ?_ | refine blk_alloc ?_ _)); exact BK415.out) Tryd.underlying31 rfl (by kernel_rfl)) rfl ?_
         exact ⟨by first | rfl | (simp [errW_none, errW_some] <;> rfl) | (simp only [← hji11]; first | rfl | (simp [errW_none, errW_some] <;> rfl)) | (simp [*, errW_none, errW_some] <;> rfl), pB⟩
        ·rw [if_neg c35] at H
         have c35b0 : (x5_18 == (a0.size : Int)) = false := beq_eq_false_iff_ne.mpr c35
         have c35b1 : (x5_18 != (a0.size : Int)) = true := bne_iff_ne.mpr c35
         have HC39 := am H
         clear H
         go_upto_region 14 with (fail)
         go_cut [68] (fun v68 wc => ∃ (kq : Nat) (x68_38 : Bool), v68 = .bool x68_38 ∧ Aside0 (minstrelref05_Read.j2 kq a0 x5_18 x68_38 x417000_18 x417001_18 = some (r1, r2, r3)) ∧ Aside0 (kq ≤ kj18) ∧ Aside0 (wc.heap[gb415]? = some (.cells #[.string x416000_18, .int .i64 x416001_18] 31 (0, 0))) ∧ Aside0 (wc.heap[gb416]? = some (.cells #[.string x417000_18, .int .i64 x417001_18] 31 (0, 0))) ∧ Aside0 (Below w.heap.size w wc))
         case first =>
          have H := HC39.out
          clear HC39
          by_cases c40 : 0 ≤ x5_18
          ·rw [if_pos c40] at H
           have c40b0 : decide (0 ≤ x5_18) = true := decide_eq_true c40
           clear c40
           (first | rw [c40b0] | (simp only [i64_w, i32_w]; rw [c40b0]) | rw [c40b1] | (simp only [i64_w, i32_w]; rw [c40b1]) | skip)
           by_cases c41 : x5_18 < (a0.size : Int)
           ·rw [if_pos c41] at H
            have c41b0 : decide (x5_18 < (a0.size : Int)) = true := decide_eq_true c41
            clear c41
            by_cases c43 : (bt a0 x5_18) = 101
            ·rw [if_pos c43] at H
             have c43b0 : ((bt a0 x5_18) == 101) = true := beq_iff_eq.mpr c43
             have c43b1 : ((bt a0 x5_18) != 101) = false := bne_eq_false_iff_eq.mpr c43
             clear c43
             have H' := am H
             clear H
             have p42 : 0 ≤ (x5_18 : Int) := pD
             have q42 : x5_18 < (a0.size : Int) := pD
             have hx42 := bt_at a0 x5_18
             replace p42 := eq_true p42
             replace q42 := eq_true q42
             go_wp2
             go_meet
             case rel => exact ⟨_, (false), (by first | rfl | (simp; done) | (simp [*]; done)), H', ⟨by have := HJ11.out; have := HJ18.out; first | omega | exact Nat.le_refl _⟩, ⟨by (with_reducible repeat (first | refine blk_drewN ?_ _ | refine blk_drew ?_ | refine blk_alloc ?_ _)); exact BK415.out⟩, ⟨by (with_reducible repeat (first | refine blk_drewN ?_ _ | refine blk_drew ?_ | refine blk_alloc ?_ _)); exact BK416.out⟩, ⟨pB⟩⟩
            ·rw [if_neg c43] at H
             have c43b0 : ((bt a0 x5_18) == 101) = false := beq_eq_false_iff_ne.mpr c43
             have c43b1 : ((bt a0 x5_18) != 101) = true := bne_iff_ne.mpr c43
             have H' := am H
             clear H
             have p42 : 0 ≤ (x5_18 : Int) := pD
             have q42 : x5_18 < (a0.size : Int) := pD
             have hx42 := bt_at a0 x5_18
             replace p42 := eq_true p42
             replace q42 := eq_true q42
             have p44 : 0 ≤ (x5_18 : Int) := pD
             have q44 : x5_18 < (a0.size : Int) := pD
             have hx44 := bt_at a0 x5_18
             replace p44 := eq_true p44
             replace q44 := eq_true q44
             go_wp2
             go_meet
             case rel => exact ⟨_, (((bt a0 x5_18) != 69)), (by first | rfl | (simp; done) | (simp [*]; done)), H', ⟨by have := HJ11.out; have := HJ18.out; first | omega | exact Nat.le_refl _⟩, ⟨by (with_reducible repeat (first | refine blk_drewN ?_ _ | refine blk_drew ?_ | refine blk_alloc ?_ _)); exact BK415.out⟩, ⟨by (with_reducible repeat (first | refine blk_drewN ?_ _ | refine blk_drew ?_ | refine blk_alloc ?_ _)); exact BK416.out⟩, ⟨pB⟩⟩
           ·rw [if_neg c41] at H
            exact absurd H (by simp)
          ·rw [if_neg c40] at H
           exact absurd H (by simp)
         case rest =>
          clear HC39
          try clear c1
          try clear p1
          try clear q1
          try clear hx1
          try clear c2
          try clear p2
          try clear c3
          try clear c3b0
          try clear c3b1
          try clear c4
          try clear p4
          try clear q4
          try clear hx4
          try clear c6
          try clear p6
          try clear c9
          try clear c9b0
          try clear c9b1
          try clear c10
          try clear c10b0
          try clear c10b1
          try clear c15
          try clear c17
          try clear c17b0
          try clear c17b1
          try clear p18
          try clear q18
          try clear hx18
          try clear c19
          try clear c20
          try clear c22
          try clear c22b0
          try clear c22b1
          try clear c23
          try clear c27
          try clear c27b0
          try clear c27b1
          try clear c28
          try clear c28b0
          try clear c28b1
          try clear c29
          try clear c29b0
          try clear c29b1
          try clear c31
          try clear c31b0
          try clear c31b1
          try clear c31b2
          try clear c35
          try clear c35b0
          try clear c35b1
          try clear c36
          try clear c40
          try clear c40b0
          try clear c40b1
          try clear c41
          try clear c41b0
          try clear p42
          try clear q42
          try clear hx42
          try clear c43
          try clear c43b0
          try clear c43b1
          try clear p44
          try clear q44
          try clear hx44
          try clear q16 q24 q25 q37 q38 q7 q8
          try clear p1
          try clear p18
          try clear p2
          try clear p42
          try clear p44
          try clear p6
          try clear q1
          try clear q18
          try clear q42
          try clear q44
          obtain ⟨kq, x68_38, rfl, HA, HJ38, BK415, BK416, HB⟩ := hcut
          cases kq with
          | zero => exact absurd HA.out (by simp [minstrelref05_Read.j2])
          | succ kj38 =>
           have H := HA.out
           clear HA
           simp only [minstrelref05_Read.j2] at H
           by_cases c45 : x68_38 = true
           ·subst c45
            rw [if_pos rfl] at H
            simp only [Option.some.injEq, Prod.mk.injEq] at H
            obtain ⟨rfl, rfl, rfl⟩ := H
            have hnb46 := NB416_415.out
            have hnc46 := NB415_416.out
            have q47 := cf2 BK416.out
            have q48 := cf2 BK415.out
            go_wp2
            refine bodyPost_ret (results_ct rfl _ _ gb415 31 #[.string x417000_18, .int .i64 x417001_18] (0, 0) _ rfl (by (with_reducible repeat (first | refine blk_drewN ?_ _ | refine blk_drew ?_ | refine blk_alloc ?_ _)); refine blk_put (cs := #[.string x417000_18, .int .i64 x416001_18]) ?_ 1 _ rfl; (with_reducible repeat (first | refine blk_drewN ?_ _ | refine blk_drew ?_ | refine blk_alloc ?_ _)); refine blk_put (cs := #[.string x416000_18, .int .i64 x416001_18]) ?_ 0 _ rfl; (with_reducible repeat (first | refine blk_drewN ?_ _ | refine blk_drew ?_ | refine blk_alloc ?_ _)); exact BK415.out) Tryd.underlying31 rfl (by kernel_rfl)) rfl ?_
            exact ⟨by first | rfl | (simp [errW_none, errW_some] <;> rfl) | (simp only [← hji11]; first | rfl | (simp [errW_none, errW_some] <;> rfl)) | (simp [*, errW_none, errW_some] <;> rfl), pB⟩
           ·replace c45 := Bool.eq_false_iff.mpr c45
            subst c45
            rw [if_neg (show ¬ (false = true) by decide)] at H
            have HC49 := am H
            clear H
            go_upto_region 18 with (fail)
            go_cut [87] (fun v87 wc => ∃ (kq : Nat) (x87_48 : Bool), v87 = .bool x87_48 ∧ Aside0 (minstrelref05_Read.j3 kq a0 (wrap64 (x5_18 + 1)) false x87_48 x417000_18 x417001_18 = some (r1, r2, r3)) ∧ Aside0 (kq ≤ kj38) ∧ Aside0 (wc.heap[gb415]? = some (.cells #[.string x416000_18, .int .i64 x416001_18] 31 (0, 0))) ∧ Aside0 (wc.heap[gb416]? = some (.cells #[.string x417000_18, .int .i64 x417001_18] 31 (0, 0))) ∧ Aside0 (Below w.heap.size w wc))
            case first =>
             have H := HC49.out
             clear HC49
             by_cases c50 : (wrap64 (x5_18 + 1)) < (a0.size : Int)
             ·rw [if_pos c50] at H
              have c50b0 : decide ((wrap64 (x5_18 + 1)) < (a0.size : Int)) = true := decide_eq_true c50
              clear c50
              (first | rw [c50b0] | (simp only [i64_w, i32_w]; rw [c50b0]) | rw [c50b1] | (simp only [i64_w, i32_w]; rw [c50b1]) | skip)
              obtain ⟨ji51, hji51⟩ : ∃ j_ : Int, (wrap64 (x5_18 + 1)) = j_ := ⟨_, rfl⟩
              replace H : (if 0 ≤ (ji51) then (if (bt a0 (ji51)) = 43 then (minstrelref05_Read.j3 kj38 a0 ji51 false true x417000_18 x417001_18) else (minstrelref05_Read.j3 kj38 a0 ji51 false ((bt a0 (ji51)) == 45) x417000_18 x417001_18)) else (none)) = some (r1, r2, r3) := by first | (rw [hji51] at H; exact H) | (simp only [hji51] at H ⊢; exact H)
              (try rw [hji51] at c50b0)
              have hji51w : (IntKind.i64.wrap (x5_18 + 1)) = ji51 := (i64_w _).trans hji51
              by_cases c52 : 0 ≤ (ji51)
              ·rw [if_pos c52] at H
               have c52b0 : decide (0 ≤ (ji51)) = true := decide_eq_true c52
               clear c52
               by_cases c54 : (bt a0 (ji51)) = 43
               ·rw [if_pos c54] at H
                have c54b0 : ((bt a0 (ji51)) == 43) = true := beq_iff_eq.mpr c54
                have c54b1 : ((bt a0 (ji51)) != 43) = false := bne_eq_false_iff_eq.mpr c54
                clear c54
                have H' := am H
                clear H
                have p53 : 0 ≤ ((ji51) : Int) := pD
                have q53 : (ji51) < (a0.size : Int) := pD
                have hx53 := bt_at a0 (ji51)
                replace p53 := eq_true p53
                replace q53 := eq_true q53
                go_wp2
                go_meet
                case rel => exact ⟨_, (true), (by first | rfl | (simp; done) | (simp [*]; done)), (by first | exact H' | (rw [hji51]; exact H')), ⟨by have := HJ11.out; have := HJ18.out; have := HJ38.out; first | omega | exact Nat.le_refl _⟩, ⟨by (with_reducible repeat (first | refine blk_drewN ?_ _ | refine blk_drew ?_ | refine blk_alloc ?_ _)); exact BK415.out⟩, ⟨by (with_reducible repeat (first | refine blk_drewN ?_ _ | refine blk_drew ?_ | refine blk_alloc ?_ _)); exact BK416.out⟩, ⟨pB⟩⟩
               ·rw [if_neg c54] at H
                have c54b0 : ((bt a0 (ji51)) == 43) = false := beq_eq_false_iff_ne.mpr c54
                have c54b1 : ((bt a0 (ji51)) != 43) = true := bne_iff_ne.mpr c54
                have H' := am H
                clear H
                have p53 : 0 ≤ ((ji51) : Int) := pD
                have q53 : (ji51) < (a0.size : Int) := pD
                have hx53 := bt_at a0 (ji51)
                replace p53 := eq_true p53
                replace q53 := eq_true q53
                have p55 : 0 ≤ ((ji51) : Int) := pD
                have q55 : (ji51) < (a0.size : Int) := pD
                have hx55 := bt_at a0 (ji51)
                replace p55 := eq_true p55
                replace q55 := eq_true q55
                go_wp2
                go_meet
                case rel => exact ⟨_, (((bt a0 (ji51)) == 45)), (by first | rfl | (simp; done) | (simp only [← hji51] <;> (first | rfl | simp)) | (simp [*]; done)), (by first | exact H' | (rw [hji51]; exact H')), ⟨by have := HJ11.out; have := HJ18.out; have := HJ38.out; first | omega | exact Nat.le_refl _⟩, ⟨by (with_reducible repeat (first | refine blk_drewN ?_ _ | refine blk_drew ?_ | refine blk_alloc ?_ _)); exact BK415.out⟩, ⟨by (with_reducible repeat (first | refine blk_drewN ?_ _ | refine blk_drew ?_ | refine blk_alloc ?_ _)); exact BK416.out⟩, ⟨pB⟩⟩
              ·rw [if_neg c52] at H
               exact absurd H (by simp)
             ·rw [if_neg c50] at H
              have c50b0 : decide ((wrap64 (x5_18 + 1)) < (a0.size : Int)) = false := decide_eq_false c50
              clear c50
              (first | rw [c50b0] | (simp only [i64_w, i32_w]; rw [c50b0]) | rw [c50b1] | (simp only [i64_w, i32_w]; rw [c50b1]) | skip)
              have H' := am H
              clear H
              go_wp2
              go_meet
              case rel => exact ⟨_, (false), (by first | rfl | (simp; done) | (simp [*]; done)), H', ⟨by have := HJ11.out; have := HJ18.out; have := HJ38.out; first | omega | exact Nat.le_refl _⟩, ⟨by (with_reducible repeat (first | refine blk_drewN ?_ _ | refine blk_drew ?_ | refine blk_alloc ?_ _)); exact BK415.out⟩, ⟨by (with_reducible repeat (first | refine blk_drewN ?_ _ | refine blk_drew ?_ | refine blk_alloc ?_ _)); exact BK416.out⟩, ⟨pB⟩⟩
            case rest =>
             clear HC49
             try clear c1
             try clear p1
             try clear q1
             try clear hx1
             try clear c2
             try clear p2
             try clear c3
             try clear c3b0
             try clear c3b1
             try clear c4
             try clear p4
             try clear q4
             try clear hx4
             try clear c5
             try clear p5
             try clear q5
             try clear hx5
             try clear c6
             try clear p6
             try clear c9
             try clear c9b0
             try clear c9b1
             try clear c10
             try clear c10b0
             try clear c10b1
             try clear c15
             try clear c17
             try clear c17b0
             try clear c17b1
             try clear p18
             try clear q18
             try clear hx18
             try clear c19
             try clear c20
             try clear c22
             try clear c22b0
             try clear c22b1
             try clear c23
             try clear c27
             try clear c27b0
             try clear c27b1
             try clear c28
             try clear c28b0
             try clear c28b1
             try clear c29
             try clear c29b0
             try clear c29b1
             try clear c31
             try clear c31b0
             try clear c31b1
             try clear c31b2
             try clear c35
             try clear c35b0
             try clear c35b1
             try clear c36
             try clear c40
             try clear c40b0
             try clear c40b1
             try clear c41
             try clear c41b0
             try clear p42
             try clear q42
             try clear hx42
             try clear c43
             try clear c43b0
             try clear c43b1
             try clear p44
             try clear q44
             try clear hx44
             try clear c45
             try clear c46
             try clear c50
             try clear c50b0
             try clear c50b1
             try clear c52
             try clear c52b0
             try clear p53
             try clear q53
             try clear hx53
             try clear c54
             try clear c54b0
             try clear c54b1
             try clear p55
             try clear q55
             try clear hx55
             try clear q16 q24 q25 q37 q38 q47 q48 q7 q8
             try clear p1
             try clear p18
             try clear p2
             try clear p4
             try clear p42
             try clear p44
             try clear p53
             try clear p55
             try clear p6
             try clear q1
             try clear q18
             try clear q4
             try clear q42
             try clear q44
             try clear q53
             try clear q55
             obtain ⟨kq, x87_48, rfl, HA, HJ48, BK415, BK416, HB⟩ := hcut
             cases kq with
             | zero => exact absurd HA.out (by simp [minstrelref05_Read.j3])
             | succ kj48 =>
              have H := HA.out
              clear HA
              simp only [minstrelref05_Read.j3] at H
              have HC56 := am H
              clear H
              go_upto_if 87 with (fail)
              go_cut [5, 7] (fun v5 v7 wc => ∃ (kq : Nat) (x5_55 : Int) (x7_55 : Bool), v5 = .int .i64 x5_55 ∧ v7 = .bool x7_55 ∧ Aside0 (minstrelref05_Read.j4 kq a0 x5_55 x7_55 x417000_18 x417001_18 = some (r1, r2, r3)) ∧ Aside0 (kq ≤ kj48) ∧ Aside0 (wc.heap[gb415]? = some (.cells #[.string x416000_18, .int .i64 x416001_18] 31 (0, 0))) ∧ Aside0 (wc.heap[gb416]? = some (.cells #[.string x417000_18, .int .i64 x417001_18] 31 (0, 0))) ∧ Aside0 (Below w.heap.size w wc))
              case first =>
               have H := HC56.out
               clear HC56
               by_cases c57 : x87_48 = true
               ·subst c57
                rw [if_pos rfl] at H
                obtain ⟨ji58, hji58⟩ : ∃ j_ : Int, (wrap64 (x5_18 + 1)) = j_ := ⟨_, rfl⟩
                replace H : (if 0 ≤ (ji58) then (if (ji58) < (a0.size : Int) then (minstrelref05_Read.j4 kj48 a0 (wrap64 ((ji58) + 1)) ((bt a0 (ji58)) == 45) x417000_18 x417001_18) else (none)) else (none)) = some (r1, r2, r3) := by first | (rw [hji58] at H; exact H) | (simp only [hji58] at H ⊢; exact H)
                have hji58w : (IntKind.i64.wrap (x5_18 + 1)) = ji58 := (i64_w _).trans hji58
                by_cases c59 : 0 ≤ (ji58)
                ·rw [if_pos c59] at H
                 have c59b0 : decide (0 ≤ (ji58)) = true := decide_eq_true c59
                 clear c59
                 (first | rw [c59b0] | (simp only [i64_w, i32_w]; rw [c59b0]) | rw [c59b1] | (simp only [i64_w, i32_w]; rw [c59b1]) | skip)
                 by_cases c60 : (ji58) < (a0.size : Int)
                 ·rw [if_pos c60] at H
                  have c60b0 : decide ((ji58) < (a0.size : Int)) = true := decide_eq_true c60
                  clear c60
                  have H' := am H
                  clear H
                  have p61 : 0 ≤ ((ji58) : Int) := pD
                  have q61 : (ji58) < (a0.size : Int) := pD
                  have hx61 := bt_at a0 (ji58)
                  replace p61 := eq_true p61
                  replace q61 := eq_true q61
                  go_wp2
                  go_meet
                  case rel => exact ⟨_, (wrap64 ((ji58) + 1)), (((bt a0 (ji58)) == 45)), (by first | rfl | (simp; done) | (simp only [← hji58] <;> (first | rfl | simp)) | (simp [*]; done)), (by first | rfl | (simp; done) | (simp only [← hji58] <;> (first | rfl | simp)) | (simp [*]; done)), H', ⟨by have := HJ11.out; have := HJ18.out; have := HJ38.out; have := HJ48.out; first | omega | exact Nat.le_refl _⟩, ⟨by (with_reducible repeat (first | refine blk_drewN ?_ _ | refine blk_drew ?_ | refine blk_alloc ?_ _)); exact BK415.out⟩, ⟨by (with_reducible repeat (first | refine blk_drewN ?_ _ | refine blk_drew ?_ | refine blk_alloc ?_ _)); exact BK416.out⟩, ⟨pB⟩⟩
                 ·rw [if_neg c60] at H
                  exact absurd H (by simp)
                ·rw [if_neg c59] at H
                 exact absurd H (by simp)
               ·replace c57 := Bool.eq_false_iff.mpr c57
                subst c57
                rw [if_neg (show ¬ (false = true) by decide)] at H
                have H' := am H
                clear H
                go_wp2
                go_meet
                case rel => exact ⟨_, ((wrap64 (x5_18 + 1))), (false), (by first | rfl | (simp; done) | (simp [*]; done)), (by first | rfl | (simp; done) | (simp [*]; done)), H', ⟨by have := HJ11.out; have := HJ18.out; have := HJ38.out; have := HJ48.out; first | omega | exact Nat.le_refl _⟩, ⟨by (with_reducible repeat (first | refine blk_drewN ?_ _ | refine blk_drew ?_ | refine blk_alloc ?_ _)); exact BK415.out⟩, ⟨by (with_reducible repeat (first | refine blk_drewN ?_ _ | refine blk_drew ?_ | refine blk_alloc ?_ _)); exact BK416.out⟩, ⟨pB⟩⟩
              case rest =>
               clear HC56
               try clear c1
               try clear p1
               try clear q1
               try clear hx1
               try clear c2
               try clear p2
               try clear c3
               try clear c3b0
               try clear c3b1
               try clear c4
               try clear p4
               try clear q4
               try clear hx4
               try clear c5
               try clear p5
               try clear q5
               try clear hx5
               try clear c6
               try clear p6
               try clear q6
               try clear hx6
               try clear c9
               try clear c9b0
               try clear c9b1
               try clear c10
               try clear c10b0
               try clear c10b1
               try clear c15
               try clear c17
               try clear c17b0
               try clear c17b1
               try clear p18
               try clear q18
               try clear hx18
               try clear c19
               try clear c20
               try clear c22
               try clear c22b0
               try clear c22b1
               try clear c23
               try clear c27
               try clear c27b0
               try clear c27b1
               try clear c28
               try clear c28b0
               try clear c28b1
               try clear c29
               try clear c29b0
               try clear c29b1
               try clear c31
               try clear c31b0
               try clear c31b1
               try clear c31b2
               try clear c35
               try clear c35b0
               try clear c35b1
               try clear c36
               try clear c40
               try clear c40b0
               try clear c40b1
               try clear c41
               try clear c41b0
               try clear p42
               try clear q42
               try clear hx42
               try clear c43
               try clear c43b0
               try clear c43b1
               try clear p44
               try clear q44
               try clear hx44
               try clear c45
               try clear c46
               try clear c50
               try clear c50b0
               try clear c50b1
               try clear c52
               try clear c52b0
               try clear p53
               try clear q53
               try clear hx53
               try clear c54
               try clear c54b0
               try clear c54b1
               try clear p55
               try clear q55
               try clear hx55
               try clear c57
               try clear c59
               try clear c59b0
               try clear c59b1
               try clear c60
               try clear c60b0
               try clear p61
               try clear q61
               try clear hx61
               try clear q16 q24 q25 q37 q38 q47 q48 q7 q8
               try clear p1
               try clear p18
               try clear p2
               try clear p4
               try clear p42
               try clear p44
               try clear p5
               try clear p53
               try clear p55
               try clear p6
               try clear p61
               try clear q1
               try clear q18
               try clear q4
               try clear q42
               try clear q44
               try clear q5
               try clear q53
               try clear q55
               try clear q61
               obtain ⟨kq, x5_55, x7_55, rfl, rfl, HA, HJ55, BK415, BK416, HB⟩ := hcut
               cases kq with
               | zero => exact absurd HA.out (by simp [minstrelref05_Read.j4])
               | succ kj55 =>
                have H := HA.out
                clear HA
                simp only [minstrelref05_Read.j4] at H
                have HC62 := am H
                clear H
                go_upto_region 21 with (fail)
                go_cut [105] (fun v105 wc => ∃ (kq : Nat) (x105_61 : Bool), v105 = .bool x105_61 ∧ Aside0 (minstrelref05_Read.j5 kq a0 x5_55 x7_55 x105_61 x417000_18 x417001_18 = some (r1, r2, r3)) ∧ Aside0 (kq ≤ kj55) ∧ Aside0 (wc.heap[gb415]? = some (.cells #[.string x416000_18, .int .i64 x416001_18] 31 (0, 0))) ∧ Aside0 (wc.heap[gb416]? = some (.cells #[.string x417000_18, .int .i64 x417001_18] 31 (0, 0))) ∧ Aside0 (Below w.heap.size w wc))
                case first =>
                 have H := HC62.out
                 clear HC62
                 by_cases c63 : x5_55 = (a0.size : Int)
                 ·rw [if_pos c63] at H
                  have c63b0 : (x5_55 == (a0.size : Int)) = true := beq_iff_eq.mpr c63
                  have c63b1 : (x5_55 != (a0.size : Int)) = false := bne_eq_false_iff_eq.mpr c63
                  clear c63
                  (first | rw [c63b0] | (simp only [i64_w, i32_w]; rw [c63b0]) | rw [c63b1] | (simp only [i64_w, i32_w]; rw [c63b1]) | skip)
                  have H' := am H
                  clear H
                  go_wp2
                  go_meet
                  case rel => exact ⟨_, (true), (by first | rfl | (simp; done) | (simp [*]; done)), H', ⟨by have := HJ11.out; have := HJ18.out; have := HJ38.out; have := HJ48.out; have := HJ55.out; first | omega | exact Nat.le_refl _⟩, ⟨by (with_reducible repeat (first | refine blk_drewN ?_ _ | refine blk_drew ?_ | refine blk_alloc ?_ _)); exact BK415.out⟩, ⟨by (with_reducible repeat (first | refine blk_drewN ?_ _ | refine blk_drew ?_ | refine blk_alloc ?_ _)); exact BK416.out⟩, ⟨pB⟩⟩
                 ·rw [if_neg c63] at H
                  have c63b0 : (x5_55 == (a0.size : Int)) = false := beq_eq_false_iff_ne.mpr c63
                  have c63b1 : (x5_55 != (a0.size : Int)) = true := bne_iff_ne.mpr c63
                  (first | rw [c63b0] | (simp only [i64_w, i32_w]; rw [c63b0]) | rw [c63b1] | (simp only [i64_w, i32_w]; rw [c63b1]) | skip)
                  replace H := Option.bind_eq_some_iff.mp H
                  obtain ⟨t419, A640, H⟩ := H
                  try dsimp only at H
                  have A64 := am A640
                  clear A640
                  have H' := am H
                  clear H
                  go_wp2_with (first | (go_at_call 19; (with_reducible refine (minstrelref05_digits.calls kj55 a0 x5_55 t419 _ A64.out).mono ?_); rintro e w' ⟨rfl, ⟨nd, rfl⟩⟩))
                  go_meet
                  case rel => exact ⟨_, ((t419 != (a0.size : Int))), (by first | rfl | (simp; done) | (simp [*]; done)), H', ⟨by have := HJ11.out; have := HJ18.out; have := HJ38.out; have := HJ48.out; have := HJ55.out; first | omega | exact Nat.le_refl _⟩, ⟨by (with_reducible repeat (first | refine blk_drewN ?_ _ | refine blk_drew ?_ | refine blk_alloc ?_ _)); exact BK415.out⟩, ⟨by (with_reducible repeat (first | refine blk_drewN ?_ _ | refine blk_drew ?_ | refine blk_alloc ?_ _)); exact BK416.out⟩, ⟨pB⟩⟩
                case rest =>
                 clear HC62
                 try clear c1
                 try clear p1
                 try clear q1
                 try clear hx1
                 try clear c2
                 try clear p2
                 try clear c3
                 try clear c3b0
                 try clear c3b1
                 try clear c4
                 try clear p4
                 try clear q4
                 try clear hx4
                 try clear c5
                 try clear p5
                 try clear q5
                 try clear hx5
                 try clear c6
                 try clear p6
                 try clear q6
                 try clear hx6
                 try clear c9
                 try clear c9b0
                 try clear c9b1
                 try clear c10
                 try clear c10b0
                 try clear c10b1
                 try clear c15
                 try clear c17
                 try clear c17b0
                 try clear c17b1
                 try clear p18
                 try clear q18
                 try clear hx18
                 try clear c19
                 try clear c20
                 try clear c22
                 try clear c22b0
                 try clear c22b1
                 try clear c23
                 try clear c27
                 try clear c27b0
                 try clear c27b1
                 try clear c28
                 try clear c28b0
                 try clear c28b1
                 try clear c29
                 try clear c29b0
                 try clear c29b1
                 try clear c31
                 try clear c31b0
                 try clear c31b1
                 try clear c31b2
                 try clear c35
                 try clear c35b0
                 try clear c35b1
                 try clear c36
                 try clear c40
                 try clear c40b0
                 try clear c40b1
                 try clear c41
                 try clear c41b0
                 try clear p42
                 try clear q42
                 try clear hx42
                 try clear c43
                 try clear c43b0
                 try clear c43b1
                 try clear p44
                 try clear q44
                 try clear hx44
                 try clear c45
                 try clear c46
                 try clear c50
                 try clear c50b0
                 try clear c50b1
                 try clear c52
                 try clear c52b0
                 try clear p53
                 try clear q53
                 try clear hx53
                 try clear c54
                 try clear c54b0
                 try clear c54b1
                 try clear p55
                 try clear q55
                 try clear hx55
                 try clear c57
                 try clear c59
                 try clear c59b0
                 try clear c59b1
                 try clear c60
                 try clear c60b0
                 try clear p61
                 try clear q61
                 try clear hx61
                 try clear c63
                 try clear c63b0
                 try clear c63b1
                 try clear p64
                 try clear q16 q24 q25 q37 q38 q47 q48 q7 q8
                 try clear p1
                 try clear p18
                 try clear p2
                 try clear p4
                 try clear p42
                 try clear p44
                 try clear p5
                 try clear p53
                 try clear p55
                 try clear p6
                 try clear p61
                 try clear q1
                 try clear q18
                 try clear q4
                 try clear q42
                 try clear q44
                 try clear q5
                 try clear q53
                 try clear q55
                 try clear q6
                 try clear q61
                 obtain ⟨kq, x105_61, rfl, HA, HJ61, BK415, BK416, HB⟩ := hcut
                 cases kq with
                 | zero => exact absurd HA.out (by simp [minstrelref05_Read.j5])
                 | succ kj61 =>
                  have H := HA.out
                  clear HA
                  simp only [minstrelref05_Read.j5] at H
                  by_cases c65 : x105_61 = true
                  ·subst c65
                   rw [if_pos rfl] at H
                   simp only [Option.some.injEq, Prod.mk.injEq] at H
                   obtain ⟨rfl, rfl, rfl⟩ := H
                   have hnb66 := NB416_415.out
                   have hnc66 := NB415_416.out
                   have q67 := cf2 BK416.out
                   have q68 := cf2 BK415.out
                   go_wp2
                   refine bodyPost_ret (results_ct rfl _ _ gb415 31 #[.string x417000_18, .int .i64 x417001_18] (0, 0) _ rfl (by (with_reducible repeat (first | refine blk_drewN ?_ _ | refine blk_drew ?_ | refine blk_alloc ?_ _)); refine blk_put (cs := #[.string x417000_18, .int .i64 x416001_18]) ?_ 1 _ rfl; (with_reducible repeat (first | refine blk_drewN ?_ _ | refine blk_drew ?_ | refine blk_alloc ?_ _)); refine blk_put (cs := #[.string x416000_18, .int .i64 x416001_18]) ?_ 0 _ rfl; (with_reducible repeat (first | refine blk_drewN ?_ _ | refine blk_drew ?_ | refine blk_alloc ?_ _)); exact BK415.out) Tryd.underlying31 rfl (by kernel_rfl)) rfl ?_
                   exact ⟨by first | rfl | (simp [errW_none, errW_some] <;> rfl) | (simp only [← hji11]; first | rfl | (simp [errW_none, errW_some] <;> rfl)) | (simp [*, errW_none, errW_some] <;> rfl), pB⟩
                  ·replace c65 := Bool.eq_false_iff.mpr c65
                   subst c65
                   rw [if_neg (show ¬ (false = true) by decide)] at H
                   have H' := am H
                   clear H
                   go_wp2
                   go_loopg [8, 9] kj61 (fun kq v8 v9 w' => ∃ (x8_7 : Int) (x9_7 : Int), v8 = .int .i64 x8_7 ∧ v9 = .int .i64 x9_7 ∧ Aside0 (minstrelref05_Read.l0 kq a0 x7_55 x8_7 x9_7 x417000_18 x417001_18 = some (r1, r2, r3)) ∧ Aside0 (kq ≤ kj61) ∧ Aside0 (w'.heap[gb415]? = some (.cells #[.string x416000_18, .int .i64 x416001_18] 31 (0, 0))) ∧ Aside0 (w'.heap[gb416]? = some (.cells #[.string x417000_18, .int .i64 x417001_18] 31 (0, 0))) ∧ Aside0 (Below w.heap.size w w'))
                   case atStart => exact ⟨(0), (x5_55), (by first | rfl | (simp; done) | (simp [*]; done)), (by first | rfl | (simp; done) | (simp [*]; done)), H', ⟨Nat.le_refl _⟩, ⟨by (with_reducible repeat (first | refine blk_drewN ?_ _ | refine blk_drew ?_ | refine blk_alloc ?_ _)); exact BK415.out⟩, ⟨by (with_reducible repeat (first | refine blk_drewN ?_ _ | refine blk_drew ?_ | refine blk_alloc ?_ _)); exact BK416.out⟩, ⟨pB⟩⟩
                   case round =>
                    clear H'
                    try clear c1
                    try clear p1
                    try clear q1
                    try clear hx1
                    try clear c2
                    try clear p2
                    try clear c3
                    try clear c3b0
                    try clear c3b1
                    try clear c4
                    try clear p4
                    try clear q4
                    try clear hx4
                    try clear c5
                    try clear p5
                    try clear q5
                    try clear hx5
                    try clear c6
                    try clear p6
                    try clear q6
                    try clear hx6
                    try clear c9
                    try clear c9b0
                    try clear c9b1
                    try clear c10
                    try clear c10b0
                    try clear c10b1
                    try clear c15
                    try clear c17
                    try clear c17b0
                    try clear c17b1
                    try clear p18
                    try clear q18
                    try clear hx18
                    try clear c19
                    try clear c20
                    try clear c22
                    try clear c22b0
                    try clear c22b1
                    try clear c23
                    try clear c27
                    try clear c27b0
                    try clear c27b1
                    try clear c28
                    try clear c28b0
                    try clear c28b1
                    try clear c29
                    try clear c29b0
                    try clear c29b1
                    try clear c31
                    try clear c31b0
                    try clear c31b1
                    try clear c31b2
                    try clear c35
                    try clear c35b0
                    try clear c35b1
                    try clear c36
                    try clear c40
                    try clear c40b0
                    try clear c40b1
                    try clear c41
                    try clear c41b0
                    try clear p42
                    try clear q42
                    try clear hx42
                    try clear c43
                    try clear c43b0
                    try clear c43b1
                    try clear p44
                    try clear q44
                    try clear hx44
                    try clear c45
                    try clear c46
                    try clear c50
                    try clear c50b0
                    try clear c50b1
                    try clear c52
                    try clear c52b0
                    try clear p53
                    try clear q53
                    try clear hx53
                    try clear c54
                    try clear c54b0
                    try clear c54b1
                    try clear p55
                    try clear q55
                    try clear hx55
                    try clear c57
                    try clear c59
                    try clear c59b0
                    try clear c59b1
                    try clear c60
                    try clear c60b0
                    try clear p61
                    try clear q61
                    try clear hx61
                    try clear c63
                    try clear c63b0
                    try clear c63b1
                    try clear p64
                    try clear c65
                    try clear c66
                    try clear q16 q24 q25 q37 q38 q47 q48 q67 q68 q7 q8
                    try clear p1
                    try clear p18
                    try clear p2
                    try clear p4
                    try clear p42
                    try clear p44
                    try clear p5
                    try clear p53
                    try clear p55
                    try clear p6
                    try clear p61
                    try clear p64
                    try clear q1
                    try clear q18
                    try clear q4
                    try clear q42
                    try clear q44
                    try clear q5
                    try clear q53
                    try clear q55
                    try clear q6
                    try clear q61
                    obtain ⟨x8_7, x9_7, rfl, rfl, HA, HK7, BK415, BK416, HB⟩ := hrel
                    cases gk with
                    | zero => exact absurd HA.out (by simp [minstrelref05_Read.l0])
                    | succ k7 =>
                     have H := HA.out
                     clear HA
                     simp only [minstrelref05_Read.l0] at H
                     by_cases c69 : x9_7 < (a0.size : Int)
                     ·rw [if_pos c69] at H
                      have c69b0 : decide (x9_7 < (a0.size : Int)) = true := decide_eq_true c69
                      clear c69
                      by_cases c70 : x8_7 < 9999
                      ·rw [if_pos c70] at H
                       have c70b0 : decide (x8_7 < 9999) = true := decide_eq_true c70
                       clear c70
                       by_cases c71 : 0 ≤ x9_7
                       ·rw [if_pos c71] at H
                        have c71b0 : decide (0 ≤ x9_7) = true := decide_eq_true c71
                        clear c71
                        have H' := am H
                        clear H
                        have p72 : 0 ≤ (x9_7 : Int) := pD
                        have q72 : x9_7 < (a0.size : Int) := pD
                        have hx72 := bt_at a0 x9_7
                        replace p72 := eq_true p72
                        replace q72 := eq_true q72
                        go_wp2
                        go_roundg k7
                        case measure => have := HJ11.out; have := HJ18.out; have := HJ38.out; have := HJ48.out; have := HJ55.out; have := HJ61.out; have := HK7.out; omega
                        case rel => exact ⟨(wrap64 ((wrap64 (10 * x8_7)) + (((bt a0 x9_7) - 48) % 256))), (wrap64 (x9_7 + 1)), (by first | rfl | (simp; done) | (simp [*]; done)), (by first | rfl | (simp; done) | (simp [*]; done)), H', ⟨by have := HJ11.out; have := HJ18.out; have := HJ38.out; have := HJ48.out; have := HJ55.out; have := HJ61.out; have := HK7.out; omega⟩, ⟨by (with_reducible repeat (first | refine blk_drewN ?_ _ | refine blk_drew ?_ | refine blk_alloc ?_ _)); exact BK415.out⟩, ⟨by (with_reducible repeat (first | refine blk_drewN ?_ _ | refine blk_drew ?_ | refine blk_alloc ?_ _)); exact BK416.out⟩, ⟨pB⟩⟩
                       ·rw [if_neg c71] at H
                        exact absurd H (by simp)
                      ·rw [if_neg c70] at H
                       have c70b0 : decide (x8_7 < 9999) = false := decide_eq_false c70
                       clear c70
                       have H' := am H
                       clear H
                       go_wp2
                       go_roundg k7
                       case measure => have := HJ11.out; have := HJ18.out; have := HJ38.out; have := HJ48.out; have := HJ55.out; have := HJ61.out; have := HK7.out; omega
                       case rel => exact ⟨(x8_7), (wrap64 (x9_7 + 1)), (by first | rfl | (simp; done) | (simp [*]; done)), (by first | rfl | (simp; done) | (simp [*]; done)), H', ⟨by have := HJ11.out; have := HJ18.out; have := HJ38.out; have := HJ48.out; have := HJ55.out; have := HJ61.out; have := HK7.out; omega⟩, ⟨by (with_reducible repeat (first | refine blk_drewN ?_ _ | refine blk_drew ?_ | refine blk_alloc ?_ _)); exact BK415.out⟩, ⟨by (with_reducible repeat (first | refine blk_drewN ?_ _ | refine blk_drew ?_ | refine blk_alloc ?_ _)); exact BK416.out⟩, ⟨pB⟩⟩
                     ·rw [if_neg c69] at H
                      have c69b0 : decide (x9_7 < (a0.size : Int)) = false := decide_eq_false c69
                      clear c69
                      by_cases c73 : x8_7 > 9999
                      ·rw [if_pos c73] at H
                       have c73b0 : decide (9999 < x8_7) = true := decide_eq_true c73
                       clear c73
                       by_cases c74 : x7_55 = true
                       ·subst c74
                        rw [if_pos rfl] at H
                        simp only [Option.some.injEq, Prod.mk.injEq] at H
                        obtain ⟨rfl, rfl, rfl⟩ := H
                        have hnb75 := NB416_415.out
                        have hnc75 := NB415_416.out
                        have q76 := cf2 BK416.out
                        have q77 := cf2 BK415.out
                        go_wp2
                        refine bodyPost_ret (results_ct rfl _ _ gb415 31 #[.string x417000_18, .int .i64 (wrap64 (x417001_18 + (-9999)))] (0, 0) _ rfl (by (with_reducible repeat (first | refine blk_drewN ?_ _ | refine blk_drew ?_ | refine blk_alloc ?_ _)); refine blk_put (cs := #[.string x417000_18, .int .i64 x416001_18]) ?_ 1 _ rfl; (with_reducible repeat (first | refine blk_drewN ?_ _ | refine blk_drew ?_ | refine blk_alloc ?_ _)); refine blk_put (cs := #[.string x416000_18, .int .i64 x416001_18]) ?_ 0 _ rfl; (with_reducible repeat (first | refine blk_drewN ?_ _ | refine blk_drew ?_ | refine blk_alloc ?_ _)); refine blk_far ?_ NB415_416.out _; (with_reducible repeat (first | refine blk_drewN ?_ _ | refine blk_drew ?_ | refine blk_alloc ?_ _)); exact BK415.out) Tryd.underlying31 rfl (by kernel_rfl)) rfl ?_
                        exact ⟨by first | rfl | (simp [errW_none, errW_some] <;> rfl) | (simp only [← hji11]; first | rfl | (simp [errW_none, errW_some] <;> rfl)) | (simp [*, errW_none, errW_some] <;> rfl), pB⟩
                       ·replace c74 := Bool.eq_false_iff.mpr c74
                        subst c74
                        rw [if_neg (show ¬ (false = true) by decide)] at H
                        simp only [Option.some.injEq, Prod.mk.injEq] at H
                        obtain ⟨rfl, rfl, rfl⟩ := H
                        have hnb78 := NB416_415.out
                        have hnc78 := NB415_416.out
                        have q79 := cf2 BK416.out
                        have q80 := cf2 BK415.out
                        go_wp2
                        refine bodyPost_ret (results_ct rfl _ _ gb415 31 #[.string x417000_18, .int .i64 (wrap64 (x417001_18 + 9999))] (0, 0) _ rfl (by (with_reducible repeat (first | refine blk_drewN ?_ _ | refine blk_drew ?_ | refine blk_alloc ?_ _)); refine blk_put (cs := #[.string x417000_18, .int .i64 x416001_18]) ?_ 1 _ rfl; (with_reducible repeat (first | refine blk_drewN ?_ _ | refine blk_drew ?_ | refine blk_alloc ?_ _)); refine blk_put (cs := #[.string x416000_18, .int .i64 x416001_18]) ?_ 0 _ rfl; (with_reducible repeat (first | refine blk_drewN ?_ _ | refine blk_drew ?_ | refine blk_alloc ?_ _)); refine blk_far ?_ NB415_416.out _; (with_reducible repeat (first | refine blk_drewN ?_ _ | refine blk_drew ?_ | refine blk_alloc ?_ _)); exact BK415.out) Tryd.underlying31 rfl (by kernel_rfl)) rfl ?_
                        exact ⟨by first | rfl | (simp [errW_none, errW_some] <;> rfl) | (simp only [← hji11]; first | rfl | (simp [errW_none, errW_some] <;> rfl)) | (simp [*, errW_none, errW_some] <;> rfl), pB⟩
                      ·rw [if_neg c73] at H
                       have c73b0 : decide (9999 < x8_7) = false := decide_eq_false c73
                       clear c73
                       by_cases c81 : x7_55 = true
                       ·subst c81
                        rw [if_pos rfl] at H
                        simp only [Option.some.injEq, Prod.mk.injEq] at H
                        obtain ⟨rfl, rfl, rfl⟩ := H
                        have hnb82 := NB416_415.out
                        have hnc82 := NB415_416.out
                        have q83 := cf2 BK416.out
                        have q84 := cf2 BK415.out
                        go_wp2
                        refine bodyPost_ret (results_ct rfl _ _ gb415 31 #[.string x417000_18, .int .i64 (wrap64 (x417001_18 + (wrap64 (-x8_7))))] (0, 0) _ rfl (by (with_reducible repeat (first | refine blk_drewN ?_ _ | refine blk_drew ?_ | refine blk_alloc ?_ _)); refine blk_put (cs := #[.string x417000_18, .int .i64 x416001_18]) ?_ 1 _ rfl; (with_reducible repeat (first | refine blk_drewN ?_ _ | refine blk_drew ?_ | refine blk_alloc ?_ _)); refine blk_put (cs := #[.string x416000_18, .int .i64 x416001_18]) ?_ 0 _ rfl; (with_reducible repeat (first | refine blk_drewN ?_ _ | refine blk_drew ?_ | refine blk_alloc ?_ _)); refine blk_far ?_ NB415_416.out _; (with_reducible repeat (first | refine blk_drewN ?_ _ | refine blk_drew ?_ | refine blk_alloc ?_ _)); exact BK415.out) Tryd.underlying31 rfl (by kernel_rfl)) rfl ?_
                        exact ⟨by first | rfl | (simp [errW_none, errW_some] <;> rfl) | (simp only [← hji11]; first | rfl | (simp [errW_none, errW_some] <;> rfl)) | (simp [*, errW_none, errW_some] <;> rfl), pB⟩
                       ·replace c81 := Bool.eq_false_iff.mpr c81
                        subst c81
                        rw [if_neg (show ¬ (false = true) by decide)] at H
                        simp only [Option.some.injEq, Prod.mk.injEq] at H
                        obtain ⟨rfl, rfl, rfl⟩ := H
                        have hnb85 := NB416_415.out
                        have hnc85 := NB415_416.out
                        have q86 := cf2 BK416.out
                        have q87 := cf2 BK415.out
                        go_wp2
                        refine bodyPost_ret (results_ct rfl _ _ gb415 31 #[.string x417000_18, .int .i64 (wrap64 (x417001_18 + x8_7))] (0, 0) _ rfl (by (with_reducible repeat (first | refine blk_drewN ?_ _ | refine blk_drew ?_ | refine blk_alloc ?_ _)); refine blk_put (cs := #[.string x417000_18, .int .i64 x416001_18]) ?_ 1 _ rfl; (with_reducible repeat (first | refine blk_drewN ?_ _ | refine blk_drew ?_ | refine blk_alloc ?_ _)); refine blk_put (cs := #[.string x416000_18, .int .i64 x416001_18]) ?_ 0 _ rfl; (with_reducible repeat (first | refine blk_drewN ?_ _ | refine blk_drew ?_ | refine blk_alloc ?_ _)); refine blk_far ?_ NB415_416.out _; (with_reducible repeat (first | refine blk_drewN ?_ _ | refine blk_drew ?_ | refine blk_alloc ?_ _)); exact BK415.out) Tryd.underlying31 rfl (by kernel_rfl)) rfl ?_
                        exact ⟨by first | rfl | (simp [errW_none, errW_some] <;> rfl) | (simp only [← hji11]; first | rfl | (simp [errW_none, errW_some] <;> rfl)) | (simp [*, errW_none, errW_some] <;> rfl), pB⟩
   ·rw [if_neg c10] at H
    exact absurd H (by simp)
  ·rw [if_neg c9] at H
   exact absurd H (by simp)
end Go.Proofs.YtflcanpajgpghaaDoor.Pr
end
