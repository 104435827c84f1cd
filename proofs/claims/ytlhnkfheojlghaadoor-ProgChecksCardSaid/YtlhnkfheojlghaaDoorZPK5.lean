/- The law ProgChecks: for every input the call returns true and leaves its arguments as they were. Conditions: the row's own cells. -/
import Derived.Test.YtlhnkfheojlghaaDoorProg
import Derived.Below
import Derived.Deep.Draws
import Derived.Deep.AppendLies
import Derived.Maps.AppendAt
import Derived.OwnWalk
import Derived.Laws.BytesArg
import Derived.Laws.MakeOwn
import Derived.Laws.OwnMore
import Derived.Deep.OwnRows
import Derived.Tactics
import Derived.Lib.ConvBytes
import Derived.Laws.Slices
import Derived.WalkKit
import Derived.KernelRfl
import Derived.RowKit3
import Derived.Deep.LoopGhost
import Derived.Deep.QuietTactic
import Derived.BigQuiet
import Derived.WideLaws
import Derived.Deep.DeepCutAuto
import Derived.Deep.CutBlock
import Derived.Deep.RegionHeld3
import Derived.Laws.Rows
import Derived.Lib.AppendStr
import Derived.ArgAppend
import Derived.Laws.IdiomCopy
import Derived.OrdersHeld
import Derived.Laws.BitsLemmas
import Derived.RowKit
import Derived.Test.YtlhnkfheojlghaaDoorZPK0
import Derived.Test.YtlhnkfheojlghaaDoorCards
import Derived.Test.YtlhnkfheojlghaaDoorTie
import Derived.Test.YtlhnkfheojlghaaDoorZPK4
import Derived.Stop.LaidErr
import Derived.ProofKit
import Derived.OpenShut
import Derived.ShutString
import Derived.ChangeOld
import Derived.SizedLaws
import Derived.JoinedCond
import Derived.Deep.DeepHandedRow
import Derived.Lib.LaidTab
set_option linter.unusedVariables false
set_option linter.unusedSimpArgs false
namespace Go.Proofs.YtlhnkfheojlghaaDoor.progChecks
open Go.ChangeShapes Go.WideShapes Go.ChangeAt Go.RowKit
open Go.ChangeMaps (open_string shut_string)
open Go.Proofs.YtlhnkfheojlghaaDoorW.PrintWords Go.Proofs.YtlhnkfheojlghaaDoor.Pr
theorem own : ownKnob Tryd.prog.godebug = none := by kernel_rfl
theorem laidOut : laidOutB Tryd.prog = true := by kernel_rfl
theorem gTab : Tryd.prog.globalNamed "internal/strconv.uint64pow10" = some 1 := by kernel_rfl
theorem gTabType : (Tryd.prog.globals[1]?).map (·.type) = some 132 := by kernel_rfl
theorem cellsA : Tryd.prog.cellsOf 132 = 20 := by kernel_rfl
theorem cellsE : Tryd.prog.cellsOf 41 = 1 := by kernel_rfl
theorem globP {W : World} (h : laidMetH Tryd.prog Rows.progChecksRow.laid W) : PowOnly W :=
  Lib.tabIs_of_head (rest := _) gTab gTabType Tryd.underlying132 Tryd.underlying41 cellsE cellsA (laidMet.tail (laidMet.tail h))
theorem glob {W : World} (h : laidMetH Tryd.prog Rows.progChecksRow.laid W) : OrdersLaid W := ⟨globP h, tabLaid_of_head (rest := []) (laidMet.tail (laidMet.tail (laidMet.tail h)))⟩
set_option maxRecDepth 100000 in
set_option maxHeartbeats 1000000 in
set_option maxRecDepth 100000 in
theorem contract (H : Type) (enc : TypeId × Value → H) (W : World) (base : Nat) (args : Array Value) (ds gs : List (DataW H)) (before : List MemPlace)
    (hval : ∀ (j : Nat) t v, Tryd.f3.params[j]? = some t → args[j]? = some v → Value.okWide Tryd.prog W .any base t v)
    (hW : DataW.Whole enc Tryd.prog Tryd.f3.params.toList Rows.progChecksSpec.vars false W args.toList ds gs before)
    (hsz0 : (DataW.weightsEach Tryd.prog (Tryd.f3.params.toList ++ Rows.progChecksSpec.plain.varTypes Tryd.prog) (ds ++ gs)).all (· ≤ reachBytes) = true)
    (hL : laidMetH Tryd.prog Rows.progChecksRow.laid W)
 :
    Calls Tryd.prog 3 args W fun e W' => ∃ v, e = .returned v ∧ Rows.progChecksSpec.post enc Tryd.prog Tryd.f3 false true false false W args v W' := by
  have hW' := hW
  have hsz := hsz0
  obtain ⟨p, q, hA0, hV, rfl, hfz, hnd⟩ := hW
  have hA : DataW.TrodAll enc Tryd.prog W 0 (fun _ => true) true Tryd.f3.params.toList args.toList ds p := hA0
  rw [Tryd.params3] at hA hval hsz
  obtain ⟨v0, vs0, d0, ds0, p0, q0, hargs, rfl, rfl, h0, r0⟩ := trodAll_cons hA
  obtain ⟨rfl, rfl, rfl⟩ := trodAll_nil r0
  obtain rfl : args = #[v0] := by cases args; simp_all
  obtain ⟨rfl, rfl⟩ := trodVars_none hV
  have k0 := h0
  have lt0 : ∀ x ∈ p0, x.block < W.heap.size := by obtain ⟨m, hm⟩ := k0; exact DataW.trod_lt m _ _ _ hm
  obtain ⟨P0, A20, c20, A30, c30, A40, c40, A50, c50, rfl, ⟨⟨hr20, hc20⟩, ⟨hr30, hc30⟩, ⟨hr40, hc40⟩, ⟨hr50, hc50⟩⟩, hw0, hi0, hz0⟩ := open_proto (hval 0 27 v0 rfl rfl) h0
  have z0 := hz0 (fun n hn => by have := List.all_eq_true.1 hsz _ (DataW.weights_mem_each (j := 0) (t := 27) rfl rfl n hn); simpa using this)
  clear hA0 hval hsz hsz0
  obtain ⟨k, h⟩ := Pure.ProgChecks P0 hw0 hi0 z0
  refine (minstrellaw13_ProgChecks.calls k P0.f0 P0.f1 A20 c20 P0.f2 A30 c30 P0.f3 A40 c40 P0.f4 A50 c50 P0.f5 true W hr20 hc20 hr30 hc30 hr40 hc40 hr50 hc50 (glob hL) h).mono fun e W' ⟨he, bel0⟩ => ?_
  subst he
  have bel : Below W.heap.size W W' := bel0
  exact ⟨_, rfl, _, _, _, [], _, [], hW', trodAll_mk1 (shut_bool Tryd.underlying4 _), (trodAll_cons_mk (Below.trod laidOut (by kernel_rfl) (of_decide_eq_true (by kernel_rfl)) k0 bel lt0) trodAll_mk0), rfl, bel.frame _, fun h => by cases h⟩
noncomputable def laidWorld (os : Os) : World :=
  { World.holding Tryd.prog os ⟨#[], #[], []⟩ with heap := (((((World.holding Tryd.prog os ⟨#[], #[], []⟩).heap.modify 3 fun
      | .cells _ t frozen => .cells #[.int .u8 0, .int .u8 1, .int .u8 28, .int .u8 2, .int .u8 29, .int .u8 14, .int .u8 24, .int .u8 3, .int .u8 30, .int .u8 22, .int .u8 20, .int .u8 15, .int .u8 25, .int .u8 17, .int .u8 4, .int .u8 8, .int .u8 31, .int .u8 27, .int .u8 13, .int .u8 23, .int .u8 21, .int .u8 19, .int .u8 16, .int .u8 7, .int .u8 26, .int .u8 12, .int .u8 18, .int .u8 6, .int .u8 11, .int .u8 5, .int .u8 10, .int .u8 9] t frozen
      | o => o).modify 4 fun
      | .cells _ t frozen => .cells #[.int .u8 0, .int .u8 1, .int .u8 56, .int .u8 2, .int .u8 57, .int .u8 49, .int .u8 28, .int .u8 3, .int .u8 61, .int .u8 58, .int .u8 42, .int .u8 50, .int .u8 38, .int .u8 29, .int .u8 17, .int .u8 4, .int .u8 62, .int .u8 47, .int .u8 59, .int .u8 36, .int .u8 45, .int .u8 43, .int .u8 51, .int .u8 22, .int .u8 53, .int .u8 39, .int .u8 33, .int .u8 30, .int .u8 24, .int .u8 18, .int .u8 12, .int .u8 5, .int .u8 63, .int .u8 55, .int .u8 48, .int .u8 27, .int .u8 60, .int .u8 41, .int .u8 37, .int .u8 16, .int .u8 46, .int .u8 35, .int .u8 44, .int .u8 21, .int .u8 52, .int .u8 32, .int .u8 23, .int .u8 11, .int .u8 54, .int .u8 26, .int .u8 40, .int .u8 15, .int .u8 34, .int .u8 20, .int .u8 31, .int .u8 10, .int .u8 25, .int .u8 14, .int .u8 19, .int .u8 9, .int .u8 13, .int .u8 8, .int .u8 7, .int .u8 6] t frozen
      | o => o).modify 1 fun
      | .cells _ t frozen => .cells #[.int .u64 1, .int .u64 10, .int .u64 100, .int .u64 1000, .int .u64 10000, .int .u64 100000, .int .u64 1000000, .int .u64 10000000, .int .u64 100000000, .int .u64 1000000000, .int .u64 10000000000, .int .u64 100000000000, .int .u64 1000000000000, .int .u64 10000000000000, .int .u64 100000000000000, .int .u64 1000000000000000, .int .u64 10000000000000000, .int .u64 100000000000000000, .int .u64 1000000000000000000, .int .u64 10000000000000000000] t frozen
      | o => o).modify 0 fun
      | .cells _ t frozen => .cells #[.string ⟨#[99, 111, 110, 115, 116]⟩, .string ⟨#[82, 75]⟩, .int .i64 1, .string ⟨#[109, 111, 118, 101]⟩, .string ⟨#[82, 82]⟩, .int .i64 1, .string ⟨#[115, 104, 105, 102, 116]⟩, .string ⟨#[82, 82]⟩, .int .i64 0, .string ⟨#[99, 108, 101, 97, 114]⟩, .string ⟨#[82]⟩, .int .i64 0, .string ⟨#[110, 101, 119, 98, 111, 120]⟩, .string ⟨#[82, 82]⟩, .int .i64 0, .string ⟨#[103, 101, 116, 98, 111, 120]⟩, .string ⟨#[82, 82]⟩, .int .i64 1, .string ⟨#[115, 101, 116, 98, 111, 120]⟩, .string ⟨#[82, 82]⟩, .int .i64 1, .string ⟨#[103, 101, 116, 117, 112]⟩, .string ⟨#[82, 85]⟩, .int .i64 1, .string ⟨#[115, 101, 116, 117, 112]⟩, .string ⟨#[85, 82]⟩, .int .i64 1, .string ⟨#[103, 101, 116, 103, 108, 111, 98, 97, 108]⟩, .string ⟨#[82, 75]⟩, .int .i64 1, .string ⟨#[115, 101, 116, 103, 108, 111, 98, 97, 108]⟩, .string ⟨#[75, 82]⟩, .int .i64 1, .string ⟨#[105, 110, 100, 101, 120]⟩, .string ⟨#[82, 82, 82]⟩, .int .i64 1, .string ⟨#[115, 101, 116, 105, 110, 100, 101, 120]⟩, .string ⟨#[82, 82, 82]⟩, .int .i64 1, .string ⟨#[109, 97, 107, 101]⟩, .string ⟨#[82]⟩, .int .i64 1, .string ⟨#[110, 111, 116]⟩, .string ⟨#[82, 82]⟩, .int .i64 1, .string ⟨#[110, 101, 103]⟩, .string ⟨#[82, 82]⟩, .int .i64 1, .string ⟨#[108, 101, 110]⟩, .string ⟨#[82, 82]⟩, .int .i64 1, .string ⟨#[97, 100, 100]⟩, .string ⟨#[82, 82, 82]⟩, .int .i64 1, .string ⟨#[115, 117, 98]⟩, .string ⟨#[82, 82, 82]⟩, .int .i64 1, .string ⟨#[109, 117, 108]⟩, .string ⟨#[82, 82, 82]⟩, .int .i64 1, .string ⟨#[100, 105, 118]⟩, .string ⟨#[82, 82, 82]⟩, .int .i64 1, .string ⟨#[109, 111, 100]⟩, .string ⟨#[82, 82, 82]⟩, .int .i64 1, .string ⟨#[99, 111, 110, 99, 97, 116]⟩, .string ⟨#[82, 82, 82]⟩, .int .i64 1, .string ⟨#[101, 113]⟩, .string ⟨#[82, 82, 82]⟩, .int .i64 1, .string ⟨#[110, 101]⟩, .string ⟨#[82, 82, 82]⟩, .int .i64 1, .string ⟨#[108, 116]⟩, .string ⟨#[82, 82, 82]⟩, .int .i64 1, .string ⟨#[108, 101]⟩, .string ⟨#[82, 82, 82]⟩, .int .i64 1, .string ⟨#[103, 116]⟩, .string ⟨#[82, 82, 82]⟩, .int .i64 1, .string ⟨#[103, 101]⟩, .string ⟨#[82, 82, 82]⟩, .int .i64 1, .string ⟨#[106, 117, 109, 112]⟩, .string ⟨#[79]⟩, .int .i64 0, .string ⟨#[106, 117, 109, 112, 105, 102]⟩, .string ⟨#[82, 79]⟩, .int .i64 0, .string ⟨#[106, 117, 109, 112, 110, 111, 116]⟩, .string ⟨#[82, 79]⟩, .int .i64 0, .string ⟨#[99, 97, 108, 108]⟩, .string ⟨#[82, 78]⟩, .int .i64 1, .string ⟨#[114, 101, 116, 117, 114, 110]⟩, .string ⟨#[82]⟩, .int .i64 1, .string ⟨#[101, 110, 100]⟩, .string ⟨#[]⟩, .int .i64 0, .string ⟨#[99, 108, 111, 115, 117, 114, 101]⟩, .string ⟨#[82, 80]⟩, .int .i64 1, .string ⟨#[102, 111, 114, 99, 104, 101, 99, 107]⟩, .string ⟨#[82, 79]⟩, .int .i64 1, .string ⟨#[102, 111, 114, 115, 116, 101, 112]⟩, .string ⟨#[82, 79]⟩, .int .i64 1] t frozen
      | o => o) }
theorem laid_met (os : Os) : laidMet Tryd.prog Rows.progChecksRow.laid ((laidWorld os).forCall (fun _ _ => 0) ⟨#[], #[.agg #[.int .i64 0, .int .i64 0, .slice none 0 0, .slice none 0 0, .slice none 0 0, .slice none 0 0]], []⟩).memory :=
  laidMet_of_run' 12 (by kernel_rfl) (by kernel_rfl)
theorem reads (os : Os) {H : Type} (enc : TypeId × Value → H) : ∃ places, DataW.whole enc Tryd.prog ((laidWorld os).forCall (fun _ _ => 0) ⟨#[], #[.agg #[.int .i64 0, .int .i64 0, .slice none 0 0, .slice none 0 0, .slice none 0 0, .slice none 0 0]], []⟩).memory Tryd.f3.params.toList Rows.progChecksSpec.vars false (#[.agg #[.int .i64 0, .int .i64 0, .slice none 0 0, .slice none 0 0, .slice none 0 0, .slice none 0 0]] : Array Value).toList 8 = some ([.agg [.lit (.int .i64 0), .lit (.int .i64 0), .nil, .nil, .nil, .nil]], [], places) :=
  ⟨[], by kernel_rfl⟩
set_option maxRecDepth 100000 in
theorem lifted (os : Os) (started : os.Started) (H : Type) (enc : TypeId × Value → H) (F : Stop.Interp) :
    ReturnsInHanded {} Tryd.checked os 3 .any ((OpenSpec.ofChange Rows.progChecksSpec).preRow enc Tryd.prog Tryd.f3 Rows.progChecksRow.domain false Rows.progChecksRow.laid) (((OpenSpec.ofChange Rows.progChecksSpec).at F).post enc Tryd.prog Tryd.f3 false true false false) := by
  obtain ⟨places, hx⟩ := reads os enc
  refine returnsInHanded_of_row (C := Tryd.checked) (s := (OpenSpec.ofChange Rows.progChecksSpec)) own started (by kernel_rfl) Tryd.func3
    (witness_row_at (enc := enc) (C := Tryd.checked) false (laidWorld os) #[.agg #[.int .i64 0, .int .i64 0, .slice none 0 0, .slice none 0 0, .slice none 0 0, .slice none 0 0]] rfl (by kernel_rfl) (by kernel_rfl) (by kernel_rfl)
      (OpenSpec.preRow_of_cond 8 hx (by kernel_rfl) (fun k hk => by cases hk) (by kernel_rfl) (laid_met os))) ?_
  intro W base args ds gs before hval hW _ hcond hsz hL _ _
  exact contract H enc W base args ds gs before hval hW hsz hL
theorem said : Rows.ProgChecksSaid :=
  OpenClaim.holds_of_cond 3 Tryd.f3 rfl rfl rfl rfl rfl rfl rfl ⟨rfl, rfl, rfl, rfl, rfl⟩ rfl rfl rfl rfl rfl (by kernel_rfl) Tryd.func3 (by kernel_rfl)
    (of_decide_eq_true (by kernel_rfl)) (by unfold Func.isWrapper; first | (rw [if_pos (by decide +kernel)]; kernel_rfl) | (rw [if_neg (by decide +kernel)]; exact ⟨rfl, rfl⟩))
    (fun os started H enc _ F => by rw [OpenClaim.pre_eq_preRow]; exact lifted os started H enc F)
theorem plain (f : FuncId) (fn : Func) (hf : Tryd.pinned.checked.prog.funcNamed "minstrel/minstrellaw13.ProgChecks" = some f) (hfn : Tryd.pinned.checked.prog.funcs[f]? = some fn) :
    false = Tryd.pinned.checked.prog.looks [] ∧ ∀ (j : Nat) t, fn.params[j]? = some t → Tryd.pinned.checked.prog.wantsStandIn t = false := by
  obtain rfl : f = 3 := Option.some.inj ((show Tryd.prog.funcNamed "minstrel/minstrellaw13.ProgChecks" = some 3 by kernel_rfl).symm.trans hf) |>.symm
  obtain rfl : fn = Tryd.f3 := (Option.some.inj (Tryd.func3.symm.trans hfn)).symm
  refine ⟨by kernel_rfl, fun j t ht => ?_⟩
  rw [Tryd.params3] at ht
  obtain rfl : t = 27 := by simpa using Array.mem_of_getElem? ht
  exact (show Tryd.prog.wantsStandIn 27 = false by kernel_rfl)
theorem card : Rows.ProgChecksCardSaid :=
  Claim7.holds_tied_plain_at .later [] _ _ _ _ said (fun _ h => by cases h) (by kernel_rfl) (fun _ h => by cases h) progChecks_row_tie rfl ⟨rfl, rfl⟩ (by kernel_rfl) rfl plain (by kernel_rfl)
end Go.Proofs.YtlhnkfheojlghaaDoor.progChecks
namespace Go.Proofs.YtlhnkfheojlghaaDoor
theorem progChecks_holds : Rows.ProgChecksCardSaid := progChecks.card
#print axioms progChecks_holds
end Go.Proofs.YtlhnkfheojlghaaDoor
