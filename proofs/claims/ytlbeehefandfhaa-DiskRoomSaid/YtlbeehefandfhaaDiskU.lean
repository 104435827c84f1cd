/- DiskWhole: a contract of its call. -/
import Derived.Test.YtlbeehefandfhaaProg
import Derived.Below
import Derived.Deep.Draws
import Derived.Deep.AppendLies
import Derived.Maps.AppendAt
import Derived.OwnWalk
import Derived.Laws.BytesArg
import Derived.Laws.MakeOwn
import Derived.Laws.OwnMore
import Derived.Deep.OwnRows
import Derived.Tactics
import Derived.Lib.ConvBytes
import Derived.Laws.Slices
import Derived.WalkKit
import Derived.KernelRfl
import Derived.RowKit3
import Derived.Deep.LoopGhost
import Derived.Deep.QuietTactic
import Derived.BigQuiet
import Derived.WideLaws
import Derived.Deep.DeepCutAuto
import Derived.Deep.CutBlock
import Derived.Deep.RegionHeld3
import Derived.Laws.Rows
import Derived.Lib.AppendStr
import Derived.ArgAppend
import Derived.Laws.IdiomCopy
import Derived.OrdersHeld
import Derived.Laws.BitsLemmas
import Derived.RowKit
import Derived.Test.YtlbeehefandfhaaWWords
import Derived.Test.YtlbeehefandfhaaWLast
import Derived.Test.YtlbeehefandfhaaWTab
import Derived.Test.YtlbeehefandfhaaWFour
import Derived.Test.YtlbeehefandfhaaWQPut
import Derived.Test.YtlbeehefandfhaaWApart
import Derived.Test.YtlbeehefandfhaaWArr
import Derived.Test.YtlbeehefandfhaaWZeros
import Derived.Test.YtlbeehefandfhaaWFoot
import Derived.Test.YtlbeehefandfhaaWKept
import Derived.Test.YtlbeehefandfhaaWShare
import Derived.Test.YtlbeehefandfhaaWN
import Derived.Test.YtlbeehefandfhaaWFootNe
import Derived.Test.YtlbeehefandfhaaWAt
import Derived.Test.YtlbeehefandfhaaWEqStruct
import Derived.Test.YtlbeehefandfhaaWRepsOne
import Derived.Test.YtlbeehefandfhaaWInv
import Derived.Test.YtlbeehefandfhaaWInvWords
import Derived.Test.YtlbeehefandfhaaWGuard
import Derived.Test.YtlbeehefandfhaaWNEv
import Derived.Test.YtlbeehefandfhaaWMore
import Derived.Test.YtlbeehefandfhaaDiskO
import Derived.Test.YtlbeehefandfhaaDiskT
namespace Go.Proofs.Ytlbeehefandfhaa.Pr
open Go.RowKit Go.Maps Go.Sort Go.Proofs.YtlbeehefandfhaaW.PrintWords Go.Proofs.YtlbeehefandfhaaW.PrintLast Go.Proofs.YtlbeehefandfhaaW.PrintMore
set_option linter.unusedVariables false
set_option linter.unusedSimpArgs false
theorem rename_at {w0 w : World} {p : PD} {d : Nat} (h : DiskAt w0 p d w) (na nb : ByteArray) (hs : na.size ≤ maxLen) (hsb : nb.size ≤ maxLen) (hN : p.F.length ≤ 1000000) :
    Calls Try.prog 17 #[.pointer (some ⟨d, 0, none⟩), .string na, .string nb] w fun e w' => e = .returned (.int .i64 (pRename p na.data.toList nb.data.toList).2) ∧ DiskAt w0 (pRename p na.data.toList nb.data.toList).1 d w' := by
  obtain ⟨s, h1, h2, h3, h4, h5⟩ := h
  have hL : s.L.length ≤ 1000000 := by rw [← h3] at hN; simpa [DiskM.abs] using hN
  subst h4
  rw [← h3]
  exact (rename_calls w w0.heap.size s h1 h2 na nb hs hsb hL).mono fun e w' ⟨he, s', hO⟩ => ⟨he, DiskAt.done h1 rfl h5 (Below.refl _ _) hO⟩
/-- append([]byte{}, x...), at a step of a region that draws its order. -/
theorem step_copy_d {W : World} {ops : Array Oper} {o : Oper} {a : Act} {K : Act → World → Prop} {Q : Exit → Act → World → Prop} {E : Prop} (hgd : o.guard = none) (s x : Operand)
    (ho : o.op = .call { callee := .builtin .append, args := #[s, x], argTypes := #[22, 22] }) (hs : a.eval s = .slice (some ⟨W.heap.size, 0, none⟩) 0 0) (A : Option Addr) (c : Nat) (l : List Int) (hx : a.eval x = .slice A l.length c)
    (hC : Kd.C (Kd.int .u8) W A l.length l) (hc : l.length ≤ c) (hb : l.length ≤ 140737488355328)
    (h : ∀ A1 c1 w1, Young W w1 A1 c1 l → Below W.heap.size W w1 → K (a.put o.dst (.slice A1 l.length c1)) w1) :
    if Region.wanted o (yielded ops a.tmps) = true then Oper.wp Try.prog o a (W.alloc (.cells #[] 5)) K Q else E := by
  have hw : Region.wanted o (yielded ops a.tmps) = true := by simp [Region.wanted, hgd]
  rw [if_pos hw]
  have hba : Below W.heap.size W (W.alloc (.cells #[] 5)) := (Below.refl _ W).alloc (Nat.le_refl _) _
  obtain ⟨v1, w1, hr, hown, hgr, hat⟩ := run_append_d (W.alloc (.cells #[] 5)) W.heap.size (.slice (some ⟨W.heap.size, 0, none⟩) 0 0) [] l (.inr ⟨W.heap.size, 0, #[], rfl, Nat.le_refl _, heap_alloc_new W _, Nat.le_refl _, Nat.zero_le _, Nat.zero_le _, rfl⟩) (.slice A l.length c) (src_of_C (Kd.C_below hC hba) hc) (by simpa using hb) (by simp) o.type
  unfold Oper.wp execOp
  simp only [ho, resolve, invoke, builtin, Sem.run_bind, Sem.run_pure, Result.andThen_ok, List.map_toArray, List.map_cons, List.map_nil, hs, hx, hr]
  obtain ⟨A1, c1, hv, h1, h2⟩ := hown.slice
  rw [List.nil_append] at hown hv h1
  subst hv
  exact h A1 c1 w1 (Young.row hown) (hba.grown hgr (by simp) (fun k hk => Nat.le_of_eq (by simpa [Value.ownBlock] using hk)))
def wF (la : List Int) : PF := ⟨[102], la, la.length⟩
def wN (lb : List Int) (n : Nat) : PF := ⟨[110, 101, 119], lb, n⟩
theorem pWhole3 (la lb : List Int) (c : Int) (h : la.length ≤ 1000) (h2 : lb.length ≤ 1000) (h3 : 0 ≤ c) :
    pAppend ⟨[wF la], 1048576, c, false⟩ [110, 101, 119] lb = (⟨[wF la, wN lb 0], 1048576, if c ≤ 0 then c else c - 1, decide (c = 0)⟩, if c = 0 then 200 else 0) := by
  rw [pAppend_none rfl (by decide) (by show ¬ (lb.length : Int) > 1048576 - ((la.length : Int) + 0); omega) rfl]
  simp only [PD.goes, Bool.false_or, decide_eq_true_eq]
  rfl
theorem pWhole4a (la lb : List Int) (c : Int) : pSync ⟨[wF la, wN lb 0], 1048576, c, true⟩ [110, 101, 119] = (⟨[wF la, wN lb 0], 1048576, if c ≤ 0 then c else c - 1, true⟩, 200) := by
  unfold pSync PD.goes
  simp
theorem pWhole4b (la lb : List Int) : pSync ⟨[wF la, wN lb 0], 1048576, 0, false⟩ [110, 101, 119] = (⟨[wF la, wN lb 0], 1048576, 0, true⟩, 200) := rfl
theorem pWhole4c (la lb : List Int) (c : Int) (hc : 0 < c) : pSync ⟨[wF la, wN lb 0], 1048576, c, false⟩ [110, 101, 119] = (⟨[wF la, wN lb lb.length], 1048576, c - 1, false⟩, 0) := by
  have h1 : (PD.goes ⟨[wF la, wN lb 0], 1048576, c, false⟩) = ⟨[wF la, wN lb 0], 1048576, c - 1, false⟩ := by
    unfold PD.goes
    simp only [Bool.false_or]
    rw [if_neg (by omega), decide_eq_false (by omega)]
  unfold pSync
  rw [h1]
  rfl
theorem pWhole5a (la lb : List Int) : pRename ⟨[wF la, wN lb lb.length], 1048576, 0, false⟩ [110, 101, 119] [102] = (⟨[wF la, wN lb lb.length], 1048576, 0, true⟩, 200) := rfl
theorem pWhole5b (la lb : List Int) (c : Int) (hc : 0 < c) : pRename ⟨[wF la, wN lb lb.length], 1048576, c, false⟩ [110, 101, 119] [102] = (⟨[wF lb], 1048576, c - 1, false⟩, 0) := by
  have h1 : (PD.goes ⟨[wF la, wN lb lb.length], 1048576, c, false⟩) = ⟨[wF la, wN lb lb.length], 1048576, c - 1, false⟩ := by
    unfold PD.goes
    simp only [Bool.false_or]
    rw [if_neg (by omega), decide_eq_false (by omega)]
  rw [pRename_some (f := wN lb lb.length) (by rw [h1]) (by decide) rfl (by decide), h1]
  rfl
theorem wF_still (la : List Int) : isTorn (wF la) = false := by simp [isTorn, wF]
theorem pWhole6a (la : List Int) (f : PF) (c : Int) (o : Bool) (keep : Int) (lt : List Int) : pRead (pCrash ⟨[wF la, f], 1048576, c, o⟩ keep lt) [102] = (la, true) := by
  unfold pCrash pRead
  simp only [fillL, wF_still, Bool.false_eq_true, if_false]
  rfl
theorem pWhole6b (lb : List Int) (c : Int) (o : Bool) (keep : Int) (lt : List Int) : pRead (pCrash ⟨[wF lb], 1048576, c, o⟩ keep lt) [102] = (lb, true) := by
  unfold pCrash pRead
  simp only [fillL, wF_still, Bool.false_eq_true, if_false]
  rfl
set_option maxRecDepth 100000 in
set_option maxHeartbeats 2000000 in
theorem diskWhole_calls (w : World) (Aa : Option Addr) (ca : Nat) (la : List Int) (Ab : Option Addr) (cb : Nat) (lb : List Int) (u keep : Int) (At : Option Addr) (ct : Nat) (lt : List Int)
    (hra : Kd.C (Kd.int .u8) w Aa la.length la) (hca : la.length ≤ ca) (hrb : Kd.C (Kd.int .u8) w Ab lb.length lb) (hcb : lb.length ≤ cb) (hrt : Kd.C (Kd.int .u8) w At lt.length lt) (hct : lt.length ≤ ct)
    (hu1 : 0 ≤ u) (hu2 : u ≤ 255) (hk1 : -9223372036854775808 ≤ keep) (hk2 : keep ≤ 9223372036854775807) :
    Calls Try.prog 5 #[.slice Aa la.length ca, .slice Ab lb.length cb, .agg #[.int .u8 u, .int .i64 keep, .slice At lt.length ct]] w fun e w' => e = .returned (.bool true) ∧ Below w.heap.size w w' := by
  have hla := (Kd.reads_of_C (d := (0 : Int)) hra).2.1
  have hlb := (Kd.reads_of_C (d := (0 : Int)) hrb).2.1
  have hlt := (Kd.reads_of_C (d := (0 : Int)) hrt).2.1
  have RA := Aside0.mk hra
  have RB := Aside0.mk hrb
  have RT := Aside0.mk hrt
  clear hra hrb hrt
  by_cases hsm : la.length ≤ 1000 ∧ lb.length ≤ 1000 ∧ lt.length ≤ 1000
  · obtain ⟨s1, s2, s3⟩ := hsm
    have t1 : ¬ 1000 < la.length := by omega
    have t2 : ¬ 1000 < lb.length := by omega
    have t3 : ¬ 1000 < lt.length := by omega
    obtain ⟨c, hc⟩ : ∃ c, u % 6 = c := ⟨_, rfl⟩
    have hc0 : 0 ≤ c := by omega
    have hc5 : c ≤ 5 := by omega
    obtain ⟨wb, hwb⟩ : ∃ wb, wb = w.alloc (.cells #[.int .u8 u, .int .i64 keep, .slice At lt.length ct] 42) := ⟨_, rfl⟩
    have hbw : Below w.heap.size w wb := by rw [hwb]; exact (Below.refl w.heap.size w).alloc (Nat.le_refl _) _
    have RA2 := Aside0.mk (Kd.C_below RA.out hbw)
    have RB2 := Aside0.mk (Kd.C_below RB.out hbw)
    have RT2 := Aside0.mk (Kd.C_below RT.out hbw)
    have x0 : wb.cell? ⟨w.heap.size, 0, none⟩ = some (.int .u8 u) := by rw [hwb, cell_of_row _ w.heap.size 0 _ _ _ (heap_alloc_new w _)]; rfl
    have x1 : wb.cell? ⟨w.heap.size, 1, none⟩ = some (.int .i64 keep) := by rw [hwb, cell_of_row _ w.heap.size 1 _ _ _ (heap_alloc_new w _)]; rfl
    have x2 : wb.cell? ⟨w.heap.size, 2, none⟩ = some (.slice At lt.length ct) := by rw [hwb, cell_of_row _ w.heap.size 2 _ _ _ (heap_alloc_new w _)]; rfl
    have X0 := Aside0.mk (And.intro x0 (And.intro x1 x2))
    have HBW := Aside0.mk hbw
    have HWB := Aside0.mk hwb
    clear hwb hbw x0 x1 x2
    have cellB : ∀ {p : PD} {d : Nat} {W : World}, DiskAt wb p d W → W.cell? ⟨w.heap.size, 0, none⟩ = some (.int .u8 u) ∧ W.cell? ⟨w.heap.size, 1, none⟩ = some (.int .i64 keep) ∧ W.cell? ⟨w.heap.size, 2, none⟩ = some (.slice At lt.length ct) := fun h => ⟨pw_cell_below h.old X0.out.1, pw_cell_below h.old X0.out.2.1, pw_cell_below h.old X0.out.2.2⟩
    have CB := Aside0.mk @cellB
    clear cellB
    go_enter Try.func5, Try.ntmps5
    go_wp2_with fail
    rw [← HWB.out]
    refine (new_calls _ 1048576 (by omega) (by omega)).mono ?_
    rintro e w1 ⟨s0, rfl, hN0⟩
    obtain ⟨d, hd⟩ : ∃ d, d = s0.d := ⟨_, rfl⟩
    have N0 := Aside0.mk (DiskAt.of_new (Below.refl _ wb) hN0)
    rw [← hd] at N0 ⊢
    clear hN0 hd
    have x2 := (CB.out N0.out).2.2
    go_wp2_with (at_builtin; refine wpList_copy_d rfl _ _ rfl rfl Aa ca la rfl (Kd.C_below RA2.out N0.out.old) hca (by omega) ?_; intro A1 c1 w2 hY hB; have Y1 := Aside0.mk hY; have B1 := Aside0.mk hB; clear hY hB)
    refine (append_at N0.out B1.out ⟨#[102]⟩ (by decide) A1 c1 la Y1.out (by decide)).mono ?_
    rintro e w3 ⟨rfl, hO⟩
    rw [show pAppend ⟨[], 1048576, -1, false⟩ (⟨#[102]⟩ : ByteArray).data.toList la = _ from pFast1 la s1] at hO ⊢
    have O1 := Aside0.mk hO
    clear hO x2
    go_wp2_with fail
    refine (sync_at O1.out ⟨#[102]⟩ (by decide)).mono ?_
    rintro e w4 ⟨rfl, hO⟩
    rw [show pSync ⟨[⟨[102], la, 0⟩], 1048576, -1, false⟩ (⟨#[102]⟩ : ByteArray).data.toList = _ from pFast2 la] at hO ⊢
    have O2 := Aside0.mk hO
    have y0 := (CB.out hO).1
    clear hO
    go_wp2_with fail
    refine (cut_at O2.out c (by omega) (by omega)).mono ?_
    rintro e w5 ⟨rfl, hO⟩
    rw [show pCut ⟨[⟨[102], la, la.length⟩], 1048576, -1, false⟩ c = ⟨[wF la], 1048576, c, false⟩ by unfold pCut; rw [show max c (-1) = c by omega]; rfl] at hO
    have O3 := Aside0.mk hO
    clear hO y0
    rcases (by omega : c = 0 ∨ c = 1 ∨ c = 2 ∨ 3 ≤ c) with hcc | hcc | hcc | hcc
    · subst hcc
      go_wp2_with (at_builtin; refine wpList_copy_d rfl _ _ rfl rfl Ab cb lb rfl (Kd.C_below RB2.out O3.out.old) hcb (by omega) ?_; intro A2 c2 w6 hY hB; have Y2 := Aside0.mk hY; have B2 := Aside0.mk hB; clear hY hB)
      refine (append_at O3.out B2.out ⟨#[110, 101, 119]⟩ (by decide) A2 c2 lb Y2.out (by show 1 ≤ 1000000; omega)).mono ?_
      rintro e w7 ⟨rfl, hO⟩
      rw [show pAppend _ (⟨#[110, 101, 119]⟩ : ByteArray).data.toList lb = ((⟨[wF la, wN lb 0], 1048576, 0, true⟩ : PD), 200) from (pWhole3 la lb 0 s1 s2 (by omega))] at hO ⊢
      have O4 := Aside0.mk hO
      clear hO
      go_wp2_with fail
      refine (sync_at O4.out ⟨#[110, 101, 119]⟩ (by decide)).mono ?_
      rintro e w8 ⟨rfl, hO⟩
      rw [show pSync _ (⟨#[110, 101, 119]⟩ : ByteArray).data.toList = ((⟨[wF la, wN lb 0], 1048576, 0, true⟩ : PD), 200) from pWhole4a la lb 0] at hO ⊢
      have O6 := Aside0.mk hO
      clear hO
      obtain ⟨W9, rfl⟩ : ∃ W9 : World, W9 = w8 := ⟨_, rfl⟩
      obtain ⟨z0, z1, z2⟩ := CB.out O6.out
      have z1' := z1
      have z2' := z2
      have e1 : ∀ n o, ((W9.drewN n).alloc o).cell? ⟨w.heap.size, 1, none⟩ = some (.int .i64 keep) := fun n o => pw_cell_below ((pw_below_drewN (Below.refl W9.heap.size W9) n).alloc (Nat.le_refl _) o) z1
      have e2 : ∀ n o, ((W9.drewN n).alloc o).cell? ⟨w.heap.size, 2, none⟩ = some (.slice At lt.length ct) := fun n o => pw_cell_below ((pw_below_drewN (Below.refl W9.heap.size W9) n).alloc (Nat.le_refl _) o) z2
      clear z0
      go_wp2_with fail
      go_region_held3 (fun w' => w'.cell? ⟨w.heap.size, 1, none⟩ = some (.int .i64 keep) ∧ w'.cell? ⟨w.heap.size, 2, none⟩ = some (.slice At lt.length ct)) (go_keep)
        (first
          | ((refine step_copy_d (W := W9.drewN _) rfl _ _ rfl rfl At ct lt rfl (Kd.C_drewN (Kd.C_below RT2.out O6.out.old) _) hct (by omega) ?_; intro A3 c3 w10 hY hB; have Y3 := Aside0.mk hY; have B3 := Aside0.mk hB; have q1 := pw_cell_below hB z1; have q2 := pw_cell_below hB z2; clear hY hB))
          | ((go_at_call 11; refine (crash_at (O6.out.drewN _) B3.out keep hk1 hk2 A3 c3 lt Y3.out (by first | (show 2 ≤ 1000000; omega) | (show 1 ≤ 1000000; omega))).mono ?_; rintro e w11 ⟨rfl, hO⟩; have O7 := Aside0.mk hO; have q3 := (CB.out hO).2.1; have q4 := (CB.out hO).2.2; clear hO)))
      go_wp2_with fail
      refine (read_at O7.out ⟨#[102]⟩ (by decide)).mono ?_
      rintro e w12 ⟨v, rfl, hR, hO⟩
      rw [show pRead _ (⟨#[102]⟩ : ByteArray).data.toList = (la, true) from pWhole6a la _ _ _ keep lt] at hR ⊢
      obtain ⟨Ax, cx, hv, _, _⟩ := hR.slice
      subst hv
      have cx' := str_of_C hR.reads.2 rfl cx
      have ca' := str_of_C (Kd.C_below RA2.out hO.old) rfl ca
      have O8 := Aside0.mk hO
      clear hO hR
      go_wp2_with (go_at_call 8; refine (lives_calls _).mono ?_; rintro e w13 ⟨rfl, hb⟩; have BL := Aside0.mk hb; clear hb)
      go_ret
      exact ⟨rfl, (HBW.out.trans (O8.out.old.mono HBW.out.size)).trans (BL.out.mono (Nat.le_trans HBW.out.size O8.out.old.size))⟩
    · subst hcc
      go_wp2_with (at_builtin; refine wpList_copy_d rfl _ _ rfl rfl Ab cb lb rfl (Kd.C_below RB2.out O3.out.old) hcb (by omega) ?_; intro A2 c2 w6 hY hB; have Y2 := Aside0.mk hY; have B2 := Aside0.mk hB; clear hY hB)
      refine (append_at O3.out B2.out ⟨#[110, 101, 119]⟩ (by decide) A2 c2 lb Y2.out (by show 1 ≤ 1000000; omega)).mono ?_
      rintro e w7 ⟨rfl, hO⟩
      rw [show pAppend _ (⟨#[110, 101, 119]⟩ : ByteArray).data.toList lb = ((⟨[wF la, wN lb 0], 1048576, 0, false⟩ : PD), 0) from (pWhole3 la lb 1 s1 s2 (by omega))] at hO ⊢
      have O4 := Aside0.mk hO
      clear hO
      go_wp2_with fail
      refine (sync_at O4.out ⟨#[110, 101, 119]⟩ (by decide)).mono ?_
      rintro e w8 ⟨rfl, hO⟩
      rw [show pSync _ (⟨#[110, 101, 119]⟩ : ByteArray).data.toList = ((⟨[wF la, wN lb 0], 1048576, 0, true⟩ : PD), 200) from pWhole4b la lb] at hO ⊢
      have O6 := Aside0.mk hO
      clear hO
      obtain ⟨W9, rfl⟩ : ∃ W9 : World, W9 = w8 := ⟨_, rfl⟩
      obtain ⟨z0, z1, z2⟩ := CB.out O6.out
      have z1' := z1
      have z2' := z2
      have e1 : ∀ n o, ((W9.drewN n).alloc o).cell? ⟨w.heap.size, 1, none⟩ = some (.int .i64 keep) := fun n o => pw_cell_below ((pw_below_drewN (Below.refl W9.heap.size W9) n).alloc (Nat.le_refl _) o) z1
      have e2 : ∀ n o, ((W9.drewN n).alloc o).cell? ⟨w.heap.size, 2, none⟩ = some (.slice At lt.length ct) := fun n o => pw_cell_below ((pw_below_drewN (Below.refl W9.heap.size W9) n).alloc (Nat.le_refl _) o) z2
      clear z0
      go_wp2_with fail
      go_region_held3 (fun w' => w'.cell? ⟨w.heap.size, 1, none⟩ = some (.int .i64 keep) ∧ w'.cell? ⟨w.heap.size, 2, none⟩ = some (.slice At lt.length ct)) (go_keep)
        (first
          | ((refine step_copy_d (W := W9.drewN _) rfl _ _ rfl rfl At ct lt rfl (Kd.C_drewN (Kd.C_below RT2.out O6.out.old) _) hct (by omega) ?_; intro A3 c3 w10 hY hB; have Y3 := Aside0.mk hY; have B3 := Aside0.mk hB; have q1 := pw_cell_below hB z1; have q2 := pw_cell_below hB z2; clear hY hB))
          | ((go_at_call 11; refine (crash_at (O6.out.drewN _) B3.out keep hk1 hk2 A3 c3 lt Y3.out (by first | (show 2 ≤ 1000000; omega) | (show 1 ≤ 1000000; omega))).mono ?_; rintro e w11 ⟨rfl, hO⟩; have O7 := Aside0.mk hO; have q3 := (CB.out hO).2.1; have q4 := (CB.out hO).2.2; clear hO)))
      go_wp2_with fail
      refine (read_at O7.out ⟨#[102]⟩ (by decide)).mono ?_
      rintro e w12 ⟨v, rfl, hR, hO⟩
      rw [show pRead _ (⟨#[102]⟩ : ByteArray).data.toList = (la, true) from pWhole6a la _ _ _ keep lt] at hR ⊢
      obtain ⟨Ax, cx, hv, _, _⟩ := hR.slice
      subst hv
      have cx' := str_of_C hR.reads.2 rfl cx
      have ca' := str_of_C (Kd.C_below RA2.out hO.old) rfl ca
      have O8 := Aside0.mk hO
      clear hO hR
      go_wp2_with (go_at_call 8; refine (lives_calls _).mono ?_; rintro e w13 ⟨rfl, hb⟩; have BL := Aside0.mk hb; clear hb)
      go_ret
      exact ⟨rfl, (HBW.out.trans (O8.out.old.mono HBW.out.size)).trans (BL.out.mono (Nat.le_trans HBW.out.size O8.out.old.size))⟩
    · subst hcc
      go_wp2_with (at_builtin; refine wpList_copy_d rfl _ _ rfl rfl Ab cb lb rfl (Kd.C_below RB2.out O3.out.old) hcb (by omega) ?_; intro A2 c2 w6 hY hB; have Y2 := Aside0.mk hY; have B2 := Aside0.mk hB; clear hY hB)
      refine (append_at O3.out B2.out ⟨#[110, 101, 119]⟩ (by decide) A2 c2 lb Y2.out (by show 1 ≤ 1000000; omega)).mono ?_
      rintro e w7 ⟨rfl, hO⟩
      rw [show pAppend _ (⟨#[110, 101, 119]⟩ : ByteArray).data.toList lb = ((⟨[wF la, wN lb 0], 1048576, 1, false⟩ : PD), 0) from (pWhole3 la lb 2 s1 s2 (by omega))] at hO ⊢
      have O4 := Aside0.mk hO
      clear hO
      go_wp2_with fail
      refine (sync_at O4.out ⟨#[110, 101, 119]⟩ (by decide)).mono ?_
      rintro e w8 ⟨rfl, hO⟩
      rw [show pSync _ (⟨#[110, 101, 119]⟩ : ByteArray).data.toList = ((⟨[wF la, wN lb lb.length], 1048576, 0, false⟩ : PD), 0) from pWhole4c la lb 1 (by omega)] at hO ⊢
      have O5 := Aside0.mk hO
      clear hO
      go_wp2_with fail
      refine (rename_at O5.out ⟨#[110, 101, 119]⟩ ⟨#[102]⟩ (by decide) (by decide) (by show 2 ≤ 1000000; omega)).mono ?_
      rintro e w9 ⟨rfl, hO⟩
      rw [show pRename _ (⟨#[110, 101, 119]⟩ : ByteArray).data.toList (⟨#[102]⟩ : ByteArray).data.toList = ((⟨[wF la, wN lb lb.length], 1048576, 0, true⟩ : PD), 200) from pWhole5a la lb] at hO ⊢
      have O6 := Aside0.mk hO
      clear hO
      obtain ⟨W9, rfl⟩ : ∃ W9 : World, W9 = w9 := ⟨_, rfl⟩
      obtain ⟨z0, z1, z2⟩ := CB.out O6.out
      have z1' := z1
      have z2' := z2
      have e1 : ∀ n o, ((W9.drewN n).alloc o).cell? ⟨w.heap.size, 1, none⟩ = some (.int .i64 keep) := fun n o => pw_cell_below ((pw_below_drewN (Below.refl W9.heap.size W9) n).alloc (Nat.le_refl _) o) z1
      have e2 : ∀ n o, ((W9.drewN n).alloc o).cell? ⟨w.heap.size, 2, none⟩ = some (.slice At lt.length ct) := fun n o => pw_cell_below ((pw_below_drewN (Below.refl W9.heap.size W9) n).alloc (Nat.le_refl _) o) z2
      clear z0
      go_wp2_with fail
      go_region_held3 (fun w' => w'.cell? ⟨w.heap.size, 1, none⟩ = some (.int .i64 keep) ∧ w'.cell? ⟨w.heap.size, 2, none⟩ = some (.slice At lt.length ct)) (go_keep)
        (first
          | ((refine step_copy_d (W := W9.drewN _) rfl _ _ rfl rfl At ct lt rfl (Kd.C_drewN (Kd.C_below RT2.out O6.out.old) _) hct (by omega) ?_; intro A3 c3 w10 hY hB; have Y3 := Aside0.mk hY; have B3 := Aside0.mk hB; have q1 := pw_cell_below hB z1; have q2 := pw_cell_below hB z2; clear hY hB))
          | ((go_at_call 11; refine (crash_at (O6.out.drewN _) B3.out keep hk1 hk2 A3 c3 lt Y3.out (by first | (show 2 ≤ 1000000; omega) | (show 1 ≤ 1000000; omega))).mono ?_; rintro e w11 ⟨rfl, hO⟩; have O7 := Aside0.mk hO; have q3 := (CB.out hO).2.1; have q4 := (CB.out hO).2.2; clear hO)))
      go_wp2_with fail
      refine (read_at O7.out ⟨#[102]⟩ (by decide)).mono ?_
      rintro e w12 ⟨v, rfl, hR, hO⟩
      rw [show pRead _ (⟨#[102]⟩ : ByteArray).data.toList = (la, true) from pWhole6a la _ _ _ keep lt] at hR ⊢
      obtain ⟨Ax, cx, hv, _, _⟩ := hR.slice
      subst hv
      have cx' := str_of_C hR.reads.2 rfl cx
      have ca' := str_of_C (Kd.C_below RA2.out hO.old) rfl ca
      have O8 := Aside0.mk hO
      clear hO hR
      go_wp2_with (go_at_call 8; refine (lives_calls _).mono ?_; rintro e w13 ⟨rfl, hb⟩; have BL := Aside0.mk hb; clear hb)
      go_ret
      exact ⟨rfl, (HBW.out.trans (O8.out.old.mono HBW.out.size)).trans (BL.out.mono (Nat.le_trans HBW.out.size O8.out.old.size))⟩
    · have hs3 : pAppend ⟨[wF la], 1048576, c, false⟩ [110, 101, 119] lb = (⟨[wF la, wN lb 0], 1048576, c - 1, false⟩, 0) := by rw [pWhole3 la lb c s1 s2 hc0, if_neg (by omega), decide_eq_false (by omega), if_neg (by omega)]
      go_wp2_with (at_builtin; refine wpList_copy_d rfl _ _ rfl rfl Ab cb lb rfl (Kd.C_below RB2.out O3.out.old) hcb (by omega) ?_; intro A2 c2 w6 hY hB; have Y2 := Aside0.mk hY; have B2 := Aside0.mk hB; clear hY hB)
      refine (append_at O3.out B2.out ⟨#[110, 101, 119]⟩ (by decide) A2 c2 lb Y2.out (by show 1 ≤ 1000000; omega)).mono ?_
      rintro e w7 ⟨rfl, hO⟩
      rw [show pAppend _ (⟨#[110, 101, 119]⟩ : ByteArray).data.toList lb = ((⟨[wF la, wN lb 0], 1048576, c - 1, false⟩ : PD), 0) from hs3] at hO ⊢
      have O4 := Aside0.mk hO
      clear hO
      go_wp2_with fail
      refine (sync_at O4.out ⟨#[110, 101, 119]⟩ (by decide)).mono ?_
      rintro e w8 ⟨rfl, hO⟩
      rw [show pSync _ (⟨#[110, 101, 119]⟩ : ByteArray).data.toList = ((⟨[wF la, wN lb lb.length], 1048576, c - 1 - 1, false⟩ : PD), 0) from pWhole4c la lb (c - 1) (by omega)] at hO ⊢
      have O5 := Aside0.mk hO
      clear hO
      go_wp2_with fail
      refine (rename_at O5.out ⟨#[110, 101, 119]⟩ ⟨#[102]⟩ (by decide) (by decide) (by show 2 ≤ 1000000; omega)).mono ?_
      rintro e w9 ⟨rfl, hO⟩
      rw [show pRename _ (⟨#[110, 101, 119]⟩ : ByteArray).data.toList (⟨#[102]⟩ : ByteArray).data.toList = ((⟨[wF lb], 1048576, c - 1 - 1 - 1, false⟩ : PD), 0) from pWhole5b la lb (c - 1 - 1) (by omega)] at hO ⊢
      have O6 := Aside0.mk hO
      clear hO
      obtain ⟨W9, rfl⟩ : ∃ W9 : World, W9 = w9 := ⟨_, rfl⟩
      obtain ⟨z0, z1, z2⟩ := CB.out O6.out
      have z1' := z1
      have z2' := z2
      have e1 : ∀ n o, ((W9.drewN n).alloc o).cell? ⟨w.heap.size, 1, none⟩ = some (.int .i64 keep) := fun n o => pw_cell_below ((pw_below_drewN (Below.refl W9.heap.size W9) n).alloc (Nat.le_refl _) o) z1
      have e2 : ∀ n o, ((W9.drewN n).alloc o).cell? ⟨w.heap.size, 2, none⟩ = some (.slice At lt.length ct) := fun n o => pw_cell_below ((pw_below_drewN (Below.refl W9.heap.size W9) n).alloc (Nat.le_refl _) o) z2
      clear z0
      go_wp2_with fail
      go_region_held3 (fun w' => w'.cell? ⟨w.heap.size, 1, none⟩ = some (.int .i64 keep) ∧ w'.cell? ⟨w.heap.size, 2, none⟩ = some (.slice At lt.length ct)) (go_keep)
        (first
          | ((refine step_copy_d (W := W9.drewN _) rfl _ _ rfl rfl At ct lt rfl (Kd.C_drewN (Kd.C_below RT2.out O6.out.old) _) hct (by omega) ?_; intro A3 c3 w10 hY hB; have Y3 := Aside0.mk hY; have B3 := Aside0.mk hB; have q1 := pw_cell_below hB z1; have q2 := pw_cell_below hB z2; clear hY hB))
          | ((go_at_call 11; refine (crash_at (O6.out.drewN _) B3.out keep hk1 hk2 A3 c3 lt Y3.out (by first | (show 2 ≤ 1000000; omega) | (show 1 ≤ 1000000; omega))).mono ?_; rintro e w11 ⟨rfl, hO⟩; have O7 := Aside0.mk hO; have q3 := (CB.out hO).2.1; have q4 := (CB.out hO).2.2; clear hO)))
      go_wp2_with fail
      refine (read_at O7.out ⟨#[102]⟩ (by decide)).mono ?_
      rintro e w12 ⟨v, rfl, hR, hO⟩
      rw [show pRead _ (⟨#[102]⟩ : ByteArray).data.toList = (lb, true) from pWhole6b lb _ _ keep lt] at hR ⊢
      obtain ⟨Ax, cx, hv, _, _⟩ := hR.slice
      subst hv
      have cx' := str_of_C hR.reads.2 rfl cx
      have ca' := str_of_C (Kd.C_below RB2.out hO.old) rfl cb
      have O8 := Aside0.mk hO
      clear hO hR
      go_wp2_with (go_at_call 8; refine (lives_calls _).mono ?_; rintro e w13 ⟨rfl, hb⟩; have BL := Aside0.mk hb; clear hb)
      go_ret
      exact ⟨rfl, (HBW.out.trans (O8.out.old.mono HBW.out.size)).trans (BL.out.mono (Nat.le_trans HBW.out.size O8.out.old.size))⟩
  · by_cases t1 : 1000 < la.length
    · clear hsm
      go_enter Try.func5, Try.ntmps5
      go_wp2_with fail
      refine (new_calls _ 1048576 (by omega) (by omega)).mono ?_
      rintro e w1 ⟨s0, rfl, hN0⟩
      have N0 := Aside0.mk (((Below.refl w.heap.size w).alloc (Nat.le_refl _) _).trans (hN0.below.mono (by simp)))
      clear hN0
      go_wp2_with (go_at_call 8; refine (lives_calls _).mono ?_; rintro e w11 ⟨rfl, hb⟩; have BL := Aside0.mk hb; clear hb)
      go_ret
      exact ⟨rfl, N0.out.trans (BL.out.mono N0.out.size)⟩
    · by_cases t2 : 1000 < lb.length
      · clear hsm
        go_enter Try.func5, Try.ntmps5
        go_wp2_with fail
        refine (new_calls _ 1048576 (by omega) (by omega)).mono ?_
        rintro e w1 ⟨s0, rfl, hN0⟩
        have N0 := Aside0.mk (((Below.refl w.heap.size w).alloc (Nat.le_refl _) _).trans (hN0.below.mono (by simp)))
        clear hN0
        go_wp2_with (go_at_call 8; refine (lives_calls _).mono ?_; rintro e w11 ⟨rfl, hb⟩; have BL := Aside0.mk hb; clear hb)
        go_ret
        exact ⟨rfl, N0.out.trans (BL.out.mono N0.out.size)⟩
      · have t3 : 1000 < lt.length := by omega
        clear hsm
        go_enter Try.func5, Try.ntmps5
        go_wp2_with fail
        refine (new_calls _ 1048576 (by omega) (by omega)).mono ?_
        rintro e w1 ⟨s0, rfl, hN0⟩
        have N0 := Aside0.mk (((Below.refl w.heap.size w).alloc (Nat.le_refl _) _).trans (hN0.below.mono (by simp)))
        have x2 : w1.cell? ⟨w.heap.size, 2, none⟩ = some (.slice At lt.length ct) := pw_cell_below hN0.below (by rw [cell_of_row _ w.heap.size 2 _ _ _ (heap_alloc_new w _)]; rfl)
        clear hN0
        go_wp2_with (go_at_call 8; refine (lives_calls _).mono ?_; rintro e w11 ⟨rfl, hb⟩; have BL := Aside0.mk hb; clear hb)
        go_ret
        exact ⟨rfl, N0.out.trans (BL.out.mono N0.out.size)⟩
end Go.Proofs.Ytlbeehefandfhaa.Pr
