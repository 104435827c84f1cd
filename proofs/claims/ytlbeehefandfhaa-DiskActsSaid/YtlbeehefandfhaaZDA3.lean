/- A part of the proof of the law that RowDiskActs shows: lemmas, and contracts of the calls that it reaches. -/
import Derived.Test.YtlbeehefandfhaaProg
import Derived.Below
import Derived.Deep.Draws
import Derived.Deep.AppendLies
import Derived.Maps.AppendAt
import Derived.OwnWalk
import Derived.Laws.BytesArg
import Derived.Laws.MakeOwn
import Derived.Laws.OwnMore
import Derived.Deep.OwnRows
import Derived.Tactics
import Derived.Lib.ConvBytes
import Derived.Laws.Slices
import Derived.WalkKit
import Derived.KernelRfl
import Derived.RowKit3
import Derived.Deep.LoopGhost
import Derived.Deep.QuietTactic
import Derived.BigQuiet
import Derived.WideLaws
import Derived.Deep.DeepCutAuto
import Derived.Deep.CutBlock
import Derived.Deep.RegionHeld3
import Derived.Laws.Rows
import Derived.Lib.AppendStr
import Derived.ArgAppend
import Derived.Laws.IdiomCopy
import Derived.OrdersHeld
import Derived.Laws.BitsLemmas
import Derived.RowKit
import Derived.Test.YtlbeehefandfhaaZDA0
import Derived.Test.YtlbeehefandfhaaZDA2
import Derived.BigRegion
import Derived.Deep.RegionLaw
set_option linter.unusedVariables false
set_option linter.unusedSimpArgs false
section
namespace Go.Proofs.Ytlbeehefandfhaa.Pr
open Go.RowKit Go.Maps Go.Sort Go.Proofs.YtlbeehefandfhaaW.PrintWords Go.Proofs.YtlbeehefandfhaaW.PrintLast Go.Proofs.YtlbeehefandfhaaW.PrintMore
def wF (la : List Int) : PF := ⟨[102], la, la.length⟩
def wN (lb : List Int) (n : Nat) : PF := ⟨[110, 101, 119], lb, n⟩
end Go.Proofs.Ytlbeehefandfhaa.Pr
end
section
namespace Go.Proofs.Ytlbeehefandfhaa.Pr
open Go.RowKit Go.Maps Go.Sort Go.Proofs.YtlbeehefandfhaaW.PrintWords Go.Proofs.YtlbeehefandfhaaW.PrintLast Go.Proofs.YtlbeehefandfhaaW.PrintMore
theorem pTruncate_out {s : PD} {n : List UInt8} {k : Int} (h : s.goes.out = true) : pTruncate s n k = (s.goes, 200) := by unfold pTruncate; rw [h]; rfl
theorem pTruncate_none {s : PD} {n : List UInt8} {k : Int} (h : s.goes.out = false) (hg : getP n s.F = none) : pTruncate s n k = (s.goes, 5) := by unfold pTruncate; rw [h, hg]; rfl
theorem pTruncate_bad {s : PD} {n : List UInt8} {k : Int} {f : PF} (h : s.goes.out = false) (hg : getP n s.F = some f) (hk : k < 0 ∨ k > f.bs.length) : pTruncate s n k = (s.goes, 1) := by unfold pTruncate; rw [h, hg]; simp only [Bool.false_eq_true, if_false]; rw [if_pos hk]
theorem pTruncate_some {s : PD} {n : List UInt8} {k : Int} {f : PF} (h : s.goes.out = false) (hg : getP n s.F = some f) (hk : ¬ (k < 0 ∨ k > f.bs.length)) : pTruncate s n k = ({ s.goes with F := updP n (fun f => { f with bs := f.bs.take k.toNat, fast := min f.fast k.toNat }) s.F }, 0) := by unfold pTruncate; rw [h, hg]; simp only [Bool.false_eq_true, if_false]; rw [if_neg hk]
set_option maxRecDepth 100000 in
set_option maxHeartbeats 1600000 in
theorem truncate_calls (w : World) (B : Nat) (s : DiskM) (h : DiskIs w B s) (g : Good s) (nm : ByteArray) (hs : nm.size ≤ maxLen) (k : Int) (hk1 : -9223372036854775808 ≤ k) (hk2 : k ≤ 9223372036854775807) :
    Calls Try.prog 14 #[.pointer (some ⟨s.d, 0, none⟩), .string nm, .int .i64 k] w (OpPost w B s (pTruncate s.abs nm.data.toList k)) := by
  have hat := at_calls w B s h g nm hs
  have HAT := Aside0.mk hat
  have G := Aside0.mk g
  clear hat h g
  cases ho : s.goes.out with
  | true =>
    have HP := Aside0.mk (pTruncate_out (s := s.abs) (n := nm.data.toList) (k := k) (by rw [← abs_goes]; exact ho))
    have hP : atP s nm.data.toList = .pointer none := by unfold atP; rw [ho]; rfl
    have hE : atE s nm.data.toList = 200 := by unfold atE; rw [ho]; rfl
    have HPP := Aside0.mk hP
    have HE := Aside0.mk hE
    clear ho hP hE
    go_enter Try.func14, Try.ntmps14
    go_wp2_with (go_at_call 22; refine HAT.out.mono ?_; rintro e w1 ⟨he, hD, hS⟩; rw [HPP.out, HE.out] at he; subst he; have HD := Aside0.mk hD; have HS := Aside0.mk hS; clear hD hS)
    go_ret
    rw [HP.out]
    exact ⟨rfl, _, OpDone.goes HD.out HS.out G.out rfl⟩
  | false =>
    cases hg : getF nm.data.toList s.L with
    | none =>
      have HP := Aside0.mk (pTruncate_none (s := s.abs) (n := nm.data.toList) (k := k) (by rw [← abs_goes]; exact ho) (getP_none hg))
      have hP : atP s nm.data.toList = .pointer none := by unfold atP; rw [ho, hg]; rfl
      have hE : atE s nm.data.toList = 5 := by unfold atE; rw [ho, hg]; rfl
      have HPP := Aside0.mk hP
      have HE := Aside0.mk hE
      clear ho hP hE hg
      go_enter Try.func14, Try.ntmps14
      go_wp2_with (go_at_call 22; refine HAT.out.mono ?_; rintro e w1 ⟨he, hD, hS⟩; rw [HPP.out, HE.out] at he; subst he; have HD := Aside0.mk hD; have HS := Aside0.mk hS; clear hD hS)
      go_ret
      rw [HP.out]
      exact ⟨rfl, _, OpDone.goes HD.out HS.out G.out rfl⟩
    | some f =>
      have hP : atP s nm.data.toList = .pointer (some ⟨f.p, 0, none⟩) := by unfold atP; rw [ho, hg]; rfl
      have hE : atE s nm.data.toList = 0 := by unfold atE; rw [ho, hg]; rfl
      have HPP := Aside0.mk hP
      have HE := Aside0.mk hE
      have HM := Aside0.mk (show f ∈ s.goes.L from List.mem_of_find?_eq_some hg)
      obtain ⟨b0, b1⟩ := bs_le G.out.goes HM.out
      have b2 := G.out.goes.u1
      have b3 := G.out.goes.s1
      have hb : f.bs.length ≤ 67108864 := by omega
      by_cases hk : k < 0 ∨ k > f.bs.length
      · have HP := Aside0.mk (pTruncate_bad (s := s.abs) (n := nm.data.toList) (k := k) (by rw [← abs_goes]; exact ho) (getP_at hg) hk)
        clear ho hP hE hg b0 b1 b2 b3
        by_cases hn : k < 0
        · clear hk
          go_enter Try.func14, Try.ntmps14
          go_wp2_with (go_at_call 22; refine HAT.out.mono ?_; rintro e w1 ⟨he, hD, hS⟩; rw [HPP.out, HE.out] at he; subst he; have HD := Aside0.mk hD; have HS := Aside0.mk hS; clear hD hS)
          go_ret
          rw [HP.out]
          exact ⟨rfl, _, OpDone.goes HD.out HS.out G.out rfl⟩
        · have hn2 : (f.bs.length : Int) < k := by omega
          clear hk
          go_enter Try.func14, Try.ntmps14
          go_wp2_with (go_at_call 22; refine HAT.out.mono ?_; rintro e w1 ⟨he, hD, hS⟩; rw [HPP.out, HE.out] at he; subst he; have HD := Aside0.mk hD; have HS := Aside0.mk hS; have hF := hD.file f HM.out; obtain ⟨Af, cf, hv, hcf, hcm⟩ := hF.row.slice; have f0 := hF.c0; rw [hv] at f0; clear hD hS hF hv)
          go_ret
          rw [HP.out]
          exact ⟨rfl, _, OpDone.goes HD.out HS.out G.out rfl⟩
      · obtain ⟨m, rfl⟩ : ∃ m : Nat, k = (m : Int) := ⟨k.toNat, by omega⟩
        have hml : m ≤ f.bs.length := by omega
        obtain ⟨L1, L2, hL, hfn, hL1⟩ := getF_some hg
        have HP := Aside0.mk ((pTruncate_some (s := s.abs) (n := nm.data.toList) (k := (m : Int)) (by rw [← abs_goes]; exact ho) (getP_at hg) hk).trans (by rw [abs_at hL hfn hL1]))
        have HL := Aside0.mk hL
        have BB := Aside0.mk (And.intro b0 (And.intro b1 b2))
        have n1 : ¬ (m : Int) < 0 := by omega
        have n2 : ¬ (f.bs.length : Int) < (m : Int) := by omega
        have u1 : (f.bs.length : Int) ≤ s.used := b0
        have u2 : s.used ≤ s.size := b2
        have u3 : s.size ≤ 67108864 := b3
        clear ho hP hE hg hL hfn hL1 hk b0 b2 b3
        go_enter Try.func14, Try.ntmps14
        go_wp2_with (
           go_at_call 22; refine HAT.out.mono ?_; rintro e w1 ⟨he, hD, hS⟩; rw [HPP.out, HE.out] at he; subst he; have HD := Aside0.mk hD; have HS := Aside0.mk hS; have hF := hD.file f HM.out; obtain ⟨Af, cf, hv, hcf, hcm⟩ := hF.row.slice; have f0 := hF.c0; rw [hv] at f0
           have f1 := hF.c1; have g0 := hF.fz 0; have g1 := hF.fz 1
           have q2 : w1.cell? ⟨s.d, 2, none⟩ = some (.int .i64 s.used) := hD.c2
           have q3 : w1.frozen? ⟨s.d, 2, none⟩ = false := hD.fz 2
           have hdf : ¬ s.d = f.p := fun e => hD.df HM.out e.symm
           have hfd : ¬ f.p = s.d := fun e => hD.df HM.out e
           have HV := Aside0.mk hv
           clear hD hS hF hv)
        go_region
        go_wp2_with fail
        obtain ⟨W, hW⟩ : ∃ W : World, W = (w1.setCell ⟨s.d, 2, none⟩ (.int .i64 (s.used - ((f.bs.length : Int) - m)))).drew := ⟨_, rfl⟩
        have hWf : W.heap[f.p]? = w1.heap[f.p]? := by rw [hW]; exact Below.heap_setCell w1 ⟨s.d, 2, none⟩ _ _ hfd
        have y0 : W.cell? ⟨f.p, 0, none⟩ = some (.slice Af f.bs.length cf) := (World.cell?_of_block (a := ⟨f.p, 0, none⟩) hWf).trans f0
        have y1 : W.cell? ⟨f.p, 1, none⟩ = some (.int .i64 (f.fast : Int)) := (World.cell?_of_block (a := ⟨f.p, 1, none⟩) hWf).trans f1
        have y2 : W.frozen? ⟨f.p, 0, none⟩ = false := (World.frozen?_of_block (a := ⟨f.p, 0, none⟩) hWf).trans g0
        have y3 : W.frozen? ⟨f.p, 1, none⟩ = false := (World.frozen?_of_block (a := ⟨f.p, 1, none⟩) hWf).trans g1
        rw [← hW]
        have HW := Aside0.mk hW
        clear hW hWf f0 f1 g0 g1 q2 q3
        go_region
        go_wp2
        go_ret
        rw [HP.out]
        have hD := HD.out
        have hF := hD.file f HM.out
        have hlen : (f.bs.take m).length = m := by rw [List.length_take]; omega
        have hWd : W.heap[s.d]? = some (.cells #[.map (some s.m), .int .i64 s.size, .int .i64 (s.used - ((f.bs.length : Int) - m)), .int .i64 s.goes.calls, .bool s.goes.out] 58 (0, 0)) := by
          rw [HW.out]
          exact (blk_set hD.head 2 _).trans rfl
        have hWo : ∀ k, k ≠ s.d → W.heap[k]? = w1.heap[k]? := fun k hk => by rw [HW.out]; exact Below.heap_setCell w1 ⟨s.d, 2, none⟩ _ _ hk
        have hme : (min (f.fast : Int) (m : Int)) = ((min f.fast m : Nat) : Int) := by omega
        rw [hme]
        refine ⟨rfl, _, OpDone.upd (f' := { f with v := .slice Af m cf, bs := f.bs.take m, fast := min f.fast m }) HS.out rfl rfl hD G.out.goes HL.out rfl rfl rfl (by show min f.fast m ≤ (f.bs.take m).length; rw [hlen]; omega) (by show s.used - (f.bs.length : Int) + ((f.bs.take m).length : Int) ≤ s.size; rw [hlen]; omega) ?_ ⟨hF.pB, ?_, ?_⟩ (fun k hk => .inl ?_) (fun F hF' => ?_) ?_⟩
        · show ((W.setCell ⟨f.p, 0, none⟩ (.slice Af m cf)).setCell ⟨f.p, 1, none⟩ _).heap[s.d]? = _
          rw [Below.heap_setCell _ _ _ _ hdf, Below.heap_setCell _ _ _ _ hdf, hWd]
          have he : s.used - ((f.bs.length : Int) - m) = s.used - (f.bs.length : Int) + ((f.bs.take m).length : Int) := by rw [hlen]; omega
          rw [he]
          rfl
        · have h1 := blk_set ((hWo f.p hfd).trans hF.head) 0 (.slice Af m cf)
          exact (blk_set h1 1 _).trans rfl
        · have hr := hF.row
          rw [HV.out] at hr
          refine (hr.cut m cf hml (by omega) (Nat.le_refl _)).move fun k hk => ?_
          have hfk : f.v.ownBlock = some k := by
            rw [HV.out]
            cases Af with
            | none => simp [Value.ownBlock] at hk
            | some a => simpa [Value.ownBlock] using hk
          have hkf : k ≠ f.p := hD.fr HM.out HM.out hfk
          show ((W.setCell ⟨f.p, 0, none⟩ (.slice Af m cf)).setCell ⟨f.p, 1, none⟩ _).heap[k]? = _
          rw [Below.heap_setCell _ _ _ _ hkf, Below.heap_setCell _ _ _ _ hkf]
          exact hWo k (hD.dr HM.out hfk)
        · rw [HV.out]
          cases Af with
          | none => simp [Value.ownBlock] at hk
          | some a => simpa [Value.ownBlock] using hk
        · have hMW : Moved F w1 W := by rw [HW.out]; exact ((Moved.refl F w1).setCell (.inl (hF' _ (.inl rfl))) _).drewN 1
          exact (((hMW.setCell (.inl (hF' _ (.inr (.inl rfl)))) _).setCell (.inl (hF' _ (.inr (.inl rfl)))) _).drewN 1)
        · show (⟨(L1 ++ _ :: L2).map absF, _, _, _⟩ : PD) = _
          rw [List.map_append, List.map_cons]
          rfl
end Go.Proofs.Ytlbeehefandfhaa.Pr
end
section
namespace Go.Proofs.Ytlbeehefandfhaa.Pr
open Go.RowKit Go.Maps Go.Sort Go.Proofs.YtlbeehefandfhaaW.PrintWords Go.Proofs.YtlbeehefandfhaaW.PrintLast Go.Proofs.YtlbeehefandfhaaW.PrintMore
theorem DiskAt.wf {w0 w : World} {p : PD} {d : Nat} (h : DiskAt w0 p d w) : WF p := by
  obtain ⟨s, h1, h2, h3, h4, h5⟩ := h
  rw [← h3]
  exact h2.wf
structure Calm (p : PD) (size : Int) (n : Nat) : Prop where
  size : p.size = size
  calls : p.calls = -1
  out : p.out = false
  many : p.F.length ≤ n
theorem Calm.goes {p : PD} {size : Int} {n : Nat} (h : Calm p size n) : p.goes = p := by
  unfold PD.goes
  rw [h.calls, h.out]
  have e : p = ⟨p.F, p.size, p.calls, p.out⟩ := rfl
  rw [e, h.calls, h.out]
  rfl
theorem updP_length (n : List UInt8) (g : PF → PF) : ∀ L : List PF, (updP n g L).length = L.length
  | [] => rfl
  | f :: r => by
    unfold updP
    split
    · rfl
    · simp [updP_length n g r]
end Go.Proofs.Ytlbeehefandfhaa.Pr
end
section
namespace Go.Proofs.Ytlbeehefandfhaa.Pr
open Go.RowKit Go.Maps Go.Sort Go.Proofs.YtlbeehefandfhaaW.PrintWords Go.Proofs.YtlbeehefandfhaaW.PrintLast Go.Proofs.YtlbeehefandfhaaW.PrintMore
structure FileR where
  name : ByteArray
  v : Value
  bs : List Int
  fast : Nat
structure RefM where
  d : Nat
  A : Value
  L : List FileR
  size : Int
  calls : Int
  out : Bool
def fcells (f : FileR) : List Value := [.string f.name, f.v, .int .i64 f.fast]
def rcells (L : List FileR) : List Value := L.flatMap fcells
theorem rcells_cons (f : FileR) (L : List FileR) : rcells (f :: L) = .string f.name :: f.v :: .int .i64 f.fast :: rcells L := rfl
theorem rcells_append (L M : List FileR) : rcells (L ++ M) = rcells L ++ rcells M := List.flatMap_append
theorem rcells_length : ∀ L : List FileR, (rcells L).length = L.length * 3
  | [] => rfl
  | f :: r => by rw [rcells_cons, List.length_cons, List.length_cons, List.length_cons, rcells_length r, List.length_cons]; omega
theorem rcells_at (L M : List FileR) (f : FileR) (j : Nat) (hj : j < 3) : (rcells (L ++ f :: M))[L.length * 3 + j]? = (fcells f)[j]? := by
  rw [rcells_append, List.getElem?_append_right (by rw [rcells_length]; omega), rcells_length, Nat.add_sub_cancel_left, show rcells (f :: M) = fcells f ++ rcells M from rfl, List.getElem?_append_left (by show j < 3; exact hj)]
theorem rcells_set1 (L M : List FileR) (f : FileR) (v : Value) (bs : List Int) : (rcells (L ++ f :: M)).set (L.length * 3 + 1) v = rcells (L ++ { f with v := v, bs := bs } :: M) := by
  rw [rcells_append, rcells_append, List.set_append_right _ _ (by rw [rcells_length]; omega), rcells_length, Nat.add_sub_cancel_left]
  rfl
theorem rcells_set2 (L M : List FileR) (f : FileR) (n : Nat) : (rcells (L ++ f :: M)).set (L.length * 3 + 2) (.int .i64 n) = rcells (L ++ { f with fast := n } :: M) := by
  rw [rcells_append, rcells_append, List.set_append_right _ _ (by rw [rcells_length]; omega), rcells_length, Nat.add_sub_cancel_left]
  rfl
def cellsR (r : RefM) : Array Value := #[r.A, .int .i64 r.size, .int .i64 r.calls, .bool r.out]
def FootR (r : RefM) (k : Nat) : Prop := k = r.d ∨ r.A.ownBlock = some k ∨ ∃ f ∈ r.L, f.v.ownBlock = some k
structure RefIs (w : World) (B : Nat) (r : RefM) : Prop where
  dB : B ≤ r.d
  head : w.heap[r.d]? = some (.cells (cellsR r) 50 (0, 0))
  row : w.ownsRow B 71 3 r.A r.L.length (rcells r.L)
  file : ∀ f ∈ r.L, DRow w B f.v f.bs
def absR (f : FileR) : PF := ⟨f.name.data.toList, f.bs, f.fast⟩
def RefM.abs (r : RefM) : PD := ⟨r.L.map absR, r.size, r.calls, r.out⟩
def RefM.goes (r : RefM) : RefM := { r with calls := if r.calls ≤ 0 then r.calls else r.calls - 1, out := r.out || decide (r.calls = 0) }
theorem absR_goes (r : RefM) : r.goes.abs = r.abs.goes := rfl
structure StepR (w : World) (r : RefM) (w' : World) (r' : RefM) : Prop where
  moved : Moved (FootR r) w w'
  foot : ∀ k, FootR r' k → FootR r k ∨ w.heap.size ≤ k
theorem StepR.refl (w : World) (r : RefM) : StepR w r w r := ⟨Moved.refl _ w, fun k hk => .inl hk⟩
theorem StepR.trans {w w1 w2 : World} {r r1 r2 : RefM} (h : StepR w r w1 r1) (k : StepR w1 r1 w2 r2) : StepR w r w2 r2 :=
  ⟨h.moved.trans k.moved h.foot, fun i hi => by
    rcases k.foot i hi with h1 | h1
    · exact h.foot i h1
    · exact .inr (Nat.le_trans h.moved.size h1)⟩
section
variable {w w' : World} {B : Nat} {r r' : RefM}
theorem ownsRow_typed {e : TypeId} {sz : Nat} {v : Value} {n : Nat} {xs : List Value} (h : w.ownsRow B e sz v n xs) {k : Nat} (hk : v.ownBlock = some k) : B ≤ k ∧ k < w.heap.size ∧ ∃ cur, w.heap[k]? = some (.cells cur e (0, 0)) := by
  rcases h.2 with ⟨rfl, _⟩ | ⟨g, cap, cur, rfl, hb, hg, _⟩
  · simp [Value.ownBlock] at hk
  · have : g = k := by simpa [Value.ownBlock] using hk
    subst this
    exact ⟨hb, (Array.getElem?_eq_some_iff.1 hg).1, cur, hg⟩
theorem ownsRow_move {e : TypeId} {sz : Nat} {v : Value} {n : Nat} {xs : List Value} (h : w.ownsRow B e sz v n xs) (hm : ∀ k, v.ownBlock = some k → w'.heap[k]? = w.heap[k]?) : w'.ownsRow B e sz v n xs := by
  refine ⟨h.1, ?_⟩
  rcases h.2 with hn | ⟨g, cap, cur, rfl, hb, hg, rest⟩
  · exact .inl hn
  · exact .inr ⟨g, cap, cur, rfl, hb, (hm g (by simp [Value.ownBlock])).trans hg, rest⟩
theorem RefIs.foot (h : RefIs w B r) {k : Nat} (hk : FootR r k) : B ≤ k ∧ k < w.heap.size := by
  rcases hk with rfl | hk | ⟨f, hf, hk⟩
  · exact ⟨h.dB, (Array.getElem?_eq_some_iff.1 h.head).1⟩
  · have := ownsRow_typed h.row hk; exact ⟨this.1, this.2.1⟩
  · have := (h.file f hf).typed k hk; exact ⟨this.1, this.2.1⟩
theorem RefIs.le (h : RefIs w B r) : B ≤ w.heap.size := by have := h.foot (k := r.d) (.inl rfl); omega
theorem StepR.below (k : StepR w r w' r') (h : RefIs w B r) : Below B w w' := k.moved.below (fun i hi => (h.foot hi).1) h.le
theorem RefIs.move (h : RefIs w B r) (hm : ∀ k, FootR r k → w'.heap[k]? = w.heap[k]?) : RefIs w' B r :=
  ⟨h.dB, (hm _ (.inl rfl)).trans h.head, ownsRow_move h.row (fun k hk => hm _ (.inr (.inl hk))), fun f hf => (h.file f hf).move (fun k hk => hm _ (.inr (.inr ⟨f, hf, hk⟩)))⟩
theorem RefIs.below (h : RefIs w B r) (hb : Below w.heap.size w w') : RefIs w' B r := h.move fun k hk => hb.block k (h.foot hk).2
theorem RefIs.drewN (h : RefIs w B r) (n : Nat) : RefIs (w.drewN n) B r := h.move fun _ _ => rfl
theorem RefIs.alloc (h : RefIs w B r) (o : Obj) : RefIs (w.alloc o) B r := h.move fun k hk => Below.heap_alloc w o k (h.foot hk).2
theorem RefIs.dr (h : RefIs w B r) {k : Nat} (hk : r.A.ownBlock = some k) : k ≠ r.d := fun e => by
  obtain ⟨_, _, cur, hc⟩ := ownsRow_typed h.row hk
  rw [e, h.head] at hc
  injection hc with hc
  injection hc with _ hc
  cases hc
theorem RefIs.df (h : RefIs w B r) {f : FileR} (hf : f ∈ r.L) {k : Nat} (hk : f.v.ownBlock = some k) : k ≠ r.d := fun e => by
  obtain ⟨_, _, cur, hc⟩ := (h.file f hf).typed k hk
  rw [e, h.head] at hc
  injection hc with hc
  injection hc with _ hc
  cases hc
theorem RefIs.rf (h : RefIs w B r) {f : FileR} (hf : f ∈ r.L) {k g : Nat} (hk : f.v.ownBlock = some k) (hg : r.A.ownBlock = some g) : k ≠ g := fun e => by
  subst e
  obtain ⟨_, _, cur, hc⟩ := (h.file f hf).typed k hk
  obtain ⟨_, _, cur', hc'⟩ := ownsRow_typed h.row hg
  rw [hc'] at hc
  injection hc with hc
  injection hc with _ hc
  cases hc
theorem RefIs.c0 (h : RefIs w B r) : w.cell? ⟨r.d, 0, none⟩ = some r.A := by rw [cell_of_row w r.d 0 _ _ _ h.head]; rfl
theorem RefIs.c1 (h : RefIs w B r) : w.cell? ⟨r.d, 1, none⟩ = some (.int .i64 r.size) := by rw [cell_of_row w r.d 1 _ _ _ h.head]; rfl
theorem RefIs.c2 (h : RefIs w B r) : w.cell? ⟨r.d, 2, none⟩ = some (.int .i64 r.calls) := by rw [cell_of_row w r.d 2 _ _ _ h.head]; rfl
theorem RefIs.c3 (h : RefIs w B r) : w.cell? ⟨r.d, 3, none⟩ = some (.bool r.out) := by rw [cell_of_row w r.d 3 _ _ _ h.head]; rfl
theorem RefIs.fz (h : RefIs w B r) (j : Nat) : w.frozen? ⟨r.d, j, none⟩ = false := blk_frozen h.head _
theorem RefIs.slice (h : RefIs w B r) : ∃ A c, r.A = .slice A r.L.length c ∧ r.L.length ≤ c ∧ c ≤ maxLen := by
  rcases h.row.2 with ⟨e, hn⟩ | ⟨g, cap, cur, e, _, _, h1, h2, _⟩
  · exact ⟨none, 0, by rw [e, hn], by omega, Nat.zero_le _⟩
  · exact ⟨_, cap, e, h1, h2⟩
theorem RefIs.at (h : RefIs w B r) {L M : List FileR} {f : FileR} (hL : r.L = L ++ f :: M) :
    ∃ g c, r.A = .slice (some ⟨g, 0, none⟩) r.L.length c ∧ r.L.length ≤ c ∧ w.cell? ⟨g, L.length * 3, none⟩ = some (.string f.name) ∧ w.cell? ⟨g, L.length * 3 + 1, none⟩ = some f.v ∧ w.cell? ⟨g, L.length * 3 + 2, none⟩ = some (.int .i64 f.fast) ∧ (∀ j, w.frozen? ⟨g, j, none⟩ = false) ∧ r.L.length ≤ maxLen := by
  rcases h.row.2 with ⟨e, hn⟩ | ⟨g, cap, cur, e, _, _, h1, h2, _⟩
  · rw [hL] at hn; simp at hn
  · have hrow := h.row
    rw [e] at hrow
    have hlt : L.length < r.L.length := by rw [hL]; simp
    have hc : ∀ j, j < 3 → w.cell? ⟨g, L.length * 3 + j, none⟩ = (fcells f)[j]? := fun j hj => by
      rw [hrow.cellAt _ (by omega)]
      rw [hL]
      exact rcells_at L M f j hj
    exact ⟨g, cap, e, h1, hc 0 (by omega), hc 1 (by omega), hc 2 (by omega), fun j => hrow.frozenAt j, by omega⟩
end
end Go.Proofs.Ytlbeehefandfhaa.Pr
end
section
namespace Go.Proofs.Ytlbeehefandfhaa.Pr
open Go.RowKit Go.Maps Go.Sort Go.Proofs.YtlbeehefandfhaaW.PrintWords Go.Proofs.YtlbeehefandfhaaW.PrintLast Go.Proofs.YtlbeehefandfhaaW.PrintMore
theorem split_at {L : List FileR} {k : Nat} (h : k < L.length) : L = L.take k ++ L[k] :: L.drop (k + 1) := by
  rw [List.getElem_cons_drop, List.take_append_drop]
def AtIs (nm : ByteArray) (L : List FileR) (k : Int) : Prop := (k = -1 ∧ ∀ g ∈ L, g.name ≠ nm) ∨ ∃ L1 f L2, L = L1 ++ f :: L2 ∧ f.name = nm ∧ (∀ g ∈ L1, g.name ≠ nm) ∧ k = (L1.length : Int)
set_option maxHeartbeats 400000 in
theorem refAt_calls (w : World) (B : Nat) (r : RefM) (h : RefIs w B r) (nm : ByteArray) (hs : nm.size ≤ maxLen) :
    Calls Try.prog 40 #[.pointer (some ⟨r.d, 0, none⟩), .string nm] w fun e w' => (∃ k, e = .returned (.int .i64 k) ∧ AtIs nm r.L k) ∧ w = w' := by
  obtain ⟨A, c, hA, hc, hm⟩ := h.slice
  have k0 := h.c0
  rw [hA] at k0
  have H := Aside0.mk h
  have HA := Aside0.mk hA
  have hlen : r.L.length ≤ 9223372036854775807 := by unfold maxLen at hm; omega
  clear h hA hm
  go_enter Try.func40, Try.ntmps40
  go_wp2
  go_loop [5] (fun i => ∃ k : Nat, k ≤ r.L.length ∧ i = .int .i64 k ∧ Aside0 (∀ g ∈ r.L.take k, g.name ≠ nm)) (fun i => r.L.length - (intOf i).toNat)
  case atStart => exact ⟨0, Nat.zero_le _, rfl, ⟨fun g hg => by simp at hg⟩⟩
  case round =>
    obtain ⟨k, hk, rfl, hP⟩ := hrel
    by_cases hlt : k < r.L.length
    · have hi1 : (k : Int) < (r.L.length : Int) := by omega
      obtain ⟨g, c1, e1, h1, h2, h3, h4, h5, h6⟩ := H.out.at (split_at hlt)
      rw [List.length_take, Nat.min_eq_left (by omega)] at h2 h3 h4
      rw [HA.out] at e1
      injection e1 with e1 e2 e3
      subst e1 e3
      by_cases hn : r.L[k].name = nm
      · have hbq : (r.L[k].name.toList == nm.toList) = true := by rw [hn]; exact beq_self_eq_true _
        have HN := Aside0.mk hn
        clear hn
        go_wp2_with fail
        go_ret
        refine ⟨⟨_, rfl, .inr ⟨_, _, _, split_at hlt, HN.out, hP.out, ?_⟩⟩, rfl⟩
        rw [List.length_take, Nat.min_eq_left (by omega)]
      · have hbq : (r.L[k].name.toList == nm.toList) = false := beq_eq_false_iff_ne.2 (by rw [toList_data, toList_data]; exact fun e => hn (Go.WideShapes.bytes_inj e))
        have HN := Aside0.mk hn
        clear hn
        go_wp2_with fail
        go_round
        case rel =>
          refine ⟨k + 1, by omega, by go_num, ⟨fun g hg => ?_⟩⟩
          rw [List.take_succ_eq_append_getElem hlt] at hg
          rcases List.mem_append.1 hg with hg | hg
          · exact hP.out g hg
          · rw [List.mem_singleton.1 hg]
            exact HN.out
        case measure => simp [intOf]; omega
    · obtain rfl : k = r.L.length := by omega
      go_wp2_with fail
      go_ret
      exact ⟨⟨_, rfl, .inl ⟨rfl, by have := hP.out; rwa [List.take_length] at this⟩⟩, rfl⟩
theorem total_take (L : List FileR) (k : Nat) (h : k < L.length) : total ((L.take (k + 1)).map absR) = total ((L.take k).map absR) + (L[k].bs.length : Int) := by
  rw [List.take_succ_eq_append_getElem h, List.map_append, total_append]
  simp [total, absR]
theorem total_take_le (L : List FileR) (k : Nat) : total ((L.take k).map absR) ≤ total (L.map absR) := by
  have : L.map absR = (L.take k).map absR ++ (L.drop k).map absR := by rw [← List.map_append, List.take_append_drop]
  rw [this, total_append]
  have := total_nonneg ((L.drop k).map absR)
  omega
set_option maxHeartbeats 400000 in
theorem refUsed_calls (w : World) (B : Nat) (r : RefM) (h : RefIs w B r) (hz : total r.abs.F ≤ 67108864) :
    Calls Try.prog 35 #[.pointer (some ⟨r.d, 0, none⟩)] w fun e w' => e = .returned (.int .i64 (total r.abs.F)) ∧ w = w' := by
  obtain ⟨A, c, hA, hc, hm⟩ := h.slice
  have k0 := h.c0
  rw [hA] at k0
  have H := Aside0.mk h
  have HA := Aside0.mk hA
  have hlen : r.L.length ≤ 9223372036854775807 := by unfold maxLen at hm; omega
  change total (r.L.map absR) ≤ _ at hz
  clear h hA hm
  go_enter Try.func35, Try.ntmps35
  go_wp2
  go_loop [3, 4] (fun n i => ∃ k : Nat, k ≤ r.L.length ∧ i = .int .i64 k ∧ n = .int .i64 (total ((r.L.take k).map absR))) (fun n i => r.L.length - (intOf i).toNat)
  case atStart => exact ⟨0, Nat.zero_le _, rfl, rfl⟩
  case round =>
    obtain ⟨k, hk, rfl, rfl⟩ := hrel
    by_cases hlt : k < r.L.length
    · have hi1 : (k : Int) < (r.L.length : Int) := by omega
      obtain ⟨g, c1, e1, h1, h2, h3, h4, h5, h6⟩ := H.out.at (split_at hlt)
      rw [List.length_take, Nat.min_eq_left (by omega)] at h2 h3 h4
      rw [HA.out] at e1
      injection e1 with e1 e2 e3
      subst e1 e3
      have hF := H.out.file r.L[k] (List.getElem_mem _)
      obtain ⟨Af, cf, hv, hcf, hcm⟩ := hF.slice
      rw [hv] at h3
      have t0 := total_nonneg ((r.L.take k).map absR)
      have t1 := total_take r.L k hlt
      have t2 := total_take_le r.L (k + 1)
      generalize r.L[k].bs.length = m at h3 t1 hcf
      generalize total ((r.L.take k).map absR) = u at t0 t1
      have b1 : u + (m : Int) ≤ 67108864 := by omega
      have T := Aside0.mk t1
      clear t1 t2 hF hv
      go_wp2_with fail
      go_round
      case rel => exact ⟨k + 1, by omega, by go_num, by rw [T.out]⟩
      case measure => simp [intOf]; omega
    · obtain rfl : k = r.L.length := by omega
      rw [List.take_length]
      go_wp2_with fail
      go_ret
      exact ⟨rfl, rfl⟩
section
variable {w w' : World} {B : Nat} {r r' : RefM}
theorem RefIs.headed (h : RefIs w B r) (hd : r'.d = r.d) (hA : r'.A = r.A) (hL : r'.L = r.L) (hhead : w'.heap[r.d]? = some (.cells (cellsR r') 50 (0, 0))) (hmv : ∀ k, k < w.heap.size → k ≠ r.d → w'.heap[k]? = w.heap[k]?) : RefIs w' B r' ∧ ∀ k, FootR r' k → FootR r k ∨ w.heap.size ≤ k := by
  refine ⟨⟨by rw [hd]; exact h.dB, by rw [hd]; exact hhead, ?_, fun f hf => ?_⟩, fun k hk => .inl ?_⟩
  · rw [hA, hL]
    exact ownsRow_move h.row (fun k hk => hmv k (h.foot (.inr (.inl hk))).2 (h.dr hk))
  · rw [hL] at hf
    exact (h.file f hf).move (fun k hk => hmv k (h.foot (.inr (.inr ⟨f, hf, hk⟩))).2 (h.df hf hk))
  · unfold FootR at hk ⊢
    rw [hd, hA, hL] at hk
    exact hk
theorem RefIs.setHead (h : RefIs w B r) (hd : r'.d = r.d) (hA : r'.A = r.A) (hL : r'.L = r.L) (j : Nat) (v : Value) (hc : (cellsR r).setIfInBounds j v = cellsR r') : RefIs (w.setCell ⟨r.d, j, none⟩ v) B r' ∧ StepR w r (w.setCell ⟨r.d, j, none⟩ v) r' := by
  obtain ⟨d1, d2⟩ := h.headed (w' := w.setCell ⟨r.d, j, none⟩ v) hd hA hL (by rw [blk_set h.head j v, hc]) (fun k _ hk => Below.heap_setCell _ _ _ _ hk)
  exact ⟨d1, (Moved.refl _ _).setCell (.inl (.inl rfl)) _, d2⟩
end
theorem refPower_calls (w : World) (B : Nat) (r : RefM) (h : RefIs w B r) (h1 : r.calls ≤ 9223372036854775807) (h0 : -1 ≤ r.calls) :
    Calls Try.prog 38 #[.pointer (some ⟨r.d, 0, none⟩)] w fun e w' => e = .returned (.tuple #[.bool (!r.out), .bool (!r.goes.out)]) ∧ RefIs w' B r.goes ∧ StepR w r w' r.goes := by
  have k2 := h.c2
  have k3 := h.c3
  have f2 := h.fz 2
  have f3 := h.fz 3
  have H := Aside0.mk h
  clear h
  by_cases c2 : r.calls = 0
  · have he : (r.calls == 0) = true := beq_iff_eq.2 c2
    have hg : ¬ 0 < r.calls := by omega
    have e : r.goes = { r with out := true } := by
      unfold RefM.goes
      have hn : r.calls ≤ 0 := by omega
      rw [if_pos hn, decide_eq_true c2, Bool.or_true]
    have E := Aside0.mk e
    clear c2 e
    go_enter Try.func38, Try.ntmps38
    go_wp2_with fail
    go_quiet (fail)
    go_wp2
    go_ret2
    rw [E.out]
    obtain ⟨d1, d2⟩ := H.out.setHead (r' := { r with out := true }) rfl rfl rfl 3 (.bool true) rfl
    exact ⟨rfl, d1.drewN _, ⟨d2.moved.drewN _, d2.foot⟩⟩
  · have he : (r.calls == 0) = false := beq_eq_false_iff_ne.2 c2
    by_cases c3 : 0 < r.calls
    · have e : r.goes = { r with calls := r.calls - 1 } := by
        unfold RefM.goes
        have hn : ¬ r.calls ≤ 0 := by omega
        rw [if_neg hn, decide_eq_false c2, Bool.or_false]
      have E := Aside0.mk e
      clear c2 e
      go_enter Try.func38, Try.ntmps38
      go_wp2_with fail
      go_quiet (fail)
      go_wp2
      go_ret2
      rw [E.out]
      obtain ⟨d1, d2⟩ := H.out.setHead (r' := { r with calls := r.calls - 1 }) rfl rfl rfl 2 (.int .i64 (r.calls - 1)) rfl
      exact ⟨rfl, d1.drewN _, ⟨d2.moved.drewN _, d2.foot⟩⟩
    · have e : r.goes = r := by
        unfold RefM.goes
        have hn : r.calls ≤ 0 := by omega
        rw [if_pos hn, decide_eq_false c2, Bool.or_false]
      have E := Aside0.mk e
      clear c2 e
      go_enter Try.func38, Try.ntmps38
      go_wp2_with fail
      go_quiet (fail)
      go_wp2
      go_ret2
      rw [E.out]
      exact ⟨rfl, H.out.drewN _, ⟨(Moved.refl _ _).drewN _, fun k hk => .inl hk⟩⟩
theorem RefM.cut (r : RefM) (n : Int) : RefM.abs { r with calls := max n (-1) } = pCut r.abs n := rfl
theorem refCut_calls (w : World) (B : Nat) (r : RefM) (h : RefIs w B r) (n : Int) (hn1 : -9223372036854775808 ≤ n) (hn2 : n ≤ 9223372036854775807) :
    Calls Try.prog 32 #[.pointer (some ⟨r.d, 0, none⟩), .int .i64 n] w fun e w' => e = .returned (.tuple #[]) ∧ RefIs w' B { r with calls := max n (-1) } ∧ StepR w r w' { r with calls := max n (-1) } := by
  have k2 := h.c2
  have f2 := h.fz 2
  have H := Aside0.mk h
  clear h
  by_cases c : n < 0
  · have e := Aside0.mk (show max n (-1) = -1 by omega)
    go_enter Try.func32, Try.ntmps32
    go_wp2_with fail
    go_end0
    rw [e.out]
    obtain ⟨d1, d2⟩ := H.out.setHead (r' := { r with calls := n }) rfl rfl rfl 2 (.int .i64 n) rfl
    obtain ⟨d3, d4⟩ := d1.setHead (r' := { r with calls := -1 }) rfl rfl rfl 2 (.int .i64 (-1)) rfl
    exact ⟨rfl, d3, d2.trans d4⟩
  · have e := Aside0.mk (show max n (-1) = n by omega)
    go_enter Try.func32, Try.ntmps32
    go_wp2_with fail
    go_end0
    rw [e.out]
    obtain ⟨d1, d2⟩ := H.out.setHead (r' := { r with calls := n }) rfl rfl rfl 2 (.int .i64 n) rfl
    exact ⟨rfl, d1, d2⟩
end Go.Proofs.Ytlbeehefandfhaa.Pr
end
section
namespace Go.Proofs.Ytlbeehefandfhaa.Pr
open Go.RowKit Go.Maps Go.Proofs.YtlbeehefandfhaaW.PrintWords Go.Proofs.YtlbeehefandfhaaW.PrintLast Go.Proofs.YtlbeehefandfhaaW.PrintMore
set_option maxHeartbeats 800000 in
theorem refName_calls (w : World) (s : ByteArray) (hs : s.size ≤ 9223372036854775807) :
    Calls Try.prog 39 #[.string s] w fun e w' => e = .returned (.bool (nameOk s.data.toList)) ∧ w = w' := by
  have hbad : s.data.toList.all goodB = false → nameOk s.data.toList = false := fun h => by rw [nameOk_eq, h]; rfl
  have HBAD := Aside0.mk hbad
  clear hbad
  go_enter Try.func39, Try.ntmps39
  go_wp2
  go_loop [3] (fun i => ∃ k : Nat, k ≤ s.size ∧ i = .int .i64 k ∧ Aside0 ((s.data.toList.take k).all goodB = true)) (fun i => s.size - (intOf i).toNat)
  case atStart => exact ⟨0, Nat.zero_le _, rfl, ⟨rfl⟩⟩
  case round =>
    obtain ⟨k, hk, rfl, hA⟩ := hrel
    by_cases hlt : k < s.size
    · have hi := goodB_iff s[k]
      have hts := all_take_succ s k hlt
      have hof := fun h => all_of_take (s := s) hlt h
      have HT := Aside0.mk hts
      have HO := Aside0.mk hof
      have HI := Aside0.mk hi
      clear hi hts hof
      rcases (by omega : (s[k].toNat : Int) < 45 ∨ (s[k].toNat : Int) = 45 ∨ (45 < (s[k].toNat : Int) ∧ (s[k].toNat : Int) < 48) ∨ (48 ≤ (s[k].toNat : Int) ∧ (s[k].toNat : Int) ≤ 57) ∨ (57 < (s[k].toNat : Int) ∧ (s[k].toNat : Int) < 97) ∨ (97 ≤ (s[k].toNat : Int) ∧ (s[k].toNat : Int) ≤ 122) ∨ 122 < (s[k].toNat : Int)) with hx | hx | hx | hx | hx | hx | hx
      all_goals
        have HX := Aside0.mk hx
        first
          | (have t1 : 97 ≤ (s[k].toNat : Int) := by omega)
          | (have t1 : ¬ 97 ≤ (s[k].toNat : Int) := by omega)
        first
          | (have t2 : (s[k].toNat : Int) ≤ 122 := by omega)
          | (have t2 : ¬ (s[k].toNat : Int) ≤ 122 := by omega)
        first
          | (have t3 : 48 ≤ (s[k].toNat : Int) := by omega)
          | (have t3 : ¬ 48 ≤ (s[k].toNat : Int) := by omega)
        first
          | (have t4 : (s[k].toNat : Int) ≤ 57 := by omega)
          | (have t4 : ¬ (s[k].toNat : Int) ≤ 57 := by omega)
        first
          | (have t6 : ((s[k].toNat : Int) == 45) = true := by rw [beq_iff_eq]; omega)
          | (have t6 : ((s[k].toNat : Int) == 45) = false := by rw [beq_eq_false_iff_ne]; omega)
        clear hx
        go_wp2
        first
          | (go_ret; exact ⟨by rw [HBAD.out (HO.out (by cases hg : goodB s[k] with | false => rfl | true => exact absurd (HI.out.1 hg) (by have := HX.out; omega)))]; rfl, rfl⟩)
          | (go_round
             case rel => exact ⟨k + 1, by omega, by go_num, ⟨by rw [HT.out, hA.out, HI.out.2 (by have := HX.out; omega)]; rfl⟩⟩
             case measure => simp [intOf]; omega)
    · obtain rfl : k = s.size := by omega
      have hall : s.data.toList.all goodB = true := by
        have := hA.out
        rwa [List.take_of_length_le (by rw [data_length]; omega)] at this
      have HALL := Aside0.mk hall
      have hz := size0_iff s
      have hz2 := toList_nil s
      have hl := data_length s
      have HL := Aside0.mk hl
      by_cases h0 : s.size = 0
      · have hE0 : s.toList = [] := hz2.2 h0
        have hE : ¬ 1 ≤ (s.size : Int) := by omega
        have HE := Aside0.mk (hz.2 h0)
        clear hall hz h0 hz2 hl
        go_wp2
        go_ret
        exact ⟨by rw [nameOk_eq, HE.out]; rfl, rfl⟩
      · have he : ¬ s.toList = [] := fun e => h0 (hz2.1 e)
        have hE : 1 ≤ (s.size : Int) := by omega
        have HE := Aside0.mk (show s.data.toList.isEmpty = false by rw [← Bool.not_eq_true, List.isEmpty_iff]; exact fun e => h0 (hz.1 e))
        clear hall hz hz2 hl
        by_cases h32 : s.size ≤ 32
        · have h32' : (s.size : Int) ≤ 32 := by omega
          go_wp2
          go_ret
          exact ⟨by rw [nameOk_eq, HALL.out, HL.out, decide_eq_true h32, HE.out]; rfl, rfl⟩
        · have h32' : ¬ (s.size : Int) ≤ 32 := by omega
          go_wp2
          go_ret
          exact ⟨by rw [nameOk_eq, HALL.out, HL.out, decide_eq_false h32, HE.out]; rfl, rfl⟩
end Go.Proofs.Ytlbeehefandfhaa.Pr
end
section
namespace Go.Proofs.Ytlbeehefandfhaa.Pr
open Go.RowKit Go.Maps Go.Sort Go.Proofs.YtlbeehefandfhaaW.PrintWords Go.Proofs.YtlbeehefandfhaaW.PrintLast Go.Proofs.YtlbeehefandfhaaW.PrintMore
theorem ni71 : (Try.prog.info? 71).map (fun i => (i.zero, i.size, i.bytes)) = some (some (.agg #[.string ByteArray.empty, .slice none 0 0, .int .i64 0]), 3, 48) := by kernel_rfl
theorem step_append_f {w : World} {ops : Array Oper} {o : Oper} {a : Act} {K : Act → World → Prop} {Q : Exit → Act → World → Prop} {E : Prop} (hgd : o.guard = none) (s x : Operand)
    (ho : o.op = .call { callee := .builtin .append, args := #[s, x], argTypes := #[48, 48] }) (base : Nat) (v : Value) (n : Nat) (xs : List Value) (hs : a.eval s = v) (hown : w.ownsRow base 71 3 v n xs)
    (ad : Addr) (m c : Nat) (news : List Value) (hx : a.eval x = .slice (some ad) m c) (hl : news.length = m * 3) (hnews : ∀ j u, news[j]? = some u → w.cell? (ad.add j) = some u) (h1 : ∀ u ∈ news, u.oneCell' = true) (hb : n + m ≤ 1000000000) (hbase : base ≤ w.heap.size)
    (h : ∀ A' c' w', w'.ownsRow base 71 3 (.slice A' (n + m) c') (n + m) (xs ++ news) → w.grownBy w' v.ownBlock → K (a.put o.dst (.slice A' (n + m) c')) w') :
    if Region.wanted o (yielded ops a.tmps) = true then Oper.wp Try.prog o a w K Q else E := by
  have hw : Region.wanted o (yielded ops a.tmps) = true := by simp [Region.wanted, hgd]
  rw [if_pos hw]
  obtain ⟨i, hi, hz, hsz, hby⟩ := info_parts ni71
  exact wp_append_own w s x 48 ho base 71 i _ 3 48 Try.underlying48 hi hz hsz hby rfl (by omega) v n xs hs hown ad m c news hx hl hnews h1 (by unfold maxLen; omega) (by omega) hbase (fun v' w' h2 h3 _ => by
    obtain ⟨A', c', rfl⟩ : ∃ A' c', v' = .slice A' (n + m) c' := by
      rcases h2.2 with ⟨e, hn⟩ | ⟨g, cap, cur, e, _⟩
      · exact ⟨none, 0, by rw [e, hn]⟩
      · exact ⟨_, cap, e⟩
    exact h A' c' w' h2 h3)
theorem step_copy_f {W : World} {ops : Array Oper} {o : Oper} {a : Act} {K : Act → World → Prop} {Q : Exit → Act → World → Prop} {E : Prop} (hgd : o.guard = none) (s x : Operand)
    (ho : o.op = .call { callee := .builtin .append, args := #[s, x], argTypes := #[48, 48] }) (hs : a.eval s = .slice (some ⟨W.heap.size, 0, none⟩) 0 0)
    (ad : Addr) (m c : Nat) (news : List Value) (hx : a.eval x = .slice (some ad) m c) (hl : news.length = m * 3) (hnews : ∀ j u, news[j]? = some u → W.cell? (ad.add j) = some u) (h1 : ∀ u ∈ news, u.oneCell' = true) (hb : m ≤ 1000000000)
    (h : ∀ A1 c1 w1, w1.ownsRow W.heap.size 71 3 (.slice A1 m c1) m news → Below W.heap.size W w1 → K (a.put o.dst (.slice A1 m c1)) w1) :
    if Region.wanted o (yielded ops a.tmps) = true then Oper.wp Try.prog o a (W.alloc (.cells #[] 71)) K Q else E := by
  have hba : Below W.heap.size W (W.alloc (.cells #[] 71)) := (Below.refl _ W).alloc (Nat.le_refl _) _
  refine step_append_f hgd s x ho W.heap.size (.slice (some ⟨W.heap.size, 0, none⟩) 0 0) 0 [] hs (World.ownsRow_lit W #[] 0 (Nat.le_refl _) (Nat.zero_le _) rfl) ad m c news hx hl (fun j u hu => pw_cell_below hba (hnews j u hu)) h1 (by omega) (by simp) (fun A' c' w' h2 h3 => ?_)
  rw [Nat.zero_add, List.nil_append] at h2
  rw [Nat.zero_add]
  exact h A' c' w' h2 (hba.grown h3 (by simp) (fun k hk => Nat.le_of_eq (by simpa [Value.ownBlock] using hk)))
theorem fcells_one : ∀ (L : List FileR), (∀ f ∈ L, f.v.oneCell' = true) → ∀ u ∈ rcells L, u.oneCell' = true
  | [], _, u, hu => by cases hu
  | f :: r, hf, u, hu => by
    rw [rcells_cons] at hu
    rcases List.mem_cons.1 hu with rfl | hu
    · rfl
    · rcases List.mem_cons.1 hu with rfl | hu
      · exact hf f (by simp)
      · rcases List.mem_cons.1 hu with rfl | hu
        · rfl
        · exact fcells_one r (fun g hg => hf g (List.mem_cons_of_mem _ hg)) u hu
theorem drow_one {w : World} {B : Nat} {v : Value} {bs : List Int} (h : DRow w B v bs) : v.oneCell' = true := by
  obtain ⟨A, c, rfl, _⟩ := h.slice
  rfl
theorem rcells_front {w : World} {B : Nat} {v : Value} {L M : List FileR} (h : w.ownsRow B 71 3 v (L ++ M).length (rcells (L ++ M))) {g n c : Nat} (hv : v = .slice (some ⟨g, 0, none⟩) n c) : ∀ j u, (rcells L)[j]? = some u → w.cell? ((⟨g, 0, none⟩ : Addr).add j) = some u := by
  intro j u hu
  refine h.cells (g := g) (by rw [hv]; rfl) j u ?_
  rw [rcells_append, List.getElem?_append_left (List.getElem?_eq_some_iff.1 hu).1]
  exact hu
theorem rcells_back {w : World} {B : Nat} {v : Value} {L M : List FileR} (h : w.ownsRow B 71 3 v (L ++ M).length (rcells (L ++ M))) {g n c : Nat} (hv : v = .slice (some ⟨g, 0, none⟩) n c) : ∀ j u, (rcells M)[j]? = some u → w.cell? ((⟨g, L.length * 3, none⟩ : Addr).add j) = some u := by
  intro j u hu
  have := h.cells (g := g) (by rw [hv]; rfl) (L.length * 3 + j) u (by rw [rcells_append, List.getElem?_append_right (by rw [rcells_length]; omega), rcells_length, Nat.add_sub_cancel_left]; exact hu)
  rw [Go.WideShapes.add_plain] at this ⊢
  simpa using this
theorem below_of_drew {w w' : World} (h : Below w.drew.heap.size w.drew w') : Below w.heap.size w w' := ⟨h.os, h.tape, h.output, h.size, h.block⟩
theorem RefIs.reRow {w w1 : World} {B : Nat} {r : RefM} (h : RefIs w B r) (hb : Below w.heap.size w w1) {A : Value} {L : List FileR} (hrow : w1.ownsRow w.heap.size 71 3 A L.length (rcells L))
    (hf : ∀ f ∈ L, (∃ g ∈ r.L, f.v = g.v ∧ f.bs = g.bs) ∨ (DRow w1 B f.v f.bs ∧ ∀ k, f.v.ownBlock = some k → w.heap.size ≤ k)) :
    RefIs (w1.setCell ⟨r.d, 0, none⟩ A) B { r with A := A, L := L } ∧ StepR w r (w1.setCell ⟨r.d, 0, none⟩ A) { r with A := A, L := L } ∧ Moved (fun k => k = r.d) w (w1.setCell ⟨r.d, 0, none⟩ A) := by
  have h1 := h.below hb
  have hd : r.d < w.heap.size := (h.foot (k := r.d) (.inl rfl)).2
  have hle := h.le
  have hmv : ∀ k, k ≠ r.d → (w1.setCell ⟨r.d, 0, none⟩ A).heap[k]? = w1.heap[k]? := fun k hk => Below.heap_setCell _ _ _ _ hk
  refine ⟨⟨h.dB, by show (w1.setCell ⟨r.d, 0, none⟩ A).heap[r.d]? = _; rw [blk_set h1.head 0 A]; rfl, ?_, fun f hfm => ?_⟩, ⟨(Moved.of_below hb).setCell (.inl (.inl rfl)) _, fun k hk => ?_⟩, (Moved.of_below (F := fun k => k = r.d) hb).setCell (a := ⟨r.d, 0, none⟩) (.inl rfl) A⟩
  · have hr := ownsRow_move (w' := w1.setCell ⟨r.d, 0, none⟩ A) hrow (fun k hk => hmv k (by have := (ownsRow_typed hrow hk).1; omega))
    obtain ⟨e1, e2⟩ := hr
    exact ⟨e1, e2.imp id (fun ⟨g, cap, cur, a1, a2, a3⟩ => ⟨g, cap, cur, a1, Nat.le_trans hle a2, a3⟩)⟩
  · rcases hf f hfm with ⟨g, hg, e1, e2⟩ | ⟨hD, hk⟩
    · rw [e1, e2]
      exact (h1.file g hg).move (fun k hk => hmv k (h1.df hg hk))
    · exact hD.move (fun k hk2 => hmv k (by have := hk k hk2; omega))
  · rcases hk with hk | hk | ⟨f, hfm, hk⟩
    · exact .inl (.inl hk)
    · exact .inr (ownsRow_typed hrow hk).1
    · rcases hf f hfm with ⟨g, hg, e1, e2⟩ | ⟨hD, hk2⟩
      · exact .inl (.inr (.inr ⟨g, hg, by rw [← e1]; exact hk⟩))
      · exact .inr (hk2 k hk)
set_option maxRecDepth 100000 in
set_option maxHeartbeats 1000000 in
theorem refDropM_calls (w : World) (B : Nat) (r : RefM) (h : RefIs w B r) (L M : List FileR) (f : FileR) (hL : r.L = L ++ f :: M) (hn : r.L.length ≤ 100000000) :
    Calls Try.prog 42 #[.pointer (some ⟨r.d, 0, none⟩), .int .i64 L.length] w fun e w' => e = .returned (.tuple #[]) ∧ ∃ A, RefIs w' B { r with A := A, L := L ++ M } ∧ StepR w r w' { r with A := A, L := L ++ M } ∧ Moved (fun k => k = r.d) w w' := by
  obtain ⟨g, c, hA, hc, c1, c2, c3, c4, hm⟩ := h.at hL
  have k0 := h.c0
  rw [hA] at k0
  have H := Aside0.mk h
  have HA := Aside0.mk hA
  have hlen : r.L.length = L.length + 1 + M.length := by rw [hL]; simp; omega
  have hlt : L.length < r.L.length := by omega
  have f0 := h.fz 0
  have e0 : ∀ o, (w.alloc o).cell? ⟨r.d, 0, none⟩ = some (.slice (some ⟨g, 0, none⟩) r.L.length c) := fun o => pw_cell_below ((Below.refl _ w).alloc (Nat.le_refl _) o) k0
  have i1 : (L.length : Int) + 1 ≤ 9223372036854775807 := by omega
  have i2 : (L.length : Int) ≤ (r.L.length : Int) := by omega
  have i3 : (L.length : Int) + 1 ≤ (r.L.length : Int) := by omega
  have i4 : (L.length : Int) ≤ (c : Int) := by omega
  have i5 : (r.L.length : Int) ≤ (c : Int) := by omega
  have i6 : (0 : Int) ≤ (L.length : Int) := by omega
  have i7 : (0 : Int) ≤ (L.length : Int) + 1 := by omega
  have i8 : IntKind.i64.wrap ((L.length : Int) + 1) = (L.length : Int) + 1 := by unfold IntKind.wrap; simp [IntKind.signed, IntKind.bits]; omega
  have hrow := h.row
  rw [hL] at hrow
  have FR := Aside0.mk (rcells_front hrow hA)
  have BK := Aside0.mk (rcells_back (L := L ++ [f]) (M := M) (by simpa using hrow) hA)
  obtain ⟨ad, had, hadc⟩ : ∃ ad : Addr, (if c = L.length + 1 then some (⟨g, 0, none⟩ : Addr) else some ⟨g, (L.length + 1) * 3, none⟩) = some ad ∧ ∀ j u, (rcells M)[j]? = some u → w.cell? (ad.add j) = some u := by
    by_cases hcc : c = L.length + 1
    · rw [if_pos hcc]
      have hM : M = [] := List.length_eq_zero_iff.1 (by omega)
      exact ⟨_, rfl, fun j u hu => by rw [hM] at hu; simp [rcells] at hu⟩
    · rw [if_neg hcc]
      exact ⟨_, rfl, fun j u hu => by have := BK.out j u hu; rwa [List.length_append, List.length_singleton] at this⟩
  have AD := Aside0.mk hadc
  have ON := Aside0.mk (fun g hg => drow_one (h.file g hg))
  have BB := Aside0.mk (And.intro hn (And.intro hlen hc))
  have HL := Aside0.mk hL
  have HD := Aside0.mk (h.foot (k := r.d) (.inl rfl)).2
  have WS := Aside0.mk (h.foot (k := g) (.inr (.inl (by rw [hA]; rfl)))).2
  clear h hA hL c1 c2 c3 hlen hrow c4 hadc BK
  go_enter Try.func42, Try.ntmps42
  go_region_law
    (first
      | (refine step_copy_f (W := w.drew) rfl _ _ rfl rfl _ L.length _ (rcells L) rfl (rcells_length L) (fun j u hu => FR.out j u hu) (fcells_one L (fun x hx => ON.out x (by rw [HL.out]; simp [hx]))) (by omega) ?_; intro A1 c1 w1 hown hb; have O1 := Aside0.mk hown; have B1 := Aside0.mk hb; have q1 := pw_cell_below hb (show w.drew.cell? ⟨r.d, 0, none⟩ = _ from k0); clear hown hb)
      | (refine step_append_f rfl _ _ rfl w.drew.heap.size (.slice A1 L.length c1) L.length (rcells L) rfl O1.out ad (r.L.length - (L.length + 1)) _ (rcells M) rfl (by rw [rcells_length]; have := BB.out; omega) (fun j u hu => pw_cell_below B1.out (show w.drew.cell? _ = _ from AD.out j u hu)) (fcells_one M (fun x hx => ON.out x (by rw [HL.out]; simp [hx]))) (by have := BB.out; omega) B1.out.size ?_; intro A2 c2 w2 hown hg; have O2 := Aside0.mk hown; have B2 := Aside0.mk (B1.out.grown hg B1.out.size (fun k hk => (ownsRow_typed O1.out hk).1)); have q2 := pw_cell_below B2.out (show w.drew.cell? ⟨r.d, 0, none⟩ = _ from k0); have q3 := (B2.out.frozen (p := ⟨r.d, 0, none⟩) HD.out).trans (show w.drew.frozen? ⟨r.d, 0, none⟩ = _ from f0); clear hown hg)
      | fail)
  all_goals
    go_end0
    have hn2 : L.length + (r.L.length - (L.length + 1)) = (L ++ M).length := by have := BB.out; rw [List.length_append]; omega
    have h0 := O2.out
    rw [hn2, ← rcells_append] at h0
    rw [hn2]
    exact ⟨rfl, _, H.out.reRow (below_of_drew B2.out) h0 (fun x hx => .inl ⟨x, by rw [HL.out]; simp only [List.mem_append, List.mem_cons] at hx ⊢; rcases hx with hx | hx <;> simp [hx], rfl, rfl⟩)⟩
theorem refDrop_calls (w : World) (B : Nat) (r : RefM) (h : RefIs w B r) (L M : List FileR) (f : FileR) (hL : r.L = L ++ f :: M) (hn : r.L.length ≤ 100000000) :
    Calls Try.prog 42 #[.pointer (some ⟨r.d, 0, none⟩), .int .i64 L.length] w fun e w' => e = .returned (.tuple #[]) ∧ ∃ A, RefIs w' B { r with A := A, L := L ++ M } ∧ StepR w r w' { r with A := A, L := L ++ M } :=
  (refDropM_calls w B r h L M f hL hn).mono fun e w' ⟨h1, A, h2, h3, _⟩ => ⟨h1, A, h2, h3⟩
end Go.Proofs.Ytlbeehefandfhaa.Pr
end
section
namespace Go.Proofs.Ytlbeehefandfhaa.Pr
open Go.RowKit Go.Maps Go.Sort Go.Proofs.YtlbeehefandfhaaW.PrintWords Go.Proofs.YtlbeehefandfhaaW.PrintLast Go.Proofs.YtlbeehefandfhaaW.PrintMore
theorem wpList_append_f {w : World} {ops : Array Oper} {rest : List Oper} {o : Oper} {a : Act} {Q : Exit → Act → World → Prop} (hgd : o.guard = none) (s x : Operand)
    (ho : o.op = .call { callee := .builtin .append, args := #[s, x], argTypes := #[48, 48] }) (base : Nat) (v : Value) (n : Nat) (xs : List Value) (hs : a.eval s = v) (hown : w.ownsRow base 71 3 v n xs)
    (ad : Addr) (m c : Nat) (news : List Value) (hx : a.eval x = .slice (some ad) m c) (hl : news.length = m * 3) (hnews : ∀ j u, news[j]? = some u → w.cell? (ad.add j) = some u) (h1 : ∀ u ∈ news, u.oneCell' = true) (hb : n + m ≤ 1000000000) (hbase : base ≤ w.heap.size)
    (h : ∀ A' c' w', w'.ownsRow base 71 3 (.slice A' (n + m) c') (n + m) (xs ++ news) → w.grownBy w' v.ownBlock → wpList Try.prog ops Q rest (a.put o.dst (.slice A' (n + m) c')) w') :
    wpList Try.prog ops Q (o :: rest) a w := by
  obtain ⟨i, hi, hz, hsz, hby⟩ := info_parts ni71
  refine wpList_append_own w hgd s x 48 ho base 71 i _ 3 48 Try.underlying48 hi hz hsz hby rfl (by omega) v n xs hs hown ad m c news hx hl hnews h1 (by unfold maxLen; omega) (by omega) hbase (fun v' w' h2 h3 _ => ?_)
  obtain ⟨A', c', rfl⟩ : ∃ A' c', v' = .slice A' (n + m) c' := by
    rcases h2.2 with ⟨e, hn⟩ | ⟨g, cap, cur, e, _⟩
    · exact ⟨none, 0, by rw [e, hn]⟩
    · exact ⟨_, cap, e⟩
  exact h A' c' w' h2 h3
theorem ownsRow_drewN {w : World} {B : Nat} {e : TypeId} {sz : Nat} {v : Value} {n : Nat} {xs : List Value} (h : w.ownsRow B e sz v n xs) (m : Nat) : (w.drewN m).ownsRow B e sz v n xs := ownsRow_move h (fun _ _ => rfl)
theorem le_drewN {w : World} {B : Nat} (h : B ≤ w.heap.size) (m : Nat) : B ≤ (w.drewN m).heap.size := h
theorem below_trans_drewN {a w w1 : World} {B m : Nat} (h : Below B a w) (hb : Below B (w.drewN m) w1) : Below B a w1 := h.trans ⟨hb.os, hb.tape, hb.output, hb.size, hb.block⟩
theorem less_before : ∀ a b : List UInt8, Op.bytesLess a b = bytesBefore a b
  | [], [] => rfl
  | _ :: _, [] => rfl
  | [], _ :: _ => rfl
  | a :: x, b :: y => by simp only [Op.bytesLess, bytesBefore, less_before x y]
def insR (f : FileR) : List FileR → List FileR
  | [] => [f]
  | g :: r => if bytesBefore f.name.data.toList g.name.data.toList then f :: g :: r else g :: insR f r
theorem insR_abs (f : FileR) : ∀ L : List FileR, (insR f L).map absR = insP (absR f) (L.map absR)
  | [] => rfl
  | g :: r => by
    simp only [insR, List.map_cons, insP]
    show _ = if bytesBefore f.name.data.toList g.name.data.toList = true then _ else _
    split
    · rfl
    · rw [List.map_cons, insR_abs f r]
def PutAt (f : FileR) (L : List FileR) : Bool → Nat → List FileR → Prop
  | true, k, M => M ++ L.drop k = insR f L
  | false, k, M => M = L.take k ∧ insR f L = L.take k ++ insR f (L.drop k)
theorem insR_perm (f : FileR) : ∀ L, (insR f L).Perm (f :: L)
  | [] => List.Perm.refl _
  | g :: r => by
    unfold insR
    split
    · exact List.Perm.refl _
    · exact ((insR_perm f r).cons g).trans (List.Perm.swap f g r)
theorem wpList_push_f {W : World} {ops : Array Oper} {rest : List Oper} {o : Oper} {a : Act} {Q : Exit → Act → World → Prop} (hgd : o.guard = none) (s x : Operand)
    (ho : o.op = .call { callee := .builtin .append, args := #[s, x], argTypes := #[48, 48] }) (base : Nat) (v : Value) (n : Nat) (M : List FileR) (hs : a.eval s = v) (hown : W.ownsRow base 71 3 v n (rcells M))
    (f : FileR) (hx : a.eval x = .slice (some ⟨W.heap.size, 0, none⟩) 1 1) (hv : f.v.oneCell' = true) (hb : n ≤ 200000000) (hbase : base ≤ W.heap.size)
    (h : ∀ A' c' w', w'.ownsRow base 71 3 (.slice A' (n + 1) c') (n + 1) (rcells (M ++ [f])) → Below base W w' → wpList Try.prog ops Q rest (a.put o.dst (.slice A' (n + 1) c')) w') :
    wpList Try.prog ops Q (o :: rest) a (W.alloc (.cells #[.string f.name, f.v, .int .i64 f.fast] 71)) := by
  refine wpList_append_f hgd s x ho base v n (rcells M) hs (hown.alloc _) ⟨W.heap.size, 0, none⟩ 1 1 (fcells f) hx rfl (fun j u hu => ?_) (fun u hu => ?_) (by omega) (by simp; omega) (fun A' c' w' h1 h2 => ?_)
  · rw [Go.WideShapes.add_plain, Nat.zero_add, cell_of_row _ W.heap.size j _ _ _ (heap_alloc_new W _), ← hu]
    rw [← Array.getElem?_toList]
    rfl
  · have := fcells_one [f] (fun x hx => by rw [List.mem_singleton.1 hx]; exact hv) u (by simpa [rcells] using hu)
    exact this
  · rw [show rcells M ++ fcells f = rcells (M ++ [f]) by rw [rcells_append]; simp [rcells]] at h1
    refine h A' c' w' h1 (((Below.refl _ W).alloc hbase _).grown h2 (by simp; omega) (fun k hk => (ownsRow_typed hown hk).1))
theorem put_true {f fk : FileR} {L M : List FileR} {k : Nat} (h : PutAt f L true k M) (hk : k < L.length) (hfk : fk = L[k]) : PutAt f L true (k + 1) (M ++ [fk]) := by
  show M ++ [fk] ++ L.drop (k + 1) = insR f L
  rw [List.append_assoc, List.singleton_append, hfk, List.getElem_cons_drop]
  exact h
theorem put_now {f fk : FileR} {L M : List FileR} {k : Nat} (h : PutAt f L false k M) (hk : k < L.length) (hfk : fk = L[k]) (hb : bytesBefore f.name.data.toList fk.name.data.toList = true) : PutAt f L true (k + 1) (M ++ [f] ++ [fk]) := by
  obtain ⟨rfl, h⟩ := h
  show L.take k ++ [f] ++ [fk] ++ L.drop (k + 1) = insR f L
  rw [h, ← List.getElem_cons_drop hk, ← hfk]
  simp only [insR]
  rw [if_pos hb]
  simp
theorem put_later {f fk : FileR} {L M : List FileR} {k : Nat} (h : PutAt f L false k M) (hk : k < L.length) (hfk : fk = L[k]) (hb : bytesBefore f.name.data.toList fk.name.data.toList = false) : PutAt f L false (k + 1) (M ++ [fk]) := by
  obtain ⟨rfl, h⟩ := h
  refine ⟨by rw [List.take_succ_eq_append_getElem hk, ← hfk], ?_⟩
  rw [h, ← List.getElem_cons_drop hk, ← hfk, List.take_succ_eq_append_getElem hk, ← hfk]
  simp only [insR]
  rw [if_neg (by rw [hb]; exact Bool.false_ne_true), List.append_assoc]
  rfl
theorem put_len {f x y : FileR} {L M : List FileR} {k n : Nat} (h : PutAt f L false k M) (hk : k < L.length) (hn : n = M.length ∧ n ≤ k + 1) : n + 1 + 1 = (M ++ [x] ++ [y]).length ∧ n + 1 + 1 ≤ k + 1 + 1 := by
  have h1 := h.1
  have h2 : M.length = k := by rw [h1, List.length_take]; omega
  simp
  omega
theorem RefIs.reRow2 {w w1 : World} {B : Nat} {r : RefM} (h : RefIs w B r) {f : FileR} (hfr : DRow w B f.v f.bs) (hb : Below w.heap.size w w1) {A : Value} {L : List FileR} (hrow : w1.ownsRow w.heap.size 71 3 A L.length (rcells L))
    (hf : ∀ x ∈ L, x ∈ f :: r.L) :
    RefIs (w1.setCell ⟨r.d, 0, none⟩ A) B { r with A := A, L := L } ∧ StepR w { r with L := f :: r.L } (w1.setCell ⟨r.d, 0, none⟩ A) { r with A := A, L := L } := by
  have h1 := h.below hb
  have hle := h.le
  have hmv : ∀ k, k ≠ r.d → (w1.setCell ⟨r.d, 0, none⟩ A).heap[k]? = w1.heap[k]? := fun k hk => Below.heap_setCell _ _ _ _ hk
  have hd : r.d < w.heap.size := (h.foot (k := r.d) (.inl rfl)).2
  have hfn : ∀ k, f.v.ownBlock = some k → k ≠ r.d := fun k hk e => by
    obtain ⟨_, _, cur, hc⟩ := hfr.typed k hk
    rw [e, h.head] at hc
    injection hc with hc
    injection hc with _ hc
    cases hc
  refine ⟨⟨h.dB, by show (w1.setCell ⟨r.d, 0, none⟩ A).heap[r.d]? = _; rw [blk_set h1.head 0 A]; rfl, ?_, fun x hx => ?_⟩, (Moved.of_below hb).setCell (.inl (.inl rfl)) _, fun k hk => ?_⟩
  · obtain ⟨e1, e2⟩ := ownsRow_move (w' := w1.setCell ⟨r.d, 0, none⟩ A) hrow (fun k hk => hmv k (by have := (ownsRow_typed hrow hk).1; omega))
    exact ⟨e1, e2.imp id (fun ⟨g, cap, cur, a1, a2, a3⟩ => ⟨g, cap, cur, a1, Nat.le_trans hle a2, a3⟩)⟩
  · rcases List.mem_cons.1 (hf x hx) with rfl | hx
    · exact (hfr.move (fun k hk => hb.block k (hfr.typed k hk).2.1)).move (fun k hk => hmv k (hfn k hk))
    · exact (h1.file x hx).move (fun k hk => hmv k (h1.df hx hk))
  · rcases hk with hk | hk | ⟨x, hx, hk⟩
    · exact .inl (.inl hk)
    · exact .inr (ownsRow_typed hrow hk).1
    · exact .inl (.inr (.inr ⟨x, hf x hx, hk⟩))
theorem ownsRow_mono {w : World} {B B' : Nat} {e : TypeId} {sz : Nat} {v : Value} {n : Nat} {xs : List Value} (h : w.ownsRow B e sz v n xs) (hB : B' ≤ B) : w.ownsRow B' e sz v n xs :=
  ⟨h.1, h.2.imp id (fun ⟨g, cap, cur, a1, a2, a3⟩ => ⟨g, cap, cur, a1, Nat.le_trans hB a2, a3⟩)⟩
set_option maxRecDepth 100000 in
set_option maxHeartbeats 1000000 in
theorem refPut_calls (w : World) (B : Nat) (r : RefM) (h : RefIs w B r) (f : FileR) (hf : DRow w B f.v f.bs) (hn : r.L.length ≤ 100000000) :
    Calls Try.prog 41 #[.pointer (some ⟨r.d, 0, none⟩), .agg #[.string f.name, f.v, .int .i64 f.fast]] w fun e w' => e = .returned (.tuple #[]) ∧ ∃ A, RefIs w' B { r with A := A, L := insR f r.L } ∧ StepR w { r with L := f :: r.L } w' { r with A := A, L := insR f r.L } := by
  obtain ⟨Ar, cr, hA, hc, hm⟩ := h.slice
  have k0 := h.c0
  rw [hA] at k0
  have f0 := h.fz 0
  have HD := Aside0.mk (h.foot (k := r.d) (.inl rfl)).2
  have H := Aside0.mk h
  have HF := Aside0.mk hf
  have HA := Aside0.mk hA
  obtain ⟨Af, cf, hv, hcf, hcm⟩ := hf.slice
  obtain ⟨fn, fv, fb, ff⟩ := f
  simp only at hv hf hcf
  subst hv
  clear h hf hA hm
  obtain ⟨W1, hW1⟩ : ∃ W1, W1 = w.alloc (.cells #[.string fn, .slice Af fb.length cf, .int .i64 ff] 71) := ⟨_, rfl⟩
  have hsz : W1.heap.size = w.heap.size + 1 := by rw [hW1]; simp
  have BW := Aside0.mk (show Below w.heap.size w W1 by rw [hW1]; exact (Below.refl _ w).alloc (Nat.le_refl _) _)
  have b0 : W1.cell? ⟨w.heap.size, 0, none⟩ = some (.string fn) := by rw [hW1, cell_of_row _ w.heap.size 0 _ _ _ (heap_alloc_new w _)]; rfl
  have b1 : W1.cell? ⟨w.heap.size, 1, none⟩ = some (.slice Af fb.length cf) := by rw [hW1, cell_of_row _ w.heap.size 1 _ _ _ (heap_alloc_new w _)]; rfl
  have b2 : W1.cell? ⟨w.heap.size, 2, none⟩ = some (.int .i64 ff) := by rw [hW1, cell_of_row _ w.heap.size 2 _ _ _ (heap_alloc_new w _)]; rfl
  have BX := Aside0.mk (And.intro b0 (And.intro b1 b2))
  clear b0 b1 b2
  go_enter Try.func41, Try.ntmps41
  go_wp2_with fail
  rw [← hW1]
  have hlen : r.L.length ≤ 9223372036854775807 := by omega
  have st : (W1.alloc (.cells #[] 71)).ownsRow W1.heap.size 71 3 (.slice (some ⟨W1.heap.size, 0, none⟩) 0 0) 0 [] := World.ownsRow_lit W1 #[] 0 (Nat.le_refl _) (Nat.zero_le _) rfl
  have ST := Aside0.mk st
  clear st
  go_loopw [4, 5, 6] (fun out inn i wr => ∃ (k : Nat) (b : Bool) (n : Nat) (M : List FileR) (Ao : Option Addr) (co : Nat), i = .int .i64 k ∧ k ≤ r.L.length ∧ inn = .bool b ∧ out = .slice Ao n co ∧ Aside0 (PutAt ⟨fn, .slice Af fb.length cf, fb, ff⟩ r.L b k M) ∧ Aside0 (n = M.length ∧ n ≤ k + 1) ∧ Aside0 (wr.ownsRow W1.heap.size 71 3 (.slice Ao n co) n (rcells M)) ∧ Aside0 (Below W1.heap.size W1 wr)) (fun _ _ i _ => r.L.length - (intOf i).toNat)
  case atStart => exact ⟨0, false, 0, [], some ⟨w.heap.size + 1, 0, none⟩, 0, rfl, Nat.zero_le _, rfl, rfl, ⟨⟨rfl, rfl⟩⟩, ⟨⟨rfl, Nat.zero_le _⟩⟩, ⟨by rw [← hsz]; exact ST.out⟩, ⟨(Below.refl _ W1).alloc (Nat.le_refl _) _⟩⟩
  case round =>
    obtain ⟨k, b, n, M, Ao, co, rfl, hk, rfl, rfl, hP, hM, hO, hB⟩ := hrel
    by_cases hlt : k < r.L.length
    · have hi1 : (k : Int) < (r.L.length : Int) := by omega
      have bw := BW.out.trans (hB.out.mono (by omega))
      obtain ⟨g, c1, e1, h1, h2, h3, h4, h5, h6⟩ := H.out.at (split_at hlt)
      rw [List.length_take, Nat.min_eq_left (by omega)] at h2 h3 h4
      rw [HA.out] at e1
      injection e1 with e1 e2 e3
      subst e1 e3
      have q0 := pw_cell_below bw k0
      have hFk := H.out.file r.L[k] (List.getElem_mem _)
      have SP := Aside0.mk (split_at hlt)
      obtain ⟨fk, hfk⟩ : ∃ fk, fk = r.L[k] := ⟨_, rfl⟩
      rw [← hfk] at h2 h3 h4 hFk SP
      obtain ⟨nk, vk, bk, tk⟩ := fk
      obtain ⟨Ak, ck, hvk, hck, hckm⟩ := hFk.slice
      simp only at hvk h2 h3 h4 hck
      subst hvk
      have q1 := pw_cell_below bw h2
      have q2 := pw_cell_below bw h3
      have q3 := pw_cell_below bw h4
      have q4 := pw_cell_below hB.out BX.out.1
      have q5 := pw_cell_below hB.out BX.out.2.1
      have q6 := pw_cell_below hB.out BX.out.2.2
      have KK := Aside0.mk (And.intro k0 (And.intro h2 (And.intro h3 h4)))
      clear k0 h2 h3 h4 h5 f0
      cases b with
      | true =>
        go_wp2_with fail
        go_quiet (fail)
        go_wp2_with (at_builtin; go_loud (refine wpList_push_f (W := wr.drewN _) rfl _ _ rfl W1.heap.size (.slice Ao n co) n M rfl (ownsRow_drewN hO.out _) ⟨nk, .slice Ak bk.length ck, bk, tk⟩ rfl rfl (by have := hM.out; omega) (le_drewN hB.out.size _) ?_); intro A1 c1 w1 hown hb; have O1 := Aside0.mk hown; have B1 := Aside0.mk (below_trans_drewN hB.out hb); clear hown hb)
        go_round
        case rel => exact ⟨k + 1, true, n + 1, M ++ [⟨nk, .slice Ak bk.length ck, bk, tk⟩], _, _, by go_num, by omega, rfl, rfl, ⟨put_true hP.out hlt hfk⟩, ⟨by have := hM.out; simp; omega⟩, O1, B1⟩
        case measure => simp [intOf]; omega
      | false =>
        cases hbb : Op.bytesLess fn.toList nk.toList with
        | true =>
          have HB := Aside0.mk (show bytesBefore fn.data.toList nk.data.toList = true by rw [← less_before, ← toList_data, ← toList_data]; exact hbb)
          go_wp2_with fail
          go_quiet (fail)
          go_wp2_with (first
            | (at_builtin; refine wpList_push_f (W := wr.drewN _) rfl _ _ rfl W1.heap.size (.slice Ao n co) n M rfl (ownsRow_drewN hO.out _) ⟨fn, .slice Af fb.length cf, fb, ff⟩ rfl rfl (by have := hM.out; omega) (le_drewN hB.out.size _) ?_; intro A1 c1 w1 hown hb; have O1 := Aside0.mk hown; have B1 := Aside0.mk (below_trans_drewN hB.out hb); clear hown hb; have bw1 := BW.out.trans (B1.out.mono (by omega)); have z0 := pw_cell_below bw1 KK.out.1; have z1 := pw_cell_below bw1 KK.out.2.1; have z2 := pw_cell_below bw1 KK.out.2.2.1; have z3 := pw_cell_below bw1 KK.out.2.2.2)
            | (at_builtin; refine wpList_push_f (W := w1) rfl _ _ rfl W1.heap.size (.slice A1 (n + 1) c1) (n + 1) (M ++ [⟨fn, .slice Af fb.length cf, fb, ff⟩]) rfl O1.out ⟨nk, .slice Ak bk.length ck, bk, tk⟩ rfl rfl (by have := hM.out; omega) B1.out.size ?_; intro A2 c2 w2 hown hb; have O2 := Aside0.mk hown; have B2 := Aside0.mk (B1.out.trans hb); clear hown hb))
          go_round
          case rel => exact ⟨k + 1, true, n + 1 + 1, M ++ [⟨fn, .slice Af fb.length cf, fb, ff⟩] ++ [⟨nk, .slice Ak bk.length ck, bk, tk⟩], _, _, by go_num, by omega, rfl, rfl, ⟨put_now hP.out hlt hfk HB.out⟩, ⟨put_len hP.out hlt hM.out⟩, O2, B2⟩
          case measure => simp [intOf]; omega
        | false =>
          have HB := Aside0.mk (show bytesBefore fn.data.toList nk.data.toList = false by rw [← less_before, ← toList_data, ← toList_data]; exact hbb)
          go_wp2_with fail
          go_quiet (fail)
          go_wp2_with (at_builtin; refine wpList_push_f (W := wr.drewN _) rfl _ _ rfl W1.heap.size (.slice Ao n co) n M rfl (ownsRow_drewN hO.out _) ⟨nk, .slice Ak bk.length ck, bk, tk⟩ rfl rfl (by have := hM.out; omega) (le_drewN hB.out.size _) ?_; intro A1 c1 w1 hown hb; have O1 := Aside0.mk hown; have B1 := Aside0.mk (below_trans_drewN hB.out hb); clear hown hb)
          go_round
          case rel => exact ⟨k + 1, false, n + 1, M ++ [⟨nk, .slice Ak bk.length ck, bk, tk⟩], _, _, by go_num, by omega, rfl, rfl, ⟨put_later hP.out hlt hfk HB.out⟩, ⟨by have := hM.out; simp; omega⟩, O1, B1⟩
          case measure => simp [intOf]; omega
    · obtain rfl : k = r.L.length := by omega
      have bw := BW.out.trans (hB.out.mono (by omega))
      have q0 := pw_cell_below bw k0
      have qf := (bw.frozen (p := ⟨r.d, 0, none⟩) HD.out).trans f0
      have q4 := pw_cell_below hB.out BX.out.1
      have q5 := pw_cell_below hB.out BX.out.2.1
      have q6 := pw_cell_below hB.out BX.out.2.2
      cases b with
      | true =>
        have hE : M = insR ⟨fn, .slice Af fb.length cf, fb, ff⟩ r.L := by
          have := hP.out
          simp only [PutAt, List.drop_length, List.append_nil] at this
          exact this
        have HE := Aside0.mk hE
        clear hE
        go_wp2_with fail
        go_end0
        have h0 : wr.ownsRow w.heap.size 71 3 (.slice Ao n co) (insR ⟨fn, .slice Af fb.length cf, fb, ff⟩ r.L).length (rcells (insR ⟨fn, .slice Af fb.length cf, fb, ff⟩ r.L)) := by
          rw [← HE.out, ← hM.out.1]
          exact ownsRow_mono hO.out (by omega)
        exact ⟨rfl, _, H.out.reRow2 HF.out bw h0 (fun x hx => (insR_perm _ _).mem_iff.1 hx)⟩
      | false =>
        have hE : M ++ [⟨fn, .slice Af fb.length cf, fb, ff⟩] = insR ⟨fn, .slice Af fb.length cf, fb, ff⟩ r.L := by
          obtain ⟨e1, e2⟩ := hP.out
          rw [e2, e1, List.drop_length]
          rfl
        have HE := Aside0.mk hE
        clear hE
        go_wp2_with (at_builtin; refine wpList_push_f (W := wr) rfl _ _ rfl W1.heap.size (.slice Ao n co) n M rfl hO.out ⟨fn, .slice Af fb.length cf, fb, ff⟩ rfl rfl (by have := hM.out; omega) hB.out.size ?_; intro A1 c1 w1 hown hb; have O1 := Aside0.mk hown; have B1 := Aside0.mk (hB.out.trans hb); clear hown hb; have bw1 := BW.out.trans (B1.out.mono (by omega)); have z0 := pw_cell_below bw1 k0; have zf := (bw1.frozen (p := ⟨r.d, 0, none⟩) HD.out).trans f0)
        go_end0
        have h0 : w1.ownsRow w.heap.size 71 3 (.slice A1 (n + 1) c1) (insR ⟨fn, .slice Af fb.length cf, fb, ff⟩ r.L).length (rcells (insR ⟨fn, .slice Af fb.length cf, fb, ff⟩ r.L)) := by
          rw [← HE.out, List.length_append, List.length_singleton, ← hM.out.1]
          exact ownsRow_mono O1.out (by omega)
        exact ⟨rfl, _, H.out.reRow2 HF.out bw1 h0 (fun x hx => (insR_perm _ _).mem_iff.1 hx)⟩
end Go.Proofs.Ytlbeehefandfhaa.Pr
end
section
namespace Go.Proofs.Ytlbeehefandfhaa.Pr
open Go.RowKit Go.Maps Go.Sort Go.Proofs.YtlbeehefandfhaaW.PrintWords Go.Proofs.YtlbeehefandfhaaW.PrintLast Go.Proofs.YtlbeehefandfhaaW.PrintMore
structure RefDone (w : World) (B : Nat) (r : RefM) (p : PD) (w' : World) (r' : RefM) : Prop where
  ref : RefIs w' B r'
  step : StepR w r w' r'
  abs : r'.abs = p
  d : r'.d = r.d
theorem RefIs.drew {w : World} {B : Nat} {r : RefM} (h : RefIs w B r) : RefIs w.drew B r := h.move fun _ _ => rfl
theorem StepR.drew {w w' : World} {r r' : RefM} (h : StepR w r w' r') : StepR w r w'.drew r' := ⟨⟨h.moved.os, h.moved.tape, h.moved.output, h.moved.size, h.moved.block⟩, h.foot⟩
theorem StepR.drewN {w w' : World} {r r' : RefM} (h : StepR w r w' r') (n : Nat) : StepR w r (w'.drewN n) r' := ⟨h.moved.drewN n, h.foot⟩
def RefPost (w : World) (B : Nat) (r : RefM) (q : PD × Int) (e : Ending) (w' : World) : Prop := e = .returned (.int .i64 q.2) ∧ ∃ r', RefDone w B r q.1 w' r'
structure GoodR (r : RefM) : Prop where
  wf : WF r.abs
  many : r.L.length ≤ 1000000
theorem GoodR.c0 {r : RefM} (h : GoodR r) : -1 ≤ r.calls := h.wf.calls0
theorem GoodR.c1 {r : RefM} (h : GoodR r) : r.calls ≤ 9223372036854775807 := h.wf.calls1
theorem GoodR.goes {r : RefM} (h : GoodR r) : GoodR r.goes := ⟨by rw [absR_goes]; exact h.wf.goes, h.many⟩
theorem nameR_ne {a b : ByteArray} (h : a ≠ b) : a.data.toList ≠ b.data.toList := fun e => h (Go.WideShapes.bytes_inj e)
theorem getR_none {L : List FileR} {nm : ByteArray} (h : ∀ g ∈ L, g.name ≠ nm) : getP nm.data.toList (L.map absR) = none := by
  refine List.find?_eq_none.2 fun x hx => ?_
  obtain ⟨g, hg, rfl⟩ := List.mem_map.1 hx
  simp only [absR, beq_iff_eq]
  exact nameR_ne (h g hg)
theorem getR_some {L M : List FileR} {f : FileR} {nm : ByteArray} (hf : f.name = nm) (h : ∀ g ∈ L, g.name ≠ nm) : getP nm.data.toList ((L ++ f :: M).map absR) = some (absR f) := by
  unfold getP
  rw [List.map_append, List.find?_append]
  have h1 : (L.map absR).find? (fun f => f.name == nm.data.toList) = none := getR_none h
  rw [h1, List.map_cons, List.find?_cons]
  have : ((absR f).name == nm.data.toList) = true := by rw [← hf]; exact beq_self_eq_true _
  rw [this]
  rfl
theorem updR_at {L M : List FileR} {f : FileR} {nm : ByteArray} (hf : f.name = nm) (h : ∀ g ∈ L, g.name ≠ nm) (g : PF → PF) : updP nm.data.toList g ((L ++ f :: M).map absR) = L.map absR ++ g (absR f) :: M.map absR := by
  rw [List.map_append, List.map_cons]
  exact updP_at _ g (absR f) _ (by rw [← hf]; rfl) _ (fun x hx => by obtain ⟨y, hy, rfl⟩ := List.mem_map.1 hx; exact nameR_ne (h y hy))
section
variable {w : World} {B : Nat} {r : RefM}
theorem RefIs.rowG (h : RefIs w B r) {g n c : Nat} (hA : r.A = .slice (some ⟨g, 0, none⟩) n c) : r.A.ownBlock = some g := by rw [hA]; rfl
theorem RefIs.setFast (h : RefIs w B r) {L M : List FileR} {f : FileR} (hL : r.L = L ++ f :: M) {g n c : Nat} (hA : r.A = .slice (some ⟨g, 0, none⟩) n c) (k : Nat) :
    RefIs (w.setCell ⟨g, L.length * 3 + 2, none⟩ (.int .i64 k)) B { r with L := L ++ { f with fast := k } :: M } ∧ StepR w r (w.setCell ⟨g, L.length * 3 + 2, none⟩ (.int .i64 k)) { r with L := L ++ { f with fast := k } :: M } := by
  have hg := h.rowG hA
  have hmv : ∀ i, i ≠ g → (w.setCell ⟨g, L.length * 3 + 2, none⟩ (.int .i64 k)).heap[i]? = w.heap[i]? := fun i hi => Below.heap_setCell _ _ _ _ hi
  refine ⟨⟨h.dB, (hmv _ (fun e => h.dr hg e.symm)).trans h.head, ?_, fun x hx => ?_⟩, (Moved.refl _ _).setCell (.inl (.inr (.inl hg))) _, fun i hi => .inl ?_⟩
  · have hrow := h.row
    rw [hA] at hrow
    obtain ⟨A', c', e, _⟩ := h.slice
    have hn : n = r.L.length := by rw [hA] at e; injection e
    subst hn
    have := (hrow.stored (L.length * 3 + 2) (.int .i64 k)).1
    rw [hL, rcells_set2] at this
    show World.ownsRow _ B _ 3 r.A (L ++ _ :: M).length _
    rw [hA, hL]
    simp only [List.length_append, List.length_cons] at this ⊢
    exact this
  · have hx' : ∃ y ∈ r.L, x.v = y.v ∧ x.bs = y.bs := by
      rcases List.mem_append.1 hx with hx | hx
      · exact ⟨x, by rw [hL]; simp [hx], rfl, rfl⟩
      · rcases List.mem_cons.1 hx with rfl | hx
        · exact ⟨f, by rw [hL]; simp, rfl, rfl⟩
        · exact ⟨x, by rw [hL]; simp [hx], rfl, rfl⟩
    obtain ⟨y, hy, e1, e2⟩ := hx'
    rw [e1, e2]
    exact (h.file y hy).move (fun i hi => hmv i (h.rf hy hi hg))
  · rcases hi with hi | hi | ⟨x, hx, hi⟩
    · exact .inl hi
    · exact .inr (.inl hi)
    · rcases List.mem_append.1 hx with hx | hx
      · exact .inr (.inr ⟨x, by rw [hL]; simp [hx], hi⟩)
      · rcases List.mem_cons.1 hx with rfl | hx
        · exact .inr (.inr ⟨f, by rw [hL]; simp, hi⟩)
        · exact .inr (.inr ⟨x, by rw [hL]; simp [hx], hi⟩)
theorem RefIs.setRow (h : RefIs w B r) {L M : List FileR} {f : FileR} (hL : r.L = L ++ f :: M) {g n c : Nat} (hA : r.A = .slice (some ⟨g, 0, none⟩) n c) {v : Value} {bs : List Int} (hv : DRow w B v bs) :
    RefIs (w.setCell ⟨g, L.length * 3 + 1, none⟩ v) B { r with L := L ++ { f with v := v, bs := bs } :: M } ∧ Moved (FootR r) w (w.setCell ⟨g, L.length * 3 + 1, none⟩ v) ∧ ∀ k, FootR { r with L := L ++ { f with v := v, bs := bs } :: M } k → FootR r k ∨ v.ownBlock = some k := by
  have hg := h.rowG hA
  have hmv : ∀ i, i ≠ g → (w.setCell ⟨g, L.length * 3 + 1, none⟩ v).heap[i]? = w.heap[i]? := fun i hi => Below.heap_setCell _ _ _ _ hi
  have hvg : ∀ i, v.ownBlock = some i → i ≠ g := fun i hi e => by
    subst e
    obtain ⟨_, _, cur, hc⟩ := hv.typed i hi
    obtain ⟨_, _, cur', hc'⟩ := ownsRow_typed h.row hg
    rw [hc'] at hc
    injection hc with hc
    injection hc with _ hc
    cases hc
  refine ⟨⟨h.dB, (hmv _ (fun e => h.dr hg e.symm)).trans h.head, ?_, fun x hx => ?_⟩, (Moved.refl _ _).setCell (.inl (.inr (.inl hg))) _, fun i hi => ?_⟩
  · have hrow := h.row
    rw [hA] at hrow
    obtain ⟨A', c', e, _⟩ := h.slice
    have hn : n = r.L.length := by rw [hA] at e; injection e
    subst hn
    have := (hrow.stored (L.length * 3 + 1) v).1
    rw [hL, rcells_set1 L M f v bs] at this
    show World.ownsRow _ B _ 3 r.A (L ++ _ :: M).length _
    rw [hA, hL]
    simp only [List.length_append, List.length_cons] at this ⊢
    exact this
  · have hx' : (∃ y ∈ r.L, x.v = y.v ∧ x.bs = y.bs) ∨ (x.v = v ∧ x.bs = bs) := by
      rcases List.mem_append.1 hx with hx | hx
      · exact .inl ⟨x, by rw [hL]; simp [hx], rfl, rfl⟩
      · rcases List.mem_cons.1 hx with rfl | hx
        · exact .inr ⟨rfl, rfl⟩
        · exact .inl ⟨x, by rw [hL]; simp [hx], rfl, rfl⟩
    rcases hx' with ⟨y, hy, e1, e2⟩ | ⟨e1, e2⟩
    · rw [e1, e2]
      exact (h.file y hy).move (fun i hi => hmv i (h.rf hy hi hg))
    · rw [e1, e2]
      exact hv.move (fun i hi => hmv i (hvg i hi))
  · rcases hi with hi | hi | ⟨x, hx, hi⟩
    · exact .inl (.inl hi)
    · exact .inl (.inr (.inl hi))
    · rcases List.mem_append.1 hx with hx | hx
      · exact .inl (.inr (.inr ⟨x, by rw [hL]; simp [hx], hi⟩))
      · rcases List.mem_cons.1 hx with rfl | hx
        · exact .inr hi
        · exact .inl (.inr (.inr ⟨x, by rw [hL]; simp [hx], hi⟩))
end
set_option maxHeartbeats 1000000 in
theorem refSync_calls (w : World) (B : Nat) (r : RefM) (h : RefIs w B r) (g : GoodR r) (nm : ByteArray) (hs : nm.size ≤ maxLen) :
    Calls Try.prog 27 #[.pointer (some ⟨r.d, 0, none⟩), .string nm] w (RefPost w B r (pSync r.abs nm.data.toList)) := by
  have H := Aside0.mk h
  have G := Aside0.mk g
  clear h g
  cases ho : r.goes.out with
  | true =>
    have HP := Aside0.mk (show pSync r.abs nm.data.toList = (r.abs.goes, 200) by unfold pSync; rw [← absR_goes, show r.goes.abs.out = true from ho]; rfl)
    go_enter Try.func27, Try.ntmps27
    go_wp2_with fail
    refine (refPower_calls w B r H.out G.out.c1 G.out.c0).mono ?_
    rintro e w1 ⟨rfl, hR, hS⟩
    have R1 := Aside0.mk hR
    have S1 := Aside0.mk hS
    rw [ho]
    clear hR hS ho
    go_wp2_with fail
    go_ret
    rw [HP.out]
    exact ⟨rfl, _, R1.out, S1.out, rfl, rfl⟩
  | false =>
    go_enter Try.func27, Try.ntmps27
    go_wp2_with fail
    refine (refPower_calls w B r H.out G.out.c1 G.out.c0).mono ?_
    rintro e w1 ⟨rfl, hR, hS⟩
    have R1 := Aside0.mk hR
    have S1 := Aside0.mk hS
    have HO := Aside0.mk ho
    rw [ho]
    clear hR hS ho
    go_wp2_with fail
    refine (refAt_calls w1 B r.goes R1.out nm hs).mono ?_
    rintro e w2 ⟨⟨k, rfl, hk⟩, rfl⟩
    rcases hk with ⟨rfl, hno⟩ | ⟨L1, f, L2, hL, hf, hL1, rfl⟩
    · have HP := Aside0.mk (show pSync r.abs nm.data.toList = (r.abs.goes, 5) by unfold pSync; rw [← absR_goes, show r.goes.abs.out = false from HO.out, show r.abs.F = r.L.map absR from rfl, getR_none (L := r.L) hno]; rfl)
      go_wp2_with fail
      go_ret
      rw [HP.out]
      exact ⟨rfl, _, R1.out, S1.out, rfl, rfl⟩
    · have HP := Aside0.mk (show pSync r.abs nm.data.toList = ({ r.abs.goes with F := L1.map absR ++ { absR f with fast := f.bs.length } :: L2.map absR }, 0) by
        have hF : r.abs.F = (L1 ++ f :: L2).map absR := by show r.L.map absR = _; rw [show r.L = _ from hL]
        unfold pSync
        rw [← absR_goes, show r.goes.abs.out = false from HO.out, hF, getR_some hf hL1, updR_at hf hL1]; rfl)
      obtain ⟨gb, c, hA, hc, c1, c2, c3, c4, hm⟩ := R1.out.at hL
      have hFf := R1.out.file f (by rw [hL]; simp)
      obtain ⟨Af, cf, hv, hcf, hcm⟩ := hFf.slice
      rw [hv] at c2
      have k0 : w1.cell? ⟨r.d, 0, none⟩ = some (.slice (some ⟨gb, 0, none⟩) r.L.length c) := by
        have := R1.out.c0
        rw [hA] at this
        exact this
      have hlen : (L1.length : Int) < (r.goes.L.length : Int) := by rw [hL]; simp; omega
      have i0 : ¬ (L1.length : Int) < 0 := by omega
      have fz := c4 (L1.length * 3 + 2)
      have HA := Aside0.mk hA
      have HL := Aside0.mk hL
      change (L1.length : Int) < (r.L.length : Int) at hlen
      clear hA hL hv c4 hFf c1
      go_wp2_with fail
      go_region
      go_wp2_with fail
      go_ret
      rw [HP.out]
      obtain ⟨d1, d2⟩ := R1.out.setFast HL.out HA.out f.bs.length
      exact ⟨rfl, _, d1.drew, (S1.out.trans d2).drew, by show (⟨(L1 ++ _ :: L2).map absR, _, _, _⟩ : PD) = _; rw [List.map_append, List.map_cons]; rfl, rfl⟩
theorem delR_at {r : RefM} (g : GoodR r) {L M : List FileR} {f : FileR} {nm : ByteArray} (hL : r.L = L ++ f :: M) (hf : f.name = nm) : delP nm.data.toList (r.L.map absR) = (L ++ M).map absR := by
  have hs := g.wf.sorted
  change (r.L.map absR).Pairwise _ at hs
  rw [hL, List.map_append, List.map_cons] at hs ⊢
  rw [delP_at _ _ _ _ hs (by rw [← hf]; rfl), List.map_append]
set_option maxHeartbeats 1000000 in
theorem refRemove_calls (w : World) (B : Nat) (r : RefM) (h : RefIs w B r) (g : GoodR r) (nm : ByteArray) (hs : nm.size ≤ maxLen) :
    Calls Try.prog 31 #[.pointer (some ⟨r.d, 0, none⟩), .string nm] w (RefPost w B r (pRemove r.abs nm.data.toList)) := by
  have H := Aside0.mk h
  have G := Aside0.mk g
  clear h g
  cases ho : r.goes.out with
  | true =>
    have HP := Aside0.mk (show pRemove r.abs nm.data.toList = (r.abs.goes, 200) by unfold pRemove; rw [← absR_goes, show r.goes.abs.out = true from ho]; rfl)
    go_enter Try.func31, Try.ntmps31
    go_wp2_with fail
    refine (refPower_calls w B r H.out G.out.c1 G.out.c0).mono ?_
    rintro e w1 ⟨rfl, hR, hS⟩
    have R1 := Aside0.mk hR
    have S1 := Aside0.mk hS
    rw [ho]
    clear hR hS ho
    go_wp2_with fail
    go_ret
    rw [HP.out]
    exact ⟨rfl, _, R1.out, S1.out, rfl, rfl⟩
  | false =>
    go_enter Try.func31, Try.ntmps31
    go_wp2_with fail
    refine (refPower_calls w B r H.out G.out.c1 G.out.c0).mono ?_
    rintro e w1 ⟨rfl, hR, hS⟩
    have R1 := Aside0.mk hR
    have S1 := Aside0.mk hS
    have HO := Aside0.mk ho
    rw [ho]
    clear hR hS ho
    go_wp2_with fail
    refine (refAt_calls w1 B r.goes R1.out nm hs).mono ?_
    rintro e w2 ⟨⟨k, rfl, hk⟩, rfl⟩
    rcases hk with ⟨rfl, hno⟩ | ⟨L1, f, L2, hL, hf, hL1, rfl⟩
    · have HP := Aside0.mk (show pRemove r.abs nm.data.toList = (r.abs.goes, 5) by unfold pRemove; rw [← absR_goes, show r.goes.abs.out = false from HO.out, show r.abs.F = r.L.map absR from rfl, getR_none (L := r.L) hno]; rfl)
      go_wp2_with fail
      go_ret
      rw [HP.out]
      exact ⟨rfl, _, R1.out, S1.out, rfl, rfl⟩
    · have HP := Aside0.mk (show pRemove r.abs nm.data.toList = ({ r.abs.goes with F := (L1 ++ L2).map absR }, 0) by
        have hd := delR_at G.out (show r.L = _ from hL) hf
        have hF : r.abs.F = (L1 ++ f :: L2).map absR := by show r.L.map absR = _; rw [show r.L = _ from hL]
        unfold pRemove
        rw [← absR_goes, show r.goes.abs.out = false from HO.out, show delP nm.data.toList r.abs.F = _ from hd, hF, getR_some hf hL1]; rfl)
      have HL := Aside0.mk hL
      have i0 : ¬ (L1.length : Int) < 0 := by omega
      go_wp2_with fail
      refine (refDrop_calls w1 B r.goes R1.out L1 L2 f HL.out (by have := G.out.many; show r.L.length ≤ _; omega)).mono ?_
      rintro e w2 ⟨rfl, A2, hR2, hS2⟩
      have R2 := Aside0.mk hR2
      have S2 := Aside0.mk hS2
      clear hR2 hS2
      go_wp2_with fail
      go_ret
      rw [HP.out]
      exact ⟨rfl, _, R2.out, S1.out.trans S2.out, rfl, rfl⟩
end Go.Proofs.Ytlbeehefandfhaa.Pr
end
section
namespace Go.Proofs.Ytlbeehefandfhaa.Pr
open Go.RowKit Go.Maps Go.Sort Go.Proofs.YtlbeehefandfhaaW.PrintWords Go.Proofs.YtlbeehefandfhaaW.PrintLast Go.Proofs.YtlbeehefandfhaaW.PrintMore
theorem delR_none {L : List FileR} {nm : ByteArray} (h : ∀ g ∈ L, g.name ≠ nm) : delP nm.data.toList (L.map absR) = L.map absR := by
  refine List.filter_eq_self.2 fun x hx => ?_
  obtain ⟨y, hy, rfl⟩ := List.mem_map.1 hx
  simp only [absR, Bool.not_eq_true', beq_eq_false_iff_ne]
  exact nameR_ne (h y hy)
theorem del_comm (a b : List UInt8) (F : List PF) : delP a (delP b F) = delP b (delP a F) := by
  unfold delP
  rw [List.filter_filter, List.filter_filter]
  congr 1
  funext x
  exact Bool.and_comm _ _
theorem StepR.putBack {w w1 w2 : World} {r r1 r2 : RefM} {f : FileR} (h1 : StepR w r w1 r1) (h2 : StepR w1 { r1 with L := f :: r1.L } w2 r2) (hf : ∀ k, f.v.ownBlock = some k → FootR r k) : StepR w r w2 r2 := by
  have e : ∀ k, FootR { r1 with L := f :: r1.L } k → FootR r k ∨ w.heap.size ≤ k := fun k hk => by
    rcases hk with hk | hk | ⟨x, hx, hk⟩
    · exact h1.foot k (.inl hk)
    · exact h1.foot k (.inr (.inl hk))
    · rcases List.mem_cons.1 hx with rfl | hx
      · exact .inl (hf k hk)
      · exact h1.foot k (.inr (.inr ⟨x, hx, hk⟩))
  refine ⟨h1.moved.trans h2.moved e, fun k hk => ?_⟩
  rcases h2.foot k hk with h | h
  · exact e k h
  · exact .inr (Nat.le_trans h1.moved.size h)
theorem StepR.alloc {w w' : World} {r r' : RefM} (h : StepR w r w' r') (o : Obj) : StepR w r (w'.alloc o) r' := ⟨h.moved.alloc o, h.foot⟩
theorem StepR.setNew {w w' : World} {r r' : RefM} (h : StepR w r w' r') {a : Addr} (ha : w.heap.size ≤ a.block) (v : Value) : StepR w r (w'.setCell a v) r' := ⟨h.moved.setCell (.inr ha) v, h.foot⟩
theorem RefIs.setFar {w : World} {B : Nat} {r : RefM} (h : RefIs w B r) {a : Addr} (ha : ¬ FootR r a.block) (v : Value) : RefIs (w.setCell a v) B r := h.move fun k hk => Below.heap_setCell w a v k (fun e => ha (e ▸ hk))
theorem lenL {K L M : List FileR} {f : FileR} (h : K = L ++ f :: M) : (L ++ M).length ≤ K.length := by rw [h]; simp
set_option maxRecDepth 100000 in
set_option maxHeartbeats 2000000 in
theorem refRename_calls (w : World) (B : Nat) (r : RefM) (h : RefIs w B r) (g : GoodR r) (na nb : ByteArray) (hs : na.size ≤ maxLen) (hsb : nb.size ≤ maxLen) :
    Calls Try.prog 29 #[.pointer (some ⟨r.d, 0, none⟩), .string na, .string nb] w (RefPost w B r (pRename r.abs na.data.toList nb.data.toList)) := by
  have H := Aside0.mk h
  have G := Aside0.mk g
  have hs2 : nb.size ≤ 9223372036854775807 := by unfold maxLen at hsb; exact hsb
  clear h g
  cases ho : r.goes.out with
  | true =>
    have HP := Aside0.mk (pRename_out (s := r.abs) (a := na.data.toList) (b := nb.data.toList) (by rw [← absR_goes]; exact ho))
    go_enter Try.func29, Try.ntmps29
    go_wp2_with fail
    refine (refPower_calls w B r H.out G.out.c1 G.out.c0).mono ?_
    rintro e w1 ⟨rfl, hR, hS⟩
    have R1 := Aside0.mk hR
    have S1 := Aside0.mk hS
    rw [ho]
    clear hR hS ho
    go_wp2_with fail
    go_ret
    rw [HP.out]
    exact ⟨rfl, _, R1.out, S1.out, rfl, rfl⟩
  | false =>
    go_enter Try.func29, Try.ntmps29
    go_wp2_with fail
    refine (refPower_calls w B r H.out G.out.c1 G.out.c0).mono ?_
    rintro e w1 ⟨rfl, hR, hS⟩
    have R1 := Aside0.mk hR
    have S1 := Aside0.mk hS
    have HO := Aside0.mk (show r.abs.goes.out = false from ho)
    rw [ho]
    clear hR hS ho
    go_wp2_with fail
    refine (refName_calls w1 nb hs2).mono ?_
    rintro e w2 ⟨rfl, rfl⟩
    cases hk : nameOk nb.data.toList with
    | false =>
      have HP := Aside0.mk (pRename_name (s := r.abs) (a := na.data.toList) (b := nb.data.toList) HO.out hk)
      go_wp2_with fail
      go_ret
      rw [HP.out]
      exact ⟨rfl, _, R1.out, S1.out, rfl, rfl⟩
    | true =>
      have HK := Aside0.mk hk
      clear hk
      go_wp2_with fail
      refine (refAt_calls w1 B r.goes R1.out na hs).mono ?_
      rintro e w2 ⟨⟨k, rfl, hk⟩, rfl⟩
      rcases hk with ⟨rfl, hno⟩ | ⟨L1, f, L2, hL, hf, hL1, rfl⟩
      · have HP := Aside0.mk (pRename_none (s := r.abs) (a := na.data.toList) (b := nb.data.toList) HO.out HK.out (getR_none (L := r.L) hno))
        go_wp2_with fail
        go_ret
        rw [HP.out]
        exact ⟨rfl, _, R1.out, S1.out, rfl, rfl⟩
      · have hF : r.abs.F = (L1 ++ f :: L2).map absR := by show r.L.map absR = _; rw [show r.L = _ from hL]
        have hG : getP na.data.toList r.abs.F = some (absR f) := by rw [hF]; exact getR_some hf hL1
        have i0 : ¬ (L1.length : Int) < 0 := by omega
        by_cases hab : na = nb
        · have HP := Aside0.mk (pRename_same (s := r.abs) (a := na.data.toList) (b := nb.data.toList) HO.out HK.out hG (by rw [hab]))
          have hbq : (na.toList == nb.toList) = true := by rw [hab]; exact beq_self_eq_true _
          clear hab
          go_wp2_with fail
          go_ret
          rw [HP.out]
          exact ⟨rfl, _, R1.out, S1.out, rfl, rfl⟩
        · have HP := Aside0.mk (pRename_some (s := r.abs) (a := na.data.toList) (b := nb.data.toList) HO.out HK.out hG (nameR_ne hab))
          have hbq : (na.toList == nb.toList) = false := beq_eq_false_iff_ne.2 (by rw [toList_data, toList_data]; exact nameR_ne hab)
          have HAB := Aside0.mk hab
          obtain ⟨gb, c, hA, hc, c1, c2, c3, c4, hm⟩ := R1.out.at hL
          have hFf := R1.out.file f (by rw [hL]; simp)
          obtain ⟨Af, cf, hv, hcf, hcm⟩ := hFf.slice
          rw [hv] at c2
          have k0 : w1.cell? ⟨r.d, 0, none⟩ = some (.slice (some ⟨gb, 0, none⟩) r.L.length c) := by
            have := R1.out.c0
            rw [hA] at this
            exact this
          have hlen : (L1.length : Int) < (r.L.length : Int) := by rw [show r.L = _ from hL]; simp; omega
          have HFF := Aside0.mk hFf
          have HV := Aside0.mk hv
          have HL := Aside0.mk hL
          have HF := Aside0.mk hf
          have HFX := Aside0.mk hF
          clear hab hA hL hv hFf c4 hcm hf hF hG
          go_wp2_with fail
          obtain ⟨W, hW⟩ : ∃ W, W = w1.alloc (.cells #[.string f.name, .slice Af f.bs.length cf, .int .i64 f.fast] 71) := ⟨_, rfl⟩
          have hbx : W.heap[w1.heap.size]? = some (.cells #[.string f.name, .slice Af f.bs.length cf, .int .i64 f.fast] 71 (0, 0)) := by rw [hW]; exact heap_alloc_new w1 _
          have hRW : RefIs W B r.goes := by rw [hW]; exact R1.out.alloc _
          have hSW : StepR w r W r.goes := by rw [hW]; exact S1.out.alloc _
          have hFW : DRow W B f.v f.bs := by rw [hW]; exact HFF.out.move (fun k hk => Below.heap_alloc w1 _ k (HFF.out.typed k hk).2.1)
          have hszW : w1.heap.size < W.heap.size := by rw [hW]; simp
          have hdk : ∀ k, f.v.ownBlock = some k → k ≠ r.d := fun k hk => R1.out.df (by rw [HL.out]; simp) hk
          have HDK := Aside0.mk hdk
          have hrd : w1.heap.size ≠ r.d := fun e => by have := (R1.out.foot (k := r.d) (.inl rfl)).2; omega
          have HRD := Aside0.mk hrd
          clear hdk hrd
          have RW := Aside0.mk hRW
          have SW := Aside0.mk hSW
          have FW := Aside0.mk hFW
          have BW := Aside0.mk hbx
          have SWW := Aside0.mk (show StepR w1 r.goes W r.goes by rw [hW]; exact (StepR.refl w1 r.goes).alloc _)
          rw [← hW]
          clear hRW hSW hFW hbx hW c1 c2 c3 k0
          refine (refDropM_calls W B r.goes RW.out L1 L2 f HL.out (by have := G.out.many; show r.L.length ≤ _; omega)).mono ?_
          rintro e w2 ⟨rfl, A2, hR2, hS2, hM2⟩
          have R2 := Aside0.mk hR2
          have S2 := Aside0.mk hS2
          have FX2 := Aside0.mk (FW.out.move (fun k hk => hM2.block k (FW.out.typed k hk).2.1 (HDK.out k hk)))
          have BX2 := Aside0.mk ((hM2.block w1.heap.size hszW HRD.out).trans BW.out)
          have QF1 := Aside0.mk (delR_at G.out (show r.L = _ from HL.out) HF.out)
          clear hR2 hS2 hM2
          go_wp2_with fail
          refine (refAt_calls w2 B { r.goes with A := A2, L := L1 ++ L2 } R2.out nb hsb).mono ?_
          rintro e w3 ⟨⟨k, rfl, hk⟩, rfl⟩
          rcases hk with ⟨rfl, hno⟩ | ⟨M1, f2, M2, hM, hf2, hM1, rfl⟩
          · have QF := Aside0.mk (show (L1 ++ L2).map absR = delP na.data.toList (delP nb.data.toList r.abs.F) by
              rw [del_comm, show delP na.data.toList r.abs.F = _ from QF1.out, delR_none hno])
            have BX := BX2
            have FX := FX2
            clear hno
            have hbw : w.heap.size ≤ w1.heap.size := S1.out.moved.size
            have hnf : ¬ FootR ({ r.goes with A := A2, L := L1 ++ L2 } : RefM) w1.heap.size := fun hk => by
              rcases (S2.out).foot _ hk with h1 | h1
              · exact absurd (R1.out.foot h1).2 (by omega)
              · omega
            have x0 : w2.cell? ⟨w1.heap.size, 0, none⟩ = some (.string f.name) := by rw [cell_of_row w2 w1.heap.size 0 _ _ _ BX.out]; rfl
            have x1 : w2.cell? ⟨w1.heap.size, 1, none⟩ = some (.slice Af f.bs.length cf) := by rw [cell_of_row w2 w1.heap.size 1 _ _ _ BX.out]; rfl
            have x2 : w2.cell? ⟨w1.heap.size, 2, none⟩ = some (.int .i64 f.fast) := by rw [cell_of_row w2 w1.heap.size 2 _ _ _ BX.out]; rfl
            have xf : w2.frozen? ⟨w1.heap.size, 0, none⟩ = false := blk_frozen BX.out _
            have SX := Aside0.mk (S1.out.trans (SWW.out.trans S2.out))
            have NF := Aside0.mk hnf
            clear hnf
            go_wp2_with fail
            have hFv : (⟨nb, f.v, f.bs, f.fast⟩ : FileR).v = .slice Af f.bs.length cf := HV.out
            have hput := refPut_calls (w2.setCell ⟨w1.heap.size, 0, none⟩ (.string nb)) B ({ r.goes with A := A2, L := L1 ++ L2 } : RefM) (R2.out.setFar NF.out _) ⟨nb, .slice Af f.bs.length cf, f.bs, f.fast⟩ (by
              have := FX.out.move (w1 := w2.setCell ⟨w1.heap.size, 0, none⟩ (.string nb)) (fun k hk => Below.heap_setCell _ _ _ _ (fun e => by have := (HFF.out.typed k hk).2.1; simp only at e; omega))
              rw [HV.out] at this
              exact this) (Nat.le_trans (lenL (show r.L = _ from HL.out)) (Nat.le_trans G.out.many (by omega)))
            refine hput.mono ?_
            rintro e w5 ⟨rfl, A5, hR5, hS5⟩
            have R5 := Aside0.mk hR5
            have S5 := Aside0.mk (StepR.putBack (StepR.setNew SX.out (a := ⟨w1.heap.size, 0, none⟩) hbw (.string nb)) hS5 (fun k hk => .inr (.inr ⟨f, by rw [show r.L = _ from HL.out]; simp, by rw [HV.out]; exact hk⟩)))
            clear hR5 hS5 hput
            go_wp2_with fail
            go_ret
            rw [HP.out]
            refine ⟨rfl, _, R5.out, S5.out, ?_, rfl⟩
            show (⟨(insR ⟨nb, .slice Af f.bs.length cf, f.bs, f.fast⟩ _).map absR, _, _, _⟩ : PD) = _
            rw [insR_abs]
            exact congrArg (fun F => (⟨F, _, _, _⟩ : PD)) (congrArg (insP ⟨nb.data.toList, f.bs, f.fast⟩) QF.out)
          · have j0 : 0 ≤ (M1.length : Int) := by omega
            have G1 : GoodR { r.goes with A := A2, L := L1 ++ L2 } := ⟨by have := G.out.goes.wf.del na.data.toList; rw [show ({ r.goes.abs with F := delP na.data.toList r.goes.abs.F } : PD) = ⟨(L1 ++ L2).map absR, r.size, r.goes.calls, r.goes.out⟩ from congrArg (fun F => (⟨F, _, _, _⟩ : PD)) QF1.out] at this; exact this, Nat.le_trans (lenL (show r.L = _ from HL.out)) G.out.many⟩
            have QF := Aside0.mk (show (M1 ++ M2).map absR = delP na.data.toList (delP nb.data.toList r.abs.F) by
              rw [del_comm, show delP na.data.toList r.abs.F = _ from QF1.out]
              exact (delR_at G1 hM hf2).symm)
            have HM := Aside0.mk hM
            have GM := Aside0.mk G1.many
            have HM12 := Aside0.mk (show (M1 ++ M2).length ≤ (L1 ++ L2).length by rw [show L1 ++ L2 = _ from hM]; simp)
            have HDK2 := Aside0.mk HDK.out
            clear G1 hM hM1 hf2
            go_wp2_with fail
            refine (refDropM_calls w2 B { r.goes with A := A2, L := L1 ++ L2 } R2.out M1 M2 f2 HM.out (Nat.le_trans GM.out (by omega))).mono ?_
            rintro e w4 ⟨rfl, A3, hR3, hS3, hM3⟩
            have R3 := Aside0.mk hR3
            have S3 := Aside0.mk hS3
            have FX := Aside0.mk (FX2.out.move (fun k hk => hM3.block k (FX2.out.typed k hk).2.1 (HDK.out k hk)))
            have BX := Aside0.mk ((hM3.block w1.heap.size (Array.getElem?_eq_some_iff.1 BX2.out).1 HRD.out).trans BX2.out)
            clear hR3 hS3 hM3
            have hbw : w.heap.size ≤ w1.heap.size := S1.out.moved.size
            have hnf : ¬ FootR ({ r.goes with A := A3, L := M1 ++ M2 } : RefM) w1.heap.size := fun hk => by
              rcases (S2.out.trans S3.out).foot _ hk with h1 | h1
              · exact absurd (R1.out.foot h1).2 (by omega)
              · omega
            have x0 : w4.cell? ⟨w1.heap.size, 0, none⟩ = some (.string f.name) := by rw [cell_of_row w4 w1.heap.size 0 _ _ _ BX.out]; rfl
            have x1 : w4.cell? ⟨w1.heap.size, 1, none⟩ = some (.slice Af f.bs.length cf) := by rw [cell_of_row w4 w1.heap.size 1 _ _ _ BX.out]; rfl
            have x2 : w4.cell? ⟨w1.heap.size, 2, none⟩ = some (.int .i64 f.fast) := by rw [cell_of_row w4 w1.heap.size 2 _ _ _ BX.out]; rfl
            have xf : w4.frozen? ⟨w1.heap.size, 0, none⟩ = false := blk_frozen BX.out _
            have SX := Aside0.mk (S1.out.trans ((SWW.out.trans S2.out).trans S3.out))
            have NF := Aside0.mk hnf
            clear hnf
            go_wp2_with fail
            have hFv : (⟨nb, f.v, f.bs, f.fast⟩ : FileR).v = .slice Af f.bs.length cf := HV.out
            have hput := refPut_calls (w4.setCell ⟨w1.heap.size, 0, none⟩ (.string nb)) B ({ r.goes with A := A3, L := M1 ++ M2 } : RefM) (R3.out.setFar NF.out _) ⟨nb, .slice Af f.bs.length cf, f.bs, f.fast⟩ (by
              have := FX.out.move (w1 := w4.setCell ⟨w1.heap.size, 0, none⟩ (.string nb)) (fun k hk => Below.heap_setCell _ _ _ _ (fun e => by have := (HFF.out.typed k hk).2.1; simp only at e; omega))
              rw [HV.out] at this
              exact this) (by have h1 := GM.out; have h2 := HM12.out; exact Nat.le_trans h2 (Nat.le_trans h1 (by omega)))
            refine hput.mono ?_
            rintro e w5 ⟨rfl, A5, hR5, hS5⟩
            have R5 := Aside0.mk hR5
            have S5 := Aside0.mk (StepR.putBack (StepR.setNew SX.out (a := ⟨w1.heap.size, 0, none⟩) hbw (.string nb)) hS5 (fun k hk => .inr (.inr ⟨f, by rw [show r.L = _ from HL.out]; simp, by rw [HV.out]; exact hk⟩)))
            clear hR5 hS5 hput
            go_wp2_with fail
            go_ret
            rw [HP.out]
            refine ⟨rfl, _, R5.out, S5.out, ?_, rfl⟩
            show (⟨(insR ⟨nb, .slice Af f.bs.length cf, f.bs, f.fast⟩ _).map absR, _, _, _⟩ : PD) = _
            rw [insR_abs]
            exact congrArg (fun F => (⟨F, _, _, _⟩ : PD)) (congrArg (insP ⟨nb.data.toList, f.bs, f.fast⟩) QF.out)
end Go.Proofs.Ytlbeehefandfhaa.Pr
end
