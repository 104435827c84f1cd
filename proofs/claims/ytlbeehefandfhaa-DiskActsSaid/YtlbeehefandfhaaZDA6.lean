/- A part of the proof of the law that RowDiskActs shows: lemmas, and contracts of the calls that it reaches. -/
import Derived.Test.YtlbeehefandfhaaProg
import Derived.Below
import Derived.Deep.Draws
import Derived.Deep.AppendLies
import Derived.Maps.AppendAt
import Derived.OwnWalk
import Derived.Laws.BytesArg
import Derived.Laws.MakeOwn
import Derived.Laws.OwnMore
import Derived.Deep.OwnRows
import Derived.Tactics
import Derived.Lib.ConvBytes
import Derived.Laws.Slices
import Derived.WalkKit
import Derived.KernelRfl
import Derived.RowKit3
import Derived.Deep.LoopGhost
import Derived.Deep.QuietTactic
import Derived.BigQuiet
import Derived.WideLaws
import Derived.Deep.DeepCutAuto
import Derived.Deep.CutBlock
import Derived.Deep.RegionHeld3
import Derived.Laws.Rows
import Derived.Lib.AppendStr
import Derived.ArgAppend
import Derived.Laws.IdiomCopy
import Derived.OrdersHeld
import Derived.Laws.BitsLemmas
import Derived.RowKit
import Derived.Test.YtlbeehefandfhaaZDA0
import Derived.Test.YtlbeehefandfhaaZDA4
set_option linter.unusedVariables false
set_option linter.unusedSimpArgs false
namespace Go.Proofs.Ytlbeehefandfhaa.Pr
open Go.RowKit Go.Maps Go.Sort Go.Proofs.YtlbeehefandfhaaW.PrintWords Go.Proofs.YtlbeehefandfhaaW.PrintLast Go.Proofs.YtlbeehefandfhaaW.PrintMore
theorem upd_ins (n : List UInt8) (g : PF → PF) (f : PF) (hf : f.name = n) (hg : (g f).name = n) : ∀ F : List PF, (∀ x ∈ F, x.name ≠ n) → updP n g (insP f F) = insP (g f) F
  | [], _ => by
    simp only [insP, updP]
    rw [if_pos (by rw [hf]; exact beq_self_eq_true _)]
  | x :: F, h => by
    simp only [insP]
    rw [hg, hf]
    split
    · simp only [updP]
      rw [if_pos (by rw [hf]; exact beq_self_eq_true _)]
    · simp only [updP]
      rw [if_neg (by simpa using h x (by simp)), upd_ins n g f hf hg F (fun y hy => h y (List.mem_cons_of_mem _ hy))]
theorem insR_at {nm : ByteArray} {L L1 L2 : List FileR} {f : FileR} {v : Value} (hno : ∀ g ∈ L, g.name ≠ nm) (hL : insR ⟨nm, v, [], 0⟩ L = L1 ++ f :: L2) (hf : f.name = nm) (hL1 : ∀ g ∈ L1, g.name ≠ nm) (l : List Int) :
    f = ⟨nm, v, [], 0⟩ ∧ L1.map absR ++ { absR f with bs := f.bs ++ l } :: L2.map absR = insP ⟨nm.data.toList, l, 0⟩ (L.map absR) := by
  have hm : f ∈ insR ⟨nm, v, [], 0⟩ L := by rw [hL]; simp
  rcases List.mem_cons.1 ((insR_perm _ _).mem_iff.1 hm) with rfl | hm
  · refine ⟨rfl, ?_⟩
    have h1 := updR_at (M := L2) hf hL1 (fun f => { f with bs := f.bs ++ l })
    rw [← hL, insR_abs, upd_ins nm.data.toList (fun f => { f with bs := f.bs ++ l }) (absR ⟨nm, v, [], 0⟩) rfl rfl (L.map absR) (fun x hx => by obtain ⟨y, hy, rfl⟩ := List.mem_map.1 hx; exact nameR_ne (hno y hy))] at h1
    exact h1.symm
  · exact absurd hf (hno f hm)
theorem StepR.dropNil {w w' : World} {r r' : RefM} {f : FileR} (h : StepR w { r with L := f :: r.L } w' r') (hf : f.v.ownBlock = none) : StepR w r w' r' := by
  have e : ∀ k, FootR { r with L := f :: r.L } k → FootR r k := fun k hk => by
    rcases hk with hk | hk | ⟨x, hx, hk⟩
    · exact .inl hk
    · exact .inr (.inl hk)
    · rcases List.mem_cons.1 hx with rfl | hx
      · rw [hf] at hk; cases hk
      · exact .inr (.inr ⟨x, hx, hk⟩)
  exact ⟨h.moved.imp (fun k _ hk => e k hk), fun k hk => (h.foot k hk).imp (e k) id⟩
set_option maxRecDepth 100000 in
set_option maxHeartbeats 4000000 in
theorem refAppend_calls (w : World) (B : Nat) (r : RefM) (h : RefIs w B r) (g : GoodR r) (nm : ByteArray) (hs : nm.size ≤ maxLen) (A : Option Addr) (c : Nat) (l : List Int) (hC : Kd.C (Kd.int .u8) w A l.length l) (hc : l.length ≤ c) (hA : ∀ a, A = some a → l ≠ [] → a.block < B) (hl : l.length ≤ 140737488351232) :
    Calls Try.prog 26 #[.pointer (some ⟨r.d, 0, none⟩), .string nm, .slice A l.length c] w (RefPost w B r (pAppend r.abs nm.data.toList l)) := by
  have H := Aside0.mk h
  have G := Aside0.mk g
  have CS := Aside0.mk (fun (w' : World) (hb : Below B w w') => C_stayN hC (fun a ha hn => hb.block _ (hA a ha hn)))
  clear h g hC
  have hs2 : nm.size ≤ 9223372036854775807 := by unfold maxLen at hs; exact hs
  have t0 := total_nonneg r.abs.F
  have t1 := G.out.wf.room
  have t2 := G.out.wf.size1
  have t3 := G.out.wf.size0
  change total r.abs.F ≤ r.size at t1
  change r.size ≤ 67108864 at t2
  change 0 ≤ r.size at t3
  cases ho : r.out with
  | true =>
    have HP := Aside0.mk (pAppend_out (s := r.abs) (n := nm.data.toList) (l := l) ho)
    go_enter Try.func26, Try.ntmps26
    go_wp2_with fail
    refine (refPower_calls w B r H.out G.out.c1 G.out.c0).mono ?_
    rintro e w1 ⟨rfl, hR, hS⟩
    have R1 := Aside0.mk hR
    have S1 := Aside0.mk hS
    rw [ho]
    clear hR hS ho
    go_wp2_with fail
    go_ret
    rw [HP.out]
    exact ⟨rfl, _, R1.out, S1.out, rfl, rfl⟩
  | false =>
    go_enter Try.func26, Try.ntmps26
    go_wp2_with fail
    refine (refPower_calls w B r H.out G.out.c1 G.out.c0).mono ?_
    rintro e w1 ⟨rfl, hR, hS⟩
    have R1 := Aside0.mk hR
    have S1 := Aside0.mk hS
    have HO := Aside0.mk (show r.abs.out = false from ho)
    rw [ho]
    clear hR hS ho
    obtain ⟨go, hgo⟩ : ∃ b, b = r.goes.out := ⟨_, rfl⟩
    rw [← hgo]
    have HGO := Aside0.mk hgo
    clear hgo
    go_wp2_with fail
    refine (refName_calls w1 nm hs2).mono ?_
    rintro e w2 ⟨rfl, rfl⟩
    cases hk : nameOk nm.data.toList with
    | false =>
      have HP := Aside0.mk (pAppend_name (s := r.abs) (n := nm.data.toList) (l := l) HO.out hk)
      cases go with
      | true =>
        go_wp2_with fail
        go_ret
        rw [HP.out]
        exact ⟨by rw [← absR_goes, show r.goes.abs.out = true from HGO.out.symm]; rfl, _, R1.out, S1.out, rfl, rfl⟩
      | false =>
        go_wp2_with fail
        go_ret
        rw [HP.out]
        exact ⟨by rw [← absR_goes, show r.goes.abs.out = false from HGO.out.symm]; rfl, _, R1.out, S1.out, rfl, rfl⟩
    | true =>
      have q1 : w1.cell? ⟨r.d, 1, none⟩ = some (.int .i64 r.size) := R1.out.c1
      have UC : Aside0 (∀ n, Calls Try.prog 35 #[.pointer (some ⟨r.d, 0, none⟩)] (w1.drewN n) fun e w' => e = .returned (.int .i64 (total r.abs.F)) ∧ w1.drewN n = w') := ⟨fun n => refUsed_calls (w1.drewN n) B r.goes (R1.out.drewN n) (show total r.abs.F ≤ 67108864 by omega)⟩
      by_cases hroom : (l.length : Int) > r.size - total r.abs.F
      · have HP := Aside0.mk (pAppend_room (s := r.abs) (n := nm.data.toList) (l := l) HO.out hk hroom)
        have hd : decide (r.size < total r.abs.F + (l.length : Int)) = true := decide_eq_true (by omega)
        have b1 : total r.abs.F + (l.length : Int) ≤ 9223372036854775807 := by omega
        clear hroom
        cases go with
        | true =>
          go_wp2_with fail
          go_quiet ((go_at_call 35; exact Calls.quiet_of_same ((UC.out _).mono fun e w' ⟨he, hw⟩ => ⟨he, hw.symm⟩)))
          go_wp2_with fail
          go_ret
          rw [HP.out]
          exact ⟨rfl, _, R1.out.drewN _, S1.out.drewN _, rfl, rfl⟩
        | false =>
          go_wp2_with fail
          go_quiet ((go_at_call 35; exact Calls.quiet_of_same ((UC.out _).mono fun e w' ⟨he, hw⟩ => ⟨he, hw.symm⟩)))
          go_wp2_with fail
          go_ret
          rw [HP.out]
          exact ⟨rfl, _, R1.out.drewN _, S1.out.drewN _, rfl, rfl⟩
      · have hd : decide (r.size < total r.abs.F + (l.length : Int)) = false := decide_eq_false (by omega)
        have b1 : total r.abs.F + (l.length : Int) ≤ 9223372036854775807 := by omega
        have bl : l.length ≤ 67108864 := by omega
        have HROOM := Aside0.mk hroom
        have HKN := Aside0.mk hk
        clear hroom
        go_wp2_with fail
        go_quiet ((go_at_call 35; exact Calls.quiet_of_same ((UC.out _).mono fun e w' ⟨he, hw⟩ => ⟨he, hw.symm⟩)))
        have hR2 := R1.out.drewN nq
        have hS2 := S1.out.drewN nq
        obtain ⟨w2, hw2⟩ : ∃ w2, w2 = w1.drewN nq := ⟨_, rfl⟩
        rw [← hw2] at hR2 hS2 ⊢
        have R2 := Aside0.mk hR2
        have S2 := Aside0.mk hS2
        clear hR2 hS2 hw2 UC R1 S1 q1
        go_wp2_with fail
        refine (refAt_calls w2 B r.goes R2.out nm hs).mono ?_
        rintro e w3 ⟨⟨k, rfl, hk⟩, rfl⟩
        rcases hk with ⟨rfl, hno⟩ | ⟨M1, f1, M2, hM, hf1, hM1, rfl⟩
        · have HP := Aside0.mk (pAppend_none (s := r.abs) (n := nm.data.toList) (l := l) HO.out HKN.out (Int.not_lt.2 HROOM.out) (getR_none (L := r.L) hno))
          go_wp2_with fail
          refine (refPut_calls w2 B r.goes R2.out ⟨nm, .slice none 0 0, [], 0⟩ (DRow.nil _ _) (by have := G.out.many; show r.L.length ≤ _; omega)).mono ?_
          rintro e w3 ⟨rfl, Ap, hR3, hS3⟩
          have R3 := Aside0.mk hR3
          have S3 := Aside0.mk (S2.out.trans (hS3.dropNil rfl))
          clear hR3 hS3
          go_wp2_with fail
          refine (refAt_calls w3 B { r.goes with A := Ap, L := insR ⟨nm, .slice none 0 0, [], 0⟩ r.goes.L } R3.out nm hs).mono ?_
          rintro e w4 ⟨⟨k, rfl, hk⟩, rfl⟩
          rcases hk with ⟨rfl, hno2⟩ | ⟨L1, f, L2, hL, hf, hL1, rfl⟩
          · exact absurd rfl (hno2 ⟨nm, .slice none 0 0, [], 0⟩ ((insR_perm _ _).mem_iff.2 (by simp)))
          · obtain ⟨hfe, hU⟩ := insR_at hno hL hf hL1 l
            have U := Aside0.mk hU
            have hfb : f.bs.length ≤ 67108864 := by rw [hfe]; exact Nat.zero_le _
            have HFE := Aside0.mk hfe
            clear hfe hU hno
            obtain ⟨gb, cc, hA2, hcc, c1, c2, c3, c4, hm⟩ := R3.out.at hL
            have hFf := R3.out.file f (by rw [hL]; simp)
            obtain ⟨Af, cf, hv, hcf, hcm⟩ := hFf.slice
            rw [hv] at c2
            obtain ⟨qn, hqn⟩ : ∃ qn, qn = ({ r.goes with A := Ap, L := insR ⟨nm, .slice none 0 0, [], 0⟩ r.goes.L } : RefM).L.length := ⟨_, rfl⟩
            have k0 : w3.cell? ⟨r.d, 0, none⟩ = some (.slice (some ⟨gb, 0, none⟩) qn cc) := by
              have := R3.out.c0
              rw [hA2, ← hqn] at this
              exact this
            have hlen : (L1.length : Int) < (qn : Int) := by rw [hqn, hL]; simp; omega
            have i0 : ¬ (L1.length : Int) < 0 := by omega
            have fz1 := c4 (L1.length * 3 + 1)
            have hdg : ¬ r.d = gb := fun e => R3.out.dr (R3.out.rowG hA2) e.symm
            have e3 : ∀ o, (w3.alloc o).cell? ⟨r.d, 0, none⟩ = some (.slice (some ⟨gb, 0, none⟩) qn cc) := fun o => pw_cell_below ((Below.refl _ w3).alloc (Nat.le_refl _) o) k0
            have e2 : ∀ o, (w3.alloc o).cell? ⟨gb, L1.length * 3 + 1, none⟩ = some (.slice Af f.bs.length cf) := fun o => pw_cell_below ((Below.refl _ w3).alloc (Nat.le_refl _) o) c2
            have CR := Aside0.mk (show Kd.C (Kd.int .u8) w3 Af f.bs.length f.bs by have := hFf; rw [hv] at this; exact this.reads.2)
            have CL := Aside0.mk (CS.out w3 (S3.out.below H.out))
            have HA2 := Aside0.mk hA2
            have HL := Aside0.mk hL
            have HG := Aside0.mk (R3.out.foot (k := gb) (.inr (.inl (R3.out.rowG hA2)))).2
            clear hA2 hL hv hFf c1 c3 c4 hcm hqn
            go_wp2_with fail
            go_region_law
              (first
                | (refine step_copy_o (W := w3.drew) rfl _ _ rfl rfl Af f.bs.length cf f.bs rfl rfl CR.out hcf (by omega) ?_; intro A2 cc2 w4 hY hB; have Y2 := Aside0.mk hY; have B2 := Aside0.mk (below_of_drew hB); have q2 := pw_cell_below (below_of_drew hB) k0; clear hY hB)
                | (refine step_append_o rfl _ _ rfl w3.heap.size (.slice A2 f.bs.length cc2) f.bs l rfl Y2.out A l.length c rfl rfl (Kd.C_below CL.out B2.out) hc (by omega) B2.out.size ?_; intro A3 n3 c3 w5 hn3 hY hgr; have N3 := Aside0.mk hn3; have Y3 := Aside0.mk hY; have B3 := Aside0.mk (B2.out.grown hgr B2.out.size (fun k hk => (Y2.out.typed k hk).1)); have q3 := pw_cell_below B3.out k0; have q4 := pw_cell_below B3.out c2; have q5 := (B3.out.frozen (p := ⟨gb, L1.length * 3 + 1, none⟩) HG.out).trans fz1; clear hn3 hY hgr)
                | fail)
            all_goals
              obtain ⟨d1, d2⟩ := R3.out.setNew B3.out HL.out HA2.out Y3.out
              have D1 := Aside0.mk d1
              have D2 := Aside0.mk d2
              clear d1 d2 e2 e3 c2 k0
              cases go with
              | true =>
                go_wp2_with fail
                go_ret
                rw [HP.out]
                refine ⟨by rw [← absR_goes, show r.goes.abs.out = true from HGO.out.symm]; rfl, _, D1.out, S3.out.trans D2.out, ?_, rfl⟩
                show (⟨(L1 ++ _ :: L2).map absR, _, _, _⟩ : PD) = _
                rw [List.map_append, List.map_cons]
                exact congrArg (fun F => (⟨F, _, _, _⟩ : PD)) U.out
              | false =>
                go_wp2_with fail
                go_ret
                rw [HP.out]
                refine ⟨by rw [← absR_goes, show r.goes.abs.out = false from HGO.out.symm]; rfl, _, D1.out, S3.out.trans D2.out, ?_, rfl⟩
                show (⟨(L1 ++ _ :: L2).map absR, _, _, _⟩ : PD) = _
                rw [List.map_append, List.map_cons]
                exact congrArg (fun F => (⟨F, _, _, _⟩ : PD)) U.out
        · have hno : ∀ g ∈ r.L, True := fun _ _ => trivial
          have hMp : (M1.length : Int) < 0 → False := by omega
          have hMm := Aside0.mk hM
          have i9 : ¬ (M1.length : Int) < 0 := by omega
          go_wp2_with fail
          refine (refAt_calls w2 B r.goes R2.out nm hs).mono ?_
          rintro e w3 ⟨⟨k, rfl, hk⟩, rfl⟩
          rcases hk with ⟨rfl, hno2⟩ | ⟨L1, f, L2, hL, hf, hL1, rfl⟩
          · exact absurd hf1 (hno2 f1 (by rw [hM]; simp))
          · have hF : r.abs.F = (L1 ++ f :: L2).map absR := by show r.L.map absR = _; rw [show r.L = _ from hL]
            have hG : getP nm.data.toList r.abs.F = some (absR f) := by rw [hF]; exact getR_some hf hL1
            have HP := Aside0.mk (pAppend_some (s := r.abs) (n := nm.data.toList) (l := l) HO.out HKN.out (Int.not_lt.2 HROOM.out) hG)
            have hU := updR_at (M := L2) hf hL1 (fun f => { f with bs := f.bs ++ l })
            rw [← hF] at hU
            have U := Aside0.mk hU
            have hfb : f.bs.length ≤ 67108864 := by
              have h2 := G.out.wf.room
              have h3 := G.out.wf.size1
              rw [hF, List.map_append, List.map_cons, total_at] at h2
              have h4 := total_nonneg (L1.map absR)
              have h5 := total_nonneg (L2.map absR)
              have h7 : total (L1.map absR) + (f.bs.length : Int) + total (L2.map absR) ≤ r.abs.size := h2
              omega
            have R3 := R2
            have S3 := S2
            obtain ⟨w3, hw3⟩ : ∃ w3, w3 = w2 := ⟨_, rfl⟩
            rw [← hw3] at R3 S3 ⊢
            clear hU hF hG hMp hw3
            obtain ⟨gb, cc, hA2, hcc, c1, c2, c3, c4, hm⟩ := R3.out.at hL
            have hFf := R3.out.file f (by rw [hL]; simp)
            obtain ⟨Af, cf, hv, hcf, hcm⟩ := hFf.slice
            rw [hv] at c2
            obtain ⟨qn, hqn⟩ : ∃ qn, qn = (r.goes : RefM).L.length := ⟨_, rfl⟩
            have k0 : w3.cell? ⟨r.d, 0, none⟩ = some (.slice (some ⟨gb, 0, none⟩) qn cc) := by
              have := R3.out.c0
              rw [hA2, ← hqn] at this
              exact this
            have hlen : (L1.length : Int) < (qn : Int) := by rw [hqn, hL]; simp; omega
            have i0 : ¬ (L1.length : Int) < 0 := by omega
            have fz1 := c4 (L1.length * 3 + 1)
            have hdg : ¬ r.d = gb := fun e => R3.out.dr (R3.out.rowG hA2) e.symm
            have e3 : ∀ o, (w3.alloc o).cell? ⟨r.d, 0, none⟩ = some (.slice (some ⟨gb, 0, none⟩) qn cc) := fun o => pw_cell_below ((Below.refl _ w3).alloc (Nat.le_refl _) o) k0
            have e2 : ∀ o, (w3.alloc o).cell? ⟨gb, L1.length * 3 + 1, none⟩ = some (.slice Af f.bs.length cf) := fun o => pw_cell_below ((Below.refl _ w3).alloc (Nat.le_refl _) o) c2
            have CR := Aside0.mk (show Kd.C (Kd.int .u8) w3 Af f.bs.length f.bs by have := hFf; rw [hv] at this; exact this.reads.2)
            have CL := Aside0.mk (CS.out w3 (S3.out.below H.out))
            have HA2 := Aside0.mk hA2
            have HL := Aside0.mk hL
            have HG := Aside0.mk (R3.out.foot (k := gb) (.inr (.inl (R3.out.rowG hA2)))).2
            clear hA2 hL hv hFf c1 c3 c4 hcm hqn
            go_wp2_with fail
            go_region_law
              (first
                | (refine step_copy_o (W := w3.drew) rfl _ _ rfl rfl Af f.bs.length cf f.bs rfl rfl CR.out hcf (by omega) ?_; intro A2 cc2 w4 hY hB; have Y2 := Aside0.mk hY; have B2 := Aside0.mk (below_of_drew hB); have q2 := pw_cell_below (below_of_drew hB) k0; clear hY hB)
                | (refine step_append_o rfl _ _ rfl w3.heap.size (.slice A2 f.bs.length cc2) f.bs l rfl Y2.out A l.length c rfl rfl (Kd.C_below CL.out B2.out) hc (by omega) B2.out.size ?_; intro A3 n3 c3 w5 hn3 hY hgr; have N3 := Aside0.mk hn3; have Y3 := Aside0.mk hY; have B3 := Aside0.mk (B2.out.grown hgr B2.out.size (fun k hk => (Y2.out.typed k hk).1)); have q3 := pw_cell_below B3.out k0; have q4 := pw_cell_below B3.out c2; have q5 := (B3.out.frozen (p := ⟨gb, L1.length * 3 + 1, none⟩) HG.out).trans fz1; clear hn3 hY hgr)
                | fail)
            all_goals
              obtain ⟨d1, d2⟩ := R3.out.setNew B3.out HL.out HA2.out Y3.out
              have D1 := Aside0.mk d1
              have D2 := Aside0.mk d2
              clear d1 d2 e2 e3 c2 k0
              cases go with
              | true =>
                go_wp2_with fail
                go_ret
                rw [HP.out]
                refine ⟨by rw [← absR_goes, show r.goes.abs.out = true from HGO.out.symm]; rfl, _, D1.out, S3.out.trans D2.out, ?_, rfl⟩
                show (⟨(L1 ++ _ :: L2).map absR, _, _, _⟩ : PD) = _
                rw [List.map_append, List.map_cons]
                exact congrArg (fun F => (⟨F, _, _, _⟩ : PD)) U.out.symm
              | false =>
                go_wp2_with fail
                go_ret
                rw [HP.out]
                refine ⟨by rw [← absR_goes, show r.goes.abs.out = false from HGO.out.symm]; rfl, _, D1.out, S3.out.trans D2.out, ?_, rfl⟩
                show (⟨(L1 ++ _ :: L2).map absR, _, _, _⟩ : PD) = _
                rw [List.map_append, List.map_cons]
                exact congrArg (fun F => (⟨F, _, _, _⟩ : PD)) U.out.symm
end Go.Proofs.Ytlbeehefandfhaa.Pr
