/- DiskRoom: a contract of its call. -/
import Derived.Test.YtlbeehefandfhaaProg
import Derived.Below
import Derived.Deep.Draws
import Derived.Deep.AppendLies
import Derived.Maps.AppendAt
import Derived.OwnWalk
import Derived.Laws.BytesArg
import Derived.Laws.MakeOwn
import Derived.Laws.OwnMore
import Derived.Deep.OwnRows
import Derived.Tactics
import Derived.Lib.ConvBytes
import Derived.Laws.Slices
import Derived.WalkKit
import Derived.KernelRfl
import Derived.RowKit3
import Derived.Deep.LoopGhost
import Derived.Deep.QuietTactic
import Derived.BigQuiet
import Derived.WideLaws
import Derived.Deep.DeepCutAuto
import Derived.Deep.CutBlock
import Derived.Deep.RegionHeld3
import Derived.Laws.Rows
import Derived.Lib.AppendStr
import Derived.ArgAppend
import Derived.Laws.IdiomCopy
import Derived.OrdersHeld
import Derived.Laws.BitsLemmas
import Derived.RowKit
import Derived.Test.YtlbeehefandfhaaWWords
import Derived.Test.YtlbeehefandfhaaWLast
import Derived.Test.YtlbeehefandfhaaWTab
import Derived.Test.YtlbeehefandfhaaWFour
import Derived.Test.YtlbeehefandfhaaWQPut
import Derived.Test.YtlbeehefandfhaaWApart
import Derived.Test.YtlbeehefandfhaaWArr
import Derived.Test.YtlbeehefandfhaaWZeros
import Derived.Test.YtlbeehefandfhaaWFoot
import Derived.Test.YtlbeehefandfhaaWKept
import Derived.Test.YtlbeehefandfhaaWShare
import Derived.Test.YtlbeehefandfhaaWN
import Derived.Test.YtlbeehefandfhaaWFootNe
import Derived.Test.YtlbeehefandfhaaWAt
import Derived.Test.YtlbeehefandfhaaWEqStruct
import Derived.Test.YtlbeehefandfhaaWRepsOne
import Derived.Test.YtlbeehefandfhaaWInv
import Derived.Test.YtlbeehefandfhaaWInvWords
import Derived.Test.YtlbeehefandfhaaWGuard
import Derived.Test.YtlbeehefandfhaaWNEv
import Derived.Test.YtlbeehefandfhaaWMore
import Derived.Test.YtlbeehefandfhaaDiskU
import Derived.Test.YtlbeehefandfhaaDiskV
namespace Go.Proofs.Ytlbeehefandfhaa.Pr
open Go.RowKit Go.Maps Go.Sort Go.Proofs.YtlbeehefandfhaaW.PrintWords Go.Proofs.YtlbeehefandfhaaW.PrintLast Go.Proofs.YtlbeehefandfhaaW.PrintMore
set_option linter.unusedVariables false
set_option linter.unusedSimpArgs false
theorem truncate_at {w0 w : World} {p : PD} {d : Nat} (h : DiskAt w0 p d w) (nm : ByteArray) (hs : nm.size ≤ maxLen) (k : Int) (hk1 : -9223372036854775808 ≤ k) (hk2 : k ≤ 9223372036854775807) :
    Calls Try.prog 14 #[.pointer (some ⟨d, 0, none⟩), .string nm, .int .i64 k] w fun e w' => e = .returned (.int .i64 (pTruncate p nm.data.toList k).2) ∧ DiskAt w0 (pTruncate p nm.data.toList k).1 d w' := by
  obtain ⟨s, h1, h2, h3, h4, h5⟩ := h
  subst h4
  rw [← h3]
  exact (truncate_calls w w0.heap.size s h1 h2 nm hs k hk1 hk2).mono fun e w' ⟨he, s', hO⟩ => ⟨he, DiskAt.done h1 rfl h5 (Below.refl _ _) hO⟩
theorem DiskAt.wf {w0 w : World} {p : PD} {d : Nat} (h : DiskAt w0 p d w) : WF p := by
  obtain ⟨s, h1, h2, h3, h4, h5⟩ := h
  rw [← h3]
  exact h2.wf
/-- A disk whose power stays. -/
structure Calm (p : PD) (size : Int) (n : Nat) : Prop where
  size : p.size = size
  calls : p.calls = -1
  out : p.out = false
  many : p.F.length ≤ n
theorem Calm.goes {p : PD} {size : Int} {n : Nat} (h : Calm p size n) : p.goes = p := by
  unfold PD.goes
  rw [h.calls, h.out]
  have e : p = ⟨p.F, p.size, p.calls, p.out⟩ := rfl
  rw [e, h.calls, h.out]
  rfl
theorem updP_length (n : List UInt8) (g : PF → PF) : ∀ L : List PF, (updP n g L).length = L.length
  | [] => rfl
  | f :: r => by
    unfold updP
    split
    · rfl
    · simp [updP_length n g r]
theorem getP_split {n : List UInt8} {L : List PF} {f : PF} (h : getP n L = some f) : ∃ A C, L = A ++ f :: C ∧ f.name = n ∧ ∀ x ∈ A, x.name ≠ n := by
  obtain ⟨h1, L1, L2, h2, h3⟩ := List.find?_eq_some_iff_append.1 h
  exact ⟨L1, L2, h2, by simpa using h1, fun g hg e => by have := h3 g hg; simp [e] at this⟩
theorem calm_append {p : PD} {size : Int} {n : Nat} (h : Calm p size n) (nm : List UInt8) (hn : nameOk nm = true) (l : List Int) :
    ((l.length : Int) > size - total p.F ∧ pAppend p nm l = (p, 200)) ∨ (¬ (l.length : Int) > size - total p.F ∧ ∃ q, pAppend p nm l = (q, 0) ∧ Calm q size (n + 1) ∧ total q.F = total p.F + l.length) := by
  by_cases hr : (l.length : Int) > size - total p.F
  · refine .inl ⟨hr, ?_⟩
    rw [pAppend_room h.out hn (by rw [h.size]; exact hr), h.goes]
  · refine .inr ⟨hr, ?_⟩
    cases hg : getP nm p.F with
    | some f =>
      rw [pAppend_some h.out hn (by rw [h.size]; exact hr) hg, h.goes, h.out]
      obtain ⟨A, C, hF, hf, hA⟩ := getP_split hg
      refine ⟨_, rfl, ⟨h.size, h.calls, h.out, ?_⟩, ?_⟩
      · show (updP _ _ p.F).length ≤ _
        rw [updP_length]
        have := h.many
        omega
      · show total (updP nm _ p.F) = _
        rw [hF, updP_at nm _ f C hf A hA, total_at, total_at]
        show total A + ((f.bs ++ l).length : Int) + total C = _
        rw [List.length_append]
        omega
    | none =>
      rw [pAppend_none h.out hn (by rw [h.size]; exact hr) hg, h.goes, h.out]
      refine ⟨_, rfl, ⟨h.size, h.calls, h.out, ?_⟩, ?_⟩
      · show (insP _ p.F).length ≤ _
        rw [(insP_perm _ _).length_eq]
        have := h.many
        simp
        omega
      · show total (insP _ p.F) = _
        rw [total_perm (insP_perm _ _)]
        simp only [total]
        omega
theorem calm_truncate {p : PD} {size : Int} {n : Nat} (h : Calm p size n) (nm : List UInt8) (b : List Int) (hb : (pRead p nm).1 = b) (hp : 0 < b.length) :
    ∃ q, pTruncate p nm ((b.length : Int) - 1) = (q, 0) ∧ Calm q size n ∧ total q.F = total p.F - 1 := by
  unfold pRead at hb
  cases hg : getP nm p.F with
  | none => rw [hg] at hb; simp only at hb; rw [← hb] at hp; simp at hp
  | some f =>
    rw [hg] at hb
    simp only at hb
    rw [← hb] at hp ⊢
    rw [pTruncate_some (by rw [h.goes]; exact h.out) hg (by omega), h.goes]
    obtain ⟨A, C, hF, hf, hA⟩ := getP_split hg
    refine ⟨_, rfl, ⟨h.size, h.calls, h.out, ?_⟩, ?_⟩
    · show (updP _ _ p.F).length ≤ _
      rw [updP_length]
      exact h.many
    · show total (updP nm _ p.F) = _
      rw [hF, updP_at nm _ f C hf A hA, total_at, total_at]
      show total A + ((f.bs.take ((f.bs.length : Int) - 1).toNat).length : Int) + total C = _
      rw [List.length_take]
      omega
theorem wpList_copy_h {W : World} {H : Nat} (hH : W.heap.size = H) {ops : Array Oper} {rest : List Oper} {o : Oper} {a : Act} {Q : Exit → Act → World → Prop} (hgd : o.guard = none) (s x : Operand)
    (ho : o.op = .call { callee := .builtin .append, args := #[s, x], argTypes := #[22, 22] }) (hs : a.eval s = .slice (some ⟨H, 0, none⟩) 0 0) (A : Option Addr) (c : Nat) (l : List Int) (hx : a.eval x = .slice A l.length c)
    (hC : Kd.C (Kd.int .u8) W A l.length l) (hc : l.length ≤ c) (hb : l.length ≤ 140737488355328)
    (h : ∀ A1 c1 w1, Young W w1 A1 c1 l → Below W.heap.size W w1 → wpList Try.prog ops Q rest (a.put o.dst (.slice A1 l.length c1)) w1) :
    wpList Try.prog ops Q (o :: rest) a (W.alloc (.cells #[] 5)) := by
  subst hH
  exact wpList_copy_d hgd s x ho hs A c l hx hC hc hb h
/-- A part of the rows that came in. -/
theorem part_at {w : World} {A : Option Addr} {L : List (List Int)} (h : (Kd.slice 5 (Kd.int .u8)).C w A L.length L) (k : Nat) (hk : k < L.length) :
    ∃ ad Ai ci, A = some ad ∧ w.cell? (ad.add k) = some (.slice Ai (L.getD k []).length ci) ∧ (L.getD k []).length ≤ ci ∧ Kd.C (Kd.int .u8) w Ai (L.getD k []).length (L.getD k []) := by
  obtain ⟨ad, c, hA, hl, ⟨Ai, ci, hc, hci, hC⟩, hcell⟩ := ReadsRow.get_ h [] (k : Int) (by omega) (by omega)
  subst hc
  refine ⟨ad, Ai, ci, hA, ?_, hci, hC⟩
  have := hcell 0 _ rfl
  simpa [Kd.slice] using this
set_option maxRecDepth 100000 in
set_option maxHeartbeats 2000000 in
theorem diskRoom_calls (w : World) (size : Int) (h0 : 0 ≤ size) (h1 : size ≤ 255) (Ap : Option Addr) (cp : Nat) (L : List (List Int)) (hP : (Kd.slice 5 (Kd.int .u8)).C w Ap L.length L) (hcp : L.length ≤ cp) (hm : cp ≤ maxLen) (hL : ∀ x ∈ L, x.length ≤ 140737488351232) :
    Calls Try.prog 4 #[.int .u8 size, .slice Ap L.length cp] w fun e w' => e = .returned (.bool true) ∧ Below w.heap.size w w' := by
  have HP := Aside0.mk hP
  have HL := Aside0.mk hL
  have hlen : L.length ≤ 9223372036854775807 := by unfold maxLen at hm; omega
  clear hP hL hm
  go_enter Try.func4, Try.ntmps4
  go_wp2_with fail
  refine (new_calls _ size (by omega) (by omega)).mono ?_
  rintro e w1 ⟨s0, rfl, hN0⟩
  obtain ⟨d, hd⟩ : ∃ d, d = s0.d := ⟨_, rfl⟩
  have N0 := Aside0.mk (DiskAt.of_new (Below.refl _ w) hN0)
  rw [← hd] at N0 ⊢
  clear hN0 hd
  go_wp2_with fail
  go_loopw [7, 8] (fun n i wr => ∃ (k : Nat) (p : PD), i = .int .i64 k ∧ k ≤ 100 ∧ n = .int .i64 (total p.F) ∧ Aside0 (DiskAt w p d wr) ∧ Aside0 (Calm p size k)) (fun _ i _ => 100 - (intOf i).toNat)
  case atStart => exact ⟨0, ⟨[], size, -1, false⟩, rfl, by omega, rfl, N0, ⟨⟨rfl, rfl, rfl, Nat.le_refl _⟩⟩⟩
  case round =>
    obtain ⟨k, p, rfl, hk, rfl, hD, hC⟩ := hrel
    by_cases hlt : k < 100 ∧ k < L.length
    · obtain ⟨hlt1, hlt2⟩ := hlt
      obtain ⟨ad, Ai, ci, rfl, hcell, hci, hCi⟩ := part_at HP.out k hlt2
      have hll : (L.getD k []).length ≤ 140737488351232 := HL.out _ (by rw [List.getD_eq_getElem?_getD, List.getElem?_eq_getElem hlt2]; exact List.getElem_mem _)
      generalize L.getD k [] = l at hcell hci hCi hll
      have HCELL := Aside0.mk hcell
      have hcell2 : ∀ o o2, ((wr.alloc o).alloc o2).cell? (ad.add k) = some (.slice Ai l.length ci) := fun o o2 => pw_cell_below (((Below.refl _ wr).alloc (Nat.le_refl _) o).alloc (by simp) o2) (pw_cell_below hD.out.old hcell)
      have RL := Aside0.mk hCi
      have hW := hD.out.wf
      have t0 := total_nonneg p.F
      have t1 : total p.F ≤ size := by rw [← hC.out.size]; exact hW.room
      clear hCi hW hcell
      have i0 : (0 : Int) ≤ (k : Int) := by omega
      have i1 : (k : Int) < (L.length : Int) := by omega
      by_cases hbig : l.length ≤ 140737488355328
      · obtain ⟨nm, hnm⟩ : ∃ nm, nm = strOfNums [97 + (k : Int) % 3] := ⟨_, rfl⟩
        have hcv : ∀ W : World, (convert 22 9 (.slice (some ⟨W.heap.size, 0, none⟩) 1 1)).run Try.prog (W.alloc (.cells #[.int .u8 (97 + (k : Int) % 3)] 5)) = .ok (.string nm) (W.alloc (.cells #[.int .u8 (97 + (k : Int) % 3)] 5)) := fun W => by
          rw [hnm]
          exact str_of_C (Young.made W [97 + (k : Int) % 3] (by simp) (0, 0)).reads rfl 1
        have hok : nameOk nm.data.toList = true := by
          rw [hnm, strOfNums_data]
          rcases (by omega : (k : Int) % 3 = 0 ∨ (k : Int) % 3 = 1 ∨ (k : Int) % 3 = 2) with h | h | h <;> rw [h] <;> decide
        have hs9 : nm.size ≤ maxLen := by rw [hnm, strOfNums_size]; simp [maxLen]
        have HS9 := Aside0.mk hs9
        have HOK := Aside0.mk hok
        clear hnm hok hs9
        go_wp2_with (at_builtin; refine wpList_copy_h (H := wr.heap.size + 1) (by simp) rfl _ _ rfl rfl Ai ci l rfl (Kd.C_below RL.out (hD.out.old.alloc hD.out.old.size _)) hci (by omega) ?_; intro A1 c1 w2 hY hB; have Y1 := Aside0.mk hY; have B1 := Aside0.mk hB; clear hY hB)
        rcases calm_append hC.out nm.data.toList HOK.out l with ⟨hr, hpa⟩ | ⟨hr, q, hpa, hCq, htq⟩
        · have HPA := Aside0.mk hpa
          have hr2 : ¬ total p.F + (l.length : Int) ≤ size := by omega
          clear hpa hr
          refine (append_at (hD.out.below ((Below.refl _ wr).alloc (Nat.le_refl _) _)) B1.out nm HS9.out A1 c1 l Y1.out (by have := hC.out.many; omega)).mono ?_
          rintro e w3 ⟨he, hO⟩
          rw [HPA.out] at he hO
          subst he
          have O3 := Aside0.mk hO
          have hc3 := pw_cell_below hO.old HCELL.out
          clear hO
          have hs9 := HS9.out
          by_cases h4 : (k : Int) % 4 = 3
          · have h4b : ((k : Int) % 4 == 3) = true := beq_iff_eq.2 h4
            clear h4
            go_wp2_with fail
            refine (read_at O3.out nm hs9).mono ?_
            rintro e w4 ⟨v, rfl, hR, hO⟩
            have O4 := Aside0.mk hO
            obtain ⟨bb, hbb⟩ : ∃ bb, bb = (pRead p nm.data.toList).1 := ⟨_, rfl⟩
            rw [← hbb] at hR
            have HBB := Aside0.mk hbb.symm
            obtain ⟨Ab, cb, hv, hcb, hcm⟩ := hR.slice
            subst hv
            have hb63 : bb.length ≤ 9223372036854775807 := by unfold maxLen at hcm; omega
            clear hO hR hbb hcm
            by_cases hb : 0 < bb.length
            · obtain ⟨q2, hpt, hC2, ht2⟩ := calm_truncate hC.out nm.data.toList bb HBB.out hb
              have HPT := Aside0.mk hpt
              have HC2 := Aside0.mk hC2
              have HT2 := Aside0.mk ht2
              clear hpt hC2 ht2
              go_wp2_with fail
              refine (truncate_at O4.out nm hs9 ((bb.length : Int) - 1) (by omega) (by omega)).mono ?_
              rintro e w5 ⟨he, hO⟩
              rw [HPT.out] at he hO
              subst he
              have O5 := Aside0.mk hO
              clear hO
              go_wp2_with fail
              refine (used_at O5.out).mono ?_
              rintro e w9 ⟨he, rfl⟩
              rw [HT2.out] at he
              subst he
              go_wp2
              go_roundw
              case rel => exact ⟨k + 1, q2, by simp, by omega, by rw [HT2.out], O5, ⟨HC2.out.size, HC2.out.calls, HC2.out.out, by have := HC2.out.many; omega⟩⟩
              case measure => simp [intOf]; omega
            · have hb2 : ¬ 0 < bb.length := hb
              go_wp2_with fail
              refine (used_at O4.out).mono ?_
              rintro e w9 ⟨he, rfl⟩
              rw [show total p.F = total p.F from rfl] at he
              subst he
              go_wp2
              go_roundw
              case rel => exact ⟨k + 1, p, by simp, by omega, by rw [show total p.F = total p.F from rfl], O4, ⟨hC.out.size, hC.out.calls, hC.out.out, by have := hC.out.many; omega⟩⟩
              case measure => simp [intOf]; omega
          · have h4b : ((k : Int) % 4 == 3) = false := beq_eq_false_iff_ne.2 h4
            clear h4
            go_wp2_with fail
            refine (used_at O3.out).mono ?_
            rintro e w9 ⟨he, rfl⟩
            rw [show total p.F = total p.F from rfl] at he
            subst he
            go_wp2
            go_roundw
            case rel => exact ⟨k + 1, p, by simp, by omega, by rw [show total p.F = total p.F from rfl], O3, ⟨hC.out.size, hC.out.calls, hC.out.out, by have := hC.out.many; omega⟩⟩
            case measure => simp [intOf]; omega
        · have HPA := Aside0.mk hpa
          have HCQ := Aside0.mk hCq
          have HTQ := Aside0.mk htq
          have hr2 : total p.F + (l.length : Int) ≤ size := by omega
          clear hpa hr hCq htq
          refine (append_at (hD.out.below ((Below.refl _ wr).alloc (Nat.le_refl _) _)) B1.out nm HS9.out A1 c1 l Y1.out (by have := hC.out.many; omega)).mono ?_
          rintro e w3 ⟨he, hO⟩
          rw [HPA.out] at he hO
          subst he
          have O3 := Aside0.mk hO
          have hc3 := pw_cell_below hO.old HCELL.out
          clear hO
          have hs9 := HS9.out
          by_cases h4 : (k : Int) % 4 = 3
          · have h4b : ((k : Int) % 4 == 3) = true := beq_iff_eq.2 h4
            clear h4
            go_wp2_with fail
            refine (read_at O3.out nm hs9).mono ?_
            rintro e w4 ⟨v, rfl, hR, hO⟩
            have O4 := Aside0.mk hO
            obtain ⟨bb, hbb⟩ : ∃ bb, bb = (pRead q nm.data.toList).1 := ⟨_, rfl⟩
            rw [← hbb] at hR
            have HBB := Aside0.mk hbb.symm
            obtain ⟨Ab, cb, hv, hcb, hcm⟩ := hR.slice
            subst hv
            have hb63 : bb.length ≤ 9223372036854775807 := by unfold maxLen at hcm; omega
            clear hO hR hbb hcm
            by_cases hb : 0 < bb.length
            · obtain ⟨q2, hpt, hC2, ht2⟩ := calm_truncate HCQ.out nm.data.toList bb HBB.out hb
              have HPT := Aside0.mk hpt
              have HC2 := Aside0.mk hC2
              have HT2 := Aside0.mk ht2
              clear hpt hC2 ht2
              go_wp2_with fail
              refine (truncate_at O4.out nm hs9 ((bb.length : Int) - 1) (by omega) (by omega)).mono ?_
              rintro e w5 ⟨he, hO⟩
              rw [HPT.out] at he hO
              subst he
              have O5 := Aside0.mk hO
              clear hO
              go_wp2_with fail
              refine (used_at O5.out).mono ?_
              rintro e w9 ⟨he, rfl⟩
              rw [HT2.out, HTQ.out] at he
              subst he
              go_wp2
              go_roundw
              case rel => exact ⟨k + 1, q2, by simp, by omega, by rw [HT2.out, HTQ.out], O5, ⟨HC2.out.size, HC2.out.calls, HC2.out.out, by have := HC2.out.many; omega⟩⟩
              case measure => simp [intOf]; omega
            · have hb2 : ¬ 0 < bb.length := hb
              go_wp2_with fail
              refine (used_at O4.out).mono ?_
              rintro e w9 ⟨he, rfl⟩
              rw [HTQ.out] at he
              subst he
              go_wp2
              go_roundw
              case rel => exact ⟨k + 1, q, by simp, by omega, by rw [HTQ.out], O4, ⟨HCQ.out.size, HCQ.out.calls, HCQ.out.out, by have := HCQ.out.many; omega⟩⟩
              case measure => simp [intOf]; omega
          · have h4b : ((k : Int) % 4 == 3) = false := beq_eq_false_iff_ne.2 h4
            clear h4
            go_wp2_with fail
            refine (used_at O3.out).mono ?_
            rintro e w9 ⟨he, rfl⟩
            rw [HTQ.out] at he
            subst he
            go_wp2
            go_roundw
            case rel => exact ⟨k + 1, q, by simp, by omega, by rw [HTQ.out], O3, ⟨HCQ.out.size, HCQ.out.calls, HCQ.out.out, by have := HCQ.out.many; omega⟩⟩
            case measure => simp [intOf]; omega
      · exact absurd (by omega) hbig
    · have t0 := hD.out.old
      clear t0
      by_cases h3 : k < L.length
      · have h4 : ¬ k < 100 := fun h => hlt ⟨h, h3⟩
        have i1 : (k : Int) < (L.length : Int) := by omega
        have i2 : ¬ (k : Int) < 100 := by omega
        clear hlt
        go_wp2_with (go_at_call 8; refine (lives_calls _).mono ?_; rintro e w11 ⟨rfl, hb⟩; have BL := Aside0.mk hb; clear hb)
        go_ret
        exact ⟨rfl, hD.out.old.trans (BL.out.mono hD.out.old.size)⟩
      · have i1 : ¬ (k : Int) < (L.length : Int) := by omega
        clear hlt
        go_wp2_with (go_at_call 8; refine (lives_calls _).mono ?_; rintro e w11 ⟨rfl, hb⟩; have BL := Aside0.mk hb; clear hb)
        go_ret
        exact ⟨rfl, hD.out.old.trans (BL.out.mono hD.out.old.size)⟩
end Go.Proofs.Ytlbeehefandfhaa.Pr
