/- A part of the proof of the law that RowDiskActs shows: lemmas, and contracts of the calls that it reaches. -/
import Derived.Test.YtlbeehefandfhaaProg
import Derived.Below
import Derived.Deep.Draws
import Derived.Deep.AppendLies
import Derived.Maps.AppendAt
import Derived.OwnWalk
import Derived.Laws.BytesArg
import Derived.Laws.MakeOwn
import Derived.Laws.OwnMore
import Derived.Deep.OwnRows
import Derived.Tactics
import Derived.Lib.ConvBytes
import Derived.Laws.Slices
import Derived.WalkKit
import Derived.KernelRfl
import Derived.RowKit3
import Derived.Deep.LoopGhost
import Derived.Deep.QuietTactic
import Derived.BigQuiet
import Derived.WideLaws
import Derived.Deep.DeepCutAuto
import Derived.Deep.CutBlock
import Derived.Deep.RegionHeld3
import Derived.Laws.Rows
import Derived.Lib.AppendStr
import Derived.ArgAppend
import Derived.Laws.IdiomCopy
import Derived.OrdersHeld
import Derived.Laws.BitsLemmas
import Derived.RowKit
import Derived.Test.YtlbeehefandfhaaZDA0
import Derived.Test.YtlbeehefandfhaaZDA3
import Derived.Deep.RegionLaw
set_option linter.unusedVariables false
set_option linter.unusedSimpArgs false
section
namespace Go.Proofs.Ytlbeehefandfhaa.Pr
open Go.RowKit Go.Maps Go.Sort Go.Proofs.YtlbeehefandfhaaW.PrintWords Go.Proofs.YtlbeehefandfhaaW.PrintLast Go.Proofs.YtlbeehefandfhaaW.PrintMore
theorem step_copy_o {W : World} {ops : Array Oper} {o : Oper} {a : Act} {K : Act → World → Prop} {Q : Exit → Act → World → Prop} {E : Prop} (hgd : o.guard = none) (s x : Operand)
    (ho : o.op = .call { callee := .builtin .append, args := #[s, x], argTypes := #[22, 22] }) (hs : a.eval s = .slice (some ⟨W.heap.size, 0, none⟩) 0 0) (A : Option Addr) (n c : Nat) (l : List Int) (hn : n = l.length) (hx : a.eval x = .slice A n c)
    (hC : Kd.C (Kd.int .u8) W A l.length l) (hc : l.length ≤ c) (hb : l.length ≤ 140737488355328)
    (h : ∀ A1 c1 w1, DRow w1 W.heap.size (.slice A1 n c1) l → Below W.heap.size W w1 → K (a.put o.dst (.slice A1 n c1)) w1) :
    if Region.wanted o (yielded ops a.tmps) = true then Oper.wp Try.prog o a (W.alloc (.cells #[] 5)) K Q else E := by
  subst hn
  have hw : Region.wanted o (yielded ops a.tmps) = true := by simp [Region.wanted, hgd]
  rw [if_pos hw]
  have hba : Below W.heap.size W (W.alloc (.cells #[] 5)) := (Below.refl _ W).alloc (Nat.le_refl _) _
  obtain ⟨v1, w1, hr, hown, hgr, hat⟩ := run_append_d (W.alloc (.cells #[] 5)) W.heap.size (.slice (some ⟨W.heap.size, 0, none⟩) 0 0) [] l (.inr ⟨W.heap.size, 0, #[], rfl, Nat.le_refl _, heap_alloc_new W _, Nat.le_refl _, Nat.zero_le _, Nat.zero_le _, rfl⟩) (.slice A l.length c) (src_of_C (Kd.C_below hC hba) hc) (by simpa using hb) (by simp) o.type
  unfold Oper.wp execOp
  simp only [ho, resolve, invoke, builtin, Sem.run_bind, Sem.run_pure, Result.andThen_ok, List.map_toArray, List.map_cons, List.map_nil, hs, hx, hr]
  obtain ⟨A1, c1, hv, h1, h2⟩ := hown.slice
  rw [List.nil_append] at hown hv h1
  subst hv
  exact h A1 c1 w1 hown (hba.grown hgr (by simp) (fun k hk => Nat.le_of_eq (by simpa [Value.ownBlock] using hk)))
theorem step_append_o {w : World} {ops : Array Oper} {o : Oper} {a : Act} {K : Act → World → Prop} {Q : Exit → Act → World → Prop} {E : Prop} (hgd : o.guard = none) (s x : Operand)
    (ho : o.op = .call { callee := .builtin .append, args := #[s, x], argTypes := #[22, 22] }) (B : Nat) (v : Value) (bs l : List Int) (hs : a.eval s = v) (hown : DRow w B v bs) (A : Option Addr) (n c : Nat) (hn : n = l.length) (hx : a.eval x = .slice A n c)
    (hC : Kd.C (Kd.int .u8) w A l.length l) (hc : l.length ≤ c) (hb : bs.length + l.length ≤ 140737488355328) (hB : B ≤ w.heap.size)
    (h : ∀ A1 n1 c1 w1, n1 = (bs ++ l).length → DRow w1 B (.slice A1 n1 c1) (bs ++ l) → w.grownBy w1 v.ownBlock → K (a.put o.dst (.slice A1 n1 c1)) w1) :
    if Region.wanted o (yielded ops a.tmps) = true then Oper.wp Try.prog o a w K Q else E := by
  subst hn
  have hw : Region.wanted o (yielded ops a.tmps) = true := by simp [Region.wanted, hgd]
  rw [if_pos hw]
  obtain ⟨v1, w1, hr, hown1, hgr, hat⟩ := run_append_d w B v bs l hown (.slice A l.length c) (src_of_C hC hc) hb hB o.type
  unfold Oper.wp execOp
  simp only [ho, resolve, invoke, builtin, Sem.run_bind, Sem.run_pure, Result.andThen_ok, List.map_toArray, List.map_cons, List.map_nil, hs, hx, hr]
  obtain ⟨A1, c1, hv, h1, h2⟩ := hown1.slice
  subst hv
  exact h A1 _ c1 w1 rfl hown1 hgr
theorem DRow.mono {w : World} {B B' : Nat} {v : Value} {bs : List Int} (h : DRow w B v bs) (hB : B' ≤ B) : DRow w B' v bs := by
  rcases h with h | ⟨g, cap, cur, h1, h2, h3⟩
  · exact .inl h
  · exact .inr ⟨g, cap, cur, h1, Nat.le_trans hB h2, h3⟩
theorem RefIs.setNew {w w1 : World} {B : Nat} {r : RefM} (h : RefIs w B r) (hb : Below w.heap.size w w1) {L M : List FileR} {f : FileR} (hL : r.L = L ++ f :: M) {g n c : Nat} (hA : r.A = .slice (some ⟨g, 0, none⟩) n c) {v : Value} {bs : List Int} (hv : DRow w1 w.heap.size v bs) :
    RefIs (w1.setCell ⟨g, L.length * 3 + 1, none⟩ v) B { r with L := L ++ { f with v := v, bs := bs } :: M } ∧ StepR w r (w1.setCell ⟨g, L.length * 3 + 1, none⟩ v) { r with L := L ++ { f with v := v, bs := bs } :: M } := by
  obtain ⟨d1, d2, d3⟩ := (h.below hb).setRow hL hA (hv.mono h.le)
  refine ⟨d1, (Moved.of_below hb).trans d2 (fun i hi => .inl hi), fun k hk => ?_⟩
  rcases d3 k hk with h1 | h1
  · exact .inl h1
  · exact .inr (hv.typed k h1).1
set_option maxRecDepth 100000 in
set_option maxHeartbeats 2000000 in
theorem refTruncate_calls (w : World) (B : Nat) (r : RefM) (h : RefIs w B r) (g : GoodR r) (nm : ByteArray) (hs : nm.size ≤ maxLen) (n : Int) (hk1 : -9223372036854775808 ≤ n) (hk2 : n ≤ 9223372036854775807) :
    Calls Try.prog 28 #[.pointer (some ⟨r.d, 0, none⟩), .string nm, .int .i64 n] w (RefPost w B r (pTruncate r.abs nm.data.toList n)) := by
  have H := Aside0.mk h
  have G := Aside0.mk g
  clear h g
  cases ho : r.goes.out with
  | true =>
    have HP := Aside0.mk (pTruncate_out (s := r.abs) (n := nm.data.toList) (k := n) (by rw [← absR_goes]; exact ho))
    go_enter Try.func28, Try.ntmps28
    go_wp2_with fail
    refine (refPower_calls w B r H.out G.out.c1 G.out.c0).mono ?_
    rintro e w1 ⟨rfl, hR, hS⟩
    have R1 := Aside0.mk hR
    have S1 := Aside0.mk hS
    rw [ho]
    clear hR hS ho
    go_wp2_with fail
    go_ret
    rw [HP.out]
    exact ⟨rfl, _, R1.out, S1.out, rfl, rfl⟩
  | false =>
    go_enter Try.func28, Try.ntmps28
    go_wp2_with fail
    refine (refPower_calls w B r H.out G.out.c1 G.out.c0).mono ?_
    rintro e w1 ⟨rfl, hR, hS⟩
    have R1 := Aside0.mk hR
    have S1 := Aside0.mk hS
    have HO := Aside0.mk (show r.abs.goes.out = false from ho)
    rw [ho]
    clear hR hS ho
    go_wp2_with fail
    refine (refAt_calls w1 B r.goes R1.out nm hs).mono ?_
    rintro e w2 ⟨⟨k, rfl, hk⟩, rfl⟩
    rcases hk with ⟨rfl, hno⟩ | ⟨L1, f, L2, hL, hf, hL1, rfl⟩
    · have HP := Aside0.mk (pTruncate_none (s := r.abs) (n := nm.data.toList) (k := n) HO.out (getR_none (L := r.L) hno))
      go_wp2_with fail
      go_ret
      rw [HP.out]
      exact ⟨rfl, _, R1.out, S1.out, rfl, rfl⟩
    · have hF : r.abs.F = (L1 ++ f :: L2).map absR := by show r.L.map absR = _; rw [show r.L = _ from hL]
      have hG : getP nm.data.toList r.abs.F = some (absR f) := by rw [hF]; exact getR_some hf hL1
      obtain ⟨gb, c, hA, hc, c1, c2, c3, c4, hm⟩ := R1.out.at hL
      have hFf := R1.out.file f (by rw [hL]; simp)
      have hfl : (f.fast : Int) ≤ f.bs.length ∧ (f.bs.length : Int) ≤ 67108864 := by
        have h1 := G.out.wf.fast (absR f) (by rw [hF]; simp)
        have h2 := G.out.wf.room
        have h3 := G.out.wf.size1
        rw [hF, List.map_append, List.map_cons, total_at] at h2
        have h4 := total_nonneg (L1.map absR)
        have h5 := total_nonneg (L2.map absR)
        have h6 : f.fast ≤ f.bs.length := h1
        have h7 : total (L1.map absR) + (f.bs.length : Int) + total (L2.map absR) ≤ r.abs.size := h2
        omega
      obtain ⟨Af, cf, hv, hcf, hcm⟩ := hFf.slice
      rw [hv] at c2
      have k0 : w1.cell? ⟨r.d, 0, none⟩ = some (.slice (some ⟨gb, 0, none⟩) r.L.length c) := by
        have := R1.out.c0
        rw [hA] at this
        exact this
      have hlen : (L1.length : Int) < (r.L.length : Int) := by rw [show r.L = _ from hL]; simp; omega
      have i0 : ¬ (L1.length : Int) < 0 := by omega
      by_cases hbad : n < 0 ∨ n > f.bs.length
      · have HP := Aside0.mk (pTruncate_bad (s := r.abs) (n := nm.data.toList) (k := n) HO.out hG hbad)
        by_cases hn : n < 0
        · clear hbad c1 c3 c4 hcm
          go_wp2_with fail
          go_ret
          rw [HP.out]
          exact ⟨rfl, _, R1.out, S1.out, rfl, rfl⟩
        · have hn2 : (f.bs.length : Int) < n := by omega
          clear hbad c1 c3 c4 hcm
          go_wp2_with fail
          go_ret
          rw [HP.out]
          exact ⟨rfl, _, R1.out, S1.out, rfl, rfl⟩
      · have HP := Aside0.mk (pTruncate_some (s := r.abs) (n := nm.data.toList) (k := n) HO.out hG hbad)
        obtain ⟨m, rfl⟩ : ∃ m : Nat, n = (m : Int) := ⟨n.toNat, by omega⟩
        have hml : m ≤ f.bs.length := by omega
        have i1 : ¬ (m : Int) < 0 := by omega
        have i2 : ¬ (f.bs.length : Int) < (m : Int) := by omega
        have i3 : (m : Int) ≤ (cf : Int) := by omega
        have i4 : (0 : Int) ≤ (m : Int) := by omega
        have fz1 := c4 (L1.length * 3 + 1)
        have hgd : gb ≠ r.d := R1.out.dr (R1.out.rowG hA)
        have hdg : ¬ r.d = gb := fun e => hgd e.symm
        have e3 : ∀ o, (w1.alloc o).cell? ⟨r.d, 0, none⟩ = some (.slice (some ⟨gb, 0, none⟩) r.L.length c) := fun o => pw_cell_below ((Below.refl _ w1).alloc (Nat.le_refl _) o) k0
        have e2 : ∀ o, (w1.alloc o).cell? ⟨gb, L1.length * 3 + 1, none⟩ = some (.slice Af f.bs.length cf) := fun o => pw_cell_below ((Below.refl _ w1).alloc (Nat.le_refl _) o) c2
        have CR := Aside0.mk (show Kd.C (Kd.int .u8) w1 Af f.bs.length f.bs by have := hFf; rw [hv] at this; exact this.reads.2)
        have HA := Aside0.mk hA
        have HL := Aside0.mk hL
        have HG := Aside0.mk (R1.out.foot (k := gb) (.inr (.inl (R1.out.rowG hA)))).2
        have C3 := Aside0.mk c3
        have C4 := Aside0.mk c4
        have U := Aside0.mk (updR_at (M := L2) hf hL1 (fun f => { f with bs := f.bs.take m, fast := min f.fast m }))
        have HFX := Aside0.mk hF
        clear hbad hA hL hv hFf c1 c3 c4 hF hG hL1 hf hcm
        go_wp2_with fail
        go_region_law
          (first
            | (refine step_copy_o (W := w1.drew) rfl _ _ rfl rfl Af m cf (f.bs.take m) (by rw [List.length_take]; omega) rfl (by have := C_take CR.out hml; rw [List.length_take, Nat.min_eq_left hml]; exact this) (by rw [List.length_take]; omega) (by rw [List.length_take]; omega) ?_; intro A2 cc2 w2 hY hB; have Y2 := Aside0.mk hY; have B2 := Aside0.mk (below_of_drew hB); have q2 := pw_cell_below (below_of_drew hB) k0; have q3 := pw_cell_below (below_of_drew hB) c2; have q4 := pw_cell_below (below_of_drew hB) C3.out; have q5 := ((below_of_drew hB).frozen (p := ⟨gb, L1.length * 3 + 1, none⟩) HG.out).trans fz1; clear hY hB)
            | fail)
        all_goals
          obtain ⟨w3, hw3⟩ : ∃ w3, w3 = w2.setCell ⟨gb, L1.length * 3 + 1, none⟩ (.slice A2 m cc2) := ⟨_, rfl⟩
          obtain ⟨d1, d2⟩ := R1.out.setNew B2.out HL.out HA.out Y2.out
          rw [← hw3] at d1 d2 ⊢
          obtain ⟨g', c', e, _, _, _, z3, z4, _⟩ := d1.at rfl
          have z0 : w3.cell? ⟨r.d, 0, none⟩ = some (.slice (some ⟨gb, 0, none⟩) r.L.length c) := by
            have := d1.c0
            rw [show ({ r.goes with L := L1 ++ { f with v := .slice A2 m cc2, bs := f.bs.take m } :: L2 } : RefM).A = _ from HA.out] at this
            exact this
          have hgg : g' = gb := by
            rw [show ({ r.goes with L := L1 ++ { f with v := .slice A2 m cc2, bs := f.bs.take m } :: L2 } : RefM).A = _ from HA.out] at e
            injection e with e
            injection e with e
            injection e with e
            exact e.symm
          subst hgg
          have D1 := Aside0.mk d1
          have D2 := Aside0.mk d2
          have zf := z4 (L1.length * 3 + 2)
          have HE := Aside0.mk e
          change w3.cell? ⟨g', L1.length * 3 + 2, none⟩ = some (.int .i64 f.fast) at z3
          clear d1 d2 e z4 q2 q3 q4 q5 c2 k0 e2 e3 hw3
          have hN := U.out
          rw [← HFX.out] at hN
          by_cases hfm : m < f.fast
          · have j1 : (m : Int) < (f.fast : Int) := by omega
            go_wp2_with fail
            go_ret
            rw [HP.out]
            obtain ⟨d3, d4⟩ := D1.out.setFast rfl HA.out m
            refine ⟨rfl, _, d3, (S1.out.trans D2.out).trans d4, ?_, rfl⟩
            simp only [Int.toNat_natCast]
            rw [hN, show min (absR f).fast m = m from Nat.min_eq_right (Nat.le_of_lt hfm)]
            show (⟨(L1 ++ _ :: L2).map absR, _, _, _⟩ : PD) = _
            rw [List.map_append, List.map_cons]
            rfl
          · have j1 : ¬ (m : Int) < (f.fast : Int) := by omega
            go_wp2_with fail
            go_ret
            rw [HP.out]
            refine ⟨rfl, _, D1.out, S1.out.trans D2.out, ?_, rfl⟩
            simp only [Int.toNat_natCast]
            rw [hN, show min (absR f).fast m = f.fast from Nat.min_eq_left (by show f.fast ≤ m; omega)]
            show (⟨(L1 ++ _ :: L2).map absR, _, _, _⟩ : PD) = _
            rw [List.map_append, List.map_cons]
            rfl
end Go.Proofs.Ytlbeehefandfhaa.Pr
end
section
namespace Go.Proofs.Ytlbeehefandfhaa.Pr
open Go.RowKit Go.Maps Go.Sort Go.Proofs.YtlbeehefandfhaaW.PrintWords Go.Proofs.YtlbeehefandfhaaW.PrintLast Go.Proofs.YtlbeehefandfhaaW.PrintMore
theorem ni4 : (Try.prog.info? 4).map (fun i => (i.zero, i.size, i.bytes)) = some (some (.bool false), 1, 1) := by kernel_rfl
theorem wpList_push_b {W : World} {ops : Array Oper} {rest : List Oper} {o : Oper} {a : Act} {Q : Exit → Act → World → Prop} (hgd : o.guard = none) (s x : Operand)
    (ho : o.op = .call { callee := .builtin .append, args := #[s, x], argTypes := #[79, 79] }) (base : Nat) (v : Value) (n : Nat) (xs : List Value) (hs : a.eval s = v) (hown : W.ownsRow base 4 1 v n xs)
    (b : Bool) (hx : a.eval x = .slice (some ⟨W.heap.size, 0, none⟩) 1 1) (hb : n ≤ 200000000) (hbase : base ≤ W.heap.size)
    (h : ∀ A' c' w', w'.ownsRow base 4 1 (.slice A' (n + 1) c') (n + 1) (xs ++ [.bool b]) → (W.alloc (.cells #[.bool b] 4)).grownBy w' v.ownBlock → wpList Try.prog ops Q rest (a.put o.dst (.slice A' (n + 1) c')) w') :
    wpList Try.prog ops Q (o :: rest) a (W.alloc (.cells #[.bool b] 4)) := by
  obtain ⟨i, hi, hz, hsz, hby⟩ := info_parts ni4
  refine wpList_append_own _ hgd s x 79 ho base 4 i _ 1 1 Try.underlying79 hi hz hsz hby rfl (by omega) v n xs hs (hown.alloc _) ⟨W.heap.size, 0, none⟩ 1 1 [.bool b] hx rfl (fun j u hu => ?_) (fun u hu => ?_) (by unfold maxLen; omega) (by omega) (by simp; omega) (fun v' w' h2 h3 _ => ?_)
  · rw [Go.WideShapes.add_plain, Nat.zero_add, cell_of_row _ W.heap.size j _ _ _ (heap_alloc_new W _), ← hu]
    rw [← Array.getElem?_toList]
  · rw [List.mem_singleton.1 hu]
    rfl
  · obtain ⟨A', c', rfl⟩ : ∃ A' c', v' = .slice A' (n + 1) c' := by
      rcases h2.2 with ⟨e, hn⟩ | ⟨g, cap, cur, e, _⟩
      · exact ⟨none, 0, by rw [e, hn]⟩
      · exact ⟨_, cap, e⟩
    exact h A' c' w' h2 h3
section
variable {w w' : World} {B : Nat} {q : RefM}
theorem RefIs.notBool (h : RefIs w B q) {k : Nat} (hk : FootR q k) {base n : Nat} {v : Value} {xs : List Value} (ht : w.ownsRow base 4 1 v n xs) : v.ownBlock ≠ some k := fun e => by
  obtain ⟨_, _, cur, hc⟩ := ownsRow_typed ht e
  rcases hk with rfl | hk | ⟨f, hf, hk⟩
  · rw [h.head] at hc
    injection hc with hc
    injection hc with _ hc
    cases hc
  · obtain ⟨_, _, cur', hc'⟩ := ownsRow_typed h.row hk
    rw [hc'] at hc
    injection hc with hc
    injection hc with _ hc
    cases hc
  · obtain ⟨_, _, cur', hc'⟩ := (h.file f hf).typed k hk
    rw [hc'] at hc
    injection hc with hc
    injection hc with _ hc
    cases hc
theorem RefIs.grownT (h : RefIs w B q) {base n : Nat} {v : Value} {xs : List Value} (ht : w.ownsRow base 4 1 v n xs) (hg : w.grownBy w' v.ownBlock) : RefIs w' B q :=
  h.move fun k hk => hg.block k (h.foot hk).2 (fun e => h.notBool hk ht e.symm)
theorem StepR.grownT {w0 : World} {r : RefM} (h : StepR w0 r w q) {base n : Nat} {v : Value} {xs : List Value} (ht : w.ownsRow base 4 1 v n xs) (hb : w0.heap.size ≤ base) (hg : w.grownBy w' v.ownBlock) : StepR w0 r w' q :=
  ⟨h.moved.grown hg (fun k hk => .inr (Nat.le_trans hb (ownsRow_typed ht hk).1)), h.foot⟩
end
def ApartR (f g : FileR) : Prop := ∀ k, f.v.ownBlock = some k → g.v.ownBlock ≠ some k
theorem ApartR.symm {f g : FileR} (h : ApartR f g) : ApartR g f := fun k hk hf => h k hf hk
theorem RefIs.growFile {w w1 : World} {B : Nat} {q : RefM} (h : RefIs w B q) {L M : List FileR} {f : FileR} (hL : q.L = L ++ f :: M) (hap : q.L.Pairwise ApartR) (hg : w.grownBy w1 f.v.ownBlock) {g n c : Nat} (hA : q.A = .slice (some ⟨g, 0, none⟩) n c) {v : Value} {bs : List Int} (hv : DRow w1 B v bs) (hat : v.ownBlock = f.v.ownBlock ∨ v.ownBlock = some w.heap.size) :
    RefIs (w1.setCell ⟨g, L.length * 3 + 1, none⟩ v) B { q with L := L ++ { f with v := v, bs := bs } :: M } ∧ StepR w q (w1.setCell ⟨g, L.length * 3 + 1, none⟩ v) { q with L := L ++ { f with v := v, bs := bs } :: M } ∧ (L ++ { f with v := v, bs := bs } :: M).Pairwise ApartR := by
  have hfm : f ∈ q.L := by rw [hL]; simp
  have hgb := h.rowG hA
  rw [hL] at hap
  obtain ⟨ap1, ap2, ap3⟩ := List.pairwise_append.1 hap
  obtain ⟨ap4, ap5⟩ := List.pairwise_cons.1 ap2
  have oth : ∀ x, x ∈ L ∨ x ∈ M → x ∈ q.L ∧ ApartR f x := fun x hx => by
    rcases hx with hx | hx
    · exact ⟨by rw [hL]; simp [hx], (ap3 x hx f (by simp)).symm⟩
    · exact ⟨by rw [hL]; simp [hx], ap4 x hx⟩
  have hnew : ∀ x, x ∈ L ∨ x ∈ M → ApartR { f with v := v, bs := bs } x := fun x hx k hk hk2 => by
    obtain ⟨hm, ha⟩ := oth x hx
    rcases hat with e | e
    · exact ha k (by rw [← e]; exact hk) hk2
    · have h1 : k = w.heap.size := by have : some k = some w.heap.size := by rw [← e]; exact hk.symm
                                      injection this
      have := (h.foot (k := k) (.inr (.inr ⟨x, hm, hk2⟩))).2
      omega
  have hmv : ∀ k, FootR q k → some k ≠ f.v.ownBlock → k ≠ g → (w1.setCell ⟨g, L.length * 3 + 1, none⟩ v).heap[k]? = w.heap[k]? := fun k hk h1 h2 => (Below.heap_setCell _ _ _ _ h2).trans (hg.block k (h.foot hk).2 h1)
  have hrow1 : w1.ownsRow B 71 3 q.A q.L.length (rcells q.L) := ownsRow_move h.row (fun k hk => hg.block k (h.foot (.inr (.inl hk))).2 (fun e => h.rf hfm e.symm hk rfl))
  have hvg : ∀ i, v.ownBlock = some i → i ≠ g := fun i hi e => by
    subst e
    obtain ⟨_, _, cur, hc⟩ := hv.typed i hi
    obtain ⟨_, _, cur', hc'⟩ := ownsRow_typed hrow1 hgb
    rw [hc'] at hc
    injection hc with hc
    injection hc with _ hc
    cases hc
  refine ⟨⟨h.dB, (hmv q.d (.inl rfl) (fun e => h.df hfm e.symm rfl) (fun e => h.dr hgb e.symm)).trans h.head, ?_, fun x hx => ?_⟩, ⟨?_, fun k hk => ?_⟩, ?_⟩
  · rw [hA] at hrow1
    obtain ⟨A', c', e, _⟩ := h.slice
    have hn : n = q.L.length := by rw [hA] at e; injection e
    subst hn
    have := (hrow1.stored (L.length * 3 + 1) v).1
    rw [hL, rcells_set1 L M f v bs] at this
    show World.ownsRow _ B _ 3 q.A (L ++ _ :: M).length _
    rw [hA, hL]
    simp only [List.length_append, List.length_cons] at this ⊢
    exact this
  · have hcase : (x ∈ L ∨ x ∈ M) ∨ x = { f with v := v, bs := bs } := by
      rcases List.mem_append.1 hx with hx | hx
      · exact .inl (.inl hx)
      · rcases List.mem_cons.1 hx with hx | hx
        · exact .inr hx
        · exact .inl (.inr hx)
    rcases hcase with hx | rfl
    · obtain ⟨hm, ha⟩ := oth x hx
      exact (h.file x hm).move (fun k hk => hmv k (.inr (.inr ⟨x, hm, hk⟩)) (fun e => ha k e.symm hk) (h.rf hm hk hgb))
    · exact hv.move (fun k hk => Below.heap_setCell _ _ _ _ (hvg k hk))
  · exact ((Moved.refl (FootR q) w).grown hg (fun k hk => .inl (.inr (.inr ⟨f, hfm, hk⟩)))).setCell (.inl (.inr (.inl hgb))) _
  · rcases hk with hk | hk | ⟨x, hx, hk⟩
    · exact .inl (.inl hk)
    · exact .inl (.inr (.inl hk))
    · rcases List.mem_append.1 hx with hx | hx
      · exact .inl (.inr (.inr ⟨x, by rw [hL]; simp [hx], hk⟩))
      · rcases List.mem_cons.1 hx with rfl | hx
        · rcases hat with e | e
          · exact .inl (.inr (.inr ⟨f, hfm, by rw [← e]; exact hk⟩))
          · refine .inr (Nat.le_of_eq ?_)
            have : some k = some w.heap.size := by rw [← e]; exact hk.symm
            injection this with this
            exact this.symm
        · exact .inl (.inr (.inr ⟨x, by rw [hL]; simp [hx], hk⟩))
  · refine List.pairwise_append.2 ⟨ap1, List.pairwise_cons.2 ⟨fun x hx => hnew x (.inr hx), ap5⟩, fun a ha b hb => ?_⟩
    rcases List.mem_cons.1 hb with rfl | hb
    · exact (hnew a (.inl ha)).symm
    · exact ap3 a ha b (List.mem_cons_of_mem _ hb)
def kpt (keep : Int) (f : FileR) : Nat := (min (max keep 0) ((f.bs.length : Int) - f.fast)).toNat
theorem kpt_le {keep : Int} {f : FileR} (h : f.fast ≤ f.bs.length) : f.fast + kpt keep f ≤ f.bs.length := by unfold kpt; omega
theorem tear_kpt {keep : Int} {f : FileR} (h : f.fast ≤ f.bs.length) (v : Value) : absR { f with v := v, bs := f.bs.take (f.fast + kpt keep f) } = tear keep (absR f) := by
  unfold tear
  by_cases he : f.bs.length = f.fast
  · rw [if_pos (by exact he)]
    have : f.fast + kpt keep f = f.bs.length := by unfold kpt; omega
    rw [this, List.take_length]
    rfl
  · rw [if_neg (by exact he)]
    rfl
theorem torn_dec {f : FileR} (h : f.fast ≤ f.bs.length) : decide (f.fast < f.bs.length) = isTorn (absR f) := by
  unfold isTorn
  by_cases he : f.bs.length = f.fast
  · rw [decide_eq_false (by omega), decide_eq_true (show (absR f).bs.length = (absR f).fast from he)]; rfl
  · rw [decide_eq_true (by omega), decide_eq_false (show ¬ (absR f).bs.length = (absR f).fast from he)]; rfl
theorem step_append_g {w : World} {ops : Array Oper} {o : Oper} {a : Act} {K : Act → World → Prop} {Q : Exit → Act → World → Prop} {E : Prop} (hgd : o.guard = none) (s x : Operand)
    (ho : o.op = .call { callee := .builtin .append, args := #[s, x], argTypes := #[22, 22] }) (B : Nat) (v : Value) (bs l : List Int) (hs : a.eval s = v) (hown : DRow w B v bs) (A : Option Addr) (n c : Nat) (hn : n = l.length) (hx : a.eval x = .slice A n c)
    (hC : Kd.C (Kd.int .u8) w A l.length l) (hc : l.length ≤ c) (hb : bs.length + l.length ≤ 140737488355328) (hB : B ≤ w.heap.size)
    (h : ∀ A1 n1 c1 w1, n1 = (bs ++ l).length → DRow w1 B (.slice A1 n1 c1) (bs ++ l) → w.grownBy w1 v.ownBlock → ((Value.slice A1 n1 c1).ownBlock = v.ownBlock ∨ (Value.slice A1 n1 c1).ownBlock = some w.heap.size) → K (a.put o.dst (.slice A1 n1 c1)) w1) :
    if Region.wanted o (yielded ops a.tmps) = true then Oper.wp Try.prog o a w K Q else E := by
  subst hn
  have hw : Region.wanted o (yielded ops a.tmps) = true := by simp [Region.wanted, hgd]
  rw [if_pos hw]
  obtain ⟨v1, w1, hr, hown1, hgr, hat⟩ := run_append_d w B v bs l hown (.slice A l.length c) (src_of_C hC hc) hb hB o.type
  unfold Oper.wp execOp
  simp only [ho, resolve, invoke, builtin, Sem.run_bind, Sem.run_pure, Result.andThen_ok, List.map_toArray, List.map_cons, List.map_nil, hs, hx, hr]
  obtain ⟨A1, c1, hv, h1, h2⟩ := hown1.slice
  subst hv
  exact h A1 _ c1 w1 rfl hown1 hgr hat
structure Torn1 (keep : Int) (L : List FileR) (b0 : Nat) (k : Nat) (D : List FileR) : Prop where
  len : D.length = k
  abs : D.map absR = (L.take k).map fun f => tear keep (absR f)
  new : ∀ x ∈ D, ∀ b, x.v.ownBlock = some b → b0 ≤ b
  apart : D.Pairwise ApartR
theorem Torn1.step {keep : Int} {L : List FileR} {b0 k : Nat} {D : List FileR} (h : Torn1 keep L b0 k D) (hk : k < L.length) {x : FileR} (hx : absR x = tear keep (absR L[k])) {w : World} {B : Nat} {q : RefM} (hq : RefIs w B q) (hD : ∀ y ∈ D, y ∈ q.L) (hb : b0 ≤ w.heap.size) (hn : ∀ b, x.v.ownBlock = some b → w.heap.size ≤ b) : Torn1 keep L b0 (k + 1) (D ++ [x]) := by
  refine ⟨by rw [List.length_append, h.len]; rfl, ?_, fun y hy b hyb => ?_, List.pairwise_append.2 ⟨h.apart, List.pairwise_singleton _ _, fun a ha y hy b hab hyb => ?_⟩⟩
  · rw [List.map_append, h.abs, List.take_succ_eq_append_getElem hk, List.map_append, List.map_cons, List.map_cons, hx]
    rfl
  · rcases List.mem_append.1 hy with hy | hy
    · exact h.new y hy b hyb
    · rw [List.mem_singleton.1 hy] at hyb
      exact Nat.le_trans hb (hn b hyb)
  · rw [List.mem_singleton.1 hy] at hyb
    have h1 := (hq.foot (k := b) (.inr (.inr ⟨a, hD a ha, hab⟩))).2
    have h2 := hn b hyb
    omega
structure Fill (size : Int) (l : List Int) (keep : Int) (L : List FileR) (k : Nat) (E : List FileR) : Prop where
  split : ∃ D1 D2, E = D1 ++ D2 ∧ D1.length = k ∧ D2.map absR = (L.drop k).map (fun f => tear keep (absR f)) ∧ D1.map absR ++ fillL size l keep ((L.drop k).map absR) (total (E.map absR)) = fillL size l keep (L.map absR) (total ((L.map absR).map (tear keep)))
  room : total (E.map absR) ≤ size
  apart : E.Pairwise ApartR
theorem Fill.len {size : Int} {l : List Int} {keep : Int} {L : List FileR} {k : Nat} {E : List FileR} (h : Fill size l keep L k E) (hk : k ≤ L.length) : E.length = L.length := by
  obtain ⟨D1, D2, rfl, h1, h2, _⟩ := h.split
  have := congrArg List.length h2
  rw [List.length_map, List.length_map, List.length_drop] at this
  rw [List.length_append]
  omega
theorem Fill.get {size : Int} {l : List Int} {keep : Int} {L : List FileR} {k : Nat} {E : List FileR} (h : Fill size l keep L k E) (hk : k < L.length) :
    ∃ D1 x D2, E = D1 ++ x :: D2 ∧ D1.length = k ∧ absR x = tear keep (absR L[k]) ∧ D2.map absR = (L.drop (k + 1)).map (fun f => tear keep (absR f)) ∧
      D1.map absR ++ fillL size l keep (absR L[k] :: (L.drop (k + 1)).map absR) (total (E.map absR)) = fillL size l keep (L.map absR) (total ((L.map absR).map (tear keep))) := by
  obtain ⟨D1, D2, hE, h1, h2, h3⟩ := h.split
  rw [← List.getElem_cons_drop hk, List.map_cons] at h2 h3
  cases D2 with
  | nil => simp at h2
  | cons x D2 =>
    rw [List.map_cons] at h2
    injection h2 with h4 h5
    exact ⟨D1, x, D2, hE, h1, h4, h5, h3⟩
theorem Fill.skip {size : Int} {l : List Int} {keep : Int} {L : List FileR} {k : Nat} {E D1 D2 : List FileR} {x : FileR} (h : Fill size l keep L k E) (hk : k < L.length) (hE : E = D1 ++ x :: D2) (h1 : D1.length = k) (hx : absR x = tear keep (absR L[k])) (h2 : D2.map absR = (L.drop (k + 1)).map (fun f => tear keep (absR f)))
    (h3 : D1.map absR ++ fillL size l keep (absR L[k] :: (L.drop (k + 1)).map absR) (total (E.map absR)) = fillL size l keep (L.map absR) (total ((L.map absR).map (tear keep)))) (ht : isTorn (absR L[k]) = false) : Fill size l keep L (k + 1) E := by
  refine ⟨⟨D1 ++ [x], D2, by rw [hE]; simp, by rw [List.length_append, h1]; rfl, h2, ?_⟩, h.room, h.apart⟩
  rw [← h3, List.map_append, List.append_assoc]
  simp only [fillL, ht]
  have he : absR x = absR L[k] := by
    rw [hx]
    unfold tear
    unfold isTorn at ht
    rw [if_pos (by simpa using ht)]
  rw [List.map_cons, List.map_nil, he]
  rfl
theorem Fill.fill {size : Int} {l : List Int} {keep : Int} {L : List FileR} {k : Nat} {E D1 D2 : List FileR} {x y : FileR} (h : Fill size l keep L k E) (hk : k < L.length) (hE : E = D1 ++ x :: D2) (h1 : D1.length = k) (hx : absR x = tear keep (absR L[k])) (h2 : D2.map absR = (L.drop (k + 1)).map (fun f => tear keep (absR f)))
    (h3 : D1.map absR ++ fillL size l keep (absR L[k] :: (L.drop (k + 1)).map absR) (total (E.map absR)) = fillL size l keep (L.map absR) (total ((L.map absR).map (tear keep)))) (ht : isTorn (absR L[k]) = true)
    {n : Nat} (hn : n = tailN size l (total (E.map absR))) (hy : y.name = x.name ∧ y.bs = x.bs ++ l.take n ∧ y.fast = (x.bs ++ l.take n).length) (hap : (D1 ++ y :: D2).Pairwise ApartR) : Fill size l keep L (k + 1) (D1 ++ y :: D2) := by
  have hnl : n ≤ l.length := by rw [hn]; unfold tailN; omega
  have hu0 := h.room
  have hnr : total (E.map absR) + (n : Int) ≤ size := by rw [hn]; unfold tailN; omega
  have hlt : (l.take n).length = n := by rw [List.length_take]; omega
  have htot : total ((D1 ++ y :: D2).map absR) = total (E.map absR) + n := by
    rw [hE, List.map_append, List.map_cons, List.map_append, List.map_cons, total_at, total_at]
    show total _ + (y.bs.length : Int) + total _ = total _ + (x.bs.length : Int) + total _ + n
    rw [hy.2.1, List.length_append, hlt]
    omega
  refine ⟨⟨D1 ++ [y], D2, by simp, by rw [List.length_append, h1]; rfl, h2, ?_⟩, by rw [htot]; exact hnr, hap⟩
  rw [← h3, List.map_append, List.append_assoc, htot]
  simp only [fillL, ht, if_true]
  have he : absR y = fillOne size l keep (absR L[k]) (total (E.map absR)) := by
    unfold fillOne
    rw [← hx, ← hn]
    unfold absR
    simp only
    rw [hy.1, hy.2.1, hy.2.2, List.length_append, hlt]
  rw [List.map_cons, List.map_nil, he, ← hn]
  rfl
theorem total_tear (keep : Int) : ∀ F : List PF, total (F.map (tear keep)) ≤ total F
  | [] => Int.le_refl _
  | f :: F => by
    have := total_tear keep F
    have h : ((tear keep f).bs.length : Int) ≤ f.bs.length := by
      unfold tear
      split
      · exact Int.le_refl _
      · show ((f.bs.take _).length : Int) ≤ _
        rw [List.length_take]
        omega
    simp only [List.map_cons, total]
    omega
theorem Fill.start {size : Int} {l : List Int} {keep : Int} {L D : List FileR} {b0 : Nat} (h : Torn1 keep L b0 L.length D) (hr : total (L.map absR) ≤ size) : Fill size l keep L 0 D := by
  have e : D.map absR = (L.map absR).map (tear keep) := by rw [h.abs, List.take_length, List.map_map]; rfl
  refine ⟨⟨[], D, rfl, rfl, by rw [h.abs, List.take_length, List.drop_zero], by rw [e]; rfl⟩, ?_, h.apart⟩
  rw [e]
  exact Int.le_trans (total_tear keep _) hr
theorem Fill.done {size : Int} {l : List Int} {keep : Int} {L E : List FileR} (h : Fill size l keep L L.length E) : E.map absR = fillL size l keep (L.map absR) (total ((L.map absR).map (tear keep))) := by
  obtain ⟨D1, D2, hE, h1, h2, h3⟩ := h.split
  rw [List.drop_length] at h2 h3
  have : D2 = [] := by simpa using h2
  rw [← h3, hE, this]
  simp [fillL]
theorem apart_fast {D1 D2 : List FileR} {x : FileR} {n : Nat} (h : (D1 ++ x :: D2).Pairwise ApartR) : (D1 ++ { x with fast := n } :: D2).Pairwise ApartR := by
  obtain ⟨a1, a2, a3⟩ := List.pairwise_append.1 h
  obtain ⟨a4, a5⟩ := List.pairwise_cons.1 a2
  refine List.pairwise_append.2 ⟨a1, List.pairwise_cons.2 ⟨fun y hy => a4 y hy, a5⟩, fun a ha b hb => ?_⟩
  rcases List.mem_cons.1 hb with rfl | hb
  · exact a3 a ha x (by simp)
  · exact a3 a ha b (List.mem_cons_of_mem _ hb)
end Go.Proofs.Ytlbeehefandfhaa.Pr
end
