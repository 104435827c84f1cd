/- A part of the proof of the law that RowDiskActs shows: lemmas, and contracts of the calls that it reaches. -/
import Derived.Test.YtlbeehefandfhaaProg
import Derived.Below
import Derived.Deep.Draws
import Derived.Deep.AppendLies
import Derived.Maps.AppendAt
import Derived.OwnWalk
import Derived.Laws.BytesArg
import Derived.Laws.MakeOwn
import Derived.Laws.OwnMore
import Derived.Deep.OwnRows
import Derived.Tactics
import Derived.Lib.ConvBytes
import Derived.Laws.Slices
import Derived.WalkKit
import Derived.KernelRfl
import Derived.RowKit3
import Derived.Deep.LoopGhost
import Derived.Deep.QuietTactic
import Derived.BigQuiet
import Derived.WideLaws
import Derived.Deep.DeepCutAuto
import Derived.Deep.CutBlock
import Derived.Deep.RegionHeld3
import Derived.Laws.Rows
import Derived.Lib.AppendStr
import Derived.ArgAppend
import Derived.Laws.IdiomCopy
import Derived.OrdersHeld
import Derived.Laws.BitsLemmas
import Derived.RowKit
import Derived.Test.YtlbeehefandfhaaZDA0
import Derived.Test.YtlbeehefandfhaaZDA4
import Derived.Deep.RegionLaw
set_option linter.unusedVariables false
set_option linter.unusedSimpArgs false
namespace Go.Proofs.Ytlbeehefandfhaa.Pr
open Go.RowKit Go.Maps Go.Sort Go.Proofs.YtlbeehefandfhaaW.PrintWords Go.Proofs.YtlbeehefandfhaaW.PrintLast Go.Proofs.YtlbeehefandfhaaW.PrintMore
theorem wpList_push_bh {W : World} {H : Nat} (hH : W.heap.size = H) {ops : Array Oper} {rest : List Oper} {o : Oper} {a : Act} {Q : Exit → Act → World → Prop} (hgd : o.guard = none) (s x : Operand)
    (ho : o.op = .call { callee := .builtin .append, args := #[s, x], argTypes := #[79, 79] }) (base : Nat) (v : Value) (n : Nat) (xs : List Value) (hs : a.eval s = v) (hown : W.ownsRow base 4 1 v n xs)
    (b : Bool) (hx : a.eval x = .slice (some ⟨H, 0, none⟩) 1 1) (hb : n ≤ 200000000) (hbase : base ≤ W.heap.size)
    (h : ∀ A' c' w', w'.ownsRow base 4 1 (.slice A' (n + 1) c') (n + 1) (xs ++ [.bool b]) → (W.alloc (.cells #[.bool b] 4)).grownBy w' v.ownBlock → wpList Try.prog ops Q rest (a.put o.dst (.slice A' (n + 1) c')) w') :
    wpList Try.prog ops Q (o :: rest) a (W.alloc (.cells #[.bool b] 4)) := by
  subst hH
  exact wpList_push_b hgd s x ho base v n xs hs hown b hx hb hbase h
set_option maxRecDepth 100000 in
set_option maxHeartbeats 4000000 in
theorem refCrash_calls (w : World) (B : Nat) (r : RefM) (h : RefIs w B r) (g : GoodR r) (keep : Int) (hk1 : -9223372036854775808 ≤ keep) (hk2 : keep ≤ 9223372036854775807) (A : Option Addr) (c : Nat) (l : List Int) (hC : Kd.C (Kd.int .u8) w A l.length l) (hc : l.length ≤ c) (hA : ∀ a, A = some a → l ≠ [] → a.block < B) (hl : l.length ≤ 140737488351232) :
    Calls Try.prog 33 #[.pointer (some ⟨r.d, 0, none⟩), .int .i64 keep, .slice A l.length c] w fun e w' => e = .returned (.tuple #[]) ∧ ∃ r', RefDone w B r (pCrash r.abs keep l) w' r' := by
  have CS := Aside0.mk (fun (w' : World) (hb : Below B w w') => C_stayN hC (fun a ha hn => hb.block _ (hA a ha hn)))
  have k2 := h.c2
  have k3 := h.c3
  have f2 := h.fz 2
  have f3 := h.fz 3
  have H := Aside0.mk h
  have G := Aside0.mk g
  clear h g hC
  have hlen : r.L.length ≤ 1000000 := G.out.many
  have hlen2 : r.L.length ≤ 9223372036854775807 := by omega
  go_enter Try.func33, Try.ntmps33
  go_wp2_with fail
  have hd : ∃ W1, W1 = (w.setCell ⟨r.d, 2, none⟩ (.int .i64 (-1))).setCell ⟨r.d, 3, none⟩ (.bool false) := ⟨_, rfl⟩
  obtain ⟨W1, hW1⟩ := hd
  obtain ⟨d1, e1⟩ := H.out.setHead (r' := { r with calls := -1 }) rfl rfl rfl 2 (.int .i64 (-1)) rfl
  obtain ⟨d2, e2⟩ := d1.setHead (r' := { r with calls := -1, out := false }) rfl rfl rfl 3 (.bool false) rfl
  have e3 := e1.trans e2
  rw [← hW1] at d2 e3 ⊢
  have hs1 : W1.heap.size = w.heap.size := by rw [hW1]; simp [World.setCell]
  have R1 := Aside0.mk d2
  have S1 := Aside0.mk e3
  clear d1 e1 d2 e2 e3 hW1 k2 k3 f2 f3
  have WFF := Aside0.mk (fun (f : FileR) (hf : f ∈ r.L) => show f.fast ≤ f.bs.length from G.out.wf.fast (absR f) (List.mem_map.2 ⟨f, hf, rfl⟩))
  have WFL := Aside0.mk (fun (f : FileR) (hf : f ∈ r.L) => show f.bs.length ≤ 67108864 by
    obtain ⟨X, Y, hXY⟩ := List.append_of_mem hf
    have h2 := G.out.wf.room
    have h3 := G.out.wf.size1
    rw [show r.abs.F = r.L.map absR from rfl, hXY, List.map_append, List.map_cons, total_at] at h2
    have h4 := total_nonneg (X.map absR)
    have h5 := total_nonneg (Y.map absR)
    have h7 : total (X.map absR) + (f.bs.length : Int) + total (Y.map absR) ≤ r.abs.size := h2
    omega)
  have ST := Aside0.mk (show (W1.alloc (.cells #[] 4)).ownsRow W1.heap.size 4 1 (.slice (some ⟨W1.heap.size, 0, none⟩) 0 0) 0 [] from World.ownsRow_lit W1 #[] 0 (Nat.le_refl _) (Nat.zero_le _) rfl)
  go_wp2_with fail
  go_loopw [6, 7] (fun tn i wr => ∃ (k : Nat) (D : List FileR) (At : Option Addr) (ct : Nat), tn = .slice At k ct ∧ i = .int .i64 k ∧ k ≤ r.L.length ∧ Aside0 (Torn1 keep r.L W1.heap.size k D) ∧ Aside0 (RefIs wr B { r with calls := -1, out := false, L := D ++ r.L.drop k }) ∧ Aside0 (StepR W1 { r with calls := -1, out := false } wr { r with calls := -1, out := false, L := D ++ r.L.drop k }) ∧ Aside0 (wr.ownsRow W1.heap.size 4 1 (.slice At k ct) k ((r.L.take k).map fun f => .bool (isTorn (absR f)))) ∧ Aside0 (W1.heap.size ≤ wr.heap.size)) (fun _ i _ => r.L.length - (intOf i).toNat)
  case atStart => exact ⟨0, [], some ⟨w.heap.size, 0, none⟩, 0, rfl, rfl, Nat.zero_le _, ⟨⟨rfl, rfl, (fun x hx => by cases hx), List.Pairwise.nil⟩⟩, ⟨R1.out.alloc _⟩, ⟨(StepR.refl _ _).alloc _⟩, ⟨by rw [← hs1]; exact ST.out⟩, ⟨by simp⟩⟩
  case round =>
    obtain ⟨k, D, At, ct, rfl, rfl, hk, hT, hR, hS, hO, hsz⟩ := hrel
    obtain ⟨Ar, cr, hAr, hcr, hcrm⟩ := hR.out.slice
    have hql : (D ++ r.L.drop k).length = r.L.length := by rw [List.length_append, hT.out.len, List.length_drop]; omega
    have q0 : wr.cell? ⟨r.d, 0, none⟩ = some (.slice Ar r.L.length cr) := by
      have := hR.out.c0
      rw [hAr, show (_ : RefM).L.length = r.L.length from hql] at this
      exact this
    by_cases hlt : k < r.L.length
    · have hi1 : (k : Int) < (r.L.length : Int) := by omega
      have hLk : D ++ r.L.drop k = D ++ r.L[k] :: r.L.drop (k + 1) := by rw [List.getElem_cons_drop]
      have hmem : r.L[k] ∈ r.L := List.getElem_mem _
      have hft := WFF.out _ hmem
      have hfl := WFL.out _ hmem
      have TK := Aside0.mk (fun v => tear_kpt (keep := keep) (v := v) hft)
      have TD := Aside0.mk (torn_dec hft)
      have hkp := kpt_le (keep := keep) hft
      have KD := Aside0.mk (show kpt keep r.L[k] = (min (max keep 0) ((r.L[k].bs.length : Int) - r.L[k].fast)).toNat from rfl)
      have TAKE := Aside0.mk (show (r.L.take (k + 1)).map (fun f => Value.bool (isTorn (absR f))) = (r.L.take k).map (fun f => Value.bool (isTorn (absR f))) ++ [.bool (isTorn (absR r.L[k]))] by rw [List.take_succ_eq_append_getElem hlt, List.map_append]; rfl)
      have STEP := Aside0.mk (fun (x : FileR) (hx : absR x = tear keep (absR r.L[k])) (hn : ∀ b, x.v.ownBlock = some b → wr.heap.size ≤ b) => hT.out.step hlt hx hR.out (fun y hy => by show y ∈ D ++ _; simp [hy]) hsz.out hn)
      generalize r.L[k] = f at hLk hmem hft hfl TK TD hkp KD TAKE STEP
      have hHL : ({ r with calls := -1, out := false, L := D ++ r.L.drop k } : RefM).L = D ++ f :: r.L.drop (k + 1) := hLk
      obtain ⟨gb, c1, ea, h1, h2, h3, h4, h5, h6⟩ := hR.out.at hHL
      rw [hT.out.len] at h2 h3 h4
      have hEA : Ar = some ⟨gb, 0, none⟩ := by
        rw [hAr] at ea
        injection ea
      subst hEA
      have hFk := hR.out.file f (by rw [hHL]; simp)
      obtain ⟨Af, cf, hv, hcf, hcfm⟩ := hFk.slice
      rw [hv] at h3
      have HAr := Aside0.mk hAr
      have HHL := Aside0.mk hHL
      have HFK := Aside0.mk hFk
      have HV := Aside0.mk hv
      have HG := Aside0.mk (hR.out.foot (k := gb) (.inr (.inl (hR.out.rowG hAr)))).2
      have HD2 := Aside0.mk (hR.out.foot (k := r.d) (.inl rfl)).2
      have hgd : ¬ gb = r.d := hR.out.dr (hR.out.rowG hAr)
      have hfz := h5 (k * 3 + 1)
      have nk : (0 : Int) ≤ (f.bs.length : Int) - f.fast := by omega
      clear hAr ea hLk hHL hFk hv h5 h6 hcrm hcfm
      by_cases ha : (f.bs.length : Int) - f.fast < keep
      · obtain ⟨m, hm⟩ : ∃ m : Nat, m = kpt keep f := ⟨_, rfl⟩
        have hNB : f.fast + m = f.fast + kpt keep f := by rw [hm]
        have e : (f.bs.length : Int) - f.fast = (m : Int) := by rw [hm, KD.out]; omega
        have a1 : ¬ (m : Int) < 0 := by omega
        have a2 : (m : Int) < keep := by omega
        clear hm ha nk
        have hNBl : f.fast + m ≤ f.bs.length := by rw [hNB]; exact hkp
        have j1 : (0 : Int) ≤ ((f.fast + m : Nat) : Int) := by omega
        have j2 : ((f.fast + m : Nat) : Int) ≤ (cf : Int) := by omega
        push_cast at j1 j2
        have HNB := Aside0.mk hNB
        clear hNB hkp
        go_wp2_with (at_builtin; go_loud (refine wpList_push_bh (W := wr.alloc (.cells #[.string f.name, .slice Af f.bs.length cf, .int .i64 f.fast] 71)) (H := wr.heap.size + 1) (by simp) rfl _ _ rfl W1.heap.size (.slice At k ct) k _ rfl (hO.out.alloc _) _ rfl (by omega) (Nat.le_trans hsz.out (by simp)) ?_); intro A2 c2 w2 hown hgr; have O2 := Aside0.mk hown; have GR := Aside0.mk hgr; clear hown hgr)
        have R2 := Aside0.mk (((hR.out.alloc _).alloc _).grownT ((hO.out.alloc _).alloc _) GR.out)
        have S2 := Aside0.mk (((hS.out.alloc _).alloc _).grownT ((hO.out.alloc _).alloc _) (Nat.le_refl _) GR.out)
        have hne : some wr.heap.size ≠ (Value.slice At k ct).ownBlock := fun e => by have := (ownsRow_typed hO.out e.symm).2.1; omega
        have x1 : w2.cell? ⟨wr.heap.size, 1, none⟩ = some (.slice Af f.bs.length cf) := GR.out.cell (pw_cell_below ((Below.refl _ _).alloc (Nat.le_refl _) _) (by rw [cell_of_row _ wr.heap.size 1 _ _ _ (heap_alloc_new wr _)]; rfl)) hne
        have x2 : w2.cell? ⟨wr.heap.size, 2, none⟩ = some (.int .i64 f.fast) := GR.out.cell (pw_cell_below ((Below.refl _ _).alloc (Nat.le_refl _) _) (by rw [cell_of_row _ wr.heap.size 2 _ _ _ (heap_alloc_new wr _)]; rfl)) hne
        have z0 : w2.cell? ⟨r.d, 0, none⟩ = some (.slice (some ⟨gb, 0, none⟩) r.L.length cr) := by
          have := R2.out.c0
          rw [HAr.out, hql] at this
          exact this
        obtain ⟨g', c', ea, _, _, z1, _, z4, _⟩ := R2.out.at HHL.out
        have hgg : g' = gb := by
          rw [HAr.out] at ea
          injection ea with ea
          injection ea with ea
          injection ea with ea
          exact ea.symm
        subst hgg
        rw [hT.out.len] at z1
        have zf := z4 (k * 3 + 1)
        have hdg : ¬ r.d = g' := fun e => hgd e.symm
        have hbg : ¬ wr.heap.size = g' := fun e => by have := HG.out; omega
        have hgbb : ¬ g' = wr.heap.size := fun e => hbg e.symm
        have HGL := Aside0.mk (R2.out.foot (k := g') (.inr (.inl (R2.out.rowG HAr.out)))).2
        have Z1 := Aside0.mk z1
        clear ea z4 hne z1
        have CF := Aside0.mk (show Kd.C (Kd.int .u8) w2 Af f.bs.length f.bs by have := R2.out.file f (by rw [HHL.out]; simp); rw [HV.out] at this; exact this.reads.2)
        have hszw : wr.heap.size ≤ w2.heap.size := by have := GR.out.size; simp at this; omega
        have r1 : (0 : Int) ≤ (f.fast : Int) + (m : Int) := by omega
        have r2 : (f.fast : Int) + (m : Int) ≤ (cf : Int) := by omega
        have r3 : IntKind.i64.wrap ((f.fast : Int) + (m : Int)) = (f.fast : Int) + (m : Int) := by unfold IntKind.wrap; simp [IntKind.signed, IntKind.bits]; omega
        go_region_held3 (fun w' => w'.cell? ⟨r.d, 0, none⟩ = some (.slice (some ⟨g', 0, none⟩) r.L.length cr) ∧ w'.cell? ⟨wr.heap.size, 1, none⟩ = some (.slice Af f.bs.length cf) ∧ w'.cell? ⟨wr.heap.size, 2, none⟩ = some (.int .i64 f.fast)) (go_keep)
          (first
            | (refine step_copy_o (W := w2.drew) rfl _ _ rfl rfl Af (f.fast + m) cf (f.bs.take (f.fast + m)) (by rw [List.length_take]; omega) rfl (by have := C_take CF.out hNBl; rw [List.length_take, Nat.min_eq_left hNBl]; exact this) (by rw [List.length_take]; omega) (by rw [List.length_take]; omega) ?_; intro A4 c4 w4 hY hB; have Y4 := Aside0.mk hY; have B4 := Aside0.mk (below_of_drew hB); have y0 := pw_cell_below (below_of_drew hB) z0; have y1 := pw_cell_below (below_of_drew hB) x1; have y2 := pw_cell_below (below_of_drew hB) x2; have y3 := pw_cell_below (below_of_drew hB) Z1.out; have y4 := ((below_of_drew hB).frozen (p := ⟨g', k * 3 + 1, none⟩) HGL.out).trans zf; clear hY hB)
            | fail)
        all_goals
          obtain ⟨d1, d2⟩ := R2.out.setNew B4.out HHL.out HAr.out Y4.out
          rw [hT.out.len] at d1 d2
          have D1 := Aside0.mk d1
          have D2 := Aside0.mk (S2.out.trans d2)
          clear d1 d2 y0 y1 y2 y3 y4
          go_wp2_with fail
          go_round
          case rel =>
            refine ⟨k + 1, D ++ [{ f with v := .slice A4 (f.fast + m) c4, bs := f.bs.take (f.fast + m) }], A2, c2, rfl, by go_num, by omega, ⟨STEP.out _ (by have := TK.out (.slice A4 (f.fast + m) c4); rw [← HNB.out] at this; exact this) (fun b hb => Nat.le_trans hszw (Y4.out.typed b hb).1)⟩, ⟨by rw [List.append_assoc]; exact D1.out⟩, ⟨by rw [List.append_assoc]; exact D2.out⟩, ⟨?_⟩, ⟨?_⟩⟩
            · have := ownsRow_move (w' := w4.setCell ⟨g', k * 3 + 1, none⟩ (.slice A4 (f.fast + m) c4)) O2.out (fun b hb => (Below.heap_setCell _ _ _ _ (fun e => R2.out.notBool (k := g') (.inr (.inl (R2.out.rowG HAr.out))) O2.out (by rw [hb]; exact congrArg some e))).trans (B4.out.block b (ownsRow_typed O2.out hb).2.1))
              rw [TAKE.out, ← TD.out]
              exact this
            · have h1 := B4.out.size
              have h2 := hsz.out
              show W1.heap.size ≤ (w4.setCell _ _).heap.size
              simp [World.setCell]
              omega
          case measure => simp [intOf]; omega
      · by_cases hb : keep < 0
        · have hNB : f.fast = f.fast + kpt keep f := by rw [KD.out]; omega
          have hNBl : f.fast ≤ f.bs.length := by rw [hNB]; exact hkp
          have j1 : (0 : Int) ≤ ((f.fast : Nat) : Int) := by omega
          have j2 : ((f.fast : Nat) : Int) ≤ (cf : Int) := by omega
          push_cast at j1 j2
          have HNB := Aside0.mk hNB
          clear hNB hkp
          go_wp2_with (at_builtin; go_loud (refine wpList_push_bh (W := wr.alloc (.cells #[.string f.name, .slice Af f.bs.length cf, .int .i64 f.fast] 71)) (H := wr.heap.size + 1) (by simp) rfl _ _ rfl W1.heap.size (.slice At k ct) k _ rfl (hO.out.alloc _) _ rfl (by omega) (Nat.le_trans hsz.out (by simp)) ?_); intro A2 c2 w2 hown hgr; have O2 := Aside0.mk hown; have GR := Aside0.mk hgr; clear hown hgr)
          have R2 := Aside0.mk (((hR.out.alloc _).alloc _).grownT ((hO.out.alloc _).alloc _) GR.out)
          have S2 := Aside0.mk (((hS.out.alloc _).alloc _).grownT ((hO.out.alloc _).alloc _) (Nat.le_refl _) GR.out)
          have hne : some wr.heap.size ≠ (Value.slice At k ct).ownBlock := fun e => by have := (ownsRow_typed hO.out e.symm).2.1; omega
          have x1 : w2.cell? ⟨wr.heap.size, 1, none⟩ = some (.slice Af f.bs.length cf) := GR.out.cell (pw_cell_below ((Below.refl _ _).alloc (Nat.le_refl _) _) (by rw [cell_of_row _ wr.heap.size 1 _ _ _ (heap_alloc_new wr _)]; rfl)) hne
          have x2 : w2.cell? ⟨wr.heap.size, 2, none⟩ = some (.int .i64 f.fast) := GR.out.cell (pw_cell_below ((Below.refl _ _).alloc (Nat.le_refl _) _) (by rw [cell_of_row _ wr.heap.size 2 _ _ _ (heap_alloc_new wr _)]; rfl)) hne
          have z0 : w2.cell? ⟨r.d, 0, none⟩ = some (.slice (some ⟨gb, 0, none⟩) r.L.length cr) := by
            have := R2.out.c0
            rw [HAr.out, hql] at this
            exact this
          obtain ⟨g', c', ea, _, _, z1, _, z4, _⟩ := R2.out.at HHL.out
          have hgg : g' = gb := by
            rw [HAr.out] at ea
            injection ea with ea
            injection ea with ea
            injection ea with ea
            exact ea.symm
          subst hgg
          rw [hT.out.len] at z1
          have zf := z4 (k * 3 + 1)
          have hdg : ¬ r.d = g' := fun e => hgd e.symm
          have hbg : ¬ wr.heap.size = g' := fun e => by have := HG.out; omega
          have hgbb : ¬ g' = wr.heap.size := fun e => hbg e.symm
          have HGL := Aside0.mk (R2.out.foot (k := g') (.inr (.inl (R2.out.rowG HAr.out)))).2
          have Z1 := Aside0.mk z1
          clear ea z4 hne z1
          have CF := Aside0.mk (show Kd.C (Kd.int .u8) w2 Af f.bs.length f.bs by have := R2.out.file f (by rw [HHL.out]; simp); rw [HV.out] at this; exact this.reads.2)
          have hszw : wr.heap.size ≤ w2.heap.size := by have := GR.out.size; simp at this; omega
          have r1 : (0 : Int) ≤ (f.fast : Int) := by omega
          have r2 : (f.fast : Int) ≤ (cf : Int) := by omega
          have r3 : IntKind.i64.wrap (f.fast : Int) = (f.fast : Int) := by unfold IntKind.wrap; simp [IntKind.signed, IntKind.bits]; omega
          go_region_held3 (fun w' => w'.cell? ⟨r.d, 0, none⟩ = some (.slice (some ⟨g', 0, none⟩) r.L.length cr) ∧ w'.cell? ⟨wr.heap.size, 1, none⟩ = some (.slice Af f.bs.length cf) ∧ w'.cell? ⟨wr.heap.size, 2, none⟩ = some (.int .i64 f.fast)) (go_keep)
            (first
              | (refine step_copy_o (W := w2.drew) rfl _ _ rfl rfl Af (f.fast) cf (f.bs.take (f.fast)) (by rw [List.length_take]; omega) rfl (by have := C_take CF.out hNBl; rw [List.length_take, Nat.min_eq_left hNBl]; exact this) (by rw [List.length_take]; omega) (by rw [List.length_take]; omega) ?_; intro A4 c4 w4 hY hB; have Y4 := Aside0.mk hY; have B4 := Aside0.mk (below_of_drew hB); have y0 := pw_cell_below (below_of_drew hB) z0; have y1 := pw_cell_below (below_of_drew hB) x1; have y2 := pw_cell_below (below_of_drew hB) x2; have y3 := pw_cell_below (below_of_drew hB) Z1.out; have y4 := ((below_of_drew hB).frozen (p := ⟨g', k * 3 + 1, none⟩) HGL.out).trans zf; clear hY hB)
              | fail)
          all_goals
            obtain ⟨d1, d2⟩ := R2.out.setNew B4.out HHL.out HAr.out Y4.out
            rw [hT.out.len] at d1 d2
            have D1 := Aside0.mk d1
            have D2 := Aside0.mk (S2.out.trans d2)
            clear d1 d2 y0 y1 y2 y3 y4
            go_wp2_with fail
            go_round
            case rel =>
              refine ⟨k + 1, D ++ [{ f with v := .slice A4 (f.fast) c4, bs := f.bs.take (f.fast) }], A2, c2, rfl, by go_num, by omega, ⟨STEP.out _ (by have := TK.out (.slice A4 (f.fast) c4); rw [← HNB.out] at this; exact this) (fun b hb => Nat.le_trans hszw (Y4.out.typed b hb).1)⟩, ⟨by rw [List.append_assoc]; exact D1.out⟩, ⟨by rw [List.append_assoc]; exact D2.out⟩, ⟨?_⟩, ⟨?_⟩⟩
              · have := ownsRow_move (w' := w4.setCell ⟨g', k * 3 + 1, none⟩ (.slice A4 (f.fast) c4)) O2.out (fun b hb => (Below.heap_setCell _ _ _ _ (fun e => R2.out.notBool (k := g') (.inr (.inl (R2.out.rowG HAr.out))) O2.out (by rw [hb]; exact congrArg some e))).trans (B4.out.block b (ownsRow_typed O2.out hb).2.1))
                rw [TAKE.out, ← TD.out]
                exact this
              · have h1 := B4.out.size
                have h2 := hsz.out
                show W1.heap.size ≤ (w4.setCell _ _).heap.size
                simp [World.setCell]
                omega
            case measure => simp [intOf]; omega
        · obtain ⟨m, rfl⟩ : ∃ m : Nat, keep = (m : Int) := ⟨keep.toNat, by omega⟩
          have hNB : f.fast + m = f.fast + kpt (m : Int) f := by rw [KD.out]; omega
          have hNBl : f.fast + m ≤ f.bs.length := by rw [hNB]; exact hkp
          have j1 : (0 : Int) ≤ ((f.fast + m : Nat) : Int) := by omega
          have j2 : ((f.fast + m : Nat) : Int) ≤ (cf : Int) := by omega
          push_cast at j1 j2
          have HNB := Aside0.mk hNB
          clear hNB hkp
          go_wp2_with (at_builtin; go_loud (refine wpList_push_bh (W := wr.alloc (.cells #[.string f.name, .slice Af f.bs.length cf, .int .i64 f.fast] 71)) (H := wr.heap.size + 1) (by simp) rfl _ _ rfl W1.heap.size (.slice At k ct) k _ rfl (hO.out.alloc _) _ rfl (by omega) (Nat.le_trans hsz.out (by simp)) ?_); intro A2 c2 w2 hown hgr; have O2 := Aside0.mk hown; have GR := Aside0.mk hgr; clear hown hgr)
          have R2 := Aside0.mk (((hR.out.alloc _).alloc _).grownT ((hO.out.alloc _).alloc _) GR.out)
          have S2 := Aside0.mk (((hS.out.alloc _).alloc _).grownT ((hO.out.alloc _).alloc _) (Nat.le_refl _) GR.out)
          have hne : some wr.heap.size ≠ (Value.slice At k ct).ownBlock := fun e => by have := (ownsRow_typed hO.out e.symm).2.1; omega
          have x1 : w2.cell? ⟨wr.heap.size, 1, none⟩ = some (.slice Af f.bs.length cf) := GR.out.cell (pw_cell_below ((Below.refl _ _).alloc (Nat.le_refl _) _) (by rw [cell_of_row _ wr.heap.size 1 _ _ _ (heap_alloc_new wr _)]; rfl)) hne
          have x2 : w2.cell? ⟨wr.heap.size, 2, none⟩ = some (.int .i64 f.fast) := GR.out.cell (pw_cell_below ((Below.refl _ _).alloc (Nat.le_refl _) _) (by rw [cell_of_row _ wr.heap.size 2 _ _ _ (heap_alloc_new wr _)]; rfl)) hne
          have z0 : w2.cell? ⟨r.d, 0, none⟩ = some (.slice (some ⟨gb, 0, none⟩) r.L.length cr) := by
            have := R2.out.c0
            rw [HAr.out, hql] at this
            exact this
          obtain ⟨g', c', ea, _, _, z1, _, z4, _⟩ := R2.out.at HHL.out
          have hgg : g' = gb := by
            rw [HAr.out] at ea
            injection ea with ea
            injection ea with ea
            injection ea with ea
            exact ea.symm
          subst hgg
          rw [hT.out.len] at z1
          have zf := z4 (k * 3 + 1)
          have hdg : ¬ r.d = g' := fun e => hgd e.symm
          have hbg : ¬ wr.heap.size = g' := fun e => by have := HG.out; omega
          have hgbb : ¬ g' = wr.heap.size := fun e => hbg e.symm
          have HGL := Aside0.mk (R2.out.foot (k := g') (.inr (.inl (R2.out.rowG HAr.out)))).2
          have Z1 := Aside0.mk z1
          clear ea z4 hne z1
          have CF := Aside0.mk (show Kd.C (Kd.int .u8) w2 Af f.bs.length f.bs by have := R2.out.file f (by rw [HHL.out]; simp); rw [HV.out] at this; exact this.reads.2)
          have hszw : wr.heap.size ≤ w2.heap.size := by have := GR.out.size; simp at this; omega
          have r1 : (0 : Int) ≤ (f.fast : Int) + (m : Int) := by omega
          have r2 : (f.fast : Int) + (m : Int) ≤ (cf : Int) := by omega
          have r3 : IntKind.i64.wrap ((f.fast : Int) + (m : Int)) = (f.fast : Int) + (m : Int) := by unfold IntKind.wrap; simp [IntKind.signed, IntKind.bits]; omega
          go_region_held3 (fun w' => w'.cell? ⟨r.d, 0, none⟩ = some (.slice (some ⟨g', 0, none⟩) r.L.length cr) ∧ w'.cell? ⟨wr.heap.size, 1, none⟩ = some (.slice Af f.bs.length cf) ∧ w'.cell? ⟨wr.heap.size, 2, none⟩ = some (.int .i64 f.fast)) (go_keep)
            (first
              | (refine step_copy_o (W := w2.drew) rfl _ _ rfl rfl Af (f.fast + m) cf (f.bs.take (f.fast + m)) (by rw [List.length_take]; omega) rfl (by have := C_take CF.out hNBl; rw [List.length_take, Nat.min_eq_left hNBl]; exact this) (by rw [List.length_take]; omega) (by rw [List.length_take]; omega) ?_; intro A4 c4 w4 hY hB; have Y4 := Aside0.mk hY; have B4 := Aside0.mk (below_of_drew hB); have y0 := pw_cell_below (below_of_drew hB) z0; have y1 := pw_cell_below (below_of_drew hB) x1; have y2 := pw_cell_below (below_of_drew hB) x2; have y3 := pw_cell_below (below_of_drew hB) Z1.out; have y4 := ((below_of_drew hB).frozen (p := ⟨g', k * 3 + 1, none⟩) HGL.out).trans zf; clear hY hB)
              | fail)
          all_goals
            obtain ⟨d1, d2⟩ := R2.out.setNew B4.out HHL.out HAr.out Y4.out
            rw [hT.out.len] at d1 d2
            have D1 := Aside0.mk d1
            have D2 := Aside0.mk (S2.out.trans d2)
            clear d1 d2 y0 y1 y2 y3 y4
            go_wp2_with fail
            go_round
            case rel =>
              refine ⟨k + 1, D ++ [{ f with v := .slice A4 (f.fast + m) c4, bs := f.bs.take (f.fast + m) }], A2, c2, rfl, by go_num, by omega, ⟨STEP.out _ (by have := TK.out (.slice A4 (f.fast + m) c4); rw [← HNB.out] at this; exact this) (fun b hb => Nat.le_trans hszw (Y4.out.typed b hb).1)⟩, ⟨by rw [List.append_assoc]; exact D1.out⟩, ⟨by rw [List.append_assoc]; exact D2.out⟩, ⟨?_⟩, ⟨?_⟩⟩
              · have := ownsRow_move (w' := w4.setCell ⟨g', k * 3 + 1, none⟩ (.slice A4 (f.fast + m) c4)) O2.out (fun b hb => (Below.heap_setCell _ _ _ _ (fun e => R2.out.notBool (k := g') (.inr (.inl (R2.out.rowG HAr.out))) O2.out (by rw [hb]; exact congrArg some e))).trans (B4.out.block b (ownsRow_typed O2.out hb).2.1))
                rw [TAKE.out, ← TD.out]
                exact this
              · have h1 := B4.out.size
                have h2 := hsz.out
                show W1.heap.size ≤ (w4.setCell _ _).heap.size
                simp [World.setCell]
                omega
            case measure => simp [intOf]; omega
    · obtain rfl : k = r.L.length := by omega
      have hDL : D ++ r.L.drop r.L.length = D := by rw [List.drop_length, List.append_nil]
      have R2 : Aside0 (RefIs wr B { r with calls := -1, out := false, L := D }) := ⟨by have := hR.out; rw [hDL] at this; exact this⟩
      have S2 : Aside0 (StepR W1 { r with calls := -1, out := false } wr { r with calls := -1, out := false, L := D }) := ⟨by have := hS.out; rw [hDL] at this; exact this⟩
      have FL := Aside0.mk (Fill.start (size := r.size) (l := l) hT.out (show total (r.L.map absR) ≤ r.size from G.out.wf.room))
      have O2 : Aside0 (wr.ownsRow W1.heap.size 4 1 (.slice At r.L.length ct) r.L.length (r.L.map fun f => .bool (isTorn (absR f)))) := ⟨by have := hO.out; rw [List.take_length] at this; exact this⟩
      have HR := Aside0.mk (show 0 ≤ r.size ∧ r.size ≤ 67108864 from ⟨G.out.wf.size0, G.out.wf.size1⟩)
      clear hR hS hO hT hAr hDL hql hcr hcrm hlt
      go_wp2_with fail
      go_loopw [10] (fun i wr => ∃ (k : Nat) (E : List FileR), i = .int .i64 k ∧ k ≤ r.L.length ∧ Aside0 (Fill r.size l keep r.L k E) ∧ Aside0 (RefIs wr B { r with calls := -1, out := false, L := E }) ∧ Aside0 (StepR W1 { r with calls := -1, out := false } wr { r with calls := -1, out := false, L := E }) ∧ Aside0 (wr.ownsRow W1.heap.size 4 1 (.slice At r.L.length ct) r.L.length (r.L.map fun f => .bool (isTorn (absR f))))) (fun i _ => r.L.length - (intOf i).toNat)
      case atStart => exact ⟨0, D, rfl, Nat.zero_le _, FL, R2, S2, O2⟩
      case round =>
        obtain ⟨k, E, rfl, hk, hF, hR, hS, hO⟩ := hrel
        have hel := hF.out.len hk
        obtain ⟨Ar2, cr2, hAr, hcr, hcrm⟩ := hR.out.slice
        have k0 : wr.cell? ⟨r.d, 0, none⟩ = some (.slice Ar2 r.L.length cr2) := by
          have := hR.out.c0
          rw [hAr, show (_ : RefM).L.length = r.L.length from hel] at this
          exact this
        by_cases hlt : k < r.L.length
        · have hi1 : (k : Int) < (r.L.length : Int) := by omega
          obtain ⟨D1, x, D2, hE, hD1, hx, hD2, hEq⟩ := hF.out.get hlt
          have HHL := Aside0.mk (show ({ r with calls := -1, out := false, L := E } : RefM).L = D1 ++ x :: D2 from hE)
          have HD1 := Aside0.mk hD1
          have HX := Aside0.mk hx
          have HD2 := Aside0.mk hD2
          have HEQ := Aside0.mk hEq
          have HEL2 := Aside0.mk hel
          have HEL := Aside0.mk (show (D1 ++ x :: D2).length = r.L.length by rw [← hE]; exact hel)
          have htc : ∃ gt, At = some ⟨gt, 0, none⟩ ∧ wr.cell? ⟨gt, k, none⟩ = some (.bool (isTorn (absR r.L[k]))) := by
            rcases hO.out.2 with ⟨e, hn⟩ | ⟨gt, cap, cur, e, _⟩
            · omega
            · injection e with e1
              refine ⟨gt, e1, ?_⟩
              have := hO.out.cells (g := gt) (by rw [e1]; rfl) k (.bool (isTorn (absR r.L[k]))) (by rw [List.getElem?_map, List.getElem?_eq_getElem hlt]; rfl)
              rw [add_plain] at this
              exact this
          obtain ⟨gt, hAt, htc⟩ := htc
          subst hAt
          clear hE hD1 hx hD2 hEq hel
          cases htn : isTorn (absR r.L[k]) with
          | false =>
            rw [htn] at htc
            have HTN := Aside0.mk htn
            clear htn
            go_wp2_with fail
            go_round
            case rel => exact ⟨k + 1, E, by go_num, by omega, ⟨hF.out.skip hlt HHL.out HD1.out HX.out HD2.out HEQ.out HTN.out⟩, hR, hS, hO⟩
            case measure => simp [intOf]; omega
          | true =>
            rw [htn] at htc
            have HTN := Aside0.mk htn
            clear htn
            obtain ⟨u, hu⟩ : ∃ u, u = total (E.map absR) := ⟨_, rfl⟩
            have HU := Aside0.mk hu
            have u0 : 0 ≤ u := by rw [hu]; exact total_nonneg _
            have u1 : u ≤ r.size := by rw [hu]; exact hF.out.room
            have hr1 := HR.out.2
            have q1 : wr.cell? ⟨r.d, 1, none⟩ = some (.int .i64 r.size) := hR.out.c1
            have UC : Aside0 (∀ n, Calls Try.prog 35 #[.pointer (some ⟨r.d, 0, none⟩)] (wr.drewN n) fun e w' => e = .returned (.int .i64 u) ∧ wr.drewN n = w') := ⟨fun n => by rw [hu]; exact refUsed_calls (wr.drewN n) B { r with calls := -1, out := false, L := E } (hR.out.drewN n) (show total (E.map absR) ≤ 67108864 by rw [← hu]; omega)⟩
            clear hu
            go_wp2_with fail
            go_quiet ((go_at_call 35; exact Calls.quiet_of_same ((UC.out _).mono fun e w' ⟨he, hw⟩ => ⟨he, hw.symm⟩)))
            have hR3 := hR.out.drewN nq
            have hS3 := hS.out.drewN nq
            have hO3 := ownsRow_drewN hO.out nq
            have hk3 : (wr.drewN nq).cell? ⟨r.d, 0, none⟩ = some (.slice Ar2 r.L.length cr2) := k0
            obtain ⟨w3, hw3⟩ : ∃ w3, w3 = wr.drewN nq := ⟨_, rfl⟩
            rw [← hw3] at hR3 hS3 hO3 hk3 ⊢
            have R3 := Aside0.mk hR3
            have S3 := Aside0.mk hS3
            have HO3 := Aside0.mk hO3
            have CL := Aside0.mk (CS.out w3 ((S1.out.trans S3.out).below H.out))
            obtain ⟨gb, c9, ea, _, _, c2, c3, c4, _⟩ := R3.out.at HHL.out
            rw [HD1.out] at c2 c3
            have hXf := R3.out.file x (by rw [HHL.out]; simp)
            obtain ⟨Ax, cx, hv, hcx, _⟩ := hXf.slice
            rw [hv] at c2
            have hEA : Ar2 = some ⟨gb, 0, none⟩ := by
              rw [hAr] at ea
              injection ea
            subst hEA
            have HAr := Aside0.mk hAr
            have HV := Aside0.mk hv
            have HXD := Aside0.mk (show DRow w3.drew B (.slice Ax x.bs.length cx) x.bs by have := hXf.move (w1 := w3.drew) (fun _ _ => rfl); rw [hv] at this; exact this)
            have HG := Aside0.mk (R3.out.foot (k := gb) (.inr (.inl (R3.out.rowG hAr)))).2
            have hB3 : B ≤ w3.drew.heap.size := R3.out.le
            have NE1 := Aside0.mk (show some r.d ≠ (Value.slice Ax x.bs.length cx).ownBlock from fun e => R3.out.df (f := x) (by rw [HHL.out]; simp) (by rw [hv]; exact e.symm) rfl)
            have NE2 := Aside0.mk (show some gb ≠ (Value.slice Ax x.bs.length cx).ownBlock from fun e => R3.out.rf (f := x) (by rw [HHL.out]; simp) (by rw [hv]; exact e.symm) (R3.out.rowG hAr) rfl)
            have k1 := hk3
            clear k0
            have k0 := k1
            have fz1 := c4 (k * 3 + 1)
            have TB := Aside0.mk (fun (b : Nat) (hb : (Value.slice (some ⟨gt, 0, none⟩) r.L.length ct).ownBlock = some b) => show b < w3.heap.size ∧ b ≠ gb ∧ some b ≠ (Value.slice Ax x.bs.length cx).ownBlock from
              ⟨(ownsRow_typed HO3.out hb).2.1, fun e => R3.out.notBool (k := gb) (.inr (.inl (R3.out.rowG hAr))) HO3.out (by rw [hb, e]), fun e => R3.out.notBool (k := b) (.inr (.inr ⟨x, by rw [HHL.out]; simp, by rw [hv]; exact e.symm⟩)) HO3.out hb⟩)
            have hxl : x.bs.length ≤ 67108864 := by
              have h2 := hF.out.room
              rw [show E = D1 ++ x :: D2 from HHL.out, List.map_append, List.map_cons, total_at] at h2
              have h4 := total_nonneg (D1.map absR)
              have h5 := total_nonneg (D2.map absR)
              have h7 : total (D1.map absR) + (x.bs.length : Int) + total (D2.map absR) ≤ r.size := h2
              omega
            clear k1 hk3 hR3 hS3 hO3 hXf hv hAr ea c4 q1 UC htc hw3
            by_cases hroom : r.size - u < (l.length : Int)
            · obtain ⟨n, hsz⟩ : ∃ n : Nat, r.size - u = (n : Int) := ⟨(r.size - u).toNat, by omega⟩
              have hn : n = tailN r.size l (total (E.map absR)) := by rw [← HU.out]; unfold tailN; omega
              have hnl : n ≤ l.length := by omega
              have s1 : (n : Int) < (l.length : Int) := by omega
              have s2 : (n : Int) ≤ (c : Int) := by omega
              have s3 : (0 : Int) ≤ (n : Int) := by omega
              clear hroom
              have CN := Aside0.mk (show Kd.C (Kd.int .u8) w3.drew A (l.take n).length (l.take n) from C_stay (w := w3) (l := l.take n) (by have := C_take CL.out hnl; rw [List.length_take, Nat.min_eq_left hnl]; exact this) (fun a ha => rfl))
              have HN := Aside0.mk hn
              clear hn
              go_wp2_with fail
              go_region_law
                (first
                  | (refine step_append_g rfl _ _ rfl B (.slice Ax x.bs.length cx) x.bs (l.take n) rfl HXD.out A n c (by rw [List.length_take]; omega) rfl CN.out (by rw [List.length_take]; omega) (by rw [List.length_take]; omega) hB3 ?_; intro A5 n5 c5 w5 hn5 hY hgr hat; have N5 := Aside0.mk hn5; have Y5 := Aside0.mk hY; have AT5 := Aside0.mk hat; have G5 := Aside0.mk (show w3.grownBy w5 (Value.slice Ax x.bs.length cx).ownBlock from ⟨hgr.os, hgr.tape, hgr.output, hgr.size, hgr.block⟩); have y0 := G5.out.cell k0 NE1.out; have y1 := G5.out.cell c2 NE2.out; have yf := (World.frozen?_of_block (a := ⟨gb, k * 3 + 1, none⟩) (G5.out.block gb HG.out NE2.out)).trans fz1; clear hn5 hY hgr hat)
                  | fail)
              all_goals
                obtain ⟨w6, hw6⟩ : ∃ w6, w6 = w5.setCell ⟨gb, k * 3 + 1, none⟩ (.slice A5 n5 c5) := ⟨_, rfl⟩
                obtain ⟨d1, d2, d3⟩ := R3.out.growFile HHL.out hF.out.apart (by rw [HV.out]; exact G5.out) HAr.out Y5.out (by rw [HV.out]; exact AT5.out)
                have TW := Aside0.mk (fun (b : Nat) (hb : (Value.slice (some ⟨gt, 0, none⟩) r.L.length ct).ownBlock = some b) => show w6.heap[b]? = w3.heap[b]? by rw [hw6]; exact (Below.heap_setCell _ _ _ _ (TB.out b hb).2.1).trans (G5.out.block b (TB.out b hb).1 (TB.out b hb).2.2))
                rw [HD1.out, ← hw6] at d1 d2
                rw [← hw6]
                obtain ⟨g', c', ea, _, _, z1, z2, z4, _⟩ := d1.at rfl
                have hgg : g' = gb := by
                  have ea2 := HAr.out
                  rw [show (_ : RefM).A = r.A from rfl] at ea2
                  rw [show ({ r with calls := -1, out := false, L := _ } : RefM).A = r.A from rfl, ea2] at ea
                  injection ea with ea
                  injection ea with ea
                  injection ea with ea
                  exact ea.symm
                subst hgg
                have hqz : ({ r with calls := -1, out := false, L := D1 ++ { x with v := .slice A5 n5 c5, bs := x.bs ++ l.take n } :: D2 } : RefM).L.length = r.L.length := by
                  show (D1 ++ _ :: D2).length = _
                  have := HEL.out
                  rw [List.length_append, List.length_cons] at this ⊢
                  exact this
                have z0 : w6.cell? ⟨r.d, 0, none⟩ = some (.slice (some ⟨g', 0, none⟩) r.L.length cr2) := by
                  have := d1.c0
                  rw [show ({ r with calls := -1, out := false, L := D1 ++ { x with v := .slice A5 n5 c5, bs := x.bs ++ l.take n } :: D2 } : RefM).A = _ from HAr.out] at this
                  rw [HEL2.out] at this
                  exact this
                rw [HD1.out] at z1 z2
                have zf := z4 (k * 3 + 2)
                have D1' := Aside0.mk d1
                have D2' := Aside0.mk (S3.out.trans d2)
                have D3' := Aside0.mk d3
                clear d1 d2 d3 ea z4 hw6 y0 y1 yf hqz k0 c2
                go_wp2_with fail
                go_region
                go_wp2_with fail
                go_round
                case rel =>
                  obtain ⟨f1, f2⟩ := D1'.out.setFast rfl HAr.out n5
                  rw [HD1.out] at f1 f2
                  exact ⟨k + 1, D1 ++ { x with v := .slice A5 n5 c5, bs := x.bs ++ l.take n, fast := n5 } :: D2, by go_num, by omega, ⟨hF.out.fill (y := { x with v := .slice A5 n5 c5, bs := x.bs ++ l.take n, fast := n5 }) hlt HHL.out HD1.out HX.out HD2.out HEQ.out HTN.out HN.out ⟨rfl, rfl, N5.out⟩ (apart_fast D3'.out)⟩, ⟨f1.drew⟩, ⟨(D2'.out.trans f2).drew⟩, ⟨ownsRow_move HO3.out (fun b hb => (Below.heap_setCell _ _ _ _ (TB.out b hb).2.1).trans (TW.out b hb))⟩⟩
                case measure => simp [intOf]; omega
            · obtain ⟨n, hnn⟩ : ∃ n, n = l.length := ⟨_, rfl⟩
              have hn : n = tailN r.size l (total (E.map absR)) := by rw [← HU.out, hnn]; unfold tailN; omega
              have hnl : n ≤ l.length := by omega
              have CN := Aside0.mk (show Kd.C (Kd.int .u8) w3.drew A (l.take n).length (l.take n) from C_stay (w := w3) (l := l.take n) (by have := C_take CL.out hnl; rw [List.length_take, Nat.min_eq_left hnl]; exact this) (fun a ha => rfl))
              have HN := Aside0.mk hn
              clear hn
              go_wp2_with fail
              go_region_law
                (first
                  | (refine step_append_g rfl _ _ rfl B (.slice Ax x.bs.length cx) x.bs (l.take n) rfl HXD.out A l.length c (by rw [List.length_take]; omega) rfl CN.out (by rw [List.length_take]; omega) (by rw [List.length_take]; omega) hB3 ?_; intro A5 n5 c5 w5 hn5 hY hgr hat; have N5 := Aside0.mk hn5; have Y5 := Aside0.mk hY; have AT5 := Aside0.mk hat; have G5 := Aside0.mk (show w3.grownBy w5 (Value.slice Ax x.bs.length cx).ownBlock from ⟨hgr.os, hgr.tape, hgr.output, hgr.size, hgr.block⟩); have y0 := G5.out.cell k0 NE1.out; have y1 := G5.out.cell c2 NE2.out; have yf := (World.frozen?_of_block (a := ⟨gb, k * 3 + 1, none⟩) (G5.out.block gb HG.out NE2.out)).trans fz1; clear hn5 hY hgr hat)
                  | fail)
              all_goals
                obtain ⟨w6, hw6⟩ : ∃ w6, w6 = w5.setCell ⟨gb, k * 3 + 1, none⟩ (.slice A5 n5 c5) := ⟨_, rfl⟩
                obtain ⟨d1, d2, d3⟩ := R3.out.growFile HHL.out hF.out.apart (by rw [HV.out]; exact G5.out) HAr.out Y5.out (by rw [HV.out]; exact AT5.out)
                have TW := Aside0.mk (fun (b : Nat) (hb : (Value.slice (some ⟨gt, 0, none⟩) r.L.length ct).ownBlock = some b) => show w6.heap[b]? = w3.heap[b]? by rw [hw6]; exact (Below.heap_setCell _ _ _ _ (TB.out b hb).2.1).trans (G5.out.block b (TB.out b hb).1 (TB.out b hb).2.2))
                rw [HD1.out, ← hw6] at d1 d2
                rw [← hw6]
                obtain ⟨g', c', ea, _, _, z1, z2, z4, _⟩ := d1.at rfl
                have hgg : g' = gb := by
                  have ea2 := HAr.out
                  rw [show (_ : RefM).A = r.A from rfl] at ea2
                  rw [show ({ r with calls := -1, out := false, L := _ } : RefM).A = r.A from rfl, ea2] at ea
                  injection ea with ea
                  injection ea with ea
                  injection ea with ea
                  exact ea.symm
                subst hgg
                have hqz : ({ r with calls := -1, out := false, L := D1 ++ { x with v := .slice A5 n5 c5, bs := x.bs ++ l.take n } :: D2 } : RefM).L.length = r.L.length := by
                  show (D1 ++ _ :: D2).length = _
                  have := HEL.out
                  rw [List.length_append, List.length_cons] at this ⊢
                  exact this
                have z0 : w6.cell? ⟨r.d, 0, none⟩ = some (.slice (some ⟨g', 0, none⟩) r.L.length cr2) := by
                  have := d1.c0
                  rw [show ({ r with calls := -1, out := false, L := D1 ++ { x with v := .slice A5 n5 c5, bs := x.bs ++ l.take n } :: D2 } : RefM).A = _ from HAr.out] at this
                  rw [HEL2.out] at this
                  exact this
                rw [HD1.out] at z1 z2
                have zf := z4 (k * 3 + 2)
                have D1' := Aside0.mk d1
                have D2' := Aside0.mk (S3.out.trans d2)
                have D3' := Aside0.mk d3
                clear d1 d2 d3 ea z4 hw6 y0 y1 yf hqz k0 c2
                go_wp2_with fail
                go_region
                go_wp2_with fail
                go_round
                case rel =>
                  obtain ⟨f1, f2⟩ := D1'.out.setFast rfl HAr.out n5
                  rw [HD1.out] at f1 f2
                  exact ⟨k + 1, D1 ++ { x with v := .slice A5 n5 c5, bs := x.bs ++ l.take n, fast := n5 } :: D2, by go_num, by omega, ⟨hF.out.fill (y := { x with v := .slice A5 n5 c5, bs := x.bs ++ l.take n, fast := n5 }) hlt HHL.out HD1.out HX.out HD2.out HEQ.out HTN.out HN.out ⟨rfl, rfl, N5.out⟩ (apart_fast D3'.out)⟩, ⟨f1.drew⟩, ⟨(D2'.out.trans f2).drew⟩, ⟨ownsRow_move HO3.out (fun b hb => (Below.heap_setCell _ _ _ _ (TB.out b hb).2.1).trans (TW.out b hb))⟩⟩
                case measure => simp [intOf]; omega
        · obtain rfl : k = r.L.length := by omega
          go_wp2_with fail
          go_end0
          refine ⟨rfl, _, hR.out, S1.out.trans hS.out, ?_, rfl⟩
          show (⟨E.map absR, _, _, _⟩ : PD) = _
          rw [hF.out.done]
          rfl
end Go.Proofs.Ytlbeehefandfhaa.Pr
