/- disk.Crash: a contract of its call. -/
import Derived.Test.YtlbeehefandfhaaProg
import Derived.Below
import Derived.Deep.Draws
import Derived.Deep.AppendLies
import Derived.Maps.AppendAt
import Derived.OwnWalk
import Derived.Laws.BytesArg
import Derived.Laws.MakeOwn
import Derived.Laws.OwnMore
import Derived.Deep.OwnRows
import Derived.Tactics
import Derived.Lib.ConvBytes
import Derived.Laws.Slices
import Derived.WalkKit
import Derived.KernelRfl
import Derived.RowKit3
import Derived.Deep.LoopGhost
import Derived.Deep.QuietTactic
import Derived.BigQuiet
import Derived.WideLaws
import Derived.Deep.DeepCutAuto
import Derived.Deep.CutBlock
import Derived.Deep.RegionHeld3
import Derived.Laws.Rows
import Derived.Lib.AppendStr
import Derived.ArgAppend
import Derived.Laws.IdiomCopy
import Derived.OrdersHeld
import Derived.Laws.BitsLemmas
import Derived.RowKit
import Derived.Test.YtlbeehefandfhaaWWords
import Derived.Test.YtlbeehefandfhaaWLast
import Derived.Test.YtlbeehefandfhaaWTab
import Derived.Test.YtlbeehefandfhaaWFour
import Derived.Test.YtlbeehefandfhaaWQPut
import Derived.Test.YtlbeehefandfhaaWApart
import Derived.Test.YtlbeehefandfhaaWArr
import Derived.Test.YtlbeehefandfhaaWZeros
import Derived.Test.YtlbeehefandfhaaWFoot
import Derived.Test.YtlbeehefandfhaaWKept
import Derived.Test.YtlbeehefandfhaaWShare
import Derived.Test.YtlbeehefandfhaaWN
import Derived.Test.YtlbeehefandfhaaWFootNe
import Derived.Test.YtlbeehefandfhaaWAt
import Derived.Test.YtlbeehefandfhaaWEqStruct
import Derived.Test.YtlbeehefandfhaaWRepsOne
import Derived.Test.YtlbeehefandfhaaWInv
import Derived.Test.YtlbeehefandfhaaWInvWords
import Derived.Test.YtlbeehefandfhaaWGuard
import Derived.Test.YtlbeehefandfhaaWNEv
import Derived.Test.YtlbeehefandfhaaWMore
import Derived.Test.YtlbeehefandfhaaDiskK
namespace Go.Proofs.Ytlbeehefandfhaa.Pr
open Go.RowKit Go.Maps Go.Sort Go.Proofs.YtlbeehefandfhaaW.PrintWords Go.Proofs.YtlbeehefandfhaaW.PrintLast Go.Proofs.YtlbeehefandfhaaW.PrintMore
set_option linter.unusedVariables false
set_option linter.unusedSimpArgs false
def clipV : Value → Nat → Value
  | .slice A _ _, m => .slice A m m
  | v, _ => v
def cutM (keep : Int) (f : FileM) : FileM := if isTorn (absF f) then { f with v := clipV f.v (keptN keep (absF f)), bs := f.bs.take (keptN keep (absF f)) } else f
theorem abs_cutM (keep : Int) (f : FileM) : absF (cutM keep f) = tear keep (absF f) := by
  unfold cutM
  cases h : isTorn (absF f) with
  | false => rw [tear_still h]; rfl
  | true => rw [tear_torn h]; rfl
def tornM (L : List FileM) : List FileM := L.filter fun f => isTorn (absF f)
def ptrV (p : Nat) : Value := .pointer (some ⟨p, 0, none⟩)
structure CrA (w2 : World) (B : Nat) (s1 : DiskM) (keep : Int) (A0 C0 : List FileM) (s' : DiskM) (v6 : Value) (wr : World) : Prop where
  L : s1.L = A0 ++ C0
  sL : s'.L = A0.map (cutM keep) ++ C0
  d : s'.d = s1.d
  m : s'.m = s1.m
  size : s'.size = s1.size
  calls : s'.calls = s1.calls
  out : s'.out = s1.out
  disk : DiskIs wr B s'
  step : StepD w2 s1 wr s'
  good : Good s'
  row : wr.ownsRow w2.heap.size 60 1 v6 (tornM A0).length (((tornM A0).map (·.p)).map ptrV)
theorem ni60 : (Try.prog.info? 60).map (fun i => (i.zero, i.size, i.bytes)) = some (some (.pointer none), 1, 8) := by kernel_rfl
theorem new_at {W : World} {H : Nat} (h : W.heap.size = H) (o : Obj) : (W.alloc o).heap[H]? = some o := by subst h; exact heap_alloc_new _ _
/-- torn = append(torn, f), at the operation. -/
theorem wpList_append_p {w : World} {ops : Array Oper} {rest : List Oper} {o : Oper} {a : Act} {Q : Exit → Act → World → Prop} (hgd : o.guard = none) (s x : Operand)
    (ho : o.op = .call { callee := .builtin .append, args := #[s, x], argTypes := #[65, 65] }) (base : Nat) (v : Value) (ps : List Nat) (hs : a.eval s = v) (hown : w.ownsRow base 60 1 v ps.length (ps.map ptrV))
    (p g : Nat) (hx : a.eval x = .slice (some ⟨g, 0, none⟩) 1 1) (hg : w.heap[g]? = some (.cells #[ptrV p] 60 (0, 0))) (hb : ps.length ≤ 3000000) (hbase : base ≤ w.heap.size)
    (h : ∀ v' w', w'.ownsRow base 60 1 v' (ps ++ [p]).length ((ps ++ [p]).map ptrV) → w.grownBy w' v.ownBlock → (v'.ownBlock = v.ownBlock ∨ v'.ownBlock = some w.heap.size) → wpList Try.prog ops Q rest (a.put o.dst v') w') :
    wpList Try.prog ops Q (o :: rest) a w := by
  obtain ⟨i, hi, hz, hsz, hby⟩ := info_parts ni60
  refine wpList_append_own_at w hgd s x 65 ho base 60 i (.pointer none) 1 8 Try.underlying65 hi hz hsz hby rfl (by decide) v ps.length (ps.map ptrV) hs hown ⟨g, 0, none⟩ 1 1 [ptrV p] hx rfl
    (World.news_of_block hg) (fun u hu => by rw [List.mem_singleton.1 hu]; rfl) (by unfold maxLen; omega) (by omega) hbase (fun v' w' h1 h2 _ h4 => h v' w' ?_ h2 h4)
  rw [List.length_append, List.map_append]
  exact h1
/-- As OpDone.upd, where some other blocks have been written as well. -/
theorem OpDone.updX {w w1 w' : World} {B : Nat} {s t s' : DiskM} {p : PD} (X : Nat → Prop) (hX1 : ∀ k, X k → ¬ Foot20 t k) (hX2 : ∀ k, X k → w.heap.size ≤ k) (hs : StepD w s w1 t) (hd : t.d = s.d) (hm : t.m = s.m) (h : DiskIs w1 B t) (g : Good t) {L1 L2 : List FileM} {f f' : FileM} (hL : t.L = L1 ++ f :: L2) (e' : s' = { t with L := L1 ++ f' :: L2, used := t.used - f.bs.length + f'.bs.length })
    (hn : f'.name = f.name) (hp : f'.p = f.p) (hfast : f'.fast ≤ f'.bs.length) (hroom : t.used - f.bs.length + f'.bs.length ≤ t.size)
    (hhead : w'.heap[t.d]? = some (.cells (cellsD s') 58 (0, 0))) (hfile : FileIs w' B f') (hat : ∀ k, f'.v.ownBlock = some k → f.v.ownBlock = some k ∨ w1.heap.size ≤ k)
    (hmv : ∀ F, (∀ k, k = t.d ∨ k = f.p ∨ f.v.ownBlock = some k ∨ X k → F k) → Moved F w1 w') (hab : s'.abs = p) : OpDone w B s p w' s' := by
  subst e'
  have hM := hmv (fun k => k = t.d ∨ k = f.p ∨ f.v.ownBlock = some k ∨ X k) (fun k h => h)
  obtain ⟨h1, h2⟩ := h.upd (s' := { t with L := L1 ++ f' :: L2, used := t.used - f.bs.length + f'.bs.length }) hL rfl rfl rfl hn hp hhead hfile hat (fun k hk h1 h2 h3 => hM.block k (h.foot hk).2 (fun hf => by rcases hf with h | h | h | h; exact h1 h; exact h2 h; exact h3 h; exact hX1 k h hk))
  have hfm : f ∈ t.L := by rw [hL]; simp
  have hM2 : Moved (fun k => Foot20 t k ∨ X k) w1 w' := hmv _ (fun k hk => by
    rcases hk with rfl | rfl | hk | hk
    · exact .inl (.inl rfl)
    · exact .inl (.inr (.inr ⟨f, hfm, .inl rfl⟩))
    · exact .inl (.inr (.inr ⟨f, hfm, .inr hk⟩))
    · exact .inr hk)
  have hF : t.abs.F = L1.map absF ++ absF f :: L2.map absF := by show t.L.map absF = _; rw [hL]; simp
  have hu := g.used
  have hW := g.wf.at (f' := absF f') hF hn hfast (by
    show total t.abs.F - (f.bs.length : Int) + f'.bs.length ≤ t.size
    rw [← hu]; exact hroom)
  have hT : total (L1.map absF ++ absF f' :: L2.map absF) = t.used - f.bs.length + f'.bs.length := by
    rw [hu, hF, total_at, total_at]
    show total _ + (f'.bs.length : Int) + _ = _ + (f.bs.length : Int) + _ - _ + _
    omega
  have hA : ({ t with L := L1 ++ f' :: L2, used := t.used - f.bs.length + f'.bs.length } : DiskM).abs = { t.abs with F := L1.map absF ++ absF f' :: L2.map absF } := by
    unfold DiskM.abs
    simp
  have hmv2 : Moved (Foot20 s) w w' := hs.moved.trans hM2 (fun k hk => by
    rcases hk with hk | hk
    · exact hs.foot k hk
    · exact .inr (hX2 k hk))
  refine ⟨h1, ⟨hmv2, fun k hk => ?_⟩, ⟨by rw [hA]; exact hW, by rw [hA]; exact hT.symm⟩, hab, hd, hm⟩
  rcases h2 k hk with h3 | h3
  · exact hs.foot k h3
  · exact .inr (Nat.le_trans hs.moved.size h3)
def DiskM.reset (s : DiskM) : DiskM := { s with calls := -1, out := false }
theorem reset_calls {w : World} {B : Nat} {s : DiskM} (h : DiskIs w B s) (g : Good s) :
    DiskIs ((w.setCell ⟨s.d, 3, none⟩ (.int .i64 (-1))).setCell ⟨s.d, 4, none⟩ (.bool false)) B s.reset ∧ StepD w s ((w.setCell ⟨s.d, 3, none⟩ (.int .i64 (-1))).setCell ⟨s.d, 4, none⟩ (.bool false)) s.reset ∧ Good s.reset := by
  obtain ⟨h1, h2⟩ := h.headed (w' := (w.setCell ⟨s.d, 3, none⟩ (.int .i64 (-1))).setCell ⟨s.d, 4, none⟩ (.bool false)) (s' := s.reset) rfl rfl rfl
    ((blk_set (blk_set h.head 3 (.int .i64 (-1))) 4 (.bool false)).trans rfl) (fun k _ hk => by rw [Below.heap_setCell _ _ _ _ hk, Below.heap_setCell _ _ _ _ hk])
  refine ⟨h1, ⟨((Moved.refl _ w).setCell (.inl (.inl rfl)) _).setCell (.inl (.inl rfl)) _, h2⟩, ⟨⟨g.wf.size0, g.wf.size1, g.wf.room, g.wf.fast, ?_, ?_, g.wf.names, g.wf.sorted⟩, g.used⟩⟩
  · show (-1 : Int) ≤ -1; omega
  · show (-1 : Int) ≤ _; omega
theorem getF_mid {s : DiskM} (g : Good s) {X Y : List FileM} {f : FileM} (hL : s.L = X ++ f :: Y) : getF f.name s.L = some f := by
  have hs := g.wf.sorted
  rw [show s.abs.F = s.L.map absF from rfl, hL, List.pairwise_map] at hs
  obtain ⟨_, _, p3⟩ := List.pairwise_append.1 hs
  unfold getF
  rw [hL, List.find?_append, List.find?_eq_none.2 (fun x hx => by
    have h1 := p3 x hx f (by simp)
    intro e
    have e2 : x.name = f.name := by simpa using e
    have h2 : bytesBefore x.name f.name = true := h1
    rw [e2, bytesBefore_irrefl] at h2
    cases h2)]
  simp
theorem CrA.names {w2 wr W : World} {B : Nat} {s1 : DiskM} {keep : Int} {A0 C1 : List FileM} {f : FileM} {s' : DiskM} {v6 : Value} (Z : CrA w2 B s1 keep A0 (f :: C1) s' v6 wr) {An : Option Addr} {cn n : Nat} (hn : n = s1.L.length)
    (hrow : w2.ownsRow W.heap.size 9 1 (.slice An n cn) n (s1.L.map fun f => encStr f.name)) (hW : DiskIs W B s1) : ∃ gn, An = some ⟨gn, 0, none⟩ ∧ wr.cell? ⟨gn, A0.length, none⟩ = some (.string ⟨f.name.toArray⟩) := by
  have hpos : 0 < n := by rw [hn, Z.L, List.length_append, List.length_cons]; omega
  obtain ⟨gn, cap, he, hb, hlt⟩ := hrow.form hpos
  have hA : An = some ⟨gn, 0, none⟩ := by injection he
  subst hA
  refine ⟨gn, rfl, ?_⟩
  have hc := hrow.cells (g := gn) rfl A0.length (encStr f.name) (by rw [Z.L]; simp)
  rw [add_plain] at hc
  have hst : wr.heap[gn]? = w2.heap[gn]? := Z.step.moved.block gn hlt (fun hf => by have := (hW.foot hf).2; omega)
  exact (World.cell?_of_block (a := ⟨gn, A0.length, none⟩) hst).trans hc
theorem CrA.mem {w2 wr : World} {B : Nat} {s1 : DiskM} {keep : Int} {A0 C1 : List FileM} {f : FileM} {s' : DiskM} {v6 : Value} (Z : CrA w2 B s1 keep A0 (f :: C1) s' v6 wr) : f ∈ s'.L := by rw [Z.sL]; simp
theorem CrA.next {w2 wr : World} {B : Nat} {s1 : DiskM} {keep : Int} {A0 C1 : List FileM} {f : FileM} {s' : DiskM} {v6 : Value} (Z : CrA w2 B s1 keep A0 (f :: C1) s' v6 wr) (ht : isTorn (absF f) = false) (n : Nat) : CrA w2 B s1 keep (A0 ++ [f]) C1 s' v6 (wr.drewN n) := by
  have hc : cutM keep f = f := by unfold cutM; rw [ht]; rfl
  have htm : tornM (A0 ++ [f]) = tornM A0 := by unfold tornM; rw [List.filter_append]; simp [ht]
  refine ⟨by rw [Z.L]; simp, by rw [Z.sL]; simp [hc], Z.d, Z.m, Z.size, Z.calls, Z.out, Z.disk.drewN n, ⟨Z.step.moved.drewN n, Z.step.foot⟩, Z.good, ?_⟩
  rw [htm]
  exact Z.row
theorem CrA.cut {w2 wr wm w3 : World} {B n : Nat} {s1 : DiskM} {keep : Int} {A0 C1 : List FileM} {f : FileM} {s' : DiskM} {v6 v6' : Value} (Z : CrA w2 B s1 keep A0 (f :: C1) s' v6 wr) (hD1 : DiskIs w2 B s1) (ht : isTorn (absF f) = true) {m : Nat} (hm : m = keptN keep (absF f))
    {Af : Option Addr} {cf : Nat} (hv : f.v = .slice Af f.bs.length cf) (hcf : f.bs.length ≤ cf) (hwm : wm = ((wr.drewN n).setCell ⟨s1.d, 2, none⟩ (.int .i64 (s'.used - ((f.bs.length : Int) - m)))).setCell ⟨f.p, 0, none⟩ (.slice Af m m)) {o : Obj}
    (hgr : (wm.alloc o).grownBy w3 v6.ownBlock) (hrow : w3.ownsRow w2.heap.size 60 1 v6' ((tornM A0).map (·.p) ++ [f.p]).length (((tornM A0).map (·.p) ++ [f.p]).map ptrV)) :
    CrA w2 B s1 keep (A0 ++ [f]) C1 { s' with L := A0.map (cutM keep) ++ cutM keep f :: C1, used := s'.used - f.bs.length + (cutM keep f).bs.length } v6' w3 := by
  subst hwm
  have hM := Z.mem
  have hF := Z.disk.file f hM
  obtain ⟨b0, b1⟩ := bs_le Z.good hM
  obtain ⟨hm1, hm2, _⟩ := keptN_le (keep := keep) (f := absF f) b1
  rw [← hm] at hm1 hm2
  change f.fast ≤ m at hm1
  change m ≤ f.bs.length at hm2
  have hcut : cutM keep f = { f with v := .slice Af m m, bs := f.bs.take m } := by
    unfold cutM
    rw [ht, ← hm, hv]
    rfl
  have hlen : (f.bs.take m).length = m := by rw [List.length_take]; omega
  have hf1 : f ∈ s1.L := by rw [Z.L]; simp
  have hrow6 : ∀ k, v6.ownBlock = some k → w2.heap.size ≤ k := fun k hk => own_base Z.row k hk
  have hfoot1 : ∀ k, Foot20 s1 k → k < w2.heap.size := fun k hk => (hD1.foot hk).2
  have hnot : ∀ k, v6.ownBlock = some k → ¬ Foot20 s' k := fun k hk hf => by
    have h1 := hrow6 k hk
    rcases hf with rfl | rfl | ⟨g, hg, hg2⟩
    · have := hfoot1 s'.d (by rw [Z.d]; exact .inl rfl); omega
    · have := hfoot1 s'.m (by rw [Z.m]; exact .inr (.inl rfl)); omega
    · rw [Z.sL] at hg
      have hex : ∃ g0 ∈ s1.L, g.p = g0.p ∧ g.v.ownBlock = g0.v.ownBlock := by
        rcases List.mem_append.1 hg with hg | hg
        · obtain ⟨g0, hg0, rfl⟩ := List.mem_map.1 hg
          refine ⟨g0, by rw [Z.L]; simp [hg0], ?_⟩
          unfold cutM
          split
          · refine ⟨rfl, ?_⟩
            show (clipV g0.v _).ownBlock = _
            unfold clipV
            split
            · rename_i _ A _ _ he
              rw [he]
              cases A <;> rfl
            · rfl
          · exact ⟨rfl, rfl⟩
        · exact ⟨g, by rw [Z.L]; simp only [List.mem_append, hg, or_true], rfl, rfl⟩
      obtain ⟨g0, hg0, e1, e2⟩ := hex
      rcases hg2 with rfl | hg2
      · have := hfoot1 g.p (.inr (.inr ⟨g0, hg0, .inl e1⟩)); omega
      · have := hfoot1 k (.inr (.inr ⟨g0, hg0, .inr (by rw [← e2]; exact hg2)⟩)); omega
  have hds : s'.d = s1.d := Z.d
  have hdf : f.p ≠ s1.d := fun e => by have := Z.disk.df hM; rw [hds] at this; exact this e
  have hst : ∀ k, k < wr.heap.size → v6.ownBlock ≠ some k → w3.heap[k]? = (((wr.drewN n).setCell ⟨s1.d, 2, none⟩ (.int .i64 (s'.used - ((f.bs.length : Int) - m)))).setCell ⟨f.p, 0, none⟩ (.slice Af m m)).heap[k]? := fun k hk hn => by
    rw [hgr.block k (by simp [World.setCell]; omega) (fun e => hn e.symm)]
    exact Below.heap_alloc _ _ _ (by simpa [World.setCell] using hk)
  have hdlt : s1.d < wr.heap.size := by have := (Z.disk.foot (.inl rfl)).2; rw [hds] at this; exact this
  have hflt : f.p < wr.heap.size := (Z.disk.foot (.inr (.inr ⟨f, hM, .inl rfl⟩))).2
  have hnd : v6.ownBlock ≠ some s1.d := fun e => hnot _ e (by rw [← hds]; exact .inl rfl)
  have hnf : v6.ownBlock ≠ some f.p := fun e => hnot _ e (.inr (.inr ⟨f, hM, .inl rfl⟩))
  have hused : s'.used - ((f.bs.length : Int) - m) = s'.used - (f.bs.length : Int) + ((cutM keep f).bs.length : Int) := by
    rw [hcut]
    show _ = s'.used - (f.bs.length : Int) + ((f.bs.take m).length : Int)
    rw [hlen]
    omega
  have hup := OpDone.updX (w := w2) (w' := w3) (s := s1) (s' := { s' with L := A0.map (cutM keep) ++ cutM keep f :: C1, used := s'.used - f.bs.length + (cutM keep f).bs.length }) (fun k => v6.ownBlock = some k) hnot hrow6 Z.step hds Z.m Z.disk Z.good Z.sL (f' := cutM keep f) rfl (by rw [hcut]) (by rw [hcut])
    (by rw [hcut]; show f.fast ≤ (f.bs.take m).length; rw [hlen]; exact hm1) (by
      rw [hcut]
      show s'.used - (f.bs.length : Int) + ((f.bs.take m).length : Int) ≤ s'.size
      rw [hlen]
      have := Z.good.u1
      omega)
    (by
      rw [hds, hst _ hdlt hnd, Below.heap_setCell _ _ _ _ (fun e => hdf e.symm)]
      have hh := Z.disk.head
      rw [hds] at hh
      refine (blk_set (w := wr.drewN n) hh 2 _).trans ?_
      rw [hused]
      rfl)
    (by
      refine ⟨by rw [hcut]; exact hF.pB, ?_, ?_⟩
      · rw [hcut]
        show w3.heap[f.p]? = _
        rw [hst _ hflt hnf]
        have h1 : ((wr.drewN n).setCell ⟨s1.d, 2, none⟩ (.int .i64 (s'.used - ((f.bs.length : Int) - m)))).heap[f.p]? = _ := (Below.heap_setCell (wr.drewN n) ⟨s1.d, 2, none⟩ _ _ hdf).trans hF.head
        exact (blk_set h1 0 _).trans rfl
      · rw [hcut]
        have hr := hF.row
        rw [hv] at hr
        have hc := hr.cut m m hm2 (Nat.le_refl _) (by omega)
        refine hc.move fun k hk => ?_
        have hfk : f.v.ownBlock = some k := by
          rw [hv]
          cases Af with
          | none => simp [Value.ownBlock] at hk
          | some a => simpa [Value.ownBlock] using hk
        have hklt := (Z.disk.foot (.inr (.inr ⟨f, hM, .inr hfk⟩))).2
        rw [hst k hklt (fun e => hnot k e (.inr (.inr ⟨f, hM, .inr hfk⟩)))]
        rw [Below.heap_setCell _ _ _ _ (Z.disk.fr hM hM hfk), Below.heap_setCell _ _ _ _ (by show k ≠ s1.d; rw [← hds]; exact Z.disk.dr hM hfk)]
        rfl)
    (fun k hk => by
      rw [hcut] at hk
      refine .inl ?_
      rw [hv]
      cases Af with
      | none => simp [Value.ownBlock] at hk
      | some a => simpa [Value.ownBlock] using hk)
    (fun F hF => by
      refine Moved.grown (((((Moved.refl F wr).drewN n).setCell (.inl (hF _ (.inl hds.symm))) _).setCell (.inl (hF _ (.inr (.inl rfl)))) _).alloc o) hgr (fun k hk => .inl (hF k (.inr (.inr (.inr hk)))))) rfl
  refine ⟨by rw [Z.L]; simp, by simp, hds, Z.m, Z.size, Z.calls, Z.out, hup.disk, hup.step, hup.good, ?_⟩
  have htm : (tornM (A0 ++ [f])).map (·.p) = (tornM A0).map (·.p) ++ [f.p] := by unfold tornM; rw [List.filter_append]; simp [ht]
  have htl : (tornM (A0 ++ [f])).length = ((tornM A0).map (·.p) ++ [f.p]).length := by rw [← htm, List.length_map]
  rw [htm, htl]
  exact hrow
structure CrB (w4 : World) (B : Nat) (s4 s : DiskM) (keep : Int) (l : List Int) (u0 : Int) (A0 C0 A1 : List FileM) (t : DiskM) (wr : World) : Prop where
  L : s.L = A0 ++ C0
  tL : t.L = A1 ++ C0.map (cutM keep)
  fill : A1.map absF = fillL s.size l keep (A0.map absF) u0
  used : t.used = fillU s.size l (A0.map absF) u0
  d : t.d = s.d
  m : t.m = s.m
  size : t.size = s.size
  calls : t.calls = -1
  out : t.out = false
  disk : DiskIs wr B t
  step : StepD w4 s4 wr t
  good : Good t
theorem cut_still {keep : Int} : ∀ {D : List FileM}, (∀ g ∈ D, isTorn (absF g) = false) → D.map (cutM keep) = D
  | [], _ => rfl
  | f :: r, h => by
    have hf : cutM keep f = f := by unfold cutM; rw [h f (by simp)]; rfl
    rw [List.map_cons, hf, cut_still (fun g hg => h g (List.mem_cons_of_mem _ hg))]
theorem CrB.skip {w4 wr : World} {B : Nat} {s4 s t : DiskM} {keep : Int} {l : List Int} {u0 : Int} {A0 D E A1 : List FileM} (Z : CrB w4 B s4 s keep l u0 A0 (D ++ E) A1 t wr) (hD : ∀ g ∈ D, isTorn (absF g) = false) : CrB w4 B s4 s keep l u0 (A0 ++ D) E (A1 ++ D) t wr := by
  obtain ⟨h1, h2⟩ := fill_still s.size l keep (D.map absF) (fillU s.size l (A0.map absF) u0) (fun f hf => by obtain ⟨g, hg, rfl⟩ := List.mem_map.1 hf; exact hD g hg)
  refine ⟨by rw [Z.L]; simp, by rw [Z.tL, List.map_append, cut_still hD]; simp, ?_, ?_, Z.d, Z.m, Z.size, Z.calls, Z.out, Z.disk, Z.step, Z.good⟩
  · rw [List.map_append, List.map_append, fillL_append, h1, Z.fill]
  · rw [List.map_append, fillU_append, h2, Z.used]
theorem torn_split : ∀ {C0 : List FileM}, tornM C0 ≠ [] → ∃ D f E, C0 = D ++ f :: E ∧ (∀ g ∈ D, isTorn (absF g) = false) ∧ isTorn (absF f) = true
  | [], h => absurd rfl h
  | f :: r, h => by
    cases hf : isTorn (absF f) with
    | true => exact ⟨[], f, r, rfl, by simp, hf⟩
    | false =>
      have : tornM r ≠ [] := by unfold tornM at h ⊢; rw [List.filter_cons_of_neg (by simp [hf])] at h; exact h
      obtain ⟨D, g, E, h1, h2, h3⟩ := torn_split this
      exact ⟨f :: D, g, E, by rw [h1]; rfl, fun x hx => by rcases List.mem_cons.1 hx with rfl | hx; exact hf; exact h2 x hx, h3⟩
theorem torn_none {C0 : List FileM} (h : tornM C0 = []) : ∀ g ∈ C0, isTorn (absF g) = false := fun g hg => by
  cases ht : isTorn (absF g) with
  | false => rfl
  | true =>
    have : g ∈ tornM C0 := List.mem_filter.2 ⟨hg, ht⟩
    rw [h] at this
    cases this
theorem torn_still {D : List FileM} (h : ∀ g ∈ D, isTorn (absF g) = false) : tornM D = [] := List.filter_eq_nil_iff.2 fun g hg => by simp [h g hg]
theorem tornM_append (A C : List FileM) : tornM (A ++ C) = tornM A ++ tornM C := List.filter_append ..
/-- The first torn one of those that are left. -/
theorem CrB.head {w4 wr : World} {B : Nat} {s4 s t : DiskM} {keep : Int} {l : List Int} {u0 : Int} {A0 C0 A1 : List FileM} (Z : CrB w4 B s4 s keep l u0 A0 C0 A1 t wr) (hk : (tornM A0).length < (tornM s.L).length) :
    ∃ A0' f E A1', CrB w4 B s4 s keep l u0 A0' (f :: E) A1' t wr ∧ isTorn (absF f) = true ∧ (tornM A0').length = (tornM A0).length ∧ ((tornM s.L).map (·.p))[(tornM A0).length]? = some f.p := by
  have hne : tornM C0 ≠ [] := fun e => by rw [Z.L, tornM_append, e] at hk; simp at hk
  obtain ⟨D, f, E, rfl, h2, h3⟩ := torn_split hne
  refine ⟨A0 ++ D, f, E, A1 ++ D, Z.skip h2, h3, by rw [tornM_append, torn_still h2]; simp, ?_⟩
  rw [Z.L, tornM_append, tornM_append, torn_still h2, List.nil_append]
  have : tornM (f :: E) = f :: tornM E := List.filter_cons_of_pos h3
  rw [this]
  simp
theorem src_take {w : World} {A : Option Addr} {l : List Int} {c m : Nat} (h : Kd.C (Kd.int .u8) w A l.length l) (hc : l.length ≤ c) (hm : m ≤ l.length) : Src Try.prog 1 22 (.slice A m c) (l.take m).length (nums .u8 (l.take m)) w := by
  have hl : (l.take m).length = m := by rw [List.length_take]; omega
  obtain ⟨h1, h2, h3⟩ := Kd.reads_of_C (d := (0 : Int)) h
  have hC : Kd.C (Kd.int .u8) w A (l.take m).length (l.take m) := by
    refine Kd.C_of_reads (d := (0 : Int)) ⟨rfl, by omega, fun hp => ?_⟩
    obtain ⟨ad, e, hcell⟩ := h3 (by omega)
    refine ⟨ad, e, fun j hj => ?_⟩
    rw [hcell j (by omega)]
    have hjm : j < m := by omega
    simp [List.getD_eq_getElem?_getD, List.getElem?_take, hjm]
  have := src_of_C (c := c) hC (by omega)
  rw [hl] at this ⊢
  exact this
theorem CrB.mem {w4 wr : World} {B : Nat} {s4 s t : DiskM} {keep : Int} {l : List Int} {u0 : Int} {A0 E A1 : List FileM} {f : FileM} (Z : CrB w4 B s4 s keep l u0 A0 (f :: E) A1 t wr) : cutM keep f ∈ t.L := by rw [Z.tL]; simp
theorem cutM_p (keep : Int) (f : FileM) : (cutM keep f).p = f.p := by unfold cutM; split <;> rfl
theorem cutM_name (keep : Int) (f : FileM) : (cutM keep f).name = f.name := by unfold cutM; split <;> rfl
def fillM (keep : Int) (f : FileM) (A2 : Option Addr) (c2 m : Nat) (l : List Int) : FileM := { cutM keep f with v := .slice A2 ((cutM keep f).bs.length + m) c2, bs := (cutM keep f).bs ++ l.take m, fast := (cutM keep f).bs.length + m }
/-- A torn file has been filled. -/
theorem CrB.next {w4 wr w5 : World} {B n : Nat} {s4 s t : DiskM} {keep : Int} {l : List Int} {u0 : Int} {A0 E A1 : List FileM} {f : FileM} (Z : CrB w4 B s4 s keep l u0 A0 (f :: E) A1 t wr) (ht : isTorn (absF f) = true) {m : Nat} (hm : min (l.length : Int) (t.size - t.used) = (m : Int))
    {A2 : Option Addr} {c2 : Nat} (hown : DRow w5 B (.slice A2 ((cutM keep f).bs.length + m) c2) ((cutM keep f).bs ++ l.take m)) (hgr : (wr.drewN n).grownBy w5 (cutM keep f).v.ownBlock) (hat : (Value.slice A2 ((cutM keep f).bs.length + m) c2).ownBlock = (cutM keep f).v.ownBlock ∨ (Value.slice A2 ((cutM keep f).bs.length + m) c2).ownBlock = some (wr.drewN n).heap.size) :
    ∃ A1' t', CrB w4 B s4 s keep l u0 (A0 ++ [f]) E A1' t' (((w5.setCell ⟨f.p, 0, none⟩ (.slice A2 ((cutM keep f).bs.length + m) c2)).setCell ⟨s.d, 2, none⟩ (.int .i64 (t.used + m))).setCell ⟨f.p, 1, none⟩ (.int .i64 ((cutM keep f).bs.length + m))) := by
  have hM := Z.mem
  have hF := Z.disk.file _ hM
  have hml : m ≤ l.length := by omega
  have hlen : (l.take m).length = m := by rw [List.length_take]; omega
  have hts : m = tailN s.size l t.used := by unfold tailN; rw [← Z.size, hm]; rfl
  have hfp := cutM_p keep f
  have hdf : (cutM keep f).p ≠ s.d := fun e => by have := Z.disk.df hM; rw [Z.d] at this; exact this e
  have hFr : ∀ k, k < wr.heap.size → (cutM keep f).v.ownBlock ≠ some k → w5.heap[k]? = wr.heap[k]? := fun k hk hn => hgr.block k hk (fun e => hn e.symm)
  have hp1 : w5.heap[(cutM keep f).p]? = wr.heap[(cutM keep f).p]? := hFr _ (Z.disk.foot (.inr (.inr ⟨_, hM, .inl rfl⟩))).2 (fun e => Z.disk.fr hM hM e rfl)
  have hd1 : w5.heap[s.d]? = wr.heap[s.d]? := by rw [← Z.d]; exact hFr _ (Z.disk.foot (.inl rfl)).2 (fun e => Z.disk.dr hM e rfl)
  rw [← hfp]
  have hup := OpDone.upd (w' := ((w5.setCell ⟨(cutM keep f).p, 0, none⟩ (.slice A2 ((cutM keep f).bs.length + m) c2)).setCell ⟨s.d, 2, none⟩ (.int .i64 (t.used + m))).setCell ⟨(cutM keep f).p, 1, none⟩ (.int .i64 ((cutM keep f).bs.length + m))) (StepD.refl wr t) rfl rfl Z.disk Z.good (L1 := A1) (L2 := E.map (cutM keep)) (f := cutM keep f) (by rw [Z.tL]; rfl) rfl
    (f' := fillM keep f A2 c2 m l) rfl rfl
    (by show (cutM keep f).bs.length + m ≤ ((cutM keep f).bs ++ l.take m).length; rw [List.length_append, hlen]; exact Nat.le_refl _)
    (by show t.used - ((cutM keep f).bs.length : Int) + (((cutM keep f).bs ++ l.take m).length : Int) ≤ t.size; rw [List.length_append, hlen]; omega)
    (by
      rw [Z.d, Below.heap_setCell _ _ _ _ (fun e => hdf e.symm)]
      have hh := Z.disk.head
      rw [Z.d] at hh
      have h2 : (w5.setCell ⟨(cutM keep f).p, 0, none⟩ (.slice A2 ((cutM keep f).bs.length + m) c2)).heap[s.d]? = _ := (Below.heap_setCell _ ⟨(cutM keep f).p, 0, none⟩ _ _ (fun e => hdf e.symm)).trans (hd1.trans hh)
      refine (blk_set h2 2 _).trans ?_
      have he : t.used + (m : Int) = t.used - ((cutM keep f).bs.length : Int) + (((cutM keep f).bs ++ l.take m).length : Int) := by rw [List.length_append, hlen]; omega
      rw [he]
      rfl)
    (by
      refine ⟨hF.pB, ?_, hown.move fun k hk => ?_⟩
      · have h1 : (w5.setCell ⟨(cutM keep f).p, 0, none⟩ (.slice A2 ((cutM keep f).bs.length + m) c2)).heap[(cutM keep f).p]? = _ := blk_set (hp1.trans hF.head) 0 _
        have h2 : ((w5.setCell ⟨(cutM keep f).p, 0, none⟩ (.slice A2 ((cutM keep f).bs.length + m) c2)).setCell ⟨s.d, 2, none⟩ (.int .i64 (t.used + m))).heap[(cutM keep f).p]? = _ := (Below.heap_setCell _ ⟨s.d, 2, none⟩ _ _ hdf).trans h1
        exact (blk_set h2 1 _).trans rfl
      · have h1 : k ≠ (cutM keep f).p ∧ k ≠ s.d := by
          rcases hat with h | h
          · rw [h] at hk
            exact ⟨Z.disk.fr hM hM hk, by rw [← Z.d]; exact Z.disk.dr hM hk⟩
          · rw [h] at hk
            have h2 := (Z.disk.foot (.inr (.inr ⟨_, hM, .inl rfl⟩))).2
            have h3 : s.d < wr.heap.size := by rw [← Z.d]; exact (Z.disk.foot (.inl rfl)).2
            have h4 : wr.heap.size = k := by injection hk
            exact ⟨fun e => by omega, fun e => by omega⟩
        rw [Below.heap_setCell _ _ _ _ h1.1, Below.heap_setCell _ _ _ _ h1.2, Below.heap_setCell _ _ _ _ h1.1])
    (fun k hk => by
      rcases hat with h | h
      · exact .inl (by rw [← h]; exact hk)
      · refine .inr ?_
        have h4 : wr.heap.size = k := by have := h.symm.trans hk; injection this
        omega)
    (fun F hF' => (((((Moved.refl F wr).drewN _).grown hgr (fun k hk => .inl (hF' k (.inr (.inr hk))))).setCell (.inl (hF' _ (.inr (.inl rfl)))) _).setCell (.inl (hF' _ (.inl Z.d.symm))) _).setCell (.inl (hF' _ (.inr (.inl rfl)))) _) rfl
  refine ⟨A1 ++ [fillM keep f A2 c2 m l], { t with L := A1 ++ fillM keep f A2 c2 m l :: E.map (cutM keep), used := t.used - (cutM keep f).bs.length + (fillM keep f A2 c2 m l).bs.length }, ⟨by rw [Z.L]; simp, ?_, ?_, ?_, Z.d, Z.m, Z.size, Z.calls, Z.out, hup.disk, Z.step.trans hup.step, hup.good⟩⟩
  · show A1 ++ _ :: _ = (A1 ++ [_]) ++ _
    simp
  · rw [List.map_append, List.map_append, fillL_append, Z.fill]
    congr 1
    show [_] = fillL s.size l keep [absF f] _
    simp only [fillL, ht, if_true]
    rw [← Z.used]
    unfold fillOne
    rw [← abs_cutM, ← hts]
    rfl
  · show t.used - _ + (((cutM keep f).bs ++ l.take m).length : Int) = _
    rw [List.map_append, fillU_append, ← Z.used]
    show _ = fillU s.size l [absF f] t.used
    simp only [fillU, ht, if_true]
    rw [← hts, List.length_append, hlen]
    omega
set_option maxRecDepth 100000 in
set_option maxHeartbeats 2000000 in
theorem crash_calls (w : World) (B : Nat) (s : DiskM) (h : DiskIs w B s) (g : Good s) (keep : Int) (hk1 : -9223372036854775808 ≤ keep) (hk2 : keep ≤ 9223372036854775807) (A : Option Addr) (c : Nat) (l : List Int) (hS : SrcIs w s A c l) (hN : s.L.length ≤ 2000000) :
    Calls Try.prog 11 #[.pointer (some ⟨s.d, 0, none⟩), .int .i64 keep, .slice A l.length c] w fun e w' => e = .returned (.tuple #[]) ∧ ∃ s', OpDone w B s (pCrash s.abs keep l) w' s' := by
  have k3 := h.c3
  have k4 := h.c4
  have f3 := h.fz 3
  have f4 := h.fz 4
  obtain ⟨r1, r2, r3⟩ := reset_calls h g
  have R1 := Aside0.mk r1
  have R2 := Aside0.mk r2
  have R3 := Aside0.mk r3
  have H := Aside0.mk h
  have G := Aside0.mk g
  have HSRC := Aside0.mk hS
  have HNN := Aside0.mk hN
  clear h g hS r1 r2 r3 hN
  go_enter Try.func11, Try.ntmps11
  go_wp2_with (
    go_at_call 23; refine (names_calls _ B s.reset R1.out R3.out HNN.out).mono ?_; rintro e w2 ⟨vn, rfl, hrow, hb⟩
    change w2.ownsRow _ _ _ vn s.L.length (s.L.map fun f => encStr f.name) at hrow
    obtain ⟨An, cn, hvn⟩ := own_slice hrow
    subst hvn
    have hD2 : DiskIs w2 B s.reset := R1.out.below hb
    have hS2 : StepD w s w2 s.reset := R2.out.trans ⟨Moved.of_below hb, fun k hk => .inl hk⟩
    have D2 := Aside0.mk hD2; have S2 := Aside0.mk hS2
    have HROW := Aside0.mk hrow; have HB2 := Aside0.mk hb
    clear hrow hb hD2 hS2)
  have hnlen : s.L.length ≤ 2000000 := HNN.out
  go_loopw [6, 24] (fun v6 i wr => ∃ (A0 C0 : List FileM) (s' : DiskM), i = .int .i64 A0.length ∧ Aside0 (CrA w2 B s.reset keep A0 C0 s' v6 wr)) (fun _ i _ => s.L.length - (intOf i).toNat)
  case atStart => exact ⟨[], s.L, s.reset, rfl, ⟨rfl, rfl, rfl, rfl, rfl, rfl, rfl, D2.out, StepD.refl _ _, R3.out, own_nil _ _ _ _⟩⟩
  case round =>
    obtain ⟨A0, C0, s', rfl, hCR⟩ := hrel
    cases C0 with
    | nil =>
      have hA0 : s.L = A0 := by have h1 : s.L = A0 ++ [] := hCR.out.L; rw [List.append_nil] at h1; exact h1
      subst hA0
      have hrow6 := hCR.out.row
      obtain ⟨At, ct, hv6⟩ := own_slice hrow6
      subst hv6
      have HR6 := Aside0.mk hrow6
      have hS4 : SrcIs wr s' A c l := HSRC.out.step (S2.out.trans hCR.out.step)
      have HS4 := Aside0.mk hS4
      have hc1 := hS4.cap
      have hl1 := hS4.len
      have htl : (tornM s.L).length ≤ 2000000 := by
        have h1 : (tornM s.L).length ≤ s.L.length := List.length_filter_le _ _
        omega
      have hB4 : Aside0 (CrB wr B s' s keep l (total (s.abs.F.map (tear keep))) [] s.L [] s' wr) := by
        have hsL : s'.L = s.L.map (cutM keep) := by have := hCR.out.sL; rw [List.append_nil] at this; exact this
        have hab : s'.abs.F = s.abs.F.map (tear keep) := by
          show s'.L.map absF = (s.L.map absF).map (tear keep)
          rw [hsL, List.map_map, List.map_map]
          exact List.map_congr_left fun f _ => abs_cutM keep f
        exact ⟨rfl, hsL, rfl, by show s'.used = total _; rw [hCR.out.good.used, hab], hCR.out.d, hCR.out.m, hCR.out.size, hCR.out.calls, hCR.out.out, hCR.out.disk, StepD.refl _ _, hCR.out.good⟩
      have hfootr : ∀ k, (Value.slice At (tornM s.L).length ct).ownBlock = some k → k < wr.heap.size ∧ ¬ Foot20 s' k := fun k hk => by
        refine ⟨own_lt hrow6 k hk, fun hf => ?_⟩
        have h1 := own_base hrow6 k hk
        have hsL : s'.L = s.L.map (cutM keep) := by have := hCR.out.sL; rw [List.append_nil] at this; exact this
        rcases hf with rfl | rfl | ⟨g, hg, hg2⟩
        · have := (D2.out.foot (k := s'.d) (by rw [hCR.out.d]; exact .inl rfl)).2; omega
        · have := (D2.out.foot (k := s'.m) (by rw [hCR.out.m]; exact .inr (.inl rfl))).2; omega
        · rw [hsL] at hg
          obtain ⟨g0, hg0, rfl⟩ := List.mem_map.1 hg
          rcases hg2 with rfl | hg2
          · have := (D2.out.foot (k := (cutM keep g0).p) (.inr (.inr ⟨g0, hg0, .inl (by unfold cutM; split <;> rfl)⟩))).2; omega
          · have := (D2.out.foot (k := k) (.inr (.inr ⟨g0, hg0, .inr (by
              rw [← hg2]
              unfold cutM
              split
              · show _ = (clipV g0.v _).ownBlock
                unfold clipV
                split
                · rename_i _ A _ _ he
                  rw [he]
                  cases A <;> rfl
                · rfl
              · rfl)⟩))).2; omega
      have HFR := Aside0.mk hfootr
      clear hrow6 hS4 hfootr
      obtain ⟨wo, rfl⟩ : ∃ wo : World, wo = wr := ⟨_, rfl⟩
      go_wp2
      go_loopw [86] (fun i wx => ∃ (A0 C0 A1 : List FileM) (t : DiskM), i = .int .i64 (tornM A0).length ∧ Aside0 (CrB wo B s' s keep l (total (s.abs.F.map (tear keep))) A0 C0 A1 t wx)) (fun i _ => (tornM s.L).length - (intOf i).toNat)
      case atStart => exact ⟨[], s.L, [], s', rfl, hB4⟩
      case round =>
        obtain ⟨A0, C0, A1, t, rfl, hCB⟩ := hrel
        by_cases hlt : (tornM A0).length < (tornM s.L).length
        · obtain ⟨A0', f, E, A1', hZ, ht, hl', hp⟩ := hCB.out.head hlt
          have hpos : 0 < (tornM s.L).length := by omega
          obtain ⟨gt, cap, he, hbg, hltg⟩ := HR6.out.form hpos
          have hAt : At = some ⟨gt, 0, none⟩ := by injection he
          subst hAt
          have hst : wr.heap[gt]? = wo.heap[gt]? := hZ.step.moved.block gt hltg (HFR.out gt rfl).2
          have hcl := HR6.out.cells (g := gt) rfl (tornM A0).length (ptrV f.p) (by rw [List.getElem?_map, hp]; rfl)
          rw [add_plain] at hcl
          have hcell : wr.cell? ⟨gt, (tornM A0).length, none⟩ = some (.pointer (some ⟨f.p, 0, none⟩)) := (World.cell?_of_block (a := ⟨gt, (tornM A0).length, none⟩) hst).trans hcl
          have hM := hZ.mem
          have hD := hZ.disk
          have hF := hD.file _ hM
          have q1 : wr.cell? ⟨s.d, 1, none⟩ = some (.int .i64 t.size) := by have := hD.c1; rw [hZ.d] at this; exact this
          have q2 : wr.cell? ⟨s.d, 2, none⟩ = some (.int .i64 t.used) := by have := hD.c2; rw [hZ.d] at this; exact this
          have q3 : wr.frozen? ⟨s.d, 2, none⟩ = false := by have := hD.fz 2; rw [hZ.d] at this; exact this
          obtain ⟨Af, cf, hv, hcf, hcm⟩ := hF.row.slice
          have HV := Aside0.mk hv
          have f0 := hF.c0
          rw [hv, cutM_p] at f0
          have f1 := hF.c1
          rw [cutM_p] at f1
          have f2 := hF.fz 0
          rw [cutM_p] at f2
          obtain ⟨b0, b1⟩ := bs_le hZ.good hM
          have b2 := hZ.good.u1
          have b3 := hZ.good.s1
          have b4 := hZ.good.u0
          obtain ⟨m, hkn⟩ : ∃ m : Nat, min (l.length : Int) (t.size - t.used) = (m : Int) := ⟨(min (l.length : Int) (t.size - t.used)).toNat, by omega⟩
          have HKN := Aside0.mk hkn
          have hmI : (m : Int) ≤ l.length := by omega
          have hmU : (m : Int) ≤ t.size - t.used := by omega
          have hmN : m ≤ l.length := by omega
          have HZ := Aside0.mk hZ
          have HT := Aside0.mk ht
          have HLL := Aside0.mk hl'
          have hsrc : SrcIs wr t A c l := HS4.out.step hZ.step
          have HSX := Aside0.mk hsrc
          obtain ⟨bl, hbl⟩ : ∃ bl, bl = (cutM keep f).bs.length := ⟨_, rfl⟩
          have hdf : ¬ s.d = f.p := fun e => by have := hD.df hM; rw [hZ.d, cutM_p] at this; exact this e.symm
          have hfd : ¬ f.p = s.d := fun e => hdf e.symm
          rw [← hbl] at f0 hcf b0 b1
          have HBL := Aside0.mk hbl
          clear hZ ht hp hl' hst hcl hM hD hF hv hsrc he hbl
          go_wp2
          go_region
          clear hkn
          go_wp2_with (
            at_builtin; refine wpList_append_d rfl _ _ rfl B (cutM keep f).v (cutM keep f).bs (l.take m) (by rw [HV.out, ← HBL.out]; rfl) ((HZ.out.disk.drewN _).file _ HZ.out.mem).row (.slice A m c) rfl (src_take (Kd.C_drewN HSX.out.reads _) HSX.out.cap hmN) (by rw [← HBL.out]; have h9 : (l.take m).length ≤ m := List.length_take_le _ _; omega) (HZ.out.disk.drewN _).le ?_
            intro v2 w5 hown hgr hat
            obtain ⟨A2, c2, hv2, hc2, -⟩ := hown.slice
            have hlen : ((cutM keep f).bs ++ l.take m).length = bl + m := by rw [List.length_append, List.length_take, ← HBL.out]; omega
            rw [hlen] at hv2 hc2
            subst hv2
            have hM := HZ.out.mem
            have hFr : ∀ k, k < wr.heap.size → (cutM keep f).v.ownBlock ≠ some k → w5.heap[k]? = wr.heap[k]? := fun k hk hn => hgr.block k hk (fun e => hn e.symm)
            have hp1 : w5.heap[f.p]? = wr.heap[f.p]? := by rw [← cutM_p keep f]; exact hFr _ (HZ.out.disk.foot (.inr (.inr ⟨_, hM, .inl rfl⟩))).2 (fun e => HZ.out.disk.fr hM hM e rfl)
            have hd1 : w5.heap[s.d]? = wr.heap[s.d]? := by rw [← HZ.out.d]; exact hFr _ (HZ.out.disk.foot (.inl rfl)).2 (fun e => HZ.out.disk.dr hM e rfl)
            have z0 : w5.cell? ⟨f.p, 0, none⟩ = some (.slice Af bl cf) := (World.cell?_of_block (a := ⟨f.p, 0, none⟩) hp1).trans f0
            have z1 : w5.cell? ⟨f.p, 1, none⟩ = some (.int .i64 ((cutM keep f).fast : Int)) := (World.cell?_of_block (a := ⟨f.p, 1, none⟩) hp1).trans f1
            have hfz : ∀ j, w5.frozen? ⟨f.p, j, none⟩ = false := fun j => (World.frozen?_of_block (a := ⟨f.p, j, none⟩) hp1).trans (by rw [← cutM_p keep f]; exact (HZ.out.disk.file _ hM).fz j)
            have z2 := hfz 0
            have z3 := hfz 1
            have z4 : w5.cell? ⟨s.d, 2, none⟩ = some (.int .i64 t.used) := (World.cell?_of_block (a := ⟨s.d, 2, none⟩) hd1).trans q2
            have z5 : w5.frozen? ⟨s.d, 2, none⟩ = false := (World.frozen?_of_block (a := ⟨s.d, 2, none⟩) hd1).trans q3
            have HO := Aside0.mk hown; have HG := Aside0.mk hgr; have HAT := Aside0.mk hat
            clear hown hgr hat hlen hM hFr hp1 hd1 hfz)
          go_roundw
          case rel =>
            obtain ⟨A1', t', hZ'⟩ := HZ.out.next HT.out HKN.out (by rw [← HBL.out]; exact HO.out) HG.out (by rw [← HBL.out]; exact HAT.out)
            rw [← HBL.out] at hZ'
            have hk2 : (tornM (A0' ++ [f])).length = (tornM A0).length + 1 := by
              rw [tornM_append, List.length_append, HLL.out]
              have : tornM [f] = [f] := List.filter_cons_of_pos HT.out
              rw [this]
              rfl
            exact ⟨A0' ++ [f], E, A1', t', by rw [hk2]; simp, ⟨hZ'⟩⟩
          case measure => simp [intOf]; omega
        · have hC0 : tornM C0 = [] := by
            have h1 := congrArg List.length (congrArg tornM hCB.out.L)
            rw [tornM_append, List.length_append] at h1
            exact List.length_eq_zero_iff.1 (by omega)
          have hk : (tornM A0).length = (tornM s.L).length := by
            have h1 := congrArg List.length (congrArg tornM hCB.out.L)
            rw [tornM_append, List.length_append, hC0] at h1
            simpa using h1.symm
          have HC0 := Aside0.mk hC0
          rw [hk]
          clear hC0 hk hlt
          go_wp2
          go_end0
          have hZ := CrB.skip (E := []) (D := C0) (by rw [List.append_nil]; exact hCB.out) (torn_none HC0.out)
          refine ⟨rfl, t, hCB.out.disk, (S2.out.trans hCR.out.step).trans hCB.out.step, hCB.out.good, ?_, hCB.out.d, hCB.out.m⟩
          have e1 : t.L = A1 ++ C0 := by have := hZ.tL; rw [List.map_nil, List.append_nil] at this; exact this
          have e2 : s.L = A0 ++ C0 := hCB.out.L
          show (⟨t.L.map absF, t.size, t.calls, t.out⟩ : PD) = _
          rw [hCB.out.size, hCB.out.calls, hCB.out.out]
          unfold pCrash
          have e3 : t.L.map absF = fillL s.size l keep s.abs.F (total (s.abs.F.map (tear keep))) := by
            rw [e1, hZ.fill]
            show _ = fillL s.size l keep (s.L.map absF) _
            rw [e2]
          rw [e3]
          rfl
    | cons f C1 =>
      have hL : s.L = A0 ++ f :: C1 := hCR.out.L
      have hlt : A0.length < s.L.length := by rw [hL]; simp
      obtain ⟨gn, rfl, hname⟩ := hCR.out.names rfl HROW.out R1.out
      have hM := hCR.out.mem
      have hD := hCR.out.disk
      have hF := hD.file f hM
      have q0 : wr.cell? ⟨s.d, 0, none⟩ = some (.map (some s.m)) := by have := hD.c0; rw [hCR.out.d, hCR.out.m] at this; exact this
      have q2 : wr.cell? ⟨s.d, 2, none⟩ = some (.int .i64 s'.used) := by have := hD.c2; rw [hCR.out.d] at this; exact this
      have q3 : wr.frozen? ⟨s.d, 2, none⟩ = false := by have := hD.fz 2; rw [hCR.out.d] at this; exact this
      obtain ⟨Af, cf, hv, hcf, hcm⟩ := hF.row.slice
      have HV := Aside0.mk hv
      have f0 := hF.c0
      rw [hv] at f0
      have f1 := hF.c1
      have f2 := hF.fz 0
      have hgf := getF_mid hCR.out.good hCR.out.sL
      have hnm : nameOk f.name = true := hCR.out.good.wf.names (absF f) (List.mem_map.2 ⟨f, hM, rfl⟩)
      have hn32 : f.name.length ≤ 32 := by
        rw [nameOk_eq] at hnm
        simp only [Bool.and_eq_true, decide_eq_true_eq] at hnm
        exact hnm.2.2
      have hlook : (Instr.lookup 56 (.map (some s.m)) (.string ⟨f.name.toArray⟩) false).run Try.prog wr = .ok (.pointer (some ⟨f.p, 0, none⟩)) wr := by
        have := look_at hD ⟨f.name.toArray⟩ (by show f.name.toArray.size ≤ maxLen; simp; unfold maxLen; omega)
        rw [show (⟨f.name.toArray⟩ : ByteArray).data.toList = f.name by simp, hgf, hCR.out.m] at this
        exact this
      obtain ⟨b0, b1⟩ := bs_le hCR.out.good hM
      have b2 := hCR.out.good.u1
      have b3 := hCR.out.good.s1
      have HL := Aside0.mk hL
      have HF := Aside0.mk hF
      have HM := Aside0.mk hM
      clear hL hM hD hF hv hgf hnm hn32
      cases ht : isTorn (absF f) with
      | false =>
        have ht0 : ((f.bs.length : Int) - (f.fast : Int) == 0) = true := by
          have : f.bs.length = f.fast := by
            unfold isTorn at ht
            simp only [Bool.not_eq_false', decide_eq_true_eq] at ht
            exact ht
          rw [this]; simp
        have HT := Aside0.mk ht
        clear ht
        go_wp2
        go_quiet (fail)
        go_wp2
        go_roundw
        case rel => exact ⟨A0 ++ [f], C1, s', by simp, ⟨hCR.out.next HT.out _⟩⟩
        case measure => simp [intOf]; omega
      | true =>
        have hne : f.bs.length ≠ f.fast := by
          unfold isTorn at ht
          simp only [Bool.not_eq_true', decide_eq_false_iff_not] at ht
          exact ht
        have ht0 : ((f.bs.length : Int) - (f.fast : Int) == 0) = false := beq_eq_false_iff_ne.2 (by omega)
        have hrest : (f.fast : Int) < f.bs.length := by omega
        have HT := Aside0.mk ht
        clear ht hne
        obtain ⟨m, hme⟩ : ∃ m, m = keptN keep (absF f) := ⟨_, rfl⟩
        obtain ⟨hm1, hm2, hm3⟩ := keptN_le (keep := keep) (f := absF f) b1
        rw [← hme] at hm1 hm2 hm3
        have hkn : (f.fast : Int) + min (max keep 0) ((f.bs.length : Int) - f.fast) = (m : Int) := hm3.symm
        have hm1' : f.fast ≤ m := hm1
        have hm2' : m ≤ f.bs.length := hm2
        have HME := Aside0.mk hme
        have hmI : (m : Int) ≤ f.bs.length := by omega
        have q2' : ∀ n, (wr.drewN n).cell? ⟨s.d, 2, none⟩ = some (.int .i64 s'.used) := fun n => q2
        have hdf : ¬ s.d = f.p := fun e => by have := hCR.out.disk.df HM.out; rw [hCR.out.d] at this; exact this e.symm
        have hfd : ¬ f.p = s.d := fun e => hdf e.symm
        clear hm1 hm2 hm3 hme
        go_wp2
        go_quiet (fail)
        go_wp2
        clear hkn
        have hrow6 := hCR.out.row
        have hwz : w2.heap.size ≤ wr.heap.size := hCR.out.step.moved.size
        have HR6 := Aside0.mk (And.intro hrow6 hwz)
        have hf1 : f ∈ s.L := by rw [HL.out]; simp
        have hfp2 : f.p < w2.heap.size := (D2.out.foot (.inr (.inr ⟨f, hf1, .inl rfl⟩))).2
        have hd2 : s.d < w2.heap.size := (D2.out.foot (.inl rfl)).2
        have HX := Aside0.mk (And.intro hfp2 hd2)
        have htl : (tornM A0).length ≤ 3000000 := by
          have h1 : (tornM A0).length ≤ A0.length := List.length_filter_le _ _
          omega
        have HTL := Aside0.mk htl
        clear hrow6 hwz hf1 hfp2 hd2 htl
        go_region
        go_wp2_with (
          at_builtin; refine wpList_append_p rfl _ _ rfl w2.heap.size u6 ((tornM A0).map (·.p)) rfl ?c1 f.p wr.heap.size rfl (new_at (by simp [World.setCell]) _) (by rw [List.length_map]; exact HTL.out) ?c2 ?_
          (case c1 => (rw [List.length_map]; exact (((own_move HR6.out.1 (fun k hk => by
              have hb := own_base HR6.out.1 k hk
              have h2 := HX.out
              rw [Below.heap_setCell _ _ _ _ (by show k ≠ f.p; omega), Below.heap_setCell _ _ _ _ (by show k ≠ s.d; omega)]
              rfl)).alloc _))))
          (case c2 => (have := HR6.out.2; simp [World.setCell]; omega))
          intro v6' w3 hown3 hgr3 hat3
          have HZ := Aside0.mk (And.intro hown3 hgr3)
          clear hown3 hgr3 hat3)
        go_roundw
        case rel => exact ⟨A0 ++ [f], C1, _, by simp, ⟨hCR.out.cut D2.out HT.out HME.out HV.out hcf rfl HZ.out.2 HZ.out.1⟩⟩
        case measure => simp [intOf]; omega
end Go.Proofs.Ytlbeehefandfhaa.Pr
